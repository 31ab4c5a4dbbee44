/- Package merge: New; Add where it fails. -/
import Derived.Test.YtahlhiiekgnmpabMrgC
set_option linter.unusedVariables false
set_option linter.unusedSimpArgs false
namespace Go.Proofs.Ytahlhiiekgnmpab
open Go.RowKit

def NewPost (w : World) (win : Int) (e : Ending) (w' : World) : Prop :=
  e = .returned (.tuple #[.pointer (some ⟨w.heap.size, 0, none⟩), .int .i64 0]) ∧ SetI w' w.heap.size (w.heap.size + 1) (.slice none 0 0) win [] (fun x => x) ∧ Below w.heap.size w w' ∧ w'.heap.size = w.heap.size + 1

def zSet : Array Value := #[.int .i64 0, .slice none 0 0] ++ Array.replicate 400 (.int .i64 0)
theorem Try.zeroSet (w : World) : (zeroValue 75).run Try.prog w = .ok (.agg zSet) w := by kernel_rfl
theorem zSet_size : zSet.size = 402 := by simp [zSet]
theorem zSet_ne : ¬ zSet = #[] := fun e => by
  have := zSet_size
  rw [e] at this; cases this
theorem zSet_get {i : Nat} (h2 : i < 400) : zSet[2 + i]? = some (.int .i64 0) := by
  unfold zSet
  rw [Array.getElem?_append_right (by simp)]
  simp [h2]
theorem zSet_one : zSet[1]? = some (.slice none 0 0) := by
  unfold zSet
  rw [Array.getElem?_append_left (by simp)]; rfl
theorem setC_new (win : Int) (w : World) : SetC (w.alloc (.cells (zSet.setIfInBounds 0 (.int .i64 win)) 75)) w.heap.size win (.slice none 0 0) (fun _ => 0) (fun _ => 0) := by
  have hg : ∀ o, o ≠ 0 → (zSet.setIfInBounds 0 (Value.int .i64 win))[o]? = zSet[o]? := fun o ho => by
    rw [Array.getElem?_setIfInBounds]
    rw [if_neg (fun e => ho e.symm)]
  refine ⟨?_, ?_, fun i hi => ?_, fun i hi => ?_, fun o ho => by simp [go_sem]⟩
  · rw [World.cell?_alloc_at _ _ _ _ rfl, Array.getElem?_setIfInBounds, if_pos rfl, if_pos (by rw [zSet_size]; omega)]
  · rw [World.cell?_alloc_at _ _ _ _ rfl, hg 1 (by omega)]; exact zSet_one
  · rw [World.cell?_alloc_at _ _ _ _ rfl, hg _ (by omega)]; exact zSet_get (by omega)
  · rw [World.cell?_alloc_at _ _ _ _ rfl, hg _ (by omega), show 202 + i = 2 + (200 + i) by omega]; exact zSet_get (by omega)

set_option maxHeartbeats 4000000 in
set_option maxRecDepth 100000 in
theorem mrg_new_ok (win : Int) (w : World) (hw : momB win = true) : Calls Try.prog 29 #[.int .i64 win] w (NewPost w win) := by
  have HW := hide hw
  clear hw
  have hz := Try.zeroSet
  have hzn := zSet_ne
  go_enter Try.func29, Try.ntmps29
  go_wp2_with fail
  refine (mrg_moment_at win true _ HW.out).mono ?_
  rintro e w' ⟨rfl, rfl⟩
  go_wp2_with fail
  go_ret2
  refine ⟨rfl, ⟨⟨_, _, fun _ => 0, setC_new win w, ⟨fun i hi => absurd hi (Nat.not_lt_zero i), fun i hi => absurd hi (Nat.not_lt_zero i), fun i hi => absurd hi (Nat.not_lt_zero i), fun i hi => absurd hi (Nat.not_lt_zero i)⟩, fun i hi => absurd hi (Nat.not_lt_zero i)⟩, OwnS.nil _ _ _, by omega, by simp, fun x y hx => absurd hx (Nat.not_lt_zero x), (fun a ha => by cases ha), by simp, HW.out⟩, bAlloc (Below.refl _ w) _, by simp⟩
theorem mrg_new_bad (win : Int) (w : World) (hw : momB win = false) : Calls Try.prog 29 #[.int .i64 win] w fun e w' => e = .returned (.tuple #[.pointer none, .int .i64 1]) ∧ w = w' := by
  have HW := hide hw
  clear hw
  go_enter Try.func29, Try.ntmps29
  go_wp2_with fail
  refine (mrg_moment_at win false _ HW.out).mono ?_
  rintro e w' ⟨rfl, rfl⟩
  go_wp2_with fail
  go_ret2
  exact ⟨rfl, rfl⟩

set_option maxHeartbeats 1000000 in
set_option maxRecDepth 100000 in
theorem mrg_add_nil (a : Al) (w : World) : Calls Try.prog 31 #[.pointer none, .agg #[.int .i64 a.tile, .int .i64 a.cell, .int .i64 a.flt, .int .i64 a.val, .int .i64 a.at_]] w
    fun e w' => e = .returned (.tuple #[.int .i64 0, .int .i64 1]) ∧ Below w.heap.size w w' := by
  obtain ⟨at_, ac, af, av, aa⟩ := a
  go_enter Try.func31, Try.ntmps31
  go_wp2_with fail
  go_ret2
  exact ⟨rfl, bAlloc (Below.refl _ w) _⟩
set_option maxHeartbeats 1000000 in
set_option maxRecDepth 100000 in
theorem mrg_add_inv (a : Al) (R : Nat) (w : World) (ha : valB a = false) : Calls Try.prog 31 #[.pointer (some ⟨R, 0, none⟩), .agg #[.int .i64 a.tile, .int .i64 a.cell, .int .i64 a.flt, .int .i64 a.val, .int .i64 a.at_]] w
    fun e w' => e = .returned (.tuple #[.int .i64 0, .int .i64 1]) ∧ Below w.heap.size w w' := by
  obtain ⟨at_, ac, af, av, aa⟩ := a
  have HA : Hid (valB ⟨at_, ac, af, av, aa⟩ = false) := ha
  clear ha
  go_enter Try.func31, Try.ntmps31
  go_wp2_with fail
  refine (mrg_valid_at at_ ac af av aa _).mono ?_
  rintro e w1 ⟨rfl, hb1⟩
  rw [HA.out]
  have B1 := hide (bstep' (bAlloc (Below.refl _ w) (.cells #[.int .i64 at_, .int .i64 ac, .int .i64 af, .int .i64 av, .int .i64 aa] 57)) hb1)
  clear hb1
  go_wp2_with fail
  go_ret2
  exact ⟨rfl, B1.out⟩
set_option maxHeartbeats 1000000 in
set_option maxRecDepth 100000 in
theorem mrg_add_full (a : Al) (R B : Nat) (v : Value) (win : Int) (l : List Al) (rt : Nat → Nat) (w : World) (hI : SetI w R B v win l rt) (ha : valB a = true) (hl : l.length = 200) : Calls Try.prog 31 #[.pointer (some ⟨R, 0, none⟩), .agg #[.int .i64 a.tile, .int .i64 a.cell, .int .i64 a.flt, .int .i64 a.val, .int .i64 a.at_]] w
    fun e w' => e = .returned (.tuple #[.int .i64 0, .int .i64 29]) ∧ Below w.heap.size w w' := by
  obtain ⟨at_, ac, af, av, aa⟩ := a
  have HA : Hid (valB ⟨at_, ac, af, av, aa⟩ = true) := ha
  clear ha
  obtain ⟨ao, cp, rfl⟩ : ∃ ao cp, v = .slice ao l.length cp := by
    rcases hI.own.2 with ⟨ao, h1, h2, _⟩ | ⟨g, off, cap, h1, _⟩
    · exact ⟨ao, 0, by rw [h1, h2]⟩
    · exact ⟨_, _, h1⟩
  obtain ⟨pa, sz, dep, hC, _⟩ := hI.cells
  rw [hl] at hC
  have HC := hide hC
  clear hC hI
  go_enter Try.func31, Try.ntmps31
  go_wp2_with fail
  refine (mrg_valid_at at_ ac af av aa _).mono ?_
  rintro e w1 ⟨rfl, hb1⟩
  rw [HA.out]
  have B1 := hide (bstep' (bAlloc (Below.refl _ w) (.cells #[.int .i64 at_, .int .i64 ac, .int .i64 af, .int .i64 av, .int .i64 aa] 57)) hb1)
  have k1 := (HC.out.below B1.out).al
  clear hb1
  go_wp2_with fail
  go_ret2
  exact ⟨rfl, B1.out⟩
end Go.Proofs.Ytahlhiiekgnmpab
