/- law 18: equal, rats, debts, payments. -/
import Derived.Test.YtlagoiaiodjmhaaGreatDoorDeK
set_option linter.unusedVariables false
set_option linter.unusedSimpArgs false
namespace Go.Proofs.YtlagoiaiodjmhaaGreatDoor
open Go.RowKit Go.Maps

theorem drw_belowD {w w' : World} {B n : Nat} (h : w.drewN n = w') : Below B w w' := by subst h; exact below_drewN (Below.refl _ _) _
theorem rt_cells {w : World} {b off : Nat} {l : List (Bool × ByteArray × ByteArray)} (h : ∀ i (h : i < l.length) j u, (vRt l[i])[j]? = some u → w.cell? ⟨b, off + i * 3 + j, none⟩ = some u) {k : Nat} (hk : k < l.length) : w.cell? ⟨b, off + k * 3, none⟩ = some (.bool l[k].1) ∧ w.cell? ⟨b, off + k * 3 + 1, none⟩ = some (.string l[k].2.1) ∧ w.cell? ⟨b, off + k * 3 + 2, none⟩ = some (.string l[k].2.2) :=
  ⟨by have := h k hk 0 _ rfl; simpa using this, h k hk 1 _ rfl, h k hk 2 _ rfl⟩
set_option maxHeartbeats 4000000 in
set_option maxRecDepth 100000 in
theorem l18_rats (l : List (Bool × ByteArray × ByteArray)) (v u : Value) (w : World) (hv : SliceOf vRt 3 w v l) (hu : SliceOf vRt 3 w u l) (hl : l.length ≤ 1000000) :
    Calls Tryz.prog 21 #[v, u] w fun e w' => e = .returned (.bool true) ∧ Below w.heap.size w w' := by
  have HV := hide hv
  have HU := hide hu
  obtain ⟨a1, c1, rfl⟩ := hv.shape
  obtain ⟨a2, c2, rfl⟩ := hu.shape
  have hlI : (l.length : Int) ≤ 1000000 := by omega
  clear hv hu
  go_enter Tryz.func21, Tryz.ntmps21
  go_wp2_with fail
  go_loopw [5] (fun i wx => ∃ k : Nat, k ≤ l.length ∧ i = .int .i64 (k : Int) ∧ Below w.heap.size w wx) (fun i _ => l.length - (intOf i).toNat)
  case atStart => exact ⟨0, Nat.zero_le _, rfl, Below.refl _ _⟩
  case round =>
    obtain ⟨k, hk, rfl, hbl⟩ := hrel
    have HB := hide hbl
    clear hbl
    by_cases hlt : k < l.length
    · have hki : (k : Int) < (l.length : Int) := by omega
      have hk0 : (0 : Int) ≤ (k : Int) := by omega
      obtain ⟨b1, o1, rfl, _, hcap, hcm, hc⟩ := SliceOf.at_ (HV.out.below HB.out) (by omega)
      obtain ⟨b2, o2, rfl, _, hcap2, hcm2, hc2⟩ := SliceOf.at_ (HU.out.below HB.out) (by omega)
      have g1 : (l.length : Int) ≤ (c1 : Int) := by omega
      have g2 : (c1 : Int) ≤ 9223372036854775807 := by unfold maxLen at hcm; omega
      have g3 : (l.length : Int) ≤ (c2 : Int) := by omega
      have g4 : (c2 : Int) ≤ 9223372036854775807 := by unfold maxLen at hcm2; omega
      obtain ⟨x0, x1, x2⟩ := rt_cells hc hlt
      obtain ⟨y0, y1, y2⟩ := rt_cells hc2 hlt
      obtain ⟨d, hd⟩ : ∃ d, l[k] = d := ⟨_, rfl⟩
      rw [hd] at x0 y0 x1 y1 x2 y2
      clear hd hc hc2 hcap hcm hcap2 hcm2
      go_wp2_with fail
      go_quiet (fail)
      obtain ⟨w9, hw9⟩ : ∃ W, wr.drewN nq = W := ⟨_, rfl⟩
      have HB9 := hide (bStepD HB.out (drw_belowD (B := wr.heap.size) hw9))
      rw [hw9]
      clear hw9 x0 y0 x1 y1 x2 y2
      go_wp2_with fail
      go_roundw
      case rel => exact ⟨k + 1, by omega, by go_num, HB9.out⟩
      case measure => (simp [intOf]; omega)
    · go_wp2_with fail
      go_ret
      exact ⟨rfl, HB.out⟩
set_option maxHeartbeats 4000000 in
set_option maxRecDepth 100000 in
theorem l18_debts (l : List (Db)) (v u : Value) (w : World) (hv : SliceOf vDb 6 w v l) (hu : SliceOf vDb 6 w u l) (hl : l.length ≤ 1000000) :
    Calls Tryz.prog 19 #[v, u] w fun e w' => e = .returned (.bool true) ∧ Below w.heap.size w w' := by
  have HV := hide hv
  have HU := hide hu
  obtain ⟨a1, c1, rfl⟩ := hv.shape
  obtain ⟨a2, c2, rfl⟩ := hu.shape
  have hlI : (l.length : Int) ≤ 1000000 := by omega
  clear hv hu
  go_enter Tryz.func19, Tryz.ntmps19
  go_wp2_with fail
  go_loopw [5] (fun i wx => ∃ k : Nat, k ≤ l.length ∧ i = .int .i64 (k : Int) ∧ Below w.heap.size w wx) (fun i _ => l.length - (intOf i).toNat)
  case atStart => exact ⟨0, Nat.zero_le _, rfl, Below.refl _ _⟩
  case round =>
    obtain ⟨k, hk, rfl, hbl⟩ := hrel
    have HB := hide hbl
    clear hbl
    by_cases hlt : k < l.length
    · have hki : (k : Int) < (l.length : Int) := by omega
      have hk0 : (0 : Int) ≤ (k : Int) := by omega
      obtain ⟨b1, o1, rfl, _, hcap, hcm, hc⟩ := SliceOf.at_ (HV.out.below HB.out) (by omega)
      obtain ⟨b2, o2, rfl, _, hcap2, hcm2, hc2⟩ := SliceOf.at_ (HU.out.below HB.out) (by omega)
      have g1 : (l.length : Int) ≤ (c1 : Int) := by omega
      have g2 : (c1 : Int) ≤ 9223372036854775807 := by unfold maxLen at hcm; omega
      have g3 : (l.length : Int) ≤ (c2 : Int) := by omega
      have g4 : (c2 : Int) ≤ 9223372036854775807 := by unfold maxLen at hcm2; omega
      obtain ⟨x0, x1, x2, x3, x4, x5⟩ := db_cells hc hlt
      obtain ⟨y0, y1, y2, y3, y4, y5⟩ := db_cells hc2 hlt
      obtain ⟨d, hd⟩ : ∃ d, l[k] = d := ⟨_, rfl⟩
      rw [hd] at x0 y0 x1 y1 x2 y2 x3 y3 x4 y4 x5 y5
      clear hd hc hc2 hcap hcm hcap2 hcm2
      go_wp2_with fail
      go_quiet (fail)
      obtain ⟨w9, hw9⟩ : ∃ W, wr.drewN nq = W := ⟨_, rfl⟩
      have HB9 := hide (bStepD HB.out (drw_belowD (B := wr.heap.size) hw9))
      rw [hw9]
      clear hw9 x0 y0 x1 y1 x2 y2 x3 y3 x4 y4 x5 y5
      go_wp2_with fail
      go_roundw
      case rel => exact ⟨k + 1, by omega, by go_num, HB9.out⟩
      case measure => (simp [intOf]; omega)
    · go_wp2_with fail
      go_ret
      exact ⟨rfl, HB.out⟩
set_option maxHeartbeats 4000000 in
set_option maxRecDepth 100000 in
theorem l18_equal (l : List (Int)) (v u : Value) (w : World) (hv : SliceOf vI 1 w v l) (hu : SliceOf vI 1 w u l) (hl : l.length ≤ 1000000) :
    Calls Tryz.prog 20 #[v, u] w fun e w' => e = .returned (.bool true) ∧ Below w.heap.size w w' := by
  have HV := hide hv
  have HU := hide hu
  obtain ⟨a1, c1, rfl⟩ := hv.shape
  obtain ⟨a2, c2, rfl⟩ := hu.shape
  have hlI : (l.length : Int) ≤ 1000000 := by omega
  clear hv hu
  go_enter Tryz.func20, Tryz.ntmps20
  go_wp2_with fail
  go_loopw [5] (fun i wx => ∃ k : Nat, k ≤ l.length ∧ i = .int .i64 (k : Int) ∧ Below w.heap.size w wx) (fun i _ => l.length - (intOf i).toNat)
  case atStart => exact ⟨0, Nat.zero_le _, rfl, Below.refl _ _⟩
  case round =>
    obtain ⟨k, hk, rfl, hbl⟩ := hrel
    have HB := hide hbl
    clear hbl
    by_cases hlt : k < l.length
    · have hki : (k : Int) < (l.length : Int) := by omega
      have hk0 : (0 : Int) ≤ (k : Int) := by omega
      obtain ⟨b1, o1, rfl, _, hcap, hcm, hc⟩ := SliceOf.at_ (HV.out.below HB.out) (by omega)
      obtain ⟨b2, o2, rfl, _, hcap2, hcm2, hc2⟩ := SliceOf.at_ (HU.out.below HB.out) (by omega)
      have g1 : (l.length : Int) ≤ (c1 : Int) := by omega
      have g2 : (c1 : Int) ≤ 9223372036854775807 := by unfold maxLen at hcm; omega
      have g3 : (l.length : Int) ≤ (c2 : Int) := by omega
      have g4 : (c2 : Int) ≤ 9223372036854775807 := by unfold maxLen at hcm2; omega
      have x0 := int_cell hc hlt
      have y0 := int_cell hc2 hlt
      obtain ⟨d, hd⟩ : ∃ d, l[k] = d := ⟨_, rfl⟩
      rw [hd] at x0 y0
      clear hd hc hc2 hcap hcm hcap2 hcm2
      go_wp2_with fail
      go_quiet (fail)
      obtain ⟨w9, hw9⟩ : ∃ W, wr.drewN nq = W := ⟨_, rfl⟩
      have HB9 := hide (bStepD HB.out (drw_belowD (B := wr.heap.size) hw9))
      rw [hw9]
      clear hw9 x0 y0
      go_wp2_with fail
      go_roundw
      case rel => exact ⟨k + 1, by omega, by go_num, HB9.out⟩
      case measure => (simp [intOf]; omega)
    · go_wp2_with fail
      go_ret
      exact ⟨rfl, HB.out⟩
def paysL : List Py := [⟨1, 1, -1, 196⟩, ⟨2, 1, 3, 388⟩, ⟨3, 1, 3, 100⟩, ⟨1, 1, -1, 4⟩, ⟨3, 1, 3, 149⟩]
set_option maxRecDepth 100000 in
theorem l18_payments (w : World) : Calls Tryz.prog 26 #[] w fun e w' => ∃ u, e = .returned u ∧ SliceOf vPy 4 w' u paysL ∧ Below w.heap.size w w' := by
  have HSL := hide (slice_lit vPy_len w paysL 49 (by show 5 ≤ maxLen; decide))
  have HB := hide (bAlloc (Below.refl w.heap.size w) (.cells (flatV vPy paysL).toArray 49))
  go_enter Tryz.func26, Tryz.ntmps26
  go_wp2_with fail
  go_ret
  exact ⟨_, rfl, HSL.out, HB.out⟩
end Go.Proofs.YtlagoiaiodjmhaaGreatDoor
