/- RaG, RaH, RaI, RaJ, RaK, RaL, RaM, RaO, RaN in one text. -/
import Derived.Test.YtblpnekjnaaeoaaGreatDoorPkH
import Derived.Shelf.Spec.BitsCarry
import Derived.Test.YtblpnekjnaaeoaaGreatDoorRaQ
import Derived.Test.YtblpnekjnaaeoaaGreatDoorPkG
import Derived.Test.YtblpnekjnaaeoaaGreatDoorRaF
import Derived.BigGuard
import Derived.Test.YtblpnekjnaaeoaaGreatDoorPkA
set_option linter.unusedVariables false
set_option linter.unusedSimpArgs false
namespace Go.Proofs.YtblpnekjnaaeoaaGreatDoor
open Go.RowKit Go.Sort

theorem zeros_hold (w : World) (T : TypeId) (nd : Nat) (hs : nd ≤ 24) : Holds (fun (b : UInt8) => Value.int .u8 (b.toNat : Int)) (w.alloc (.cells Lib.zeros24 T)) w.heap.size 0 (Array.replicate nd (0 : UInt8)) := fun j hj => by
  have hj' : j < nd := by simpa using hj
  refine ⟨?_, World.frozen?_alloc_new _ _ _ _⟩
  rw [World.cell?_alloc_new, Lib.zeros24_at _ (by omega), getElem!_pos _ j hj]
  simp
theorem fin_zero (w : World) (o : Obj) (dk : Array UInt8) (k : Nat) : ∃ os, (putRow (fun (b : UInt8) => Value.int .u8 (b.toNat : Int)) (w.alloc o) w.heap.size 0 dk).drewN k = grow (w.drewN k) os := by
  rw [alloc_eq_grow]
  obtain ⟨os', _, e⟩ := putRow_grow_new (fun (b : UInt8) => Value.int .u8 (b.toNat : Int)) w #[o] w.heap.size 0 dk (Nat.le_refl _)
  exact ⟨os', by rw [e]; rfl⟩
set_option maxHeartbeats 4000000 in
set_option maxRecDepth 100000 in
theorem fmtuint_in (u : Nat) (w : World) (hu64 : u < 18446744073709551616) (hw : LawW w) :
    Calls Tryz.prog 133 #[.int .u64 (u : Int), .int .i64 10] w fun e w' => e = .returned (.string (natS u)) ∧ Below w.heap.size w w' := by
  have htab := hw.1
  by_cases hs : u < 100
  · have f1 : decide ((u : Int) < 100) = true := decide_eq_true (by omega)
    go_enter Tryz.func133, Tryz.ntmps133
    go_wp2_with fail
    refine (Tryz.internal_strconv_small u hs _).mono ?_
    rintro e w' ⟨rfl, rfl⟩
    go_wp2_with fail
    go_ret
    exact ⟨rfl, Below.refl _ _⟩
  · have f1 : decide ((u : Int) < 100) = false := decide_eq_false (by omega)
    have hu1 : 1 ≤ u := by omega
    have hnd20 : Lib.nDigits u ≤ 20 := by have := Lib.numDigits_eq u hu1 hu64; split at this <;> omega
    have hal : Tryz.prog.arrayLen 162 = 24 := by kernel_rfl
    have hsl1 : ∀ W, (Instr.sliceAt 162 (.pointer (some ⟨w.heap.size, 0, none⟩)) none (some (.int .i64 (Lib.nDigits u : Int))) none).run Tryz.prog W = .ok (.slice (some ⟨w.heap.size, 0, none⟩) (Lib.nDigits u) 24) W := fun W => by
      rw [run_sliceAt_array_h W 162 ⟨w.heap.size, 0, none⟩ (by kernel_rfl) .i64 (Lib.nDigits u : Int) (by omega) (by rw [hal]; omega)]
      go_simp
      try omega
    have hH0 := zeros_hold w 162 (Lib.nDigits u) (by omega)
    have hfmt := Tryz.internal_strconv_formatBase10 w.heap.size 0 24 u (Array.replicate (Lib.nDigits u) 0) (w.alloc (.cells Lib.zeros24 162)) hH0 (by rw [Array.size_replicate]; exact Lib.lt_pow_nDigits u) hu64 (by rw [Array.size_replicate]; omega)
    rw [Array.size_replicate] at hfmt
    have HH0 := Lib.hid hH0
    clear hH0 hal
    go_enter Tryz.func133, Tryz.ntmps133
    go_wp2_with (first
      | (go_at_call 152; refine (Tryz.internal_strconv_numDigits u hu1 hu64 _ (Lib.tabIs_alloc htab _)).mono ?_; rintro e w' ⟨rfl, rfl⟩))
    refine hfmt.mono ?_
    rintro e w' ⟨rfl, k, v', dk, rfl, hF⟩
    have hcv : (convert 130 9 (.slice (some ⟨w.heap.size, 0, none⟩) (Lib.nDigits u) 24)).run Tryz.prog ((putRow (fun (b : UInt8) => Value.int .u8 (b.toNat : Int)) (w.alloc (.cells Lib.zeros24 162)) w.heap.size 0 dk).drewN k) = .ok (.string ⟨(Lib.decDigits u).toArray⟩) ((putRow (fun (b : UInt8) => Value.int .u8 (b.toNat : Int)) (w.alloc (.cells Lib.zeros24 162)) w.heap.size 0 dk).drewN k) := by
      have h := run_convert_bytes_back (P := Tryz.prog) ((putRow (fun (b : UInt8) => Value.int .u8 (b.toNat : Int)) (w.alloc (.cells Lib.zeros24 162)) w.heap.size 0 dk).drewN k) 130 9 5 ⟨w.heap.size, 0, none⟩ 24 (Lib.decDigits u) Tryz.underlying130 Tryz.underlying5 Tryz.underlying9 (fun j hj => by
        rw [Lib.row_is_numeral hF j hj, Lib.add_plain, World.cell?_drewN]
        exact cell?_putRow (fun (b : UInt8) => Value.int .u8 (b.toNat : Int)) _ w.heap.size 0 _ dk HH0.out (by rw [hF.size, Array.size_replicate]) j (by rw [hF.size]; rw [Lib.decDigits_length] at hj; exact hj))
      rw [Lib.decDigits_length] at h
      exact h
    go_wp2_with fail
    go_ret
    obtain ⟨os, eo⟩ := fin_zero w (.cells Lib.zeros24 162) dk k
    refine ⟨rfl, ?_⟩
    rw [eo]
    exact Lib.below_grow _ _ (Nat.le_refl _) _ _
set_option maxHeartbeats 4000000 in
set_option maxRecDepth 100000 in
theorem fmtuint (u : Nat) (w : World) (hu64 : u < 18446744073709551616) (hw : LawW w) :
    Calls Tryz.prog 105 #[.int .u64 (u : Int), .int .i64 10] w fun e w' => e = .returned (.string (natS u)) ∧ Below w.heap.size w w' := by
  have H := hide (fmtuint_in u w hu64 hw)
  go_enter Tryz.func105, Tryz.ntmps105
  go_wp2_with fail
  refine H.out.mono ?_
  rintro e w' ⟨rfl, hb⟩
  have HB := hide hb
  clear hb
  go_wp2_with fail
  go_ret
  exact ⟨rfl, HB.out⟩
set_option maxHeartbeats 4000000 in
set_option maxRecDepth 100000 in
theorem rat_abs (n : Int) (w : World) (h0 : -9223372036854775808 ≤ n) (h1 : n ≤ 9223372036854775807) (hw : LawW w) :
    Calls Tryz.prog 83 #[.int .i64 n] w fun e w' => e = .returned (.string (natS n.natAbs)) ∧ Below w.heap.size w w' := by
  have H := hide (fmtuint n.natAbs w (by omega) hw)
  by_cases hn : n < 0
  · obtain ⟨u, rfl⟩ : ∃ u : Nat, n = -(u : Int) := ⟨n.natAbs, by omega⟩
    obtain ⟨X, hX⟩ : ∃ X : Nat, X + u = 18446744073709551616 := ⟨18446744073709551616 - u, by omega⟩
    have e : (-(u : Int)).natAbs = u := by omega
    rw [e] at H ⊢
    have f1 : decide (-(u : Int) < 0) = true := decide_eq_true hn
    have hwr : IntKind.u64.wrap (-(u : Int)) = (X : Int) := by rw [IntKind.wrap_u64]; omega
    have hsub : ∀ W, (callFunc 104 #[.int .u64 0, .int .u64 (X : Int), .int .u64 0]).run Tryz.prog W = .ok (.value (.tuple #[.int .u64 (u : Int), .int .u64 1])) W := fun W => by
      have h := run_sub64 (P := Tryz.prog) 0 X 0 (by omega) W
      have e1 : (0 + 18446744073709551616 - X - 0) % 18446744073709551616 = u := by omega
      rw [e1, if_pos (by omega)] at h
      rw [run_callFunc_extern Tryz.func104 (by kernel_rfl) (by kernel_rfl) (by kernel_rfl) (e := sub64Entry) (by kernel_rfl)]
      show ((sub64Entry #[.int .u64 ((0 : Nat) : Int), .int .u64 (X : Int), .int .u64 ((0 : Nat) : Int)]).run Tryz.prog W).andThen _ = _
      rw [h]; rfl
    clear hX e
    go_enter Tryz.func83, Tryz.ntmps83
    go_wp2_with fail
    refine H.out.mono ?_
    rintro e w1 ⟨rfl, hb⟩
    have HB := hide hb
    clear hb
    go_wp2_with fail
    go_ret
    exact ⟨rfl, HB.out⟩
  · obtain ⟨u, rfl⟩ : ∃ u : Nat, n = (u : Int) := ⟨n.natAbs, by omega⟩
    have e : ((u : Int)).natAbs = u := by omega
    rw [e] at H ⊢
    have f1 : decide ((u : Int) < 0) = false := decide_eq_false hn
    have hwr : IntKind.u64.wrap (u : Int) = (u : Int) := by rw [IntKind.wrap_u64]; omega
    clear e
    go_enter Tryz.func83, Tryz.ntmps83
    go_wp2_with fail
    refine H.out.mono ?_
    rintro e w1 ⟨rfl, hb⟩
    have HB := hide hb
    clear hb
    go_wp2_with fail
    go_ret
    exact ⟨rfl, HB.out⟩
/-- The quotient of two ints. -/
def ofQ (n d : Int) : Rat := (n : Rat) / (d : Rat)
theorem mkQ_ofQ (n d : Int) (hd : d ≠ 0) : mkQ (decide (n < 0) != decide (d < 0)) n.natAbs d.natAbs = ofQ n d := by
  rw [mkQ_div _ _ _ (by omega)]
  unfold ofQ
  have en : (n : Rat) = if n < 0 then -((n.natAbs : Nat) : Rat) else ((n.natAbs : Nat) : Rat) := by
    by_cases h : n < 0
    · rw [if_pos h, ← Rat.intCast_natCast, ← Rat.intCast_neg]; congr 1; omega
    · rw [if_neg h, ← Rat.intCast_natCast]; congr 1; omega
  have ed : (d : Rat) = if d < 0 then -((d.natAbs : Nat) : Rat) else ((d.natAbs : Nat) : Rat) := by
    by_cases h : d < 0
    · rw [if_pos h, ← Rat.intCast_natCast, ← Rat.intCast_neg]; congr 1; omega
    · rw [if_neg h, ← Rat.intCast_natCast]; congr 1; omega
  have hd0 : ((d.natAbs : Nat) : Rat) ≠ 0 := by
    intro h
    have : d.natAbs = 0 := by exact_mod_cast h
    omega
  rw [en, ed]
  by_cases h1 : n < 0 <;> by_cases h2 : d < 0 <;> simp [h1, h2] <;> grind
theorem int_cap {n : Int} (h0 : -9223372036854775808 ≤ n) (h1 : n ≤ 9223372036854775807) : n.natAbs < capN := by
  have h : n.natAbs < capK 19 := Nat.lt_of_le_of_lt (show n.natAbs ≤ 9223372036854775808 by omega) (by decide +kernel)
  exact to_capN h (by decide)
theorem int64_bd {n : Int} (h : inI64 n) : -9223372036854775808 ≤ n ∧ n ≤ 9223372036854775807 := by unfold inI64 at h; omega
/-- What Of returns. -/
def OfPost (w : World) (n d : Int) (e : Ending) (w' : World) : Prop := if d = 0 then ReqPost w 14 e w' else RqPost w (ofQ n d) e w'
set_option maxHeartbeats 4000000 in
set_option maxRecDepth 100000 in
theorem rat_Of_core (n d : Int) (g' : Bool) (u' v' : ByteArray) (k : Int) (w : World) (hw : LawW w)
    (HA : Hid (∀ W, LawW W → Calls Tryz.prog 83 #[.int .i64 n] W fun e w' => e = .returned (.string (natS n.natAbs)) ∧ Below W.heap.size W w'))
    (HB : Hid (∀ W, LawW W → Calls Tryz.prog 83 #[.int .i64 d] W fun e w' => e = .returned (.string (natS d.natAbs)) ∧ Below W.heap.size W w'))
    (HM : Hid (∀ W, LawW W → Calls Tryz.prog 82 #[.bool (decide (n < 0) != decide (d < 0)), .string (natS n.natAbs), .string (natS d.natAbs)] W fun e w' => e = .returned (.tuple #[.agg #[.bool g', .string u', .string v'], .int .i64 k]) ∧ Below W.heap.size W w')) :
    Calls Tryz.prog 55 #[.int .i64 n, .int .i64 d] w fun e w' => e = .returned (.tuple #[.agg #[.bool g', .string u', .string v'], .int .i64 k]) ∧ Below w.heap.size w w' := by
  have HW := hide hw
  obtain ⟨s, hs⟩ : ∃ s, natS n.natAbs = s := ⟨_, rfl⟩
  obtain ⟨t, ht⟩ : ∃ s, natS d.natAbs = s := ⟨_, rfl⟩
  rw [hs] at HA HM
  rw [ht] at HB HM
  clear hw hs ht
  have HB0 := hide (bAlloc (Below.refl w.heap.size w) (.cells #[.bool false, .string ⟨#[]⟩, .string ⟨#[]⟩] 29))
  have HR0 := hide (RC.new w false ⟨#[]⟩ ⟨#[]⟩ 29)
  obtain ⟨b1, hb1⟩ : ∃ b, decide (n < 0) = b := ⟨_, rfl⟩
  obtain ⟨b2, hb2⟩ : ∃ b, decide (d < 0) = b := ⟨_, rfl⟩
  rw [hb1, hb2] at HM
  go_enter Tryz.func55, Tryz.ntmps55
  go_wp2_with fail
  refine (HA.out _ (HW.out.below HB0.out)).mono ?_
  rintro e w1 ⟨rfl, hb⟩
  have HB1 := hide (bStep HB0.out hb)
  have HR1 := hide (HR0.out.below hb)
  clear hb
  go_wp2_with fail
  refine (HB.out _ (HW.out.below HB1.out)).mono ?_
  rintro e w2 ⟨rfl, hb⟩
  have HB2 := hide (bStep HB1.out hb)
  have HR2 := hide (HR1.out.below hb)
  clear hb
  go_wp2_with fail
  refine (HM.out _ (HW.out.below HB2.out)).mono ?_
  rintro e w3 ⟨rfl, hb⟩
  have HB3 := hide (bStep HB2.out hb)
  have HR3 := hide (HR2.out.below hb)
  obtain ⟨c0, c1, c2, f0, f1, f2⟩ := HR3.out
  clear hb
  go_wp2_with fail
  obtain ⟨d0, d1, d2, _, _, _⟩ := HR3.out.set3 g' u' v'
  exact bodyPost_ret (v := .tuple #[.agg #[.bool g', .string u', .string v'], .int .i64 k]) (by simp [results, Tryz.results55, go_sem, d0, d1, d2]) rfl ⟨rfl, bset3 HB3.out (Nat.le_refl _) _ _ _⟩
theorem rat_Of (n d : Int) (w : World) (hn : inI64 n) (hd : inI64 d) (hw : LawW w) : Calls Tryz.prog 55 #[.int .i64 n, .int .i64 d] w (OfPost w n d) := by
  have bn := int64_bd hn
  have bd := int64_bd hd
  have HA := hide (fun W hW => rat_abs n W bn.1 bn.2 hW)
  have HB := hide (fun W hW => rat_abs d W bd.1 bd.2 hW)
  unfold OfPost
  by_cases h : d = 0
  · subst h
    simp only [if_pos]
    refine rat_Of_core n 0 false ⟨#[]⟩ ⟨#[]⟩ 14 w hw HA HB (hide fun W hW => ?_)
    have := rat_Make_zero (decide (n < 0) != decide ((0 : Int) < 0)) n.natAbs W (int_cap bn.1 bn.2)
    rw [show ((0 : Int)).natAbs = 0 from rfl, natS_zero]
    exact this
  · simp only [if_neg h]
    unfold RqPost
    refine rat_Of_core n d _ _ _ 0 w hw HA HB (hide fun W hW => ?_)
    have := rat_Make (decide (n < 0) != decide (d < 0)) n.natAbs d.natAbs W (int_cap bn.1 bn.2) (int_cap bd.1 bd.2) (by omega) hW
    rw [mkQ_ofQ n d h] at this
    exact this
end Go.Proofs.YtblpnekjnaaeoaaGreatDoor
namespace Go.Proofs.YtblpnekjnaaeoaaGreatDoor
open Go.RowKit

def bL (l : List UInt8) : ByteArray := ⟨l.toArray⟩
theorem ba_append' (a b : ByteArray) : (a ++ b).data.toList = a.data.toList ++ b.data.toList := by
  rw [ByteArray.data_append, Array.toList_append]
end Go.Proofs.YtblpnekjnaaeoaaGreatDoor
namespace Go.Proofs.YtblpnekjnaaeoaaGreatDoor
open Go.RowKit

/-- A number of the struct, as its three cells. -/
def vQ (x : Bool × ByteArray × ByteArray) : List Value := [.bool x.1, .string x.2.1, .string x.2.2]
def fewQ (k : Nat) (l : List (Bool × ByteArray × ByteArray)) : Bool := l.all fun x => decide (x.2.1.size ≤ k) && decide (x.2.2.size ≤ k)
theorem q_cells {w : World} {b off : Nat} {l : List (Bool × ByteArray × ByteArray)} (h : ∀ i (h : i < l.length) j u, (vQ l[i])[j]? = some u → w.cell? ⟨b, off + i * 3 + j, none⟩ = some u) {k : Nat} (hk : k < l.length) :
    w.cell? ⟨b, off + k * 3 + 1, none⟩ = some (.string l[k].2.1) ∧ w.cell? ⟨b, off + k * 3 + 2, none⟩ = some (.string l[k].2.2) :=
  ⟨h k hk 1 _ rfl, h k hk 2 _ rfl⟩
theorem fewQ_no {m : Nat} {l : List (Bool × ByteArray × ByteArray)} {k : Nat} (h : k < l.length) (hs : m < l[k].2.1.size ∨ m < l[k].2.2.size) : fewQ m l = false := by
  unfold fewQ
  rw [List.all_eq_false]
  exact ⟨l[k], List.getElem_mem h, by simp; omega⟩
theorem fewQ_yes {m : Nat} {l : List (Bool × ByteArray × ByteArray)} (h : ∀ j (hj : j < l.length), l[j].2.1.size ≤ m ∧ l[j].2.2.size ≤ m) : fewQ m l = true := by
  unfold fewQ
  rw [List.all_eq_true]
  intro x hx
  obtain ⟨j, hj, rfl⟩ := List.mem_iff_getElem.1 hx
  simpa using h j hj
set_option maxHeartbeats 2000000 in
set_option maxRecDepth 100000 in
theorem ref04_few (m : Nat) (l : List (Bool × ByteArray × ByteArray)) (v : Value) (w : World) (hm : m ≤ 1000000) (hv : SliceOf vQ 3 w v l) (hl : l.length ≤ 1000) :
    Calls Tryz.prog 11 #[.int .i64 (m : Int), v] w fun e w' => e = .returned (.bool (fewQ m l)) ∧ w = w' := by
  have HHB : Hid (∀ k (h : k < l.length), ∃ bb off cap, v = .slice (some ⟨bb, off, none⟩) l.length cap ∧ w.cell? ⟨bb, off + k * 3 + 1, none⟩ = some (.string l[k].2.1) ∧ w.cell? ⟨bb, off + k * 3 + 2, none⟩ = some (.string l[k].2.2)) := fun k h => by
    obtain ⟨bb, off, cap, e, _, _, _, hc⟩ := hv.some_of_pos (by omega)
    exact ⟨bb, off, cap, e, q_cells hc h⟩
  obtain ⟨ao, cp, rfl⟩ := hv.shape
  clear hv
  go_enter Tryz.func11, Tryz.ntmps11
  go_wp2_with fail
  go_loop [5] (fun x => ∃ k : Nat, k ≤ l.length ∧ x = .int .i64 (k : Int) ∧ ∀ j (hj : j < l.length), j < k → l[j].2.1.size ≤ m ∧ l[j].2.2.size ≤ m) (fun x => l.length - (intOf x).toNat)
  case atStart => exact ⟨0, Nat.zero_le _, rfl, fun j hj h => by omega⟩
  case round =>
    obtain ⟨k, hk, rfl, hall⟩ := hrel
    have HA := hide hall
    clear hall
    by_cases hkl : k < l.length
    · have hkI : (k : Int) < (l.length : Int) := by omega
      have hk0 : (0 : Int) ≤ (k : Int) := by omega
      obtain ⟨bb, off, cap, e1, c1, c2⟩ := HHB.out k hkl
      simp only [Value.slice.injEq] at e1
      obtain ⟨rfl, _, rfl⟩ := e1
      have HNO : (m < l[k].2.1.size ∨ m < l[k].2.2.size) → Hid (fewQ m l = false) := fun h => fewQ_no hkl h
      have HYE : l[k].2.1.size ≤ m ∧ l[k].2.2.size ≤ m → Hid (∀ j (hj : j < l.length), j < k + 1 → l[j].2.1.size ≤ m ∧ l[j].2.2.size ≤ m) := fun h j hj hlt => by
        by_cases e : j = k
        · subst e; exact h
        · exact HA.out j hj (by omega)
      obtain ⟨s, hs⟩ : ∃ s, l[k].2.1 = s := ⟨_, rfl⟩
      obtain ⟨t, ht⟩ : ∃ s, l[k].2.2 = s := ⟨_, rfl⟩
      rw [hs] at c1 HNO HYE
      rw [ht] at c2 HNO HYE
      clear hs ht
      by_cases h1 : m < s.size
      · have H := hide (HNO (.inl h1)).out
        have f1 : decide ((m : Int) < (s.size : Int)) = true := decide_eq_true (by omega)
        have f1' : decide (m < s.size) = true := decide_eq_true h1
        clear HNO HYE
        go_wp2_with fail
        go_ret
        exact ⟨ret_bool H.out.symm, rfl⟩
      · have f1 : decide ((m : Int) < (s.size : Int)) = false := decide_eq_false (by omega)
        have f1' : decide (m < s.size) = false := decide_eq_false h1
        by_cases h2 : m < t.size
        · have H := hide (HNO (.inr h2)).out
          have f2 : decide ((m : Int) < (t.size : Int)) = true := decide_eq_true (by omega)
          have f2' : decide (m < t.size) = true := decide_eq_true h2
          clear HNO HYE
          go_wp2_with fail
          go_ret
          exact ⟨ret_bool H.out.symm, rfl⟩
        · have H := hide (HYE ⟨by omega, by omega⟩).out
          have f2 : decide ((m : Int) < (t.size : Int)) = false := decide_eq_false (by omega)
          have f2' : decide (m < t.size) = false := decide_eq_false h2
          clear HNO HYE
          go_wp2_with fail
          go_round
          case rel => exact ⟨k + 1, by omega, by go_num, H.out⟩
          case measure => (simp [intOf]; try omega)
    · have H := hide (fewQ_yes (m := m) (l := l) (fun j hj => HA.out j hj (by omega)))
      have hkI : (l.length : Int) ≤ (k : Int) := by omega
      go_wp2_with fail
      go_ret
      exact ⟨ret_bool H.out.symm, rfl⟩
theorem fitQ_of {q : Rat} {a b : ByteArray} (ha : vldN a = true) (hn : nval a.data.toList = nmQ q) (hb : vldN b = true) (hd : nval b.data.toList = q.den) : FitQ q := ⟨lit_cap ha hn, lit_cap hb hd⟩
theorem f_p0_1 : FitQ (0 : Rat) := fitQ_of (a := ⟨#[48]⟩) (b := ⟨#[49]⟩) (by decide +kernel) (by decide +kernel) (by decide +kernel) (by decide +kernel)
end Go.Proofs.YtblpnekjnaaeoaaGreatDoor
namespace Go.Proofs.YtblpnekjnaaeoaaGreatDoor
open Go.RowKit

/-- The numbers in the variables of a law. -/
def VL (W : World) (L : List (Nat × Bool × ByteArray × ByteArray)) : Prop := ∀ x ∈ L, RC W x.1 x.2.1 x.2.2.1 x.2.2.2
theorem VL.below {W W' : World} {L : List (Nat × Bool × ByteArray × ByteArray)} (h : VL W L) (hb : Below W.heap.size W W') : VL W' L := fun x hx => (h x hx).below hb
theorem VL.nil (W : World) : VL W [] := fun x hx => by simp at hx
theorem VL.cons {W : World} {L : List (Nat × Bool × ByteArray × ByteArray)} {b : Nat} {g : Bool} {s t : ByteArray} (h : VL W L) (r : RC W b g s t) : VL W ((b, g, s, t) :: L) := fun x hx => by
  rcases List.mem_cons.1 hx with e | e
  · rw [e]; exact r
  · exact h x e
theorem VL.push {W W' : World} {L : List (Nat × Bool × ByteArray × ByteArray)} (h : VL W L) (hb : Below W.heap.size W W') (g : Bool) (s t : ByteArray) (T : TypeId) : VL (W'.alloc (.cells #[.bool g, .string s, .string t] T)) ((W'.heap.size, g, s, t) :: L) :=
  ((h.below hb).below (bAlloc (Below.refl _ _) _)).cons (RC.new W' g s t T)
/-- The world of a law with its variables, all below block N. -/
structure VS (w : World) (N : Nat) (W : World) (L : List (Nat × Bool × ByteArray × ByteArray)) : Prop where
  bel : Below w.heap.size w W
  vl : VL W L
  le : N ≤ W.heap.size
  lt : ∀ x ∈ L, x.1 < N
  lo : w.heap.size ≤ N
theorem VS.start {w W : World} {L : List (Nat × Bool × ByteArray × ByteArray)} (hb : Below w.heap.size w W) (hv : VL W L) : VS w W.heap.size W L := ⟨hb, hv, Nat.le_refl _, fun x hx => (hv x hx).lt, hb.size⟩
theorem VS.below {w W W' : World} {N : Nat} {L : List (Nat × Bool × ByteArray × ByteArray)} (h : VS w N W L) (hb : Below W.heap.size W W') : VS w N W' L := ⟨bStep h.bel hb, h.vl.below hb, Nat.le_trans h.le hb.size, h.lt, h.lo⟩
theorem VS.alloc {w W : World} {N : Nat} {L : List (Nat × Bool × ByteArray × ByteArray)} (h : VS w N W L) (o : Obj) : VS w N (W.alloc o) L := h.below (bAlloc (Below.refl _ _) o)
theorem VS.drew {w W : World} {N : Nat} {L : List (Nat × Bool × ByteArray × ByteArray)} (h : VS w N W L) : VS w N W.drew L := h.below (Below.refl _ _).drew
theorem VS.law {w W : World} {N : Nat} {L : List (Nat × Bool × ByteArray × ByteArray)} (h : VS w N W L) (hw : LawW w) : LawW W := hw.below h.bel
/-- A variable that a region makes, before it is set. -/
def ZC (N : Nat) (W : World) (b : Nat) : Prop := RC W b false ⟨#[]⟩ ⟨#[]⟩ ∧ N ≤ b
theorem ZC.new {w W : World} {N : Nat} {L : List (Nat × Bool × ByteArray × ByteArray)} (h : VS w N W L) (T : TypeId) : ZC N (W.alloc (.cells #[.bool false, .string ⟨#[]⟩, .string ⟨#[]⟩] T)) W.heap.size := ⟨RC.new _ _ _ _ _, h.le⟩
theorem ZC.below {N : Nat} {W W' : World} {b : Nat} (h : ZC N W b) (hb : Below W.heap.size W W') : ZC N W' b := ⟨h.1.below hb, h.2⟩
theorem VL.get {W : World} {L : List (Nat × Bool × ByteArray × ByteArray)} (h : VL W L) {b : Nat} {g : Bool} {s t : ByteArray} (hm : (b, g, s, t) ∈ L) : RC W b g s t := h _ hm
end Go.Proofs.YtblpnekjnaaeoaaGreatDoor
namespace Go.Proofs.YtblpnekjnaaeoaaGreatDoor
open Go.RowKit Go.Sort

def dgS (d : Nat) : ByteArray := bL [UInt8.ofNat (48 + d)]
/-- What is left of a number, and its end that is written. -/
def AbsI (M m : Nat) (s : ByteArray) : Prop := natS M = (if m = 0 then s else natS m ++ s) ∧ s.size ≤ 30 ∧ m * 10 ^ s.size ≤ M
theorem natS_split {m : Nat} (h : ¬ m < 10) : natS m = natS (m / 10) ++ dgS (m % 10) := by
  apply ba_eq
  rw [ba_append', natS_toList, natS_toList, dec_big h]; rfl
theorem natS_one_dig {m : Nat} (h : m < 10) : natS m = dgS m := by
  apply ba_eq
  rw [natS_toList, dec_small h]; rfl
theorem dgS_size (d : Nat) : (dgS d).size = 1 := rfl
theorem AbsI.start (M : Nat) : AbsI M (M / 10) (dgS (M % 10)) := by
  refine ⟨?_, by rw [dgS_size]; omega, by rw [dgS_size]; omega⟩
  by_cases h : M < 10
  · rw [if_pos (by omega), natS_one_dig h, Nat.mod_eq_of_lt h]
  · rw [if_neg (by omega), natS_split h]
theorem ba_assoc (a b c : ByteArray) : a ++ b ++ c = a ++ (b ++ c) := by
  apply ba_eq
  rw [ba_append', ba_append', ba_append', ba_append', List.append_assoc]
theorem AbsI.step {M m : Nat} {s : ByteArray} (h : AbsI M m s) (hm : 0 < m) (hM : M < 18446744073709551616) : AbsI M (m / 10) (dgS (m % 10) ++ s) := by
  obtain ⟨h1, h2, h3⟩ := h
  rw [if_neg (by omega)] at h1
  have hs : (dgS (m % 10) ++ s).size = 1 + s.size := by rw [ByteArray.size_append, dgS_size]
  have h4 : 10 ^ s.size ≤ M := Nat.le_trans (Nat.le_mul_of_pos_left _ hm) h3
  have h5 : s.size < 20 := by
    by_cases h : s.size < 20
    · exact h
    · have := Nat.pow_le_pow_right (n := 10) (by omega) (show 20 ≤ s.size by omega)
      omega
  refine ⟨?_, by rw [hs]; omega, ?_⟩
  · by_cases h : m < 10
    · rw [if_pos (by omega), h1, natS_one_dig h, Nat.mod_eq_of_lt h]
    · rw [if_neg (by omega), h1, natS_split h, ba_assoc]
  · rw [hs, Nat.add_comm 1, Nat.pow_succ, Nat.mul_comm (10 ^ s.size) 10, ← Nat.mul_assoc]
    exact Nat.le_trans (Nat.mul_le_mul_right _ (Nat.div_mul_le_self m 10)) h3
theorem AbsI.done {M : Nat} {s : ByteArray} (h : AbsI M 0 s) : s = natS M := by rw [h.1, if_pos rfl]
end Go.Proofs.YtblpnekjnaaeoaaGreatDoor
namespace Go.Proofs.YtblpnekjnaaeoaaGreatDoor
open Go.RowKit Go.Sort

theorem mkQ_le (g : Bool) (n d : Nat) (hd : 0 < d) : nmQ (mkQ g n d) ≤ n ∧ (mkQ g n d).den ≤ d := by
  by_cases hn : n = 0
  · subst hn
    rw [mkQ_zero]
    exact ⟨Nat.le_of_eq (nmQ_zero.2 rfl), by show 1 ≤ d; omega⟩
  · obtain ⟨hl, he⟩ := lowest_eq (g := g) hd (by omega : 0 < n)
    obtain ⟨_, b, c⟩ := mkQ_low hl
    rw [he] at b c
    rw [b, c]
    exact ⟨Nat.div_le_self _ _, Nat.div_le_self _ _⟩
/-- A call of Of that is good, by letters. -/
theorem of_ok {n d : Int} {q : Rat} {g : Bool} {s t : ByteArray} (hn : inI64 n) (hd : inI64 d) (h0 : d ≠ 0) (e : ofQ n d = q) (hq : rqV q = .agg #[.bool g, .string s, .string t]) (W : World) (hW : LawW W) :
    Calls Tryz.prog 55 #[.int .i64 n, .int .i64 d] W fun e w' => e = .returned (.tuple #[.agg #[.bool g, .string s, .string t], .int .i64 0]) ∧ Below W.heap.size W w' := by
  have h := rat_Of n d W hn hd hW
  unfold OfPost at h
  simp only [if_neg h0] at h
  unfold RqPost at h
  rw [e, hq] at h
  exact h
end Go.Proofs.YtblpnekjnaaeoaaGreatDoor
namespace Go.Proofs.YtblpnekjnaaeoaaGreatDoor
open Go.RowKit Go.Sort

/-- Both parts have at most k digits. -/
def Sz (k : Nat) (q : Rat) : Prop := nmQ q < capK k ∧ q.den < capK k
theorem Sz.mono {j k : Nat} {q : Rat} (h : Sz j q) (hk : j ≤ k) : Sz k q := ⟨Nat.lt_of_lt_of_le h.1 (capK_le hk), Nat.lt_of_lt_of_le h.2 (capK_le hk)⟩
theorem Sz.fit {k : Nat} {q : Rat} (h : Sz k q) (hk : k ≤ 1000) : FitQ q := ⟨to_capN h.1 hk, to_capN h.2 hk⟩
theorem Sz.mul {j k : Nat} {p q : Rat} (hp : Sz j p) (hq : Sz k q) : Sz (j + k) (p * q) := by
  rw [← mul_mk]
  obtain ⟨a, b⟩ := mkQ_le (ngQ p != ngQ q) (nmQ p * nmQ q) (p.den * q.den) (Nat.mul_pos (den_pos p) (den_pos q))
  exact ⟨Nat.lt_of_le_of_lt a (mul_capK hp.1 hq.1), Nat.lt_of_le_of_lt b (mul_capK hp.2 hq.2)⟩
theorem Sz.cross {j k : Nat} {p q : Rat} (hp : Sz j p) (hq : Sz k q) : nmQ p * q.den < capK (j + k) ∧ nmQ q * p.den < capK (j + k) ∧ p.den * q.den < capK (j + k) ∧ nmQ p * q.den + nmQ q * p.den < capK (j + k + 1) := by
  have h1 := mul_capK hp.1 hq.2
  have h2 := mul_capK hq.1 hp.2
  have h3 := mul_capK hp.2 hq.2
  rw [Nat.add_comm k j] at h2
  have h4 := capK_two (j + k)
  exact ⟨h1, h2, h3, by omega⟩
theorem Sz.add {j k : Nat} {p q : Rat} (hp : Sz j p) (hq : Sz k q) : Sz (j + k + 1) (p + q) := by
  obtain ⟨h1, h2, h3, h4⟩ := hp.cross hq
  have h5 := capK_le (show j + k ≤ j + k + 1 by omega)
  have hd := Nat.mul_pos (den_pos p) (den_pos q)
  by_cases h : ngQ p = ngQ q
  · rw [← add_same h]
    obtain ⟨a, b⟩ := mkQ_le (ngQ p) (nmQ p * q.den + nmQ q * p.den) (p.den * q.den) hd
    exact ⟨by omega, by omega⟩
  · rcases Nat.le_total (nmQ q * p.den) (nmQ p * q.den) with hl | hl
    · rw [← add_left h hl]
      obtain ⟨a, b⟩ := mkQ_le (ngQ p) (nmQ p * q.den - nmQ q * p.den) (p.den * q.den) hd
      exact ⟨by omega, by omega⟩
    · rw [← add_right h hl]
      obtain ⟨a, b⟩ := mkQ_le (ngQ q) (nmQ q * p.den - nmQ p * q.den) (p.den * q.den) hd
      exact ⟨by omega, by omega⟩
theorem Sz.neg {k : Nat} {q : Rat} (h : Sz k q) : Sz k (-q) := by
  obtain ⟨_, e2, e3⟩ := neg_parts q
  unfold Sz
  rw [e2, e3]
  exact h
theorem Sz.sub {j k : Nat} {p q : Rat} (hp : Sz j p) (hq : Sz k q) : Sz (j + k + 1) (p - q) := by
  rw [Rat.sub_eq_add_neg]; exact hp.add hq.neg
/-- The parts of a number. -/
def IsQ (q : Rat) (g : Bool) (s t : ByteArray) : Prop := rqV q = .agg #[.bool g, .string s, .string t]
theorem IsQ.self (q : Rat) : IsQ q (ngQ q) (natS (nmQ q)) (natS q.den) := rfl
theorem IsQ.get (q : Rat) : ∃ g s t, IsQ q g s t := ⟨_, _, _, IsQ.self q⟩
theorem IsQ.inj {p q : Rat} {g : Bool} {s t : ByteArray} (h : IsQ p g s t) (h' : IsQ q g s t) : p = q := by
  have e : rqV p = rqV q := Eq.trans h h'.symm
  unfold rqV at e
  simp only [Value.agg.injEq, Array.mk.injEq, List.cons.injEq, Value.bool.injEq, Value.string.injEq, and_true] at e
  obtain ⟨e1, e2, e3⟩ := e
  rw [← mkQ_self p, ← mkQ_self q, e1, natS_inj e2, natS_inj e3]
end Go.Proofs.YtblpnekjnaaeoaaGreatDoor
namespace Go.Proofs.YtblpnekjnaaeoaaGreatDoor
open Go.RowKit Go.Deep Go.ChangeShapes Go.WideShapes

theorem Tryz.cellsRat : Tryz.prog.cellsOf 29 = 3 := by kernel_rfl
theorem Tryz.cellsNat1 : Tryz.prog.cellsOf 27 = 1 := by kernel_rfl
theorem Tryz.cellsBool1 : Tryz.prog.cellsOf 4 = 1 := by kernel_rfl
set_option maxRecDepth 100000 in
theorem trod_rat {H : Type} {enc : TypeId × Value → H} {w : World} {b : Nat} {sp : Nat → Bool} {hd : Bool} {n : Nat} {cs : List Value} {y : DataW H × List MemPlace} (h : DataW.trod enc Tryz.prog w b sp hd n 29 cs = some y) :
    ∃ (g : Bool) (s t : ByteArray), (s.size ≤ maxLen ∧ t.size ≤ maxLen) ∧ cs = [.bool g, .string s, .string t] := by
  obtain ⟨xs, m, _, _, hl, hx, hi⟩ := DataW.trod_struct Tryz.underlying29 h
  rw [Tryz.cellsRat] at hl
  have hx' : xs.length = 3 := hx
  have e0 : DataW.trod enc Tryz.prog w b sp hd m 4 ((cs.drop 0).take (Tryz.prog.cellsOf 4)) = xs[0]? := hi 0 _ rfl
  have e1 : DataW.trod enc Tryz.prog w b sp hd m 27 ((cs.drop 1).take (Tryz.prog.cellsOf 27)) = xs[1]? := hi 1 _ rfl
  have e2 : DataW.trod enc Tryz.prog w b sp hd m 27 ((cs.drop 2).take (Tryz.prog.cellsOf 27)) = xs[2]? := hi 2 _ rfl
  rw [Tryz.cellsBool1, List.getElem?_eq_getElem (by omega)] at e0
  rw [Tryz.cellsNat1, List.getElem?_eq_getElem (by omega)] at e1 e2
  match cs, hl with
  | [c0, c1, c2], _ =>
    obtain ⟨g, q0, _⟩ := DataW.trod_bool Tryz.underlying4 e0
    obtain ⟨s, q1, _, l1⟩ := DataW.trod_string Tryz.underlying27 e1
    obtain ⟨t, q2, _, l2⟩ := DataW.trod_string Tryz.underlying27 e2
    have r0 : c0 = .bool g := by simpa using q0
    have r1 : c1 = .string s := by simpa using q1
    have r2 : c2 = .string t := by simpa using q2
    exact ⟨g, s, t, ⟨l1, l2⟩, by rw [r0, r1, r2]⟩
end Go.Proofs.YtblpnekjnaaeoaaGreatDoor
namespace Go.Proofs.YtblpnekjnaaeoaaGreatDoor
open Go.RowKit Go.Sort

end Go.Proofs.YtblpnekjnaaeoaaGreatDoor
