/- rational: FormatUint, abs, Of. -/
import Derived.Test.YtbojlmnajndleaaGreatDoorRaB
import Derived.Shelf.Spec.BitsCarry
set_option linter.unusedVariables false
set_option linter.unusedSimpArgs false
namespace Go.Proofs.YtbojlmnajndleaaGreatDoor
open Go.RowKit Go.Sort

theorem zeros_hold (w : World) (T : TypeId) (nd : Nat) (hs : nd ≤ 24) : Holds (fun (b : UInt8) => Value.int .u8 (b.toNat : Int)) (w.alloc (.cells Lib.zeros24 T)) w.heap.size 0 (Array.replicate nd (0 : UInt8)) := fun j hj => by
  have hj' : j < nd := by simpa using hj
  refine ⟨?_, World.frozen?_alloc_new _ _ _ _⟩
  rw [World.cell?_alloc_new, Lib.zeros24_at _ (by omega), getElem!_pos _ j hj]
  simp
theorem fin_zero (w : World) (o : Obj) (dk : Array UInt8) (k : Nat) : ∃ os, (putRow (fun (b : UInt8) => Value.int .u8 (b.toNat : Int)) (w.alloc o) w.heap.size 0 dk).drewN k = grow (w.drewN k) os := by
  rw [alloc_eq_grow]
  obtain ⟨os', _, e⟩ := putRow_grow_new (fun (b : UInt8) => Value.int .u8 (b.toNat : Int)) w #[o] w.heap.size 0 dk (Nat.le_refl _)
  exact ⟨os', by rw [e]; rfl⟩
set_option maxHeartbeats 4000000 in
set_option maxRecDepth 100000 in
theorem fmtuint_in (u : Nat) (w : World) (hu64 : u < 18446744073709551616) (hw : LawW w) :
    Calls Tryz.prog 112 #[.int .u64 (u : Int), .int .i64 10] w fun e w' => e = .returned (.string (natS u)) ∧ Below w.heap.size w w' := by
  have htab := hw.1
  by_cases hs : u < 100
  · have f1 : decide ((u : Int) < 100) = true := decide_eq_true (by omega)
    go_enter Tryz.func112, Tryz.ntmps112
    go_wp2_with fail
    refine (Tryz.internal_strconv_small u hs _).mono ?_
    rintro e w' ⟨rfl, rfl⟩
    go_wp2_with fail
    go_ret
    exact ⟨rfl, Below.refl _ _⟩
  · have f1 : decide ((u : Int) < 100) = false := decide_eq_false (by omega)
    have hu1 : 1 ≤ u := by omega
    have hnd20 : Lib.nDigits u ≤ 20 := by have := Lib.numDigits_eq u hu1 hu64; split at this <;> omega
    have hal : Tryz.prog.arrayLen 143 = 24 := by kernel_rfl
    have hsl1 : ∀ W, (Instr.sliceAt 143 (.pointer (some ⟨w.heap.size, 0, none⟩)) none (some (.int .i64 (Lib.nDigits u : Int))) none).run Tryz.prog W = .ok (.slice (some ⟨w.heap.size, 0, none⟩) (Lib.nDigits u) 24) W := fun W => by
      rw [run_sliceAt_array_h W 143 ⟨w.heap.size, 0, none⟩ (by kernel_rfl) .i64 (Lib.nDigits u : Int) (by omega) (by rw [hal]; omega)]
      go_simp
      try omega
    have hH0 := zeros_hold w 143 (Lib.nDigits u) (by omega)
    have hfmt := Tryz.internal_strconv_formatBase10 w.heap.size 0 24 u (Array.replicate (Lib.nDigits u) 0) (w.alloc (.cells Lib.zeros24 143)) hH0 (by rw [Array.size_replicate]; exact Lib.lt_pow_nDigits u) hu64 (by rw [Array.size_replicate]; omega)
    rw [Array.size_replicate] at hfmt
    have HH0 := Lib.hid hH0
    clear hH0 hal
    go_enter Tryz.func112, Tryz.ntmps112
    go_wp2_with (first
      | (go_at_call 129; refine (Tryz.internal_strconv_numDigits u hu1 hu64 _ (Lib.tabIs_alloc htab _)).mono ?_; rintro e w' ⟨rfl, rfl⟩))
    refine hfmt.mono ?_
    rintro e w' ⟨rfl, k, v', dk, rfl, hF⟩
    have hcv : (convert 108 9 (.slice (some ⟨w.heap.size, 0, none⟩) (Lib.nDigits u) 24)).run Tryz.prog ((putRow (fun (b : UInt8) => Value.int .u8 (b.toNat : Int)) (w.alloc (.cells Lib.zeros24 143)) w.heap.size 0 dk).drewN k) = .ok (.string ⟨(Lib.decDigits u).toArray⟩) ((putRow (fun (b : UInt8) => Value.int .u8 (b.toNat : Int)) (w.alloc (.cells Lib.zeros24 143)) w.heap.size 0 dk).drewN k) := by
      have h := run_convert_bytes_back (P := Tryz.prog) ((putRow (fun (b : UInt8) => Value.int .u8 (b.toNat : Int)) (w.alloc (.cells Lib.zeros24 143)) w.heap.size 0 dk).drewN k) 108 9 5 ⟨w.heap.size, 0, none⟩ 24 (Lib.decDigits u) Tryz.underlying108 Tryz.underlying5 Tryz.underlying9 (fun j hj => by
        rw [Lib.row_is_numeral hF j hj, Lib.add_plain, World.cell?_drewN]
        exact cell?_putRow (fun (b : UInt8) => Value.int .u8 (b.toNat : Int)) _ w.heap.size 0 _ dk HH0.out (by rw [hF.size, Array.size_replicate]) j (by rw [hF.size]; rw [Lib.decDigits_length] at hj; exact hj))
      rw [Lib.decDigits_length] at h
      exact h
    go_wp2_with fail
    go_ret
    obtain ⟨os, eo⟩ := fin_zero w (.cells Lib.zeros24 143) dk k
    refine ⟨rfl, ?_⟩
    rw [eo]
    exact Lib.below_grow _ _ (Nat.le_refl _) _ _
set_option maxHeartbeats 4000000 in
set_option maxRecDepth 100000 in
theorem fmtuint (u : Nat) (w : World) (hu64 : u < 18446744073709551616) (hw : LawW w) :
    Calls Tryz.prog 91 #[.int .u64 (u : Int), .int .i64 10] w fun e w' => e = .returned (.string (natS u)) ∧ Below w.heap.size w w' := by
  have H := hide (fmtuint_in u w hu64 hw)
  go_enter Tryz.func91, Tryz.ntmps91
  go_wp2_with fail
  refine H.out.mono ?_
  rintro e w' ⟨rfl, hb⟩
  have HB := hide hb
  clear hb
  go_wp2_with fail
  go_ret
  exact ⟨rfl, HB.out⟩
set_option maxHeartbeats 4000000 in
set_option maxRecDepth 100000 in
theorem rat_abs (n : Int) (w : World) (h0 : -9223372036854775808 ≤ n) (h1 : n ≤ 9223372036854775807) (hw : LawW w) :
    Calls Tryz.prog 70 #[.int .i64 n] w fun e w' => e = .returned (.string (natS n.natAbs)) ∧ Below w.heap.size w w' := by
  have H := hide (fmtuint n.natAbs w (by omega) hw)
  by_cases hn : n < 0
  · obtain ⟨u, rfl⟩ : ∃ u : Nat, n = -(u : Int) := ⟨n.natAbs, by omega⟩
    obtain ⟨X, hX⟩ : ∃ X : Nat, X + u = 18446744073709551616 := ⟨18446744073709551616 - u, by omega⟩
    have e : (-(u : Int)).natAbs = u := by omega
    rw [e] at H ⊢
    have f1 : decide (-(u : Int) < 0) = true := decide_eq_true hn
    have hwr : IntKind.u64.wrap (-(u : Int)) = (X : Int) := by rw [IntKind.wrap_u64]; omega
    have hsub : ∀ W, (callFunc 90 #[.int .u64 0, .int .u64 (X : Int), .int .u64 0]).run Tryz.prog W = .ok (.value (.tuple #[.int .u64 (u : Int), .int .u64 1])) W := fun W => by
      have h := run_sub64 (P := Tryz.prog) 0 X 0 (by omega) W
      have e1 : (0 + 18446744073709551616 - X - 0) % 18446744073709551616 = u := by omega
      rw [e1, if_pos (by omega)] at h
      rw [run_callFunc_extern Tryz.func90 (by kernel_rfl) (by kernel_rfl) (by kernel_rfl) (e := sub64Entry) (by kernel_rfl)]
      show ((sub64Entry #[.int .u64 ((0 : Nat) : Int), .int .u64 (X : Int), .int .u64 ((0 : Nat) : Int)]).run Tryz.prog W).andThen _ = _
      rw [h]; rfl
    clear hX e
    go_enter Tryz.func70, Tryz.ntmps70
    go_wp2_with fail
    refine H.out.mono ?_
    rintro e w1 ⟨rfl, hb⟩
    have HB := hide hb
    clear hb
    go_wp2_with fail
    go_ret
    exact ⟨rfl, HB.out⟩
  · obtain ⟨u, rfl⟩ : ∃ u : Nat, n = (u : Int) := ⟨n.natAbs, by omega⟩
    have e : ((u : Int)).natAbs = u := by omega
    rw [e] at H ⊢
    have f1 : decide ((u : Int) < 0) = false := decide_eq_false hn
    have hwr : IntKind.u64.wrap (u : Int) = (u : Int) := by rw [IntKind.wrap_u64]; omega
    clear e
    go_enter Tryz.func70, Tryz.ntmps70
    go_wp2_with fail
    refine H.out.mono ?_
    rintro e w1 ⟨rfl, hb⟩
    have HB := hide hb
    clear hb
    go_wp2_with fail
    go_ret
    exact ⟨rfl, HB.out⟩
/-- The quotient of two ints. -/
def ofQ (n d : Int) : Rat := (n : Rat) / (d : Rat)
theorem mkQ_ofQ (n d : Int) (hd : d ≠ 0) : mkQ (decide (n < 0) != decide (d < 0)) n.natAbs d.natAbs = ofQ n d := by
  rw [mkQ_div _ _ _ (by omega)]
  unfold ofQ
  have en : (n : Rat) = if n < 0 then -((n.natAbs : Nat) : Rat) else ((n.natAbs : Nat) : Rat) := by
    by_cases h : n < 0
    · rw [if_pos h, ← Rat.intCast_natCast, ← Rat.intCast_neg]; congr 1; omega
    · rw [if_neg h, ← Rat.intCast_natCast]; congr 1; omega
  have ed : (d : Rat) = if d < 0 then -((d.natAbs : Nat) : Rat) else ((d.natAbs : Nat) : Rat) := by
    by_cases h : d < 0
    · rw [if_pos h, ← Rat.intCast_natCast, ← Rat.intCast_neg]; congr 1; omega
    · rw [if_neg h, ← Rat.intCast_natCast]; congr 1; omega
  have hd0 : ((d.natAbs : Nat) : Rat) ≠ 0 := by
    intro h
    have : d.natAbs = 0 := by exact_mod_cast h
    omega
  rw [en, ed]
  by_cases h1 : n < 0 <;> by_cases h2 : d < 0 <;> simp [h1, h2] <;> grind
theorem int_cap {n : Int} (h0 : -9223372036854775808 ≤ n) (h1 : n ≤ 9223372036854775807) : n.natAbs < capN := by
  have h : n.natAbs < capK 19 := Nat.lt_of_le_of_lt (show n.natAbs ≤ 9223372036854775808 by omega) (by decide +kernel)
  exact to_capN h (by decide)
theorem int64_bd {n : Int} (h : inI64 n) : -9223372036854775808 ≤ n ∧ n ≤ 9223372036854775807 := by unfold inI64 at h; omega
/-- What Of returns. -/
def OfPost (w : World) (n d : Int) (e : Ending) (w' : World) : Prop := if d = 0 then ReqPost w 14 e w' else RqPost w (ofQ n d) e w'
set_option maxHeartbeats 4000000 in
set_option maxRecDepth 100000 in
theorem rat_Of_core (n d : Int) (g' : Bool) (u' v' : ByteArray) (k : Int) (w : World) (hw : LawW w)
    (HA : Hid (∀ W, LawW W → Calls Tryz.prog 70 #[.int .i64 n] W fun e w' => e = .returned (.string (natS n.natAbs)) ∧ Below W.heap.size W w'))
    (HB : Hid (∀ W, LawW W → Calls Tryz.prog 70 #[.int .i64 d] W fun e w' => e = .returned (.string (natS d.natAbs)) ∧ Below W.heap.size W w'))
    (HM : Hid (∀ W, LawW W → Calls Tryz.prog 69 #[.bool (decide (n < 0) != decide (d < 0)), .string (natS n.natAbs), .string (natS d.natAbs)] W fun e w' => e = .returned (.tuple #[.agg #[.bool g', .string u', .string v'], .int .i64 k]) ∧ Below W.heap.size W w')) :
    Calls Tryz.prog 46 #[.int .i64 n, .int .i64 d] w fun e w' => e = .returned (.tuple #[.agg #[.bool g', .string u', .string v'], .int .i64 k]) ∧ Below w.heap.size w w' := by
  have HW := hide hw
  obtain ⟨s, hs⟩ : ∃ s, natS n.natAbs = s := ⟨_, rfl⟩
  obtain ⟨t, ht⟩ : ∃ s, natS d.natAbs = s := ⟨_, rfl⟩
  rw [hs] at HA HM
  rw [ht] at HB HM
  clear hw hs ht
  have HB0 := hide (bAlloc (Below.refl w.heap.size w) (.cells #[.bool false, .string ⟨#[]⟩, .string ⟨#[]⟩] 24))
  have HR0 := hide (RC.new w false ⟨#[]⟩ ⟨#[]⟩ 24)
  obtain ⟨b1, hb1⟩ : ∃ b, decide (n < 0) = b := ⟨_, rfl⟩
  obtain ⟨b2, hb2⟩ : ∃ b, decide (d < 0) = b := ⟨_, rfl⟩
  rw [hb1, hb2] at HM
  go_enter Tryz.func46, Tryz.ntmps46
  go_wp2_with fail
  refine (HA.out _ (HW.out.below HB0.out)).mono ?_
  rintro e w1 ⟨rfl, hb⟩
  have HB1 := hide (bStep HB0.out hb)
  have HR1 := hide (HR0.out.below hb)
  clear hb
  go_wp2_with fail
  refine (HB.out _ (HW.out.below HB1.out)).mono ?_
  rintro e w2 ⟨rfl, hb⟩
  have HB2 := hide (bStep HB1.out hb)
  have HR2 := hide (HR1.out.below hb)
  clear hb
  go_wp2_with fail
  refine (HM.out _ (HW.out.below HB2.out)).mono ?_
  rintro e w3 ⟨rfl, hb⟩
  have HB3 := hide (bStep HB2.out hb)
  have HR3 := hide (HR2.out.below hb)
  obtain ⟨c0, c1, c2, f0, f1, f2⟩ := HR3.out
  clear hb
  go_wp2_with fail
  obtain ⟨d0, d1, d2, _, _, _⟩ := HR3.out.set3 g' u' v'
  exact bodyPost_ret (v := .tuple #[.agg #[.bool g', .string u', .string v'], .int .i64 k]) (by simp [results, Tryz.results46, go_sem, d0, d1, d2]) rfl ⟨rfl, bset3 HB3.out (Nat.le_refl _) _ _ _⟩
theorem rat_Of (n d : Int) (w : World) (hn : inI64 n) (hd : inI64 d) (hw : LawW w) : Calls Tryz.prog 46 #[.int .i64 n, .int .i64 d] w (OfPost w n d) := by
  have bn := int64_bd hn
  have bd := int64_bd hd
  have HA := hide (fun W hW => rat_abs n W bn.1 bn.2 hW)
  have HB := hide (fun W hW => rat_abs d W bd.1 bd.2 hW)
  unfold OfPost
  by_cases h : d = 0
  · subst h
    simp only [if_pos]
    refine rat_Of_core n 0 false ⟨#[]⟩ ⟨#[]⟩ 14 w hw HA HB (hide fun W hW => ?_)
    have := rat_Make_zero (decide (n < 0) != decide ((0 : Int) < 0)) n.natAbs W (int_cap bn.1 bn.2)
    rw [show ((0 : Int)).natAbs = 0 from rfl, natS_zero]
    exact this
  · simp only [if_neg h]
    unfold RqPost
    refine rat_Of_core n d _ _ _ 0 w hw HA HB (hide fun W hW => ?_)
    have := rat_Make (decide (n < 0) != decide (d < 0)) n.natAbs d.natAbs W (int_cap bn.1 bn.2) (int_cap bd.1 bd.2) (by omega) hW
    rw [mkQ_ofQ n d h] at this
    exact this
end Go.Proofs.YtbojlmnajndleaaGreatDoor
