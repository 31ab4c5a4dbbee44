/- RationalOrder. -/
import Derived.Test.YtncocgfgbocnkaaGreatDoorRaN
set_option linter.unusedVariables false
set_option linter.unusedSimpArgs false
namespace Go.Proofs.YtncocgfgbocnkaaGreatDoor
open Go.RowKit Go.Sort

set_option maxHeartbeats 4000000 in
set_option maxRecDepth 100000 in
theorem order_bad1 (ga : Bool) (sa ta : ByteArray) (gb : Bool) (sb tb : ByteArray) (gc : Bool) (sc tc : ByteArray) (w : World) (hf : fewQ 40 [(ga, sa, ta), (gb, sb, tb), (gc, sc, tc)] = false) (hw : LawW w) :
    Calls Tryz.prog 7 #[.agg #[.bool ga, .string sa, .string ta], .agg #[.bool gb, .string sb, .string tb], .agg #[.bool gc, .string sc, .string tc]] w fun e w' => e = .returned (.bool true) ∧ Below w.heap.size w w' := by
  have HW := hide hw
  have HF := hide (fun W T => few_three ga sa ta gb sb tb gc sc tc W T)
  rw [hf] at HF
  have HH := hide (fun W hW => law04_head W hW)
  have HB0 : Hid (Below w.heap.size w w) := Below.refl _ _
  have HV0 : Hid (VL w []) := VL.nil w
  clear hf hw
  go_enter Tryz.func7, Tryz.ntmps7
  have HV0_ := hide (HV0.out.pushAt (b := w.heap.size) (by simp) ga sa ta 24)
  have HB0_ := hide (bAlloc HB0.out (.cells #[.bool ga, .string sa, .string ta] 24))
  clear HB0 HV0
  have HV0__ := hide (HV0_.out.pushAt (b := w.heap.size + 1) (by simp) gb sb tb 24)
  have HB0__ := hide (bAlloc HB0_.out (.cells #[.bool gb, .string sb, .string tb] 24))
  clear HB0_ HV0_
  have HV0___ := hide (HV0__.out.pushAt (b := w.heap.size + 2) (by simp) gc sc tc 24)
  have HB0___ := hide (bAlloc HB0__.out (.cells #[.bool gc, .string sc, .string tc] 24))
  clear HB0__ HV0__
  go_wp2_with fail
  refine (HH.out _ (HW.out.below HB0___.out)).mono ?_
  rintro e w1 ⟨rfl, hb⟩
  have HB1 := hide (bStep HB0___.out hb)
  have HV1 := hide (HV0___.out.below hb)
  clear hb HB0___ HV0___
  obtain ⟨c3, c4, c5⟩ := VL.cells3 (b := w.heap.size) (g := ga) (s := sa) (t := ta) HV1.out (by simp)
  obtain ⟨c6, c7, c8⟩ := VL.cells3 (b := w.heap.size + 1) (g := gb) (s := sb) (t := tb) HV1.out (by simp)
  obtain ⟨c9, c10, c11⟩ := VL.cells3 (b := w.heap.size + 2) (g := gc) (s := sc) (t := tc) HV1.out (by simp)
  go_wp2_with fail
  clear c3 c4 c5 c6 c7 c8 c9 c10 c11
  refine (HF.out _ _).mono ?_
  rintro e wf ⟨rfl, rfl⟩
  have HV1_ := hide (VL.below HV1.out (bAlloc (Below.refl _ _) (.cells #[.bool ga, .string sa, .string ta, .bool gb, .string sb, .string tb, .bool gc, .string sc, .string tc] 24)))
  have HB1_ := hide (bAlloc HB1.out (.cells #[.bool ga, .string sa, .string ta, .bool gb, .string sb, .string tb, .bool gc, .string sc, .string tc] 24))
  clear HB1 HV1
  go_wp2_with fail
  go_ret
  exact ⟨rfl, HB1_.out⟩
set_option maxHeartbeats 4000000 in
set_option maxRecDepth 100000 in
theorem order_bad2 (ga : Bool) (sa ta : ByteArray) (gb : Bool) (sb tb : ByteArray) (gc : Bool) (sc tc : ByteArray) (w : World) (hf : fewQ 40 [(ga, sa, ta), (gb, sb, tb), (gc, sc, tc)] = true) (va : vldR ga sa ta = false) (hw : LawW w) :
    Calls Tryz.prog 7 #[.agg #[.bool ga, .string sa, .string ta], .agg #[.bool gb, .string sb, .string tb], .agg #[.bool gc, .string sc, .string tc]] w fun e w' => e = .returned (.bool true) ∧ Below w.heap.size w w' := by
  have HW := hide hw
  have HF := hide (fun W T => few_three ga sa ta gb sb tb gc sc tc W T)
  rw [hf] at HF
  obtain ⟨⟨l1, l2⟩, ⟨l3, l4⟩, l5, l6⟩ := fewQ_three hf
  have HVA := hide (fun W hW => rat_valid ga sa ta W (by unfold maxLen; simp at l1; omega) (by unfold maxLen; simp at l2; omega) hW)
  rw [va] at HVA
  have HH := hide (fun W hW => law04_head W hW)
  have HB0 : Hid (Below w.heap.size w w) := Below.refl _ _
  have HV0 : Hid (VL w []) := VL.nil w
  clear hf hw l1 l2 l3 l4 l5 l6 va
  go_enter Tryz.func7, Tryz.ntmps7
  have HV0_ := hide (HV0.out.pushAt (b := w.heap.size) (by simp) ga sa ta 24)
  have HB0_ := hide (bAlloc HB0.out (.cells #[.bool ga, .string sa, .string ta] 24))
  clear HB0 HV0
  have HV0__ := hide (HV0_.out.pushAt (b := w.heap.size + 1) (by simp) gb sb tb 24)
  have HB0__ := hide (bAlloc HB0_.out (.cells #[.bool gb, .string sb, .string tb] 24))
  clear HB0_ HV0_
  have HV0___ := hide (HV0__.out.pushAt (b := w.heap.size + 2) (by simp) gc sc tc 24)
  have HB0___ := hide (bAlloc HB0__.out (.cells #[.bool gc, .string sc, .string tc] 24))
  clear HB0__ HV0__
  go_wp2_with fail
  refine (HH.out _ (HW.out.below HB0___.out)).mono ?_
  rintro e w1 ⟨rfl, hb⟩
  have HB1 := hide (bStep HB0___.out hb)
  have HV1 := hide (HV0___.out.below hb)
  clear hb HB0___ HV0___
  obtain ⟨c3, c4, c5⟩ := VL.cells3 (b := w.heap.size) (g := ga) (s := sa) (t := ta) HV1.out (by simp)
  obtain ⟨c6, c7, c8⟩ := VL.cells3 (b := w.heap.size + 1) (g := gb) (s := sb) (t := tb) HV1.out (by simp)
  obtain ⟨c9, c10, c11⟩ := VL.cells3 (b := w.heap.size + 2) (g := gc) (s := sc) (t := tc) HV1.out (by simp)
  go_wp2_with fail
  clear c3 c4 c5 c6 c7 c8 c9 c10 c11
  refine (HF.out _ _).mono ?_
  rintro e wf ⟨rfl, rfl⟩
  have HV1_ := hide (VL.below HV1.out (bAlloc (Below.refl _ _) (.cells #[.bool ga, .string sa, .string ta, .bool gb, .string sb, .string tb, .bool gc, .string sc, .string tc] 24)))
  have HB1_ := hide (bAlloc HB1.out (.cells #[.bool ga, .string sa, .string ta, .bool gb, .string sb, .string tb, .bool gc, .string sc, .string tc] 24))
  clear HB1 HV1
  obtain ⟨c12, c13, c14⟩ := VL.cells3 (b := w.heap.size) (g := ga) (s := sa) (t := ta) HV1_.out (by simp)
  obtain ⟨c15, c16, c17⟩ := VL.cells3 (b := w.heap.size + 1) (g := gb) (s := sb) (t := tb) HV1_.out (by simp)
  obtain ⟨c18, c19, c20⟩ := VL.cells3 (b := w.heap.size + 2) (g := gc) (s := sc) (t := tc) HV1_.out (by simp)
  go_wp2_with fail
  clear c12 c13 c14 c15 c16 c17 c18 c19 c20
  refine (HVA.out _ (HW.out.below HB1_.out)).mono ?_
  rintro e w2 ⟨rfl, hb⟩
  have HB2 := hide (bStep HB1_.out hb)
  have HV2 := hide (HV1_.out.below hb)
  clear hb HB1_ HV1_
  go_wp2_with fail
  go_ret
  exact ⟨rfl, HB2.out⟩
set_option maxHeartbeats 4000000 in
set_option maxRecDepth 100000 in
theorem order_bad3 (ga : Bool) (sa ta : ByteArray) (gb : Bool) (sb tb : ByteArray) (gc : Bool) (sc tc : ByteArray) (w : World) (hf : fewQ 40 [(ga, sa, ta), (gb, sb, tb), (gc, sc, tc)] = true) (va : vldR ga sa ta = true) (vb : vldR gb sb tb = false) (hw : LawW w) :
    Calls Tryz.prog 7 #[.agg #[.bool ga, .string sa, .string ta], .agg #[.bool gb, .string sb, .string tb], .agg #[.bool gc, .string sc, .string tc]] w fun e w' => e = .returned (.bool true) ∧ Below w.heap.size w w' := by
  have HW := hide hw
  have HF := hide (fun W T => few_three ga sa ta gb sb tb gc sc tc W T)
  rw [hf] at HF
  obtain ⟨⟨l1, l2⟩, ⟨l3, l4⟩, l5, l6⟩ := fewQ_three hf
  have HVA := hide (fun W hW => rat_valid ga sa ta W (by unfold maxLen; simp at l1; omega) (by unfold maxLen; simp at l2; omega) hW)
  rw [va] at HVA
  have HVB := hide (fun W hW => rat_valid gb sb tb W (by unfold maxLen; simp at l3; omega) (by unfold maxLen; simp at l4; omega) hW)
  rw [vb] at HVB
  have HH := hide (fun W hW => law04_head W hW)
  have HB0 : Hid (Below w.heap.size w w) := Below.refl _ _
  have HV0 : Hid (VL w []) := VL.nil w
  clear hf hw l1 l2 l3 l4 l5 l6 va vb
  go_enter Tryz.func7, Tryz.ntmps7
  have HV0_ := hide (HV0.out.pushAt (b := w.heap.size) (by simp) ga sa ta 24)
  have HB0_ := hide (bAlloc HB0.out (.cells #[.bool ga, .string sa, .string ta] 24))
  clear HB0 HV0
  have HV0__ := hide (HV0_.out.pushAt (b := w.heap.size + 1) (by simp) gb sb tb 24)
  have HB0__ := hide (bAlloc HB0_.out (.cells #[.bool gb, .string sb, .string tb] 24))
  clear HB0_ HV0_
  have HV0___ := hide (HV0__.out.pushAt (b := w.heap.size + 2) (by simp) gc sc tc 24)
  have HB0___ := hide (bAlloc HB0__.out (.cells #[.bool gc, .string sc, .string tc] 24))
  clear HB0__ HV0__
  go_wp2_with fail
  refine (HH.out _ (HW.out.below HB0___.out)).mono ?_
  rintro e w1 ⟨rfl, hb⟩
  have HB1 := hide (bStep HB0___.out hb)
  have HV1 := hide (HV0___.out.below hb)
  clear hb HB0___ HV0___
  obtain ⟨c3, c4, c5⟩ := VL.cells3 (b := w.heap.size) (g := ga) (s := sa) (t := ta) HV1.out (by simp)
  obtain ⟨c6, c7, c8⟩ := VL.cells3 (b := w.heap.size + 1) (g := gb) (s := sb) (t := tb) HV1.out (by simp)
  obtain ⟨c9, c10, c11⟩ := VL.cells3 (b := w.heap.size + 2) (g := gc) (s := sc) (t := tc) HV1.out (by simp)
  go_wp2_with fail
  clear c3 c4 c5 c6 c7 c8 c9 c10 c11
  refine (HF.out _ _).mono ?_
  rintro e wf ⟨rfl, rfl⟩
  have HV1_ := hide (VL.below HV1.out (bAlloc (Below.refl _ _) (.cells #[.bool ga, .string sa, .string ta, .bool gb, .string sb, .string tb, .bool gc, .string sc, .string tc] 24)))
  have HB1_ := hide (bAlloc HB1.out (.cells #[.bool ga, .string sa, .string ta, .bool gb, .string sb, .string tb, .bool gc, .string sc, .string tc] 24))
  clear HB1 HV1
  obtain ⟨c12, c13, c14⟩ := VL.cells3 (b := w.heap.size) (g := ga) (s := sa) (t := ta) HV1_.out (by simp)
  obtain ⟨c15, c16, c17⟩ := VL.cells3 (b := w.heap.size + 1) (g := gb) (s := sb) (t := tb) HV1_.out (by simp)
  obtain ⟨c18, c19, c20⟩ := VL.cells3 (b := w.heap.size + 2) (g := gc) (s := sc) (t := tc) HV1_.out (by simp)
  go_wp2_with fail
  clear c12 c13 c14 c15 c16 c17 c18 c19 c20
  refine (HVA.out _ (HW.out.below HB1_.out)).mono ?_
  rintro e w2 ⟨rfl, hb⟩
  have HB2 := hide (bStep HB1_.out hb)
  have HV2 := hide (HV1_.out.below hb)
  clear hb HB1_ HV1_
  obtain ⟨c21, c22, c23⟩ := VL.cells3 (b := w.heap.size) (g := ga) (s := sa) (t := ta) HV2.out (by simp)
  obtain ⟨c24, c25, c26⟩ := VL.cells3 (b := w.heap.size + 1) (g := gb) (s := sb) (t := tb) HV2.out (by simp)
  obtain ⟨c27, c28, c29⟩ := VL.cells3 (b := w.heap.size + 2) (g := gc) (s := sc) (t := tc) HV2.out (by simp)
  go_wp2_with fail
  clear c21 c22 c23 c24 c25 c26 c27 c28 c29
  refine (HVB.out _ (HW.out.below HB2.out)).mono ?_
  rintro e w3 ⟨rfl, hb⟩
  have HB3 := hide (bStep HB2.out hb)
  have HV3 := hide (HV2.out.below hb)
  clear hb HB2 HV2
  go_wp2_with fail
  go_ret
  exact ⟨rfl, HB3.out⟩
set_option maxHeartbeats 4000000 in
set_option maxRecDepth 100000 in
theorem order_bad4 (ga : Bool) (sa ta : ByteArray) (gb : Bool) (sb tb : ByteArray) (gc : Bool) (sc tc : ByteArray) (w : World) (hf : fewQ 40 [(ga, sa, ta), (gb, sb, tb), (gc, sc, tc)] = true) (va : vldR ga sa ta = true) (vb : vldR gb sb tb = true) (vc : vldR gc sc tc = false) (hw : LawW w) :
    Calls Tryz.prog 7 #[.agg #[.bool ga, .string sa, .string ta], .agg #[.bool gb, .string sb, .string tb], .agg #[.bool gc, .string sc, .string tc]] w fun e w' => e = .returned (.bool true) ∧ Below w.heap.size w w' := by
  have HW := hide hw
  have HF := hide (fun W T => few_three ga sa ta gb sb tb gc sc tc W T)
  rw [hf] at HF
  obtain ⟨⟨l1, l2⟩, ⟨l3, l4⟩, l5, l6⟩ := fewQ_three hf
  have HVA := hide (fun W hW => rat_valid ga sa ta W (by unfold maxLen; simp at l1; omega) (by unfold maxLen; simp at l2; omega) hW)
  rw [va] at HVA
  have HVB := hide (fun W hW => rat_valid gb sb tb W (by unfold maxLen; simp at l3; omega) (by unfold maxLen; simp at l4; omega) hW)
  rw [vb] at HVB
  have HVC := hide (fun W hW => rat_valid gc sc tc W (by unfold maxLen; simp at l5; omega) (by unfold maxLen; simp at l6; omega) hW)
  rw [vc] at HVC
  have HH := hide (fun W hW => law04_head W hW)
  have HB0 : Hid (Below w.heap.size w w) := Below.refl _ _
  have HV0 : Hid (VL w []) := VL.nil w
  clear hf hw l1 l2 l3 l4 l5 l6 va vb vc
  go_enter Tryz.func7, Tryz.ntmps7
  have HV0_ := hide (HV0.out.pushAt (b := w.heap.size) (by simp) ga sa ta 24)
  have HB0_ := hide (bAlloc HB0.out (.cells #[.bool ga, .string sa, .string ta] 24))
  clear HB0 HV0
  have HV0__ := hide (HV0_.out.pushAt (b := w.heap.size + 1) (by simp) gb sb tb 24)
  have HB0__ := hide (bAlloc HB0_.out (.cells #[.bool gb, .string sb, .string tb] 24))
  clear HB0_ HV0_
  have HV0___ := hide (HV0__.out.pushAt (b := w.heap.size + 2) (by simp) gc sc tc 24)
  have HB0___ := hide (bAlloc HB0__.out (.cells #[.bool gc, .string sc, .string tc] 24))
  clear HB0__ HV0__
  go_wp2_with fail
  refine (HH.out _ (HW.out.below HB0___.out)).mono ?_
  rintro e w1 ⟨rfl, hb⟩
  have HB1 := hide (bStep HB0___.out hb)
  have HV1 := hide (HV0___.out.below hb)
  clear hb HB0___ HV0___
  obtain ⟨c3, c4, c5⟩ := VL.cells3 (b := w.heap.size) (g := ga) (s := sa) (t := ta) HV1.out (by simp)
  obtain ⟨c6, c7, c8⟩ := VL.cells3 (b := w.heap.size + 1) (g := gb) (s := sb) (t := tb) HV1.out (by simp)
  obtain ⟨c9, c10, c11⟩ := VL.cells3 (b := w.heap.size + 2) (g := gc) (s := sc) (t := tc) HV1.out (by simp)
  go_wp2_with fail
  clear c3 c4 c5 c6 c7 c8 c9 c10 c11
  refine (HF.out _ _).mono ?_
  rintro e wf ⟨rfl, rfl⟩
  have HV1_ := hide (VL.below HV1.out (bAlloc (Below.refl _ _) (.cells #[.bool ga, .string sa, .string ta, .bool gb, .string sb, .string tb, .bool gc, .string sc, .string tc] 24)))
  have HB1_ := hide (bAlloc HB1.out (.cells #[.bool ga, .string sa, .string ta, .bool gb, .string sb, .string tb, .bool gc, .string sc, .string tc] 24))
  clear HB1 HV1
  obtain ⟨c12, c13, c14⟩ := VL.cells3 (b := w.heap.size) (g := ga) (s := sa) (t := ta) HV1_.out (by simp)
  obtain ⟨c15, c16, c17⟩ := VL.cells3 (b := w.heap.size + 1) (g := gb) (s := sb) (t := tb) HV1_.out (by simp)
  obtain ⟨c18, c19, c20⟩ := VL.cells3 (b := w.heap.size + 2) (g := gc) (s := sc) (t := tc) HV1_.out (by simp)
  go_wp2_with fail
  clear c12 c13 c14 c15 c16 c17 c18 c19 c20
  refine (HVA.out _ (HW.out.below HB1_.out)).mono ?_
  rintro e w2 ⟨rfl, hb⟩
  have HB2 := hide (bStep HB1_.out hb)
  have HV2 := hide (HV1_.out.below hb)
  clear hb HB1_ HV1_
  obtain ⟨c21, c22, c23⟩ := VL.cells3 (b := w.heap.size) (g := ga) (s := sa) (t := ta) HV2.out (by simp)
  obtain ⟨c24, c25, c26⟩ := VL.cells3 (b := w.heap.size + 1) (g := gb) (s := sb) (t := tb) HV2.out (by simp)
  obtain ⟨c27, c28, c29⟩ := VL.cells3 (b := w.heap.size + 2) (g := gc) (s := sc) (t := tc) HV2.out (by simp)
  go_wp2_with fail
  clear c21 c22 c23 c24 c25 c26 c27 c28 c29
  refine (HVB.out _ (HW.out.below HB2.out)).mono ?_
  rintro e w3 ⟨rfl, hb⟩
  have HB3 := hide (bStep HB2.out hb)
  have HV3 := hide (HV2.out.below hb)
  clear hb HB2 HV2
  obtain ⟨c30, c31, c32⟩ := VL.cells3 (b := w.heap.size) (g := ga) (s := sa) (t := ta) HV3.out (by simp)
  obtain ⟨c33, c34, c35⟩ := VL.cells3 (b := w.heap.size + 1) (g := gb) (s := sb) (t := tb) HV3.out (by simp)
  obtain ⟨c36, c37, c38⟩ := VL.cells3 (b := w.heap.size + 2) (g := gc) (s := sc) (t := tc) HV3.out (by simp)
  go_wp2_with fail
  clear c30 c31 c32 c33 c34 c35 c36 c37 c38
  refine (HVC.out _ (HW.out.below HB3.out)).mono ?_
  rintro e w4 ⟨rfl, hb⟩
  have HB4 := hide (bStep HB3.out hb)
  have HV4 := hide (HV3.out.below hb)
  clear hb HB3 HV3
  go_wp2_with fail
  go_ret
  exact ⟨rfl, HB4.out⟩
theorem cmpQ_swap (p q : Rat) : cmpQ q p = -cmpQ p q := by
  unfold cmpQ
  by_cases h : p < q
  · have h2 : ¬ q < p := by grind
    simp [h, h2]
  · by_cases h2 : q < p <;> simp [h, h2]
theorem cmpQ_bd (p q : Rat) : -1 ≤ cmpQ p q ∧ cmpQ p q ≤ 1 := by
  unfold cmpQ; split <;> (try split) <;> omega
theorem cmpQ_sub (p q : Rat) : cmpQ (p - q) 0 = cmpQ p q := by
  unfold cmpQ
  have e1 : (p - q < 0) = (p < q) := propext (by constructor <;> intro h <;> grind)
  have e2 : (0 < p - q) = (q < p) := propext (by constructor <;> intro h <;> grind)
  simp only [e1, e2]
theorem cmpQ_add (p q r : Rat) : cmpQ (p + r) (q + r) = cmpQ p q := by
  unfold cmpQ
  have e1 : (p + r < q + r) = (p < q) := propext (by constructor <;> intro h <;> grind)
  have e2 : (q + r < p + r) = (q < p) := propext (by constructor <;> intro h <;> grind)
  simp only [e1, e2]
theorem cmpQ_mul (p q r : Rat) (h : 0 < r) : cmpQ (p * r) (q * r) = cmpQ p q := by
  unfold cmpQ
  have e1 : (p * r < q * r) = (p < q) := propext (Rat.mul_lt_mul_right h)
  have e2 : (q * r < p * r) = (q < p) := propext (Rat.mul_lt_mul_right h)
  simp only [e1, e2]

theorem ord_cases (p q r : Rat) : decide (cmpQ p q ≤ 0) = false ∨ (decide (cmpQ p q ≤ 0) = true ∧ decide (cmpQ q r ≤ 0) = false) ∨ (decide (cmpQ p q ≤ 0) = true ∧ decide (cmpQ q r ≤ 0) = true ∧ decide (0 < cmpQ p r) = false) := by
  by_cases h1 : cmpQ p q ≤ 0
  · by_cases h2 : cmpQ q r ≤ 0
    · have h3 : cmpQ p r ≤ 0 := cmpQ_le.2 (Rat.le_trans (cmpQ_le.1 h1) (cmpQ_le.1 h2))
      exact .inr (.inr ⟨decide_eq_true h1, decide_eq_true h2, decide_eq_false (by omega)⟩)
    · exact .inr (.inl ⟨decide_eq_true h1, decide_eq_false h2⟩)
  · exact .inl (decide_eq_false h1)
theorem ord_cases0 (p r : Rat) : (decide (cmpQ p r ≤ 0) = false) ∨ (decide (cmpQ p r ≤ 0) = true ∧ decide (0 < cmpQ p r) = false) := by
  by_cases h1 : cmpQ p r ≤ 0
  · exact .inr ⟨decide_eq_true h1, decide_eq_false (by omega)⟩
  · exact .inl (decide_eq_false h1)
theorem ord_c {r : Rat} {g : Bool} {s t : ByteArray} (h : IsQ r g s t) : (g = true) ∨ (g = false ∧ s = ⟨#[48]⟩ ∧ t = ⟨#[49]⟩) ∨ (g = false ∧ (s.toList == [48]) = false ∧ 0 < r) := by
  have h' := h
  unfold IsQ rqV at h
  simp only [Value.agg.injEq, Array.mk.injEq, List.cons.injEq, Value.bool.injEq, Value.string.injEq, and_true] at h
  obtain ⟨e1, e2, e3⟩ := h
  by_cases h0 : r = 0
  · subst h0
    refine .inr (.inl ⟨?_, ?_, ?_⟩)
    · rw [← e1]; rfl
    · rw [← e2, nmQ_zero.2 rfl, natS_zero]
    · rw [← e3, show (0 : Rat).den = 1 from rfl, natS_one]
  · cases g
    · refine .inr (.inr ⟨rfl, isQ_num h' h0, ?_⟩)
      unfold ngQ at e1
      have hn : ¬ r.num < 0 := of_decide_eq_false e1
      have h1 : 0 ≤ r := Rat.num_nonneg.1 (by omega)
      grind
    · exact .inl rfl
theorem list_inj {s t : ByteArray} (h : (s.toList == t.toList) = true) : s = t := by
  rw [ByteArray.toList_eq, ByteArray.toList_eq] at h
  exact ba_eq (by simpa using h)

set_option maxHeartbeats 8000000 in
set_option maxRecDepth 100000 in
theorem order_eq (p q r : Rat) (ga : Bool) (sa ta : ByteArray) (gc : Bool) (sc tc : ByteArray) (w : World) (hp : Sz 40 p) (hq : Sz 40 q) (hr : Sz 40 r) (ep : IsQ p ga sa ta) (eq : IsQ q ga sa ta) (er : IsQ r gc sc tc) (hne : p = q) (hf : fewQ 40 [(ga, sa, ta), (ga, sa, ta), (gc, sc, tc)] = true) (hw : LawW w) :
    Calls Tryz.prog 7 #[.agg #[.bool ga, .string sa, .string ta], .agg #[.bool ga, .string sa, .string ta], .agg #[.bool gc, .string sc, .string tc]] w fun e w' => e = .returned (.bool true) ∧ Below w.heap.size w w' := by
  have HW := hide hw
  have HF := hide (fun W T => few_three ga sa ta ga sa ta gc sc tc W T)
  rw [hf] at HF
  have HVA := hide (fun W hW => valid_okq hp (by omega) ep W hW)
  have HVB := hide (fun W hW => valid_okq hq (by omega) eq W hW)
  have HVC := hide (fun W hW => valid_okq hr (by omega) er W hW)
  have HAB := hide (fun W hW => cmp_okq hp hq (by omega) (by omega) ep eq W hW)
  have HBA := hide (fun W hW => cmp_okq hq hp (by omega) (by omega) eq ep W hW)
  rw [cmpQ_swap p q] at HBA
  have HBC := hide (fun W hW => cmp_okq hq hr (by omega) (by omega) eq er W hW)
  have HAC := hide (fun W hW => cmp_okq hp hr (by omega) (by omega) ep er W hW)
  obtain ⟨gd, sd, td, ed⟩ := IsQ.get (p - q)
  obtain ⟨gs, ss, ts, es⟩ := IsQ.get (p + r)
  obtain ⟨gt, st, tt, et⟩ := IsQ.get (q + r)
  obtain ⟨gm, sm, tm, em⟩ := IsQ.get (p * r)
  obtain ⟨gn, sn, tn, en⟩ := IsQ.get (q * r)
  have HD := hide (fun W hW => sub_okq hp hq (by omega) rfl ep eq ed W hW)
  have HS := hide (fun W hW => add_okq hp hr (by omega) rfl ep er es W hW)
  have HT := hide (fun W hW => add_okq hq hr (by omega) rfl eq er et W hW)
  have HM := hide (fun W hW => mul_okq hp hr (by omega) rfl ep er em W hW)
  have HN := hide (fun W hW => mul_okq hq hr (by omega) rfl eq er en W hW)
  have HDZ := hide (fun W hW => cmp_okq (hp.sub hq) sz_zero (by omega) (by omega) ed isQ_zero W hW)
  have HST := hide (fun W hW => cmp_okq (hp.add hr) (hq.add hr) (by omega) (by omega) es et W hW)
  have HMN0 := hide (fun W hW => cmp_okq (hp.mul hr) (hq.mul hr) (by omega) (by omega) em en W hW)
  rw [cmpQ_sub] at HDZ
  rw [cmpQ_add] at HST
  have HZ : Hid ((gc = true) ∨ (gc = false ∧ sc = ⟨#[48]⟩ ∧ tc = ⟨#[49]⟩) ∨ (gc = false ∧ (sc.toList == [48]) = false)) := by
    rcases ord_c er with h | h | ⟨h1, h2, h3⟩
    · exact .inl h
    · exact .inr (.inl h)
    · exact .inr (.inr ⟨h1, h2⟩)
  subst hne
  have HYZ : Hid ((decide (cmpQ p r ≤ 0) = false) ∨ (decide (cmpQ p r ≤ 0) = true ∧ decide (0 < cmpQ p r) = false)) := ord_cases0 p r
  rw [cmpQ_eq] at HAB HBA HDZ HST HMN0
  have g0 : IntKind.i64.wrap 0 = 0 := IntWalk.i64_in _ (by omega)
  obtain ⟨y, hy⟩ : ∃ y, cmpQ p r = y := ⟨_, rfl⟩
  rw [hy] at HBC HYZ
  rw [hy] at HAC
  have HH := hide (fun W hW => law04_head W hW)
  have HB0 : Hid (Below w.heap.size w w) := Below.refl _ _
  have HV0 : Hid (VL w []) := VL.nil w
  clear hp hq hr ep eq er ed es et em en hf hw hy
  go_enter Tryz.func7, Tryz.ntmps7
  have HV0_ := hide (HV0.out.pushAt (b := w.heap.size) (by simp) ga sa ta 24)
  have HB0_ := hide (bAlloc HB0.out (.cells #[.bool ga, .string sa, .string ta] 24))
  clear HB0 HV0
  have HV0__ := hide (HV0_.out.pushAt (b := w.heap.size + 1) (by simp) ga sa ta 24)
  have HB0__ := hide (bAlloc HB0_.out (.cells #[.bool ga, .string sa, .string ta] 24))
  clear HB0_ HV0_
  have HV0___ := hide (HV0__.out.pushAt (b := w.heap.size + 2) (by simp) gc sc tc 24)
  have HB0___ := hide (bAlloc HB0__.out (.cells #[.bool gc, .string sc, .string tc] 24))
  clear HB0__ HV0__
  go_wp2_with fail
  refine (HH.out _ (HW.out.below HB0___.out)).mono ?_
  rintro e w1 ⟨rfl, hb⟩
  have HB1 := hide (bStep HB0___.out hb)
  have HV1 := hide (HV0___.out.below hb)
  clear hb HB0___ HV0___
  obtain ⟨c3, c4, c5⟩ := VL.cells3 (b := w.heap.size) (g := ga) (s := sa) (t := ta) HV1.out (by simp)
  obtain ⟨c6, c7, c8⟩ := VL.cells3 (b := w.heap.size + 1) (g := ga) (s := sa) (t := ta) HV1.out (by simp)
  obtain ⟨c9, c10, c11⟩ := VL.cells3 (b := w.heap.size + 2) (g := gc) (s := sc) (t := tc) HV1.out (by simp)
  go_wp2_with fail
  clear c3 c4 c5 c6 c7 c8 c9 c10 c11
  refine (HF.out _ _).mono ?_
  rintro e wf ⟨rfl, rfl⟩
  have HV1_ := hide (VL.below HV1.out (bAlloc (Below.refl _ _) (.cells #[.bool ga, .string sa, .string ta, .bool ga, .string sa, .string ta, .bool gc, .string sc, .string tc] 24)))
  have HB1_ := hide (bAlloc HB1.out (.cells #[.bool ga, .string sa, .string ta, .bool ga, .string sa, .string ta, .bool gc, .string sc, .string tc] 24))
  clear HB1 HV1
  obtain ⟨c12, c13, c14⟩ := VL.cells3 (b := w.heap.size) (g := ga) (s := sa) (t := ta) HV1_.out (by simp)
  obtain ⟨c15, c16, c17⟩ := VL.cells3 (b := w.heap.size + 1) (g := ga) (s := sa) (t := ta) HV1_.out (by simp)
  obtain ⟨c18, c19, c20⟩ := VL.cells3 (b := w.heap.size + 2) (g := gc) (s := sc) (t := tc) HV1_.out (by simp)
  go_wp2_with fail
  clear c12 c13 c14 c15 c16 c17 c18 c19 c20
  refine (HVA.out _ (HW.out.below HB1_.out)).mono ?_
  rintro e w2 ⟨rfl, hb⟩
  have HB2 := hide (bStep HB1_.out hb)
  have HV2 := hide (HV1_.out.below hb)
  clear hb HB1_ HV1_
  obtain ⟨c21, c22, c23⟩ := VL.cells3 (b := w.heap.size) (g := ga) (s := sa) (t := ta) HV2.out (by simp)
  obtain ⟨c24, c25, c26⟩ := VL.cells3 (b := w.heap.size + 1) (g := ga) (s := sa) (t := ta) HV2.out (by simp)
  obtain ⟨c27, c28, c29⟩ := VL.cells3 (b := w.heap.size + 2) (g := gc) (s := sc) (t := tc) HV2.out (by simp)
  go_wp2_with fail
  clear c21 c22 c23 c24 c25 c26 c27 c28 c29
  refine (HVB.out _ (HW.out.below HB2.out)).mono ?_
  rintro e w3 ⟨rfl, hb⟩
  have HB3 := hide (bStep HB2.out hb)
  have HV3 := hide (HV2.out.below hb)
  clear hb HB2 HV2
  obtain ⟨c30, c31, c32⟩ := VL.cells3 (b := w.heap.size) (g := ga) (s := sa) (t := ta) HV3.out (by simp)
  obtain ⟨c33, c34, c35⟩ := VL.cells3 (b := w.heap.size + 1) (g := ga) (s := sa) (t := ta) HV3.out (by simp)
  obtain ⟨c36, c37, c38⟩ := VL.cells3 (b := w.heap.size + 2) (g := gc) (s := sc) (t := tc) HV3.out (by simp)
  go_wp2_with fail
  clear c30 c31 c32 c33 c34 c35 c36 c37 c38
  refine (HVC.out _ (HW.out.below HB3.out)).mono ?_
  rintro e w4 ⟨rfl, hb⟩
  have HB4 := hide (bStep HB3.out hb)
  have HV4 := hide (HV3.out.below hb)
  clear hb HB3 HV3
  go_wp2_with fail
  refine (law04_rat _ _ _ _).mono ?_
  rintro e w5 ⟨rfl, hb⟩
  have HB5 := hide (bStep HB4.out hb)
  have HV5 := hide (HV4.out.below hb)
  clear hb HB4 HV4
  have HV5_ := hide (HV5.out.pushAt (b := w5.heap.size) (by simp) false ⟨#[48]⟩ ⟨#[49]⟩ 24)
  have HB5_ := hide (bAlloc HB5.out (.cells #[.bool false, .string ⟨#[48]⟩, .string ⟨#[49]⟩] 24))
  clear HB5 HV5
  obtain ⟨c39, c40, c41⟩ := VL.cells3 (b := w.heap.size) (g := ga) (s := sa) (t := ta) HV5_.out (by simp)
  obtain ⟨c42, c43, c44⟩ := VL.cells3 (b := w.heap.size + 1) (g := ga) (s := sa) (t := ta) HV5_.out (by simp)
  go_wp2_with fail
  clear c39 c40 c41 c42 c43 c44
  refine (HAB.out _ (HW.out.below HB5_.out)).mono ?_
  rintro e w6 ⟨rfl, hb⟩
  have HB6 := hide (bStep HB5_.out hb)
  have HV6 := hide (HV5_.out.below hb)
  clear hb HB5_ HV5_
  obtain ⟨c45, c46, c47⟩ := VL.cells3 (b := w.heap.size + 1) (g := ga) (s := sa) (t := ta) HV6.out (by simp)
  obtain ⟨c48, c49, c50⟩ := VL.cells3 (b := w.heap.size + 2) (g := gc) (s := sc) (t := tc) HV6.out (by simp)
  go_wp2_with fail
  clear c45 c46 c47 c48 c49 c50
  refine (HBC.out _ (HW.out.below HB6.out)).mono ?_
  rintro e w7 ⟨rfl, hb⟩
  have HB7 := hide (bStep HB6.out hb)
  have HV7 := hide (HV6.out.below hb)
  clear hb HB6 HV6
  obtain ⟨NA, hsA⟩ : ∃ N, VS w N w7 [(w5.heap.size, false, ⟨#[48]⟩, ⟨#[49]⟩), (w.heap.size + 2, gc, sc, tc), (w.heap.size + 1, ga, sa, ta), (w.heap.size, ga, sa, ta)] := ⟨_, VS.start HB7.out HV7.out⟩
  clear HB7 HV7
  have HSA := hide hsA
  clear hsA
  go_upto_region 7 with fail
  go_cut [86] (fun z86 wx => z86 = .bool false ∧ VS w NA wx [(w5.heap.size, false, ⟨#[48]⟩, ⟨#[49]⟩), (w.heap.size + 2, gc, sc, tc), (w.heap.size + 1, ga, sa, ta), (w.heap.size, ga, sa, ta)])
  case first =>
    have HBf := hide HSA.out.bel
    have HVf := hide HSA.out.vl
    obtain ⟨c51, c52, c53⟩ := VL.cells3 (b := w.heap.size) (g := ga) (s := sa) (t := ta) HVf.out (by simp)
    obtain ⟨c54, c55, c56⟩ := VL.cells3 (b := w.heap.size + 1) (g := ga) (s := sa) (t := ta) HVf.out (by simp)
    go_wp2_with fail
    clear c51 c52 c53 c54 c55 c56
    refine (HBA.out _ (HW.out.below HBf.out)).mono ?_
    rintro e wg ⟨rfl, hb⟩
    have HSB := hide (HSA.out.below hb)
    clear hb HBf HVf HSA
    have HBg := hide HSB.out.bel
    have HVg := hide HSB.out.vl
    obtain ⟨c57, c58, c59⟩ := VL.cells3 (b := w.heap.size) (g := ga) (s := sa) (t := ta) HVg.out (by simp)
    obtain ⟨c60, c61, c62⟩ := VL.cells3 (b := w.heap.size + 1) (g := ga) (s := sa) (t := ta) HVg.out (by simp)
    obtain ⟨c63, c64, c65⟩ := VL.cells3 (b := w.heap.size + 2) (g := gc) (s := sc) (t := tc) HVg.out (by simp)
    rcases HYZ.out with h1 | ⟨h1, h2⟩
    · go_wp2_with fail
      go_meet
      exact ⟨rfl, HSB.out⟩
    · go_wp2_with fail
      refine (HAC.out _ (HW.out.below HBg.out)).mono ?_
      rintro e wh ⟨rfl, hb⟩
      have HSC := hide (HSB.out.below hb)
      clear hb
      go_wp2_with fail
      go_meet
      exact ⟨rfl, HSC.out⟩
  case rest =>
  obtain ⟨rfl, hsC⟩ := hcut
  have HBc := hide hsC.bel
  have HVc := hide hsC.vl
  clear hsC HSA
  obtain ⟨c66, c67, c68⟩ := VL.cells3 (b := w.heap.size) (g := ga) (s := sa) (t := ta) HVc.out (by simp)
  obtain ⟨c69, c70, c71⟩ := VL.cells3 (b := w.heap.size + 1) (g := ga) (s := sa) (t := ta) HVc.out (by simp)
  go_wp2_with fail
  clear c66 c67 c68 c69 c70 c71
  refine (HD.out _ (HW.out.below HBc.out)).mono ?_
  rintro e w8 ⟨rfl, hb⟩
  have HB8 := hide (bStep HBc.out hb)
  have HV8 := hide (HVc.out.below hb)
  clear hb HBc HVc
  have HV8_ := hide (HV8.out.pushAt (b := w8.heap.size) (by simp) gd sd td 24)
  have HB8_ := hide (bAlloc HB8.out (.cells #[.bool gd, .string sd, .string td] 24))
  clear HB8 HV8
  obtain ⟨c72, c73, c74⟩ := VL.cells3 (b := w.heap.size) (g := ga) (s := sa) (t := ta) HV8_.out (by simp)
  obtain ⟨c75, c76, c77⟩ := VL.cells3 (b := w.heap.size + 2) (g := gc) (s := sc) (t := tc) HV8_.out (by simp)
  go_wp2_with fail
  clear c72 c73 c74 c75 c76 c77
  refine (HS.out _ (HW.out.below HB8_.out)).mono ?_
  rintro e w9 ⟨rfl, hb⟩
  have HB9 := hide (bStep HB8_.out hb)
  have HV9 := hide (HV8_.out.below hb)
  clear hb HB8_ HV8_
  have HV9_ := hide (HV9.out.pushAt (b := w9.heap.size) (by simp) gs ss ts 24)
  have HB9_ := hide (bAlloc HB9.out (.cells #[.bool gs, .string ss, .string ts] 24))
  clear HB9 HV9
  obtain ⟨c78, c79, c80⟩ := VL.cells3 (b := w.heap.size + 1) (g := ga) (s := sa) (t := ta) HV9_.out (by simp)
  obtain ⟨c81, c82, c83⟩ := VL.cells3 (b := w.heap.size + 2) (g := gc) (s := sc) (t := tc) HV9_.out (by simp)
  go_wp2_with fail
  clear c78 c79 c80 c81 c82 c83
  refine (HT.out _ (HW.out.below HB9_.out)).mono ?_
  rintro e w10 ⟨rfl, hb⟩
  have HB10 := hide (bStep HB9_.out hb)
  have HV10 := hide (HV9_.out.below hb)
  clear hb HB9_ HV9_
  have HV10_ := hide (HV10.out.pushAt (b := w10.heap.size) (by simp) gt st tt 24)
  have HB10_ := hide (bAlloc HB10.out (.cells #[.bool gt, .string st, .string tt] 24))
  clear HB10 HV10
  obtain ⟨c84, c85, c86⟩ := VL.cells3 (b := w.heap.size) (g := ga) (s := sa) (t := ta) HV10_.out (by simp)
  obtain ⟨c87, c88, c89⟩ := VL.cells3 (b := w.heap.size + 2) (g := gc) (s := sc) (t := tc) HV10_.out (by simp)
  go_wp2_with fail
  clear c84 c85 c86 c87 c88 c89
  refine (HM.out _ (HW.out.below HB10_.out)).mono ?_
  rintro e w11 ⟨rfl, hb⟩
  have HB11 := hide (bStep HB10_.out hb)
  have HV11 := hide (HV10_.out.below hb)
  clear hb HB10_ HV10_
  have HV11_ := hide (HV11.out.pushAt (b := w11.heap.size) (by simp) gm sm tm 24)
  have HB11_ := hide (bAlloc HB11.out (.cells #[.bool gm, .string sm, .string tm] 24))
  clear HB11 HV11
  obtain ⟨c90, c91, c92⟩ := VL.cells3 (b := w.heap.size + 1) (g := ga) (s := sa) (t := ta) HV11_.out (by simp)
  obtain ⟨c93, c94, c95⟩ := VL.cells3 (b := w.heap.size + 2) (g := gc) (s := sc) (t := tc) HV11_.out (by simp)
  go_wp2_with fail
  clear c90 c91 c92 c93 c94 c95
  refine (HN.out _ (HW.out.below HB11_.out)).mono ?_
  rintro e w12 ⟨rfl, hb⟩
  have HB12 := hide (bStep HB11_.out hb)
  have HV12 := hide (HV11_.out.below hb)
  clear hb HB11_ HV11_
  have HV12_ := hide (HV12.out.pushAt (b := w12.heap.size) (by simp) gn sn tn 24)
  have HB12_ := hide (bAlloc HB12.out (.cells #[.bool gn, .string sn, .string tn] 24))
  clear HB12 HV12
  obtain ⟨c96, c97, c98⟩ := VL.cells3 (b := w8.heap.size) (g := gd) (s := sd) (t := td) HV12_.out (by simp)
  obtain ⟨c99, c100, c101⟩ := VL.cells3 (b := w5.heap.size) (g := false) (s := ⟨#[48]⟩) (t := ⟨#[49]⟩) HV12_.out (by simp)
  go_wp2_with fail
  clear c96 c97 c98 c99 c100 c101
  refine (HDZ.out _ (HW.out.below HB12_.out)).mono ?_
  rintro e w13 ⟨rfl, hb⟩
  have HB13 := hide (bStep HB12_.out hb)
  have HV13 := hide (HV12_.out.below hb)
  clear hb HB12_ HV12_
  obtain ⟨c102, c103, c104⟩ := VL.cells3 (b := w9.heap.size) (g := gs) (s := ss) (t := ts) HV13.out (by simp)
  obtain ⟨c105, c106, c107⟩ := VL.cells3 (b := w10.heap.size) (g := gt) (s := st) (t := tt) HV13.out (by simp)
  go_wp2_with fail
  clear c102 c103 c104 c105 c106 c107
  refine (HST.out _ (HW.out.below HB13.out)).mono ?_
  rintro e w14 ⟨rfl, hb⟩
  have HB14 := hide (bStep HB13.out hb)
  have HV14 := hide (HV13.out.below hb)
  clear hb HB13 HV13
  obtain ⟨c108, c109, c110⟩ := VL.cells3 (b := w.heap.size + 2) (g := gc) (s := sc) (t := tc) HV14.out (by simp)
  obtain ⟨c111, c112, c113⟩ := VL.cells3 (b := w5.heap.size) (g := false) (s := ⟨#[48]⟩) (t := ⟨#[49]⟩) HV14.out (by simp)
  obtain ⟨c114, c115, c116⟩ := VL.cells3 (b := w11.heap.size) (g := gm) (s := sm) (t := tm) HV14.out (by simp)
  obtain ⟨c117, c118, c119⟩ := VL.cells3 (b := w12.heap.size) (g := gn) (s := sn) (t := tn) HV14.out (by simp)
  rcases HZ.out with rfl | ⟨rfl, rfl, rfl⟩ | ⟨rfl, h2⟩
  · go_wp2_with fail
    go_ret
    exact ⟨rfl, HB14.out⟩
  · go_wp2_with fail
    go_ret
    exact ⟨rfl, HB14.out⟩
  · clear HZ
    go_wp2_with fail
    refine (HMN0.out _ (HW.out.below HB14.out)).mono ?_
    rintro e wz ⟨rfl, hb⟩
    have HBz := hide (bStep HB14.out hb)
    clear hb
    go_wp2_with fail
    go_ret
    exact ⟨rfl, HBz.out⟩
set_option maxHeartbeats 8000000 in
set_option maxRecDepth 100000 in
theorem order_neA (p q r : Rat) (ga : Bool) (sa ta sb tb : ByteArray) (gc : Bool) (sc tc : ByteArray) (fs : (sa.toList == sb.toList) = false) (w : World) (hp : Sz 40 p) (hq : Sz 40 q) (hr : Sz 40 r) (ep : IsQ p ga sa ta) (eq : IsQ q ga sb tb) (er : IsQ r gc sc tc) (hne : p ≠ q) (hf : fewQ 40 [(ga, sa, ta), (ga, sb, tb), (gc, sc, tc)] = true) (hw : LawW w) :
    Calls Tryz.prog 7 #[.agg #[.bool ga, .string sa, .string ta], .agg #[.bool ga, .string sb, .string tb], .agg #[.bool gc, .string sc, .string tc]] w fun e w' => e = .returned (.bool true) ∧ Below w.heap.size w w' := by
  have HW := hide hw
  have HF := hide (fun W T => few_three ga sa ta ga sb tb gc sc tc W T)
  rw [hf] at HF
  have HVA := hide (fun W hW => valid_okq hp (by omega) ep W hW)
  have HVB := hide (fun W hW => valid_okq hq (by omega) eq W hW)
  have HVC := hide (fun W hW => valid_okq hr (by omega) er W hW)
  have HAB := hide (fun W hW => cmp_okq hp hq (by omega) (by omega) ep eq W hW)
  have HBA := hide (fun W hW => cmp_okq hq hp (by omega) (by omega) eq ep W hW)
  rw [cmpQ_swap p q] at HBA
  have HBC := hide (fun W hW => cmp_okq hq hr (by omega) (by omega) eq er W hW)
  have HAC := hide (fun W hW => cmp_okq hp hr (by omega) (by omega) ep er W hW)
  obtain ⟨gd, sd, td, ed⟩ := IsQ.get (p - q)
  obtain ⟨gs, ss, ts, es⟩ := IsQ.get (p + r)
  obtain ⟨gt, st, tt, et⟩ := IsQ.get (q + r)
  obtain ⟨gm, sm, tm, em⟩ := IsQ.get (p * r)
  obtain ⟨gn, sn, tn, en⟩ := IsQ.get (q * r)
  have HD := hide (fun W hW => sub_okq hp hq (by omega) rfl ep eq ed W hW)
  have HS := hide (fun W hW => add_okq hp hr (by omega) rfl ep er es W hW)
  have HT := hide (fun W hW => add_okq hq hr (by omega) rfl eq er et W hW)
  have HM := hide (fun W hW => mul_okq hp hr (by omega) rfl ep er em W hW)
  have HN := hide (fun W hW => mul_okq hq hr (by omega) rfl eq er en W hW)
  have HDZ := hide (fun W hW => cmp_okq (hp.sub hq) sz_zero (by omega) (by omega) ed isQ_zero W hW)
  have HST := hide (fun W hW => cmp_okq (hp.add hr) (hq.add hr) (by omega) (by omega) es et W hW)
  have HMN0 := hide (fun W hW => cmp_okq (hp.mul hr) (hq.mul hr) (by omega) (by omega) em en W hW)
  rw [cmpQ_sub] at HDZ
  rw [cmpQ_add] at HST
  have HZ : Hid ((gc = true) ∨ (gc = false ∧ sc = ⟨#[48]⟩ ∧ tc = ⟨#[49]⟩) ∨ (gc = false ∧ (sc.toList == [48]) = false ∧ cmpQ (p * r) (q * r) = cmpQ p q)) := by
    rcases ord_c er with h | h | ⟨h1, h2, h3⟩
    · exact .inl h
    · exact .inr (.inl h)
    · exact .inr (.inr ⟨h1, h2, cmpQ_mul p q r h3⟩)
  have HYZ : Hid (decide (cmpQ p q ≤ 0) = false ∨ (decide (cmpQ p q ≤ 0) = true ∧ decide (cmpQ q r ≤ 0) = false) ∨ (decide (cmpQ p q ≤ 0) = true ∧ decide (cmpQ q r ≤ 0) = true ∧ decide (0 < cmpQ p r) = false)) := ord_cases p q r
  have b1 := cmpQ_bd p q
  have b0 : cmpQ p q ≠ 0 := fun h => hne (cmpQ_zero.1 h)
  obtain ⟨y, hy⟩ : ∃ y, cmpQ q r = y := ⟨_, rfl⟩
  rw [hy] at HBC HYZ
  obtain ⟨m, hm⟩ : ∃ m, cmpQ (p * r) (q * r) = m := ⟨_, rfl⟩
  rw [hm] at HMN0 HZ
  obtain ⟨z, hz⟩ : ∃ z, cmpQ p r = z := ⟨_, rfl⟩
  obtain ⟨x, hx⟩ : ∃ x, cmpQ p q = x := ⟨_, rfl⟩
  rw [hz] at HAC HYZ
  rw [hx] at HAB HBA HYZ HDZ HST HZ b1 b0
  have f1 : (x == 0) = false := by simpa using b0
  have f2 : decide (x = 0) = false := decide_eq_false b0
  have f3 : decide (x < -1) = false := decide_eq_false (by omega)
  have f4 : decide (1 < x) = false := decide_eq_false (by omega)
  have f5 : IntKind.i64.wrap (-x) = -x := IntWalk.i64_in _ (by omega)
  have HH := hide (fun W hW => law04_head W hW)
  have HB0 : Hid (Below w.heap.size w w) := Below.refl _ _
  have HV0 : Hid (VL w []) := VL.nil w
  clear hp hq hr ep eq er ed es et em en hf hw hy hm hne hz hx b0 b1
  go_enter Tryz.func7, Tryz.ntmps7
  have HV0_ := hide (HV0.out.pushAt (b := w.heap.size) (by simp) ga sa ta 24)
  have HB0_ := hide (bAlloc HB0.out (.cells #[.bool ga, .string sa, .string ta] 24))
  clear HB0 HV0
  have HV0__ := hide (HV0_.out.pushAt (b := w.heap.size + 1) (by simp) ga sb tb 24)
  have HB0__ := hide (bAlloc HB0_.out (.cells #[.bool ga, .string sb, .string tb] 24))
  clear HB0_ HV0_
  have HV0___ := hide (HV0__.out.pushAt (b := w.heap.size + 2) (by simp) gc sc tc 24)
  have HB0___ := hide (bAlloc HB0__.out (.cells #[.bool gc, .string sc, .string tc] 24))
  clear HB0__ HV0__
  go_wp2_with fail
  refine (HH.out _ (HW.out.below HB0___.out)).mono ?_
  rintro e w1 ⟨rfl, hb⟩
  have HB1 := hide (bStep HB0___.out hb)
  have HV1 := hide (HV0___.out.below hb)
  clear hb HB0___ HV0___
  obtain ⟨c3, c4, c5⟩ := VL.cells3 (b := w.heap.size) (g := ga) (s := sa) (t := ta) HV1.out (by simp)
  obtain ⟨c6, c7, c8⟩ := VL.cells3 (b := w.heap.size + 1) (g := ga) (s := sb) (t := tb) HV1.out (by simp)
  obtain ⟨c9, c10, c11⟩ := VL.cells3 (b := w.heap.size + 2) (g := gc) (s := sc) (t := tc) HV1.out (by simp)
  go_wp2_with fail
  clear c3 c4 c5 c6 c7 c8 c9 c10 c11
  refine (HF.out _ _).mono ?_
  rintro e wf ⟨rfl, rfl⟩
  have HV1_ := hide (VL.below HV1.out (bAlloc (Below.refl _ _) (.cells #[.bool ga, .string sa, .string ta, .bool ga, .string sb, .string tb, .bool gc, .string sc, .string tc] 24)))
  have HB1_ := hide (bAlloc HB1.out (.cells #[.bool ga, .string sa, .string ta, .bool ga, .string sb, .string tb, .bool gc, .string sc, .string tc] 24))
  clear HB1 HV1
  obtain ⟨c12, c13, c14⟩ := VL.cells3 (b := w.heap.size) (g := ga) (s := sa) (t := ta) HV1_.out (by simp)
  obtain ⟨c15, c16, c17⟩ := VL.cells3 (b := w.heap.size + 1) (g := ga) (s := sb) (t := tb) HV1_.out (by simp)
  obtain ⟨c18, c19, c20⟩ := VL.cells3 (b := w.heap.size + 2) (g := gc) (s := sc) (t := tc) HV1_.out (by simp)
  go_wp2_with fail
  clear c12 c13 c14 c15 c16 c17 c18 c19 c20
  refine (HVA.out _ (HW.out.below HB1_.out)).mono ?_
  rintro e w2 ⟨rfl, hb⟩
  have HB2 := hide (bStep HB1_.out hb)
  have HV2 := hide (HV1_.out.below hb)
  clear hb HB1_ HV1_
  obtain ⟨c21, c22, c23⟩ := VL.cells3 (b := w.heap.size) (g := ga) (s := sa) (t := ta) HV2.out (by simp)
  obtain ⟨c24, c25, c26⟩ := VL.cells3 (b := w.heap.size + 1) (g := ga) (s := sb) (t := tb) HV2.out (by simp)
  obtain ⟨c27, c28, c29⟩ := VL.cells3 (b := w.heap.size + 2) (g := gc) (s := sc) (t := tc) HV2.out (by simp)
  go_wp2_with fail
  clear c21 c22 c23 c24 c25 c26 c27 c28 c29
  refine (HVB.out _ (HW.out.below HB2.out)).mono ?_
  rintro e w3 ⟨rfl, hb⟩
  have HB3 := hide (bStep HB2.out hb)
  have HV3 := hide (HV2.out.below hb)
  clear hb HB2 HV2
  obtain ⟨c30, c31, c32⟩ := VL.cells3 (b := w.heap.size) (g := ga) (s := sa) (t := ta) HV3.out (by simp)
  obtain ⟨c33, c34, c35⟩ := VL.cells3 (b := w.heap.size + 1) (g := ga) (s := sb) (t := tb) HV3.out (by simp)
  obtain ⟨c36, c37, c38⟩ := VL.cells3 (b := w.heap.size + 2) (g := gc) (s := sc) (t := tc) HV3.out (by simp)
  go_wp2_with fail
  clear c30 c31 c32 c33 c34 c35 c36 c37 c38
  refine (HVC.out _ (HW.out.below HB3.out)).mono ?_
  rintro e w4 ⟨rfl, hb⟩
  have HB4 := hide (bStep HB3.out hb)
  have HV4 := hide (HV3.out.below hb)
  clear hb HB3 HV3
  go_wp2_with fail
  refine (law04_rat _ _ _ _).mono ?_
  rintro e w5 ⟨rfl, hb⟩
  have HB5 := hide (bStep HB4.out hb)
  have HV5 := hide (HV4.out.below hb)
  clear hb HB4 HV4
  have HV5_ := hide (HV5.out.pushAt (b := w5.heap.size) (by simp) false ⟨#[48]⟩ ⟨#[49]⟩ 24)
  have HB5_ := hide (bAlloc HB5.out (.cells #[.bool false, .string ⟨#[48]⟩, .string ⟨#[49]⟩] 24))
  clear HB5 HV5
  obtain ⟨c39, c40, c41⟩ := VL.cells3 (b := w.heap.size) (g := ga) (s := sa) (t := ta) HV5_.out (by simp)
  obtain ⟨c42, c43, c44⟩ := VL.cells3 (b := w.heap.size + 1) (g := ga) (s := sb) (t := tb) HV5_.out (by simp)
  go_wp2_with fail
  clear c39 c40 c41 c42 c43 c44
  refine (HAB.out _ (HW.out.below HB5_.out)).mono ?_
  rintro e w6 ⟨rfl, hb⟩
  have HB6 := hide (bStep HB5_.out hb)
  have HV6 := hide (HV5_.out.below hb)
  clear hb HB5_ HV5_
  obtain ⟨c45, c46, c47⟩ := VL.cells3 (b := w.heap.size + 1) (g := ga) (s := sb) (t := tb) HV6.out (by simp)
  obtain ⟨c48, c49, c50⟩ := VL.cells3 (b := w.heap.size + 2) (g := gc) (s := sc) (t := tc) HV6.out (by simp)
  go_wp2_with fail
  clear c45 c46 c47 c48 c49 c50
  refine (HBC.out _ (HW.out.below HB6.out)).mono ?_
  rintro e w7 ⟨rfl, hb⟩
  have HB7 := hide (bStep HB6.out hb)
  have HV7 := hide (HV6.out.below hb)
  clear hb HB6 HV6
  obtain ⟨NA, hsA⟩ : ∃ N, VS w N w7 [(w5.heap.size, false, ⟨#[48]⟩, ⟨#[49]⟩), (w.heap.size + 2, gc, sc, tc), (w.heap.size + 1, ga, sb, tb), (w.heap.size, ga, sa, ta)] := ⟨_, VS.start HB7.out HV7.out⟩
  clear HB7 HV7
  have HSA := hide hsA
  clear hsA
  go_upto_region 7 with fail
  go_cut [86] (fun z86 wx => z86 = .bool false ∧ VS w NA wx [(w5.heap.size, false, ⟨#[48]⟩, ⟨#[49]⟩), (w.heap.size + 2, gc, sc, tc), (w.heap.size + 1, ga, sb, tb), (w.heap.size, ga, sa, ta)])
  case first =>
    have HBf := hide HSA.out.bel
    have HVf := hide HSA.out.vl
    obtain ⟨c51, c52, c53⟩ := VL.cells3 (b := w.heap.size) (g := ga) (s := sa) (t := ta) HVf.out (by simp)
    obtain ⟨c54, c55, c56⟩ := VL.cells3 (b := w.heap.size + 1) (g := ga) (s := sb) (t := tb) HVf.out (by simp)
    go_wp2_with fail
    clear c51 c52 c53 c54 c55 c56
    refine (HBA.out _ (HW.out.below HBf.out)).mono ?_
    rintro e wg ⟨rfl, hb⟩
    have HSB := hide (HSA.out.below hb)
    clear hb HBf HVf HSA
    have HBg := hide HSB.out.bel
    have HVg := hide HSB.out.vl
    obtain ⟨c57, c58, c59⟩ := VL.cells3 (b := w.heap.size) (g := ga) (s := sa) (t := ta) HVg.out (by simp)
    obtain ⟨c60, c61, c62⟩ := VL.cells3 (b := w.heap.size + 1) (g := ga) (s := sb) (t := tb) HVg.out (by simp)
    obtain ⟨c63, c64, c65⟩ := VL.cells3 (b := w.heap.size + 2) (g := gc) (s := sc) (t := tc) HVg.out (by simp)
    rcases HYZ.out with h1 | ⟨h1, h2⟩ | ⟨h1, h2, h3⟩
    · go_wp2_with fail
      go_meet
      exact ⟨rfl, HSB.out⟩
    · go_wp2_with fail
      go_meet
      exact ⟨rfl, HSB.out⟩
    · go_wp2_with fail
      refine (HAC.out _ (HW.out.below HBg.out)).mono ?_
      rintro e wh ⟨rfl, hb⟩
      have HSC := hide (HSB.out.below hb)
      clear hb
      go_wp2_with fail
      go_meet
      exact ⟨rfl, HSC.out⟩
  case rest =>
  obtain ⟨rfl, hsC⟩ := hcut
  have HBc := hide hsC.bel
  have HVc := hide hsC.vl
  clear hsC HSA
  obtain ⟨c66, c67, c68⟩ := VL.cells3 (b := w.heap.size) (g := ga) (s := sa) (t := ta) HVc.out (by simp)
  obtain ⟨c69, c70, c71⟩ := VL.cells3 (b := w.heap.size + 1) (g := ga) (s := sb) (t := tb) HVc.out (by simp)
  go_wp2_with fail
  clear c66 c67 c68 c69 c70 c71
  refine (HD.out _ (HW.out.below HBc.out)).mono ?_
  rintro e w8 ⟨rfl, hb⟩
  have HB8 := hide (bStep HBc.out hb)
  have HV8 := hide (HVc.out.below hb)
  clear hb HBc HVc
  have HV8_ := hide (HV8.out.pushAt (b := w8.heap.size) (by simp) gd sd td 24)
  have HB8_ := hide (bAlloc HB8.out (.cells #[.bool gd, .string sd, .string td] 24))
  clear HB8 HV8
  obtain ⟨c72, c73, c74⟩ := VL.cells3 (b := w.heap.size) (g := ga) (s := sa) (t := ta) HV8_.out (by simp)
  obtain ⟨c75, c76, c77⟩ := VL.cells3 (b := w.heap.size + 2) (g := gc) (s := sc) (t := tc) HV8_.out (by simp)
  go_wp2_with fail
  clear c72 c73 c74 c75 c76 c77
  refine (HS.out _ (HW.out.below HB8_.out)).mono ?_
  rintro e w9 ⟨rfl, hb⟩
  have HB9 := hide (bStep HB8_.out hb)
  have HV9 := hide (HV8_.out.below hb)
  clear hb HB8_ HV8_
  have HV9_ := hide (HV9.out.pushAt (b := w9.heap.size) (by simp) gs ss ts 24)
  have HB9_ := hide (bAlloc HB9.out (.cells #[.bool gs, .string ss, .string ts] 24))
  clear HB9 HV9
  obtain ⟨c78, c79, c80⟩ := VL.cells3 (b := w.heap.size + 1) (g := ga) (s := sb) (t := tb) HV9_.out (by simp)
  obtain ⟨c81, c82, c83⟩ := VL.cells3 (b := w.heap.size + 2) (g := gc) (s := sc) (t := tc) HV9_.out (by simp)
  go_wp2_with fail
  clear c78 c79 c80 c81 c82 c83
  refine (HT.out _ (HW.out.below HB9_.out)).mono ?_
  rintro e w10 ⟨rfl, hb⟩
  have HB10 := hide (bStep HB9_.out hb)
  have HV10 := hide (HV9_.out.below hb)
  clear hb HB9_ HV9_
  have HV10_ := hide (HV10.out.pushAt (b := w10.heap.size) (by simp) gt st tt 24)
  have HB10_ := hide (bAlloc HB10.out (.cells #[.bool gt, .string st, .string tt] 24))
  clear HB10 HV10
  obtain ⟨c84, c85, c86⟩ := VL.cells3 (b := w.heap.size) (g := ga) (s := sa) (t := ta) HV10_.out (by simp)
  obtain ⟨c87, c88, c89⟩ := VL.cells3 (b := w.heap.size + 2) (g := gc) (s := sc) (t := tc) HV10_.out (by simp)
  go_wp2_with fail
  clear c84 c85 c86 c87 c88 c89
  refine (HM.out _ (HW.out.below HB10_.out)).mono ?_
  rintro e w11 ⟨rfl, hb⟩
  have HB11 := hide (bStep HB10_.out hb)
  have HV11 := hide (HV10_.out.below hb)
  clear hb HB10_ HV10_
  have HV11_ := hide (HV11.out.pushAt (b := w11.heap.size) (by simp) gm sm tm 24)
  have HB11_ := hide (bAlloc HB11.out (.cells #[.bool gm, .string sm, .string tm] 24))
  clear HB11 HV11
  obtain ⟨c90, c91, c92⟩ := VL.cells3 (b := w.heap.size + 1) (g := ga) (s := sb) (t := tb) HV11_.out (by simp)
  obtain ⟨c93, c94, c95⟩ := VL.cells3 (b := w.heap.size + 2) (g := gc) (s := sc) (t := tc) HV11_.out (by simp)
  go_wp2_with fail
  clear c90 c91 c92 c93 c94 c95
  refine (HN.out _ (HW.out.below HB11_.out)).mono ?_
  rintro e w12 ⟨rfl, hb⟩
  have HB12 := hide (bStep HB11_.out hb)
  have HV12 := hide (HV11_.out.below hb)
  clear hb HB11_ HV11_
  have HV12_ := hide (HV12.out.pushAt (b := w12.heap.size) (by simp) gn sn tn 24)
  have HB12_ := hide (bAlloc HB12.out (.cells #[.bool gn, .string sn, .string tn] 24))
  clear HB12 HV12
  obtain ⟨c96, c97, c98⟩ := VL.cells3 (b := w8.heap.size) (g := gd) (s := sd) (t := td) HV12_.out (by simp)
  obtain ⟨c99, c100, c101⟩ := VL.cells3 (b := w5.heap.size) (g := false) (s := ⟨#[48]⟩) (t := ⟨#[49]⟩) HV12_.out (by simp)
  go_wp2_with fail
  clear c96 c97 c98 c99 c100 c101
  refine (HDZ.out _ (HW.out.below HB12_.out)).mono ?_
  rintro e w13 ⟨rfl, hb⟩
  have HB13 := hide (bStep HB12_.out hb)
  have HV13 := hide (HV12_.out.below hb)
  clear hb HB12_ HV12_
  obtain ⟨c102, c103, c104⟩ := VL.cells3 (b := w9.heap.size) (g := gs) (s := ss) (t := ts) HV13.out (by simp)
  obtain ⟨c105, c106, c107⟩ := VL.cells3 (b := w10.heap.size) (g := gt) (s := st) (t := tt) HV13.out (by simp)
  go_wp2_with fail
  clear c102 c103 c104 c105 c106 c107
  refine (HST.out _ (HW.out.below HB13.out)).mono ?_
  rintro e w14 ⟨rfl, hb⟩
  have HB14 := hide (bStep HB13.out hb)
  have HV14 := hide (HV13.out.below hb)
  clear hb HB13 HV13
  obtain ⟨c108, c109, c110⟩ := VL.cells3 (b := w.heap.size + 2) (g := gc) (s := sc) (t := tc) HV14.out (by simp)
  obtain ⟨c111, c112, c113⟩ := VL.cells3 (b := w5.heap.size) (g := false) (s := ⟨#[48]⟩) (t := ⟨#[49]⟩) HV14.out (by simp)
  obtain ⟨c114, c115, c116⟩ := VL.cells3 (b := w11.heap.size) (g := gm) (s := sm) (t := tm) HV14.out (by simp)
  obtain ⟨c117, c118, c119⟩ := VL.cells3 (b := w12.heap.size) (g := gn) (s := sn) (t := tn) HV14.out (by simp)
  rcases HZ.out with rfl | ⟨rfl, rfl, rfl⟩ | ⟨rfl, h2, h3⟩
  · go_wp2_with fail
    go_ret
    exact ⟨rfl, HB14.out⟩
  · go_wp2_with fail
    go_ret
    exact ⟨rfl, HB14.out⟩
  · rw [h3] at HMN0
    clear HZ h3
    go_wp2_with fail
    refine (HMN0.out _ (HW.out.below HB14.out)).mono ?_
    rintro e wz ⟨rfl, hb⟩
    have HBz := hide (bStep HB14.out hb)
    clear hb
    go_wp2_with fail
    go_ret
    exact ⟨rfl, HBz.out⟩
set_option maxHeartbeats 8000000 in
set_option maxRecDepth 100000 in
theorem order_neB (p q r : Rat) (ga : Bool) (sa ta tb : ByteArray) (gc : Bool) (sc tc : ByteArray) (fs : (ta.toList == tb.toList) = false) (w : World) (hp : Sz 40 p) (hq : Sz 40 q) (hr : Sz 40 r) (ep : IsQ p ga sa ta) (eq : IsQ q ga sa tb) (er : IsQ r gc sc tc) (hne : p ≠ q) (hf : fewQ 40 [(ga, sa, ta), (ga, sa, tb), (gc, sc, tc)] = true) (hw : LawW w) :
    Calls Tryz.prog 7 #[.agg #[.bool ga, .string sa, .string ta], .agg #[.bool ga, .string sa, .string tb], .agg #[.bool gc, .string sc, .string tc]] w fun e w' => e = .returned (.bool true) ∧ Below w.heap.size w w' := by
  have HW := hide hw
  have HF := hide (fun W T => few_three ga sa ta ga sa tb gc sc tc W T)
  rw [hf] at HF
  have HVA := hide (fun W hW => valid_okq hp (by omega) ep W hW)
  have HVB := hide (fun W hW => valid_okq hq (by omega) eq W hW)
  have HVC := hide (fun W hW => valid_okq hr (by omega) er W hW)
  have HAB := hide (fun W hW => cmp_okq hp hq (by omega) (by omega) ep eq W hW)
  have HBA := hide (fun W hW => cmp_okq hq hp (by omega) (by omega) eq ep W hW)
  rw [cmpQ_swap p q] at HBA
  have HBC := hide (fun W hW => cmp_okq hq hr (by omega) (by omega) eq er W hW)
  have HAC := hide (fun W hW => cmp_okq hp hr (by omega) (by omega) ep er W hW)
  obtain ⟨gd, sd, td, ed⟩ := IsQ.get (p - q)
  obtain ⟨gs, ss, ts, es⟩ := IsQ.get (p + r)
  obtain ⟨gt, st, tt, et⟩ := IsQ.get (q + r)
  obtain ⟨gm, sm, tm, em⟩ := IsQ.get (p * r)
  obtain ⟨gn, sn, tn, en⟩ := IsQ.get (q * r)
  have HD := hide (fun W hW => sub_okq hp hq (by omega) rfl ep eq ed W hW)
  have HS := hide (fun W hW => add_okq hp hr (by omega) rfl ep er es W hW)
  have HT := hide (fun W hW => add_okq hq hr (by omega) rfl eq er et W hW)
  have HM := hide (fun W hW => mul_okq hp hr (by omega) rfl ep er em W hW)
  have HN := hide (fun W hW => mul_okq hq hr (by omega) rfl eq er en W hW)
  have HDZ := hide (fun W hW => cmp_okq (hp.sub hq) sz_zero (by omega) (by omega) ed isQ_zero W hW)
  have HST := hide (fun W hW => cmp_okq (hp.add hr) (hq.add hr) (by omega) (by omega) es et W hW)
  have HMN0 := hide (fun W hW => cmp_okq (hp.mul hr) (hq.mul hr) (by omega) (by omega) em en W hW)
  rw [cmpQ_sub] at HDZ
  rw [cmpQ_add] at HST
  have HZ : Hid ((gc = true) ∨ (gc = false ∧ sc = ⟨#[48]⟩ ∧ tc = ⟨#[49]⟩) ∨ (gc = false ∧ (sc.toList == [48]) = false ∧ cmpQ (p * r) (q * r) = cmpQ p q)) := by
    rcases ord_c er with h | h | ⟨h1, h2, h3⟩
    · exact .inl h
    · exact .inr (.inl h)
    · exact .inr (.inr ⟨h1, h2, cmpQ_mul p q r h3⟩)
  have HYZ : Hid (decide (cmpQ p q ≤ 0) = false ∨ (decide (cmpQ p q ≤ 0) = true ∧ decide (cmpQ q r ≤ 0) = false) ∨ (decide (cmpQ p q ≤ 0) = true ∧ decide (cmpQ q r ≤ 0) = true ∧ decide (0 < cmpQ p r) = false)) := ord_cases p q r
  have b1 := cmpQ_bd p q
  have b0 : cmpQ p q ≠ 0 := fun h => hne (cmpQ_zero.1 h)
  obtain ⟨y, hy⟩ : ∃ y, cmpQ q r = y := ⟨_, rfl⟩
  rw [hy] at HBC HYZ
  obtain ⟨m, hm⟩ : ∃ m, cmpQ (p * r) (q * r) = m := ⟨_, rfl⟩
  rw [hm] at HMN0 HZ
  obtain ⟨z, hz⟩ : ∃ z, cmpQ p r = z := ⟨_, rfl⟩
  obtain ⟨x, hx⟩ : ∃ x, cmpQ p q = x := ⟨_, rfl⟩
  rw [hz] at HAC HYZ
  rw [hx] at HAB HBA HYZ HDZ HST HZ b1 b0
  have f1 : (x == 0) = false := by simpa using b0
  have f2 : decide (x = 0) = false := decide_eq_false b0
  have f3 : decide (x < -1) = false := decide_eq_false (by omega)
  have f4 : decide (1 < x) = false := decide_eq_false (by omega)
  have f5 : IntKind.i64.wrap (-x) = -x := IntWalk.i64_in _ (by omega)
  have HH := hide (fun W hW => law04_head W hW)
  have HB0 : Hid (Below w.heap.size w w) := Below.refl _ _
  have HV0 : Hid (VL w []) := VL.nil w
  clear hp hq hr ep eq er ed es et em en hf hw hy hm hne hz hx b0 b1
  go_enter Tryz.func7, Tryz.ntmps7
  have HV0_ := hide (HV0.out.pushAt (b := w.heap.size) (by simp) ga sa ta 24)
  have HB0_ := hide (bAlloc HB0.out (.cells #[.bool ga, .string sa, .string ta] 24))
  clear HB0 HV0
  have HV0__ := hide (HV0_.out.pushAt (b := w.heap.size + 1) (by simp) ga sa tb 24)
  have HB0__ := hide (bAlloc HB0_.out (.cells #[.bool ga, .string sa, .string tb] 24))
  clear HB0_ HV0_
  have HV0___ := hide (HV0__.out.pushAt (b := w.heap.size + 2) (by simp) gc sc tc 24)
  have HB0___ := hide (bAlloc HB0__.out (.cells #[.bool gc, .string sc, .string tc] 24))
  clear HB0__ HV0__
  go_wp2_with fail
  refine (HH.out _ (HW.out.below HB0___.out)).mono ?_
  rintro e w1 ⟨rfl, hb⟩
  have HB1 := hide (bStep HB0___.out hb)
  have HV1 := hide (HV0___.out.below hb)
  clear hb HB0___ HV0___
  obtain ⟨c3, c4, c5⟩ := VL.cells3 (b := w.heap.size) (g := ga) (s := sa) (t := ta) HV1.out (by simp)
  obtain ⟨c6, c7, c8⟩ := VL.cells3 (b := w.heap.size + 1) (g := ga) (s := sa) (t := tb) HV1.out (by simp)
  obtain ⟨c9, c10, c11⟩ := VL.cells3 (b := w.heap.size + 2) (g := gc) (s := sc) (t := tc) HV1.out (by simp)
  go_wp2_with fail
  clear c3 c4 c5 c6 c7 c8 c9 c10 c11
  refine (HF.out _ _).mono ?_
  rintro e wf ⟨rfl, rfl⟩
  have HV1_ := hide (VL.below HV1.out (bAlloc (Below.refl _ _) (.cells #[.bool ga, .string sa, .string ta, .bool ga, .string sa, .string tb, .bool gc, .string sc, .string tc] 24)))
  have HB1_ := hide (bAlloc HB1.out (.cells #[.bool ga, .string sa, .string ta, .bool ga, .string sa, .string tb, .bool gc, .string sc, .string tc] 24))
  clear HB1 HV1
  obtain ⟨c12, c13, c14⟩ := VL.cells3 (b := w.heap.size) (g := ga) (s := sa) (t := ta) HV1_.out (by simp)
  obtain ⟨c15, c16, c17⟩ := VL.cells3 (b := w.heap.size + 1) (g := ga) (s := sa) (t := tb) HV1_.out (by simp)
  obtain ⟨c18, c19, c20⟩ := VL.cells3 (b := w.heap.size + 2) (g := gc) (s := sc) (t := tc) HV1_.out (by simp)
  go_wp2_with fail
  clear c12 c13 c14 c15 c16 c17 c18 c19 c20
  refine (HVA.out _ (HW.out.below HB1_.out)).mono ?_
  rintro e w2 ⟨rfl, hb⟩
  have HB2 := hide (bStep HB1_.out hb)
  have HV2 := hide (HV1_.out.below hb)
  clear hb HB1_ HV1_
  obtain ⟨c21, c22, c23⟩ := VL.cells3 (b := w.heap.size) (g := ga) (s := sa) (t := ta) HV2.out (by simp)
  obtain ⟨c24, c25, c26⟩ := VL.cells3 (b := w.heap.size + 1) (g := ga) (s := sa) (t := tb) HV2.out (by simp)
  obtain ⟨c27, c28, c29⟩ := VL.cells3 (b := w.heap.size + 2) (g := gc) (s := sc) (t := tc) HV2.out (by simp)
  go_wp2_with fail
  clear c21 c22 c23 c24 c25 c26 c27 c28 c29
  refine (HVB.out _ (HW.out.below HB2.out)).mono ?_
  rintro e w3 ⟨rfl, hb⟩
  have HB3 := hide (bStep HB2.out hb)
  have HV3 := hide (HV2.out.below hb)
  clear hb HB2 HV2
  obtain ⟨c30, c31, c32⟩ := VL.cells3 (b := w.heap.size) (g := ga) (s := sa) (t := ta) HV3.out (by simp)
  obtain ⟨c33, c34, c35⟩ := VL.cells3 (b := w.heap.size + 1) (g := ga) (s := sa) (t := tb) HV3.out (by simp)
  obtain ⟨c36, c37, c38⟩ := VL.cells3 (b := w.heap.size + 2) (g := gc) (s := sc) (t := tc) HV3.out (by simp)
  go_wp2_with fail
  clear c30 c31 c32 c33 c34 c35 c36 c37 c38
  refine (HVC.out _ (HW.out.below HB3.out)).mono ?_
  rintro e w4 ⟨rfl, hb⟩
  have HB4 := hide (bStep HB3.out hb)
  have HV4 := hide (HV3.out.below hb)
  clear hb HB3 HV3
  go_wp2_with fail
  refine (law04_rat _ _ _ _).mono ?_
  rintro e w5 ⟨rfl, hb⟩
  have HB5 := hide (bStep HB4.out hb)
  have HV5 := hide (HV4.out.below hb)
  clear hb HB4 HV4
  have HV5_ := hide (HV5.out.pushAt (b := w5.heap.size) (by simp) false ⟨#[48]⟩ ⟨#[49]⟩ 24)
  have HB5_ := hide (bAlloc HB5.out (.cells #[.bool false, .string ⟨#[48]⟩, .string ⟨#[49]⟩] 24))
  clear HB5 HV5
  obtain ⟨c39, c40, c41⟩ := VL.cells3 (b := w.heap.size) (g := ga) (s := sa) (t := ta) HV5_.out (by simp)
  obtain ⟨c42, c43, c44⟩ := VL.cells3 (b := w.heap.size + 1) (g := ga) (s := sa) (t := tb) HV5_.out (by simp)
  go_wp2_with fail
  clear c39 c40 c41 c42 c43 c44
  refine (HAB.out _ (HW.out.below HB5_.out)).mono ?_
  rintro e w6 ⟨rfl, hb⟩
  have HB6 := hide (bStep HB5_.out hb)
  have HV6 := hide (HV5_.out.below hb)
  clear hb HB5_ HV5_
  obtain ⟨c45, c46, c47⟩ := VL.cells3 (b := w.heap.size + 1) (g := ga) (s := sa) (t := tb) HV6.out (by simp)
  obtain ⟨c48, c49, c50⟩ := VL.cells3 (b := w.heap.size + 2) (g := gc) (s := sc) (t := tc) HV6.out (by simp)
  go_wp2_with fail
  clear c45 c46 c47 c48 c49 c50
  refine (HBC.out _ (HW.out.below HB6.out)).mono ?_
  rintro e w7 ⟨rfl, hb⟩
  have HB7 := hide (bStep HB6.out hb)
  have HV7 := hide (HV6.out.below hb)
  clear hb HB6 HV6
  obtain ⟨NA, hsA⟩ : ∃ N, VS w N w7 [(w5.heap.size, false, ⟨#[48]⟩, ⟨#[49]⟩), (w.heap.size + 2, gc, sc, tc), (w.heap.size + 1, ga, sa, tb), (w.heap.size, ga, sa, ta)] := ⟨_, VS.start HB7.out HV7.out⟩
  clear HB7 HV7
  have HSA := hide hsA
  clear hsA
  go_upto_region 7 with fail
  go_cut [86] (fun z86 wx => z86 = .bool false ∧ VS w NA wx [(w5.heap.size, false, ⟨#[48]⟩, ⟨#[49]⟩), (w.heap.size + 2, gc, sc, tc), (w.heap.size + 1, ga, sa, tb), (w.heap.size, ga, sa, ta)])
  case first =>
    have HBf := hide HSA.out.bel
    have HVf := hide HSA.out.vl
    obtain ⟨c51, c52, c53⟩ := VL.cells3 (b := w.heap.size) (g := ga) (s := sa) (t := ta) HVf.out (by simp)
    obtain ⟨c54, c55, c56⟩ := VL.cells3 (b := w.heap.size + 1) (g := ga) (s := sa) (t := tb) HVf.out (by simp)
    go_wp2_with fail
    clear c51 c52 c53 c54 c55 c56
    refine (HBA.out _ (HW.out.below HBf.out)).mono ?_
    rintro e wg ⟨rfl, hb⟩
    have HSB := hide (HSA.out.below hb)
    clear hb HBf HVf HSA
    have HBg := hide HSB.out.bel
    have HVg := hide HSB.out.vl
    obtain ⟨c57, c58, c59⟩ := VL.cells3 (b := w.heap.size) (g := ga) (s := sa) (t := ta) HVg.out (by simp)
    obtain ⟨c60, c61, c62⟩ := VL.cells3 (b := w.heap.size + 1) (g := ga) (s := sa) (t := tb) HVg.out (by simp)
    obtain ⟨c63, c64, c65⟩ := VL.cells3 (b := w.heap.size + 2) (g := gc) (s := sc) (t := tc) HVg.out (by simp)
    rcases HYZ.out with h1 | ⟨h1, h2⟩ | ⟨h1, h2, h3⟩
    · go_wp2_with fail
      go_meet
      exact ⟨rfl, HSB.out⟩
    · go_wp2_with fail
      go_meet
      exact ⟨rfl, HSB.out⟩
    · go_wp2_with fail
      refine (HAC.out _ (HW.out.below HBg.out)).mono ?_
      rintro e wh ⟨rfl, hb⟩
      have HSC := hide (HSB.out.below hb)
      clear hb
      go_wp2_with fail
      go_meet
      exact ⟨rfl, HSC.out⟩
  case rest =>
  obtain ⟨rfl, hsC⟩ := hcut
  have HBc := hide hsC.bel
  have HVc := hide hsC.vl
  clear hsC HSA
  obtain ⟨c66, c67, c68⟩ := VL.cells3 (b := w.heap.size) (g := ga) (s := sa) (t := ta) HVc.out (by simp)
  obtain ⟨c69, c70, c71⟩ := VL.cells3 (b := w.heap.size + 1) (g := ga) (s := sa) (t := tb) HVc.out (by simp)
  go_wp2_with fail
  clear c66 c67 c68 c69 c70 c71
  refine (HD.out _ (HW.out.below HBc.out)).mono ?_
  rintro e w8 ⟨rfl, hb⟩
  have HB8 := hide (bStep HBc.out hb)
  have HV8 := hide (HVc.out.below hb)
  clear hb HBc HVc
  have HV8_ := hide (HV8.out.pushAt (b := w8.heap.size) (by simp) gd sd td 24)
  have HB8_ := hide (bAlloc HB8.out (.cells #[.bool gd, .string sd, .string td] 24))
  clear HB8 HV8
  obtain ⟨c72, c73, c74⟩ := VL.cells3 (b := w.heap.size) (g := ga) (s := sa) (t := ta) HV8_.out (by simp)
  obtain ⟨c75, c76, c77⟩ := VL.cells3 (b := w.heap.size + 2) (g := gc) (s := sc) (t := tc) HV8_.out (by simp)
  go_wp2_with fail
  clear c72 c73 c74 c75 c76 c77
  refine (HS.out _ (HW.out.below HB8_.out)).mono ?_
  rintro e w9 ⟨rfl, hb⟩
  have HB9 := hide (bStep HB8_.out hb)
  have HV9 := hide (HV8_.out.below hb)
  clear hb HB8_ HV8_
  have HV9_ := hide (HV9.out.pushAt (b := w9.heap.size) (by simp) gs ss ts 24)
  have HB9_ := hide (bAlloc HB9.out (.cells #[.bool gs, .string ss, .string ts] 24))
  clear HB9 HV9
  obtain ⟨c78, c79, c80⟩ := VL.cells3 (b := w.heap.size + 1) (g := ga) (s := sa) (t := tb) HV9_.out (by simp)
  obtain ⟨c81, c82, c83⟩ := VL.cells3 (b := w.heap.size + 2) (g := gc) (s := sc) (t := tc) HV9_.out (by simp)
  go_wp2_with fail
  clear c78 c79 c80 c81 c82 c83
  refine (HT.out _ (HW.out.below HB9_.out)).mono ?_
  rintro e w10 ⟨rfl, hb⟩
  have HB10 := hide (bStep HB9_.out hb)
  have HV10 := hide (HV9_.out.below hb)
  clear hb HB9_ HV9_
  have HV10_ := hide (HV10.out.pushAt (b := w10.heap.size) (by simp) gt st tt 24)
  have HB10_ := hide (bAlloc HB10.out (.cells #[.bool gt, .string st, .string tt] 24))
  clear HB10 HV10
  obtain ⟨c84, c85, c86⟩ := VL.cells3 (b := w.heap.size) (g := ga) (s := sa) (t := ta) HV10_.out (by simp)
  obtain ⟨c87, c88, c89⟩ := VL.cells3 (b := w.heap.size + 2) (g := gc) (s := sc) (t := tc) HV10_.out (by simp)
  go_wp2_with fail
  clear c84 c85 c86 c87 c88 c89
  refine (HM.out _ (HW.out.below HB10_.out)).mono ?_
  rintro e w11 ⟨rfl, hb⟩
  have HB11 := hide (bStep HB10_.out hb)
  have HV11 := hide (HV10_.out.below hb)
  clear hb HB10_ HV10_
  have HV11_ := hide (HV11.out.pushAt (b := w11.heap.size) (by simp) gm sm tm 24)
  have HB11_ := hide (bAlloc HB11.out (.cells #[.bool gm, .string sm, .string tm] 24))
  clear HB11 HV11
  obtain ⟨c90, c91, c92⟩ := VL.cells3 (b := w.heap.size + 1) (g := ga) (s := sa) (t := tb) HV11_.out (by simp)
  obtain ⟨c93, c94, c95⟩ := VL.cells3 (b := w.heap.size + 2) (g := gc) (s := sc) (t := tc) HV11_.out (by simp)
  go_wp2_with fail
  clear c90 c91 c92 c93 c94 c95
  refine (HN.out _ (HW.out.below HB11_.out)).mono ?_
  rintro e w12 ⟨rfl, hb⟩
  have HB12 := hide (bStep HB11_.out hb)
  have HV12 := hide (HV11_.out.below hb)
  clear hb HB11_ HV11_
  have HV12_ := hide (HV12.out.pushAt (b := w12.heap.size) (by simp) gn sn tn 24)
  have HB12_ := hide (bAlloc HB12.out (.cells #[.bool gn, .string sn, .string tn] 24))
  clear HB12 HV12
  obtain ⟨c96, c97, c98⟩ := VL.cells3 (b := w8.heap.size) (g := gd) (s := sd) (t := td) HV12_.out (by simp)
  obtain ⟨c99, c100, c101⟩ := VL.cells3 (b := w5.heap.size) (g := false) (s := ⟨#[48]⟩) (t := ⟨#[49]⟩) HV12_.out (by simp)
  go_wp2_with fail
  clear c96 c97 c98 c99 c100 c101
  refine (HDZ.out _ (HW.out.below HB12_.out)).mono ?_
  rintro e w13 ⟨rfl, hb⟩
  have HB13 := hide (bStep HB12_.out hb)
  have HV13 := hide (HV12_.out.below hb)
  clear hb HB12_ HV12_
  obtain ⟨c102, c103, c104⟩ := VL.cells3 (b := w9.heap.size) (g := gs) (s := ss) (t := ts) HV13.out (by simp)
  obtain ⟨c105, c106, c107⟩ := VL.cells3 (b := w10.heap.size) (g := gt) (s := st) (t := tt) HV13.out (by simp)
  go_wp2_with fail
  clear c102 c103 c104 c105 c106 c107
  refine (HST.out _ (HW.out.below HB13.out)).mono ?_
  rintro e w14 ⟨rfl, hb⟩
  have HB14 := hide (bStep HB13.out hb)
  have HV14 := hide (HV13.out.below hb)
  clear hb HB13 HV13
  obtain ⟨c108, c109, c110⟩ := VL.cells3 (b := w.heap.size + 2) (g := gc) (s := sc) (t := tc) HV14.out (by simp)
  obtain ⟨c111, c112, c113⟩ := VL.cells3 (b := w5.heap.size) (g := false) (s := ⟨#[48]⟩) (t := ⟨#[49]⟩) HV14.out (by simp)
  obtain ⟨c114, c115, c116⟩ := VL.cells3 (b := w11.heap.size) (g := gm) (s := sm) (t := tm) HV14.out (by simp)
  obtain ⟨c117, c118, c119⟩ := VL.cells3 (b := w12.heap.size) (g := gn) (s := sn) (t := tn) HV14.out (by simp)
  rcases HZ.out with rfl | ⟨rfl, rfl, rfl⟩ | ⟨rfl, h2, h3⟩
  · go_wp2_with fail
    go_ret
    exact ⟨rfl, HB14.out⟩
  · go_wp2_with fail
    go_ret
    exact ⟨rfl, HB14.out⟩
  · rw [h3] at HMN0
    clear HZ h3
    go_wp2_with fail
    refine (HMN0.out _ (HW.out.below HB14.out)).mono ?_
    rintro e wz ⟨rfl, hb⟩
    have HBz := hide (bStep HB14.out hb)
    clear hb
    go_wp2_with fail
    go_ret
    exact ⟨rfl, HBz.out⟩
set_option maxHeartbeats 8000000 in
set_option maxRecDepth 100000 in
theorem order_neC (p q r : Rat) (sa ta sb tb : ByteArray) (gc : Bool) (sc tc : ByteArray) (w : World) (hp : Sz 40 p) (hq : Sz 40 q) (hr : Sz 40 r) (ep : IsQ p true sa ta) (eq : IsQ q false sb tb) (er : IsQ r gc sc tc) (hne : p ≠ q) (hf : fewQ 40 [(true, sa, ta), (false, sb, tb), (gc, sc, tc)] = true) (hw : LawW w) :
    Calls Tryz.prog 7 #[.agg #[.bool true, .string sa, .string ta], .agg #[.bool false, .string sb, .string tb], .agg #[.bool gc, .string sc, .string tc]] w fun e w' => e = .returned (.bool true) ∧ Below w.heap.size w w' := by
  have HW := hide hw
  have HF := hide (fun W T => few_three true sa ta false sb tb gc sc tc W T)
  rw [hf] at HF
  have HVA := hide (fun W hW => valid_okq hp (by omega) ep W hW)
  have HVB := hide (fun W hW => valid_okq hq (by omega) eq W hW)
  have HVC := hide (fun W hW => valid_okq hr (by omega) er W hW)
  have HAB := hide (fun W hW => cmp_okq hp hq (by omega) (by omega) ep eq W hW)
  have HBA := hide (fun W hW => cmp_okq hq hp (by omega) (by omega) eq ep W hW)
  rw [cmpQ_swap p q] at HBA
  have HBC := hide (fun W hW => cmp_okq hq hr (by omega) (by omega) eq er W hW)
  have HAC := hide (fun W hW => cmp_okq hp hr (by omega) (by omega) ep er W hW)
  obtain ⟨gd, sd, td, ed⟩ := IsQ.get (p - q)
  obtain ⟨gs, ss, ts, es⟩ := IsQ.get (p + r)
  obtain ⟨gt, st, tt, et⟩ := IsQ.get (q + r)
  obtain ⟨gm, sm, tm, em⟩ := IsQ.get (p * r)
  obtain ⟨gn, sn, tn, en⟩ := IsQ.get (q * r)
  have HD := hide (fun W hW => sub_okq hp hq (by omega) rfl ep eq ed W hW)
  have HS := hide (fun W hW => add_okq hp hr (by omega) rfl ep er es W hW)
  have HT := hide (fun W hW => add_okq hq hr (by omega) rfl eq er et W hW)
  have HM := hide (fun W hW => mul_okq hp hr (by omega) rfl ep er em W hW)
  have HN := hide (fun W hW => mul_okq hq hr (by omega) rfl eq er en W hW)
  have HDZ := hide (fun W hW => cmp_okq (hp.sub hq) sz_zero (by omega) (by omega) ed isQ_zero W hW)
  have HST := hide (fun W hW => cmp_okq (hp.add hr) (hq.add hr) (by omega) (by omega) es et W hW)
  have HMN0 := hide (fun W hW => cmp_okq (hp.mul hr) (hq.mul hr) (by omega) (by omega) em en W hW)
  rw [cmpQ_sub] at HDZ
  rw [cmpQ_add] at HST
  have HZ : Hid ((gc = true) ∨ (gc = false ∧ sc = ⟨#[48]⟩ ∧ tc = ⟨#[49]⟩) ∨ (gc = false ∧ (sc.toList == [48]) = false ∧ cmpQ (p * r) (q * r) = cmpQ p q)) := by
    rcases ord_c er with h | h | ⟨h1, h2, h3⟩
    · exact .inl h
    · exact .inr (.inl h)
    · exact .inr (.inr ⟨h1, h2, cmpQ_mul p q r h3⟩)
  have HYZ : Hid (decide (cmpQ p q ≤ 0) = false ∨ (decide (cmpQ p q ≤ 0) = true ∧ decide (cmpQ q r ≤ 0) = false) ∨ (decide (cmpQ p q ≤ 0) = true ∧ decide (cmpQ q r ≤ 0) = true ∧ decide (0 < cmpQ p r) = false)) := ord_cases p q r
  have b1 := cmpQ_bd p q
  have b0 : cmpQ p q ≠ 0 := fun h => hne (cmpQ_zero.1 h)
  obtain ⟨y, hy⟩ : ∃ y, cmpQ q r = y := ⟨_, rfl⟩
  rw [hy] at HBC HYZ
  obtain ⟨m, hm⟩ : ∃ m, cmpQ (p * r) (q * r) = m := ⟨_, rfl⟩
  rw [hm] at HMN0 HZ
  obtain ⟨z, hz⟩ : ∃ z, cmpQ p r = z := ⟨_, rfl⟩
  obtain ⟨x, hx⟩ : ∃ x, cmpQ p q = x := ⟨_, rfl⟩
  rw [hz] at HAC HYZ
  rw [hx] at HAB HBA HYZ HDZ HST HZ b1 b0
  have f1 : (x == 0) = false := by simpa using b0
  have f2 : decide (x = 0) = false := decide_eq_false b0
  have f3 : decide (x < -1) = false := decide_eq_false (by omega)
  have f4 : decide (1 < x) = false := decide_eq_false (by omega)
  have f5 : IntKind.i64.wrap (-x) = -x := IntWalk.i64_in _ (by omega)
  have HH := hide (fun W hW => law04_head W hW)
  have HB0 : Hid (Below w.heap.size w w) := Below.refl _ _
  have HV0 : Hid (VL w []) := VL.nil w
  clear hp hq hr ep eq er ed es et em en hf hw hy hm hne hz hx b0 b1
  go_enter Tryz.func7, Tryz.ntmps7
  have HV0_ := hide (HV0.out.pushAt (b := w.heap.size) (by simp) true sa ta 24)
  have HB0_ := hide (bAlloc HB0.out (.cells #[.bool true, .string sa, .string ta] 24))
  clear HB0 HV0
  have HV0__ := hide (HV0_.out.pushAt (b := w.heap.size + 1) (by simp) false sb tb 24)
  have HB0__ := hide (bAlloc HB0_.out (.cells #[.bool false, .string sb, .string tb] 24))
  clear HB0_ HV0_
  have HV0___ := hide (HV0__.out.pushAt (b := w.heap.size + 2) (by simp) gc sc tc 24)
  have HB0___ := hide (bAlloc HB0__.out (.cells #[.bool gc, .string sc, .string tc] 24))
  clear HB0__ HV0__
  go_wp2_with fail
  refine (HH.out _ (HW.out.below HB0___.out)).mono ?_
  rintro e w1 ⟨rfl, hb⟩
  have HB1 := hide (bStep HB0___.out hb)
  have HV1 := hide (HV0___.out.below hb)
  clear hb HB0___ HV0___
  obtain ⟨c3, c4, c5⟩ := VL.cells3 (b := w.heap.size) (g := true) (s := sa) (t := ta) HV1.out (by simp)
  obtain ⟨c6, c7, c8⟩ := VL.cells3 (b := w.heap.size + 1) (g := false) (s := sb) (t := tb) HV1.out (by simp)
  obtain ⟨c9, c10, c11⟩ := VL.cells3 (b := w.heap.size + 2) (g := gc) (s := sc) (t := tc) HV1.out (by simp)
  go_wp2_with fail
  clear c3 c4 c5 c6 c7 c8 c9 c10 c11
  refine (HF.out _ _).mono ?_
  rintro e wf ⟨rfl, rfl⟩
  have HV1_ := hide (VL.below HV1.out (bAlloc (Below.refl _ _) (.cells #[.bool true, .string sa, .string ta, .bool false, .string sb, .string tb, .bool gc, .string sc, .string tc] 24)))
  have HB1_ := hide (bAlloc HB1.out (.cells #[.bool true, .string sa, .string ta, .bool false, .string sb, .string tb, .bool gc, .string sc, .string tc] 24))
  clear HB1 HV1
  obtain ⟨c12, c13, c14⟩ := VL.cells3 (b := w.heap.size) (g := true) (s := sa) (t := ta) HV1_.out (by simp)
  obtain ⟨c15, c16, c17⟩ := VL.cells3 (b := w.heap.size + 1) (g := false) (s := sb) (t := tb) HV1_.out (by simp)
  obtain ⟨c18, c19, c20⟩ := VL.cells3 (b := w.heap.size + 2) (g := gc) (s := sc) (t := tc) HV1_.out (by simp)
  go_wp2_with fail
  clear c12 c13 c14 c15 c16 c17 c18 c19 c20
  refine (HVA.out _ (HW.out.below HB1_.out)).mono ?_
  rintro e w2 ⟨rfl, hb⟩
  have HB2 := hide (bStep HB1_.out hb)
  have HV2 := hide (HV1_.out.below hb)
  clear hb HB1_ HV1_
  obtain ⟨c21, c22, c23⟩ := VL.cells3 (b := w.heap.size) (g := true) (s := sa) (t := ta) HV2.out (by simp)
  obtain ⟨c24, c25, c26⟩ := VL.cells3 (b := w.heap.size + 1) (g := false) (s := sb) (t := tb) HV2.out (by simp)
  obtain ⟨c27, c28, c29⟩ := VL.cells3 (b := w.heap.size + 2) (g := gc) (s := sc) (t := tc) HV2.out (by simp)
  go_wp2_with fail
  clear c21 c22 c23 c24 c25 c26 c27 c28 c29
  refine (HVB.out _ (HW.out.below HB2.out)).mono ?_
  rintro e w3 ⟨rfl, hb⟩
  have HB3 := hide (bStep HB2.out hb)
  have HV3 := hide (HV2.out.below hb)
  clear hb HB2 HV2
  obtain ⟨c30, c31, c32⟩ := VL.cells3 (b := w.heap.size) (g := true) (s := sa) (t := ta) HV3.out (by simp)
  obtain ⟨c33, c34, c35⟩ := VL.cells3 (b := w.heap.size + 1) (g := false) (s := sb) (t := tb) HV3.out (by simp)
  obtain ⟨c36, c37, c38⟩ := VL.cells3 (b := w.heap.size + 2) (g := gc) (s := sc) (t := tc) HV3.out (by simp)
  go_wp2_with fail
  clear c30 c31 c32 c33 c34 c35 c36 c37 c38
  refine (HVC.out _ (HW.out.below HB3.out)).mono ?_
  rintro e w4 ⟨rfl, hb⟩
  have HB4 := hide (bStep HB3.out hb)
  have HV4 := hide (HV3.out.below hb)
  clear hb HB3 HV3
  go_wp2_with fail
  refine (law04_rat _ _ _ _).mono ?_
  rintro e w5 ⟨rfl, hb⟩
  have HB5 := hide (bStep HB4.out hb)
  have HV5 := hide (HV4.out.below hb)
  clear hb HB4 HV4
  have HV5_ := hide (HV5.out.pushAt (b := w5.heap.size) (by simp) false ⟨#[48]⟩ ⟨#[49]⟩ 24)
  have HB5_ := hide (bAlloc HB5.out (.cells #[.bool false, .string ⟨#[48]⟩, .string ⟨#[49]⟩] 24))
  clear HB5 HV5
  obtain ⟨c39, c40, c41⟩ := VL.cells3 (b := w.heap.size) (g := true) (s := sa) (t := ta) HV5_.out (by simp)
  obtain ⟨c42, c43, c44⟩ := VL.cells3 (b := w.heap.size + 1) (g := false) (s := sb) (t := tb) HV5_.out (by simp)
  go_wp2_with fail
  clear c39 c40 c41 c42 c43 c44
  refine (HAB.out _ (HW.out.below HB5_.out)).mono ?_
  rintro e w6 ⟨rfl, hb⟩
  have HB6 := hide (bStep HB5_.out hb)
  have HV6 := hide (HV5_.out.below hb)
  clear hb HB5_ HV5_
  obtain ⟨c45, c46, c47⟩ := VL.cells3 (b := w.heap.size + 1) (g := false) (s := sb) (t := tb) HV6.out (by simp)
  obtain ⟨c48, c49, c50⟩ := VL.cells3 (b := w.heap.size + 2) (g := gc) (s := sc) (t := tc) HV6.out (by simp)
  go_wp2_with fail
  clear c45 c46 c47 c48 c49 c50
  refine (HBC.out _ (HW.out.below HB6.out)).mono ?_
  rintro e w7 ⟨rfl, hb⟩
  have HB7 := hide (bStep HB6.out hb)
  have HV7 := hide (HV6.out.below hb)
  clear hb HB6 HV6
  obtain ⟨NA, hsA⟩ : ∃ N, VS w N w7 [(w5.heap.size, false, ⟨#[48]⟩, ⟨#[49]⟩), (w.heap.size + 2, gc, sc, tc), (w.heap.size + 1, false, sb, tb), (w.heap.size, true, sa, ta)] := ⟨_, VS.start HB7.out HV7.out⟩
  clear HB7 HV7
  have HSA := hide hsA
  clear hsA
  go_upto_region 7 with fail
  go_cut [86] (fun z86 wx => z86 = .bool false ∧ VS w NA wx [(w5.heap.size, false, ⟨#[48]⟩, ⟨#[49]⟩), (w.heap.size + 2, gc, sc, tc), (w.heap.size + 1, false, sb, tb), (w.heap.size, true, sa, ta)])
  case first =>
    have HBf := hide HSA.out.bel
    have HVf := hide HSA.out.vl
    obtain ⟨c51, c52, c53⟩ := VL.cells3 (b := w.heap.size) (g := true) (s := sa) (t := ta) HVf.out (by simp)
    obtain ⟨c54, c55, c56⟩ := VL.cells3 (b := w.heap.size + 1) (g := false) (s := sb) (t := tb) HVf.out (by simp)
    go_wp2_with fail
    clear c51 c52 c53 c54 c55 c56
    refine (HBA.out _ (HW.out.below HBf.out)).mono ?_
    rintro e wg ⟨rfl, hb⟩
    have HSB := hide (HSA.out.below hb)
    clear hb HBf HVf HSA
    have HBg := hide HSB.out.bel
    have HVg := hide HSB.out.vl
    obtain ⟨c57, c58, c59⟩ := VL.cells3 (b := w.heap.size) (g := true) (s := sa) (t := ta) HVg.out (by simp)
    obtain ⟨c60, c61, c62⟩ := VL.cells3 (b := w.heap.size + 1) (g := false) (s := sb) (t := tb) HVg.out (by simp)
    obtain ⟨c63, c64, c65⟩ := VL.cells3 (b := w.heap.size + 2) (g := gc) (s := sc) (t := tc) HVg.out (by simp)
    rcases HYZ.out with h1 | ⟨h1, h2⟩ | ⟨h1, h2, h3⟩
    · go_wp2_with fail
      go_meet
      exact ⟨rfl, HSB.out⟩
    · go_wp2_with fail
      go_meet
      exact ⟨rfl, HSB.out⟩
    · go_wp2_with fail
      refine (HAC.out _ (HW.out.below HBg.out)).mono ?_
      rintro e wh ⟨rfl, hb⟩
      have HSC := hide (HSB.out.below hb)
      clear hb
      go_wp2_with fail
      go_meet
      exact ⟨rfl, HSC.out⟩
  case rest =>
  obtain ⟨rfl, hsC⟩ := hcut
  have HBc := hide hsC.bel
  have HVc := hide hsC.vl
  clear hsC HSA
  obtain ⟨c66, c67, c68⟩ := VL.cells3 (b := w.heap.size) (g := true) (s := sa) (t := ta) HVc.out (by simp)
  obtain ⟨c69, c70, c71⟩ := VL.cells3 (b := w.heap.size + 1) (g := false) (s := sb) (t := tb) HVc.out (by simp)
  go_wp2_with fail
  clear c66 c67 c68 c69 c70 c71
  refine (HD.out _ (HW.out.below HBc.out)).mono ?_
  rintro e w8 ⟨rfl, hb⟩
  have HB8 := hide (bStep HBc.out hb)
  have HV8 := hide (HVc.out.below hb)
  clear hb HBc HVc
  have HV8_ := hide (HV8.out.pushAt (b := w8.heap.size) (by simp) gd sd td 24)
  have HB8_ := hide (bAlloc HB8.out (.cells #[.bool gd, .string sd, .string td] 24))
  clear HB8 HV8
  obtain ⟨c72, c73, c74⟩ := VL.cells3 (b := w.heap.size) (g := true) (s := sa) (t := ta) HV8_.out (by simp)
  obtain ⟨c75, c76, c77⟩ := VL.cells3 (b := w.heap.size + 2) (g := gc) (s := sc) (t := tc) HV8_.out (by simp)
  go_wp2_with fail
  clear c72 c73 c74 c75 c76 c77
  refine (HS.out _ (HW.out.below HB8_.out)).mono ?_
  rintro e w9 ⟨rfl, hb⟩
  have HB9 := hide (bStep HB8_.out hb)
  have HV9 := hide (HV8_.out.below hb)
  clear hb HB8_ HV8_
  have HV9_ := hide (HV9.out.pushAt (b := w9.heap.size) (by simp) gs ss ts 24)
  have HB9_ := hide (bAlloc HB9.out (.cells #[.bool gs, .string ss, .string ts] 24))
  clear HB9 HV9
  obtain ⟨c78, c79, c80⟩ := VL.cells3 (b := w.heap.size + 1) (g := false) (s := sb) (t := tb) HV9_.out (by simp)
  obtain ⟨c81, c82, c83⟩ := VL.cells3 (b := w.heap.size + 2) (g := gc) (s := sc) (t := tc) HV9_.out (by simp)
  go_wp2_with fail
  clear c78 c79 c80 c81 c82 c83
  refine (HT.out _ (HW.out.below HB9_.out)).mono ?_
  rintro e w10 ⟨rfl, hb⟩
  have HB10 := hide (bStep HB9_.out hb)
  have HV10 := hide (HV9_.out.below hb)
  clear hb HB9_ HV9_
  have HV10_ := hide (HV10.out.pushAt (b := w10.heap.size) (by simp) gt st tt 24)
  have HB10_ := hide (bAlloc HB10.out (.cells #[.bool gt, .string st, .string tt] 24))
  clear HB10 HV10
  obtain ⟨c84, c85, c86⟩ := VL.cells3 (b := w.heap.size) (g := true) (s := sa) (t := ta) HV10_.out (by simp)
  obtain ⟨c87, c88, c89⟩ := VL.cells3 (b := w.heap.size + 2) (g := gc) (s := sc) (t := tc) HV10_.out (by simp)
  go_wp2_with fail
  clear c84 c85 c86 c87 c88 c89
  refine (HM.out _ (HW.out.below HB10_.out)).mono ?_
  rintro e w11 ⟨rfl, hb⟩
  have HB11 := hide (bStep HB10_.out hb)
  have HV11 := hide (HV10_.out.below hb)
  clear hb HB10_ HV10_
  have HV11_ := hide (HV11.out.pushAt (b := w11.heap.size) (by simp) gm sm tm 24)
  have HB11_ := hide (bAlloc HB11.out (.cells #[.bool gm, .string sm, .string tm] 24))
  clear HB11 HV11
  obtain ⟨c90, c91, c92⟩ := VL.cells3 (b := w.heap.size + 1) (g := false) (s := sb) (t := tb) HV11_.out (by simp)
  obtain ⟨c93, c94, c95⟩ := VL.cells3 (b := w.heap.size + 2) (g := gc) (s := sc) (t := tc) HV11_.out (by simp)
  go_wp2_with fail
  clear c90 c91 c92 c93 c94 c95
  refine (HN.out _ (HW.out.below HB11_.out)).mono ?_
  rintro e w12 ⟨rfl, hb⟩
  have HB12 := hide (bStep HB11_.out hb)
  have HV12 := hide (HV11_.out.below hb)
  clear hb HB11_ HV11_
  have HV12_ := hide (HV12.out.pushAt (b := w12.heap.size) (by simp) gn sn tn 24)
  have HB12_ := hide (bAlloc HB12.out (.cells #[.bool gn, .string sn, .string tn] 24))
  clear HB12 HV12
  obtain ⟨c96, c97, c98⟩ := VL.cells3 (b := w8.heap.size) (g := gd) (s := sd) (t := td) HV12_.out (by simp)
  obtain ⟨c99, c100, c101⟩ := VL.cells3 (b := w5.heap.size) (g := false) (s := ⟨#[48]⟩) (t := ⟨#[49]⟩) HV12_.out (by simp)
  go_wp2_with fail
  clear c96 c97 c98 c99 c100 c101
  refine (HDZ.out _ (HW.out.below HB12_.out)).mono ?_
  rintro e w13 ⟨rfl, hb⟩
  have HB13 := hide (bStep HB12_.out hb)
  have HV13 := hide (HV12_.out.below hb)
  clear hb HB12_ HV12_
  obtain ⟨c102, c103, c104⟩ := VL.cells3 (b := w9.heap.size) (g := gs) (s := ss) (t := ts) HV13.out (by simp)
  obtain ⟨c105, c106, c107⟩ := VL.cells3 (b := w10.heap.size) (g := gt) (s := st) (t := tt) HV13.out (by simp)
  go_wp2_with fail
  clear c102 c103 c104 c105 c106 c107
  refine (HST.out _ (HW.out.below HB13.out)).mono ?_
  rintro e w14 ⟨rfl, hb⟩
  have HB14 := hide (bStep HB13.out hb)
  have HV14 := hide (HV13.out.below hb)
  clear hb HB13 HV13
  obtain ⟨c108, c109, c110⟩ := VL.cells3 (b := w.heap.size + 2) (g := gc) (s := sc) (t := tc) HV14.out (by simp)
  obtain ⟨c111, c112, c113⟩ := VL.cells3 (b := w5.heap.size) (g := false) (s := ⟨#[48]⟩) (t := ⟨#[49]⟩) HV14.out (by simp)
  obtain ⟨c114, c115, c116⟩ := VL.cells3 (b := w11.heap.size) (g := gm) (s := sm) (t := tm) HV14.out (by simp)
  obtain ⟨c117, c118, c119⟩ := VL.cells3 (b := w12.heap.size) (g := gn) (s := sn) (t := tn) HV14.out (by simp)
  rcases HZ.out with rfl | ⟨rfl, rfl, rfl⟩ | ⟨rfl, h2, h3⟩
  · go_wp2_with fail
    go_ret
    exact ⟨rfl, HB14.out⟩
  · go_wp2_with fail
    go_ret
    exact ⟨rfl, HB14.out⟩
  · rw [h3] at HMN0
    clear HZ h3
    go_wp2_with fail
    refine (HMN0.out _ (HW.out.below HB14.out)).mono ?_
    rintro e wz ⟨rfl, hb⟩
    have HBz := hide (bStep HB14.out hb)
    clear hb
    go_wp2_with fail
    go_ret
    exact ⟨rfl, HBz.out⟩
set_option maxHeartbeats 8000000 in
set_option maxRecDepth 100000 in
theorem order_neD (p q r : Rat) (sa ta sb tb : ByteArray) (gc : Bool) (sc tc : ByteArray) (w : World) (hp : Sz 40 p) (hq : Sz 40 q) (hr : Sz 40 r) (ep : IsQ p false sa ta) (eq : IsQ q true sb tb) (er : IsQ r gc sc tc) (hne : p ≠ q) (hf : fewQ 40 [(false, sa, ta), (true, sb, tb), (gc, sc, tc)] = true) (hw : LawW w) :
    Calls Tryz.prog 7 #[.agg #[.bool false, .string sa, .string ta], .agg #[.bool true, .string sb, .string tb], .agg #[.bool gc, .string sc, .string tc]] w fun e w' => e = .returned (.bool true) ∧ Below w.heap.size w w' := by
  have HW := hide hw
  have HF := hide (fun W T => few_three false sa ta true sb tb gc sc tc W T)
  rw [hf] at HF
  have HVA := hide (fun W hW => valid_okq hp (by omega) ep W hW)
  have HVB := hide (fun W hW => valid_okq hq (by omega) eq W hW)
  have HVC := hide (fun W hW => valid_okq hr (by omega) er W hW)
  have HAB := hide (fun W hW => cmp_okq hp hq (by omega) (by omega) ep eq W hW)
  have HBA := hide (fun W hW => cmp_okq hq hp (by omega) (by omega) eq ep W hW)
  rw [cmpQ_swap p q] at HBA
  have HBC := hide (fun W hW => cmp_okq hq hr (by omega) (by omega) eq er W hW)
  have HAC := hide (fun W hW => cmp_okq hp hr (by omega) (by omega) ep er W hW)
  obtain ⟨gd, sd, td, ed⟩ := IsQ.get (p - q)
  obtain ⟨gs, ss, ts, es⟩ := IsQ.get (p + r)
  obtain ⟨gt, st, tt, et⟩ := IsQ.get (q + r)
  obtain ⟨gm, sm, tm, em⟩ := IsQ.get (p * r)
  obtain ⟨gn, sn, tn, en⟩ := IsQ.get (q * r)
  have HD := hide (fun W hW => sub_okq hp hq (by omega) rfl ep eq ed W hW)
  have HS := hide (fun W hW => add_okq hp hr (by omega) rfl ep er es W hW)
  have HT := hide (fun W hW => add_okq hq hr (by omega) rfl eq er et W hW)
  have HM := hide (fun W hW => mul_okq hp hr (by omega) rfl ep er em W hW)
  have HN := hide (fun W hW => mul_okq hq hr (by omega) rfl eq er en W hW)
  have HDZ := hide (fun W hW => cmp_okq (hp.sub hq) sz_zero (by omega) (by omega) ed isQ_zero W hW)
  have HST := hide (fun W hW => cmp_okq (hp.add hr) (hq.add hr) (by omega) (by omega) es et W hW)
  have HMN0 := hide (fun W hW => cmp_okq (hp.mul hr) (hq.mul hr) (by omega) (by omega) em en W hW)
  rw [cmpQ_sub] at HDZ
  rw [cmpQ_add] at HST
  have HZ : Hid ((gc = true) ∨ (gc = false ∧ sc = ⟨#[48]⟩ ∧ tc = ⟨#[49]⟩) ∨ (gc = false ∧ (sc.toList == [48]) = false ∧ cmpQ (p * r) (q * r) = cmpQ p q)) := by
    rcases ord_c er with h | h | ⟨h1, h2, h3⟩
    · exact .inl h
    · exact .inr (.inl h)
    · exact .inr (.inr ⟨h1, h2, cmpQ_mul p q r h3⟩)
  have HYZ : Hid (decide (cmpQ p q ≤ 0) = false ∨ (decide (cmpQ p q ≤ 0) = true ∧ decide (cmpQ q r ≤ 0) = false) ∨ (decide (cmpQ p q ≤ 0) = true ∧ decide (cmpQ q r ≤ 0) = true ∧ decide (0 < cmpQ p r) = false)) := ord_cases p q r
  have b1 := cmpQ_bd p q
  have b0 : cmpQ p q ≠ 0 := fun h => hne (cmpQ_zero.1 h)
  obtain ⟨y, hy⟩ : ∃ y, cmpQ q r = y := ⟨_, rfl⟩
  rw [hy] at HBC HYZ
  obtain ⟨m, hm⟩ : ∃ m, cmpQ (p * r) (q * r) = m := ⟨_, rfl⟩
  rw [hm] at HMN0 HZ
  obtain ⟨z, hz⟩ : ∃ z, cmpQ p r = z := ⟨_, rfl⟩
  obtain ⟨x, hx⟩ : ∃ x, cmpQ p q = x := ⟨_, rfl⟩
  rw [hz] at HAC HYZ
  rw [hx] at HAB HBA HYZ HDZ HST HZ b1 b0
  have f1 : (x == 0) = false := by simpa using b0
  have f2 : decide (x = 0) = false := decide_eq_false b0
  have f3 : decide (x < -1) = false := decide_eq_false (by omega)
  have f4 : decide (1 < x) = false := decide_eq_false (by omega)
  have f5 : IntKind.i64.wrap (-x) = -x := IntWalk.i64_in _ (by omega)
  have HH := hide (fun W hW => law04_head W hW)
  have HB0 : Hid (Below w.heap.size w w) := Below.refl _ _
  have HV0 : Hid (VL w []) := VL.nil w
  clear hp hq hr ep eq er ed es et em en hf hw hy hm hne hz hx b0 b1
  go_enter Tryz.func7, Tryz.ntmps7
  have HV0_ := hide (HV0.out.pushAt (b := w.heap.size) (by simp) false sa ta 24)
  have HB0_ := hide (bAlloc HB0.out (.cells #[.bool false, .string sa, .string ta] 24))
  clear HB0 HV0
  have HV0__ := hide (HV0_.out.pushAt (b := w.heap.size + 1) (by simp) true sb tb 24)
  have HB0__ := hide (bAlloc HB0_.out (.cells #[.bool true, .string sb, .string tb] 24))
  clear HB0_ HV0_
  have HV0___ := hide (HV0__.out.pushAt (b := w.heap.size + 2) (by simp) gc sc tc 24)
  have HB0___ := hide (bAlloc HB0__.out (.cells #[.bool gc, .string sc, .string tc] 24))
  clear HB0__ HV0__
  go_wp2_with fail
  refine (HH.out _ (HW.out.below HB0___.out)).mono ?_
  rintro e w1 ⟨rfl, hb⟩
  have HB1 := hide (bStep HB0___.out hb)
  have HV1 := hide (HV0___.out.below hb)
  clear hb HB0___ HV0___
  obtain ⟨c3, c4, c5⟩ := VL.cells3 (b := w.heap.size) (g := false) (s := sa) (t := ta) HV1.out (by simp)
  obtain ⟨c6, c7, c8⟩ := VL.cells3 (b := w.heap.size + 1) (g := true) (s := sb) (t := tb) HV1.out (by simp)
  obtain ⟨c9, c10, c11⟩ := VL.cells3 (b := w.heap.size + 2) (g := gc) (s := sc) (t := tc) HV1.out (by simp)
  go_wp2_with fail
  clear c3 c4 c5 c6 c7 c8 c9 c10 c11
  refine (HF.out _ _).mono ?_
  rintro e wf ⟨rfl, rfl⟩
  have HV1_ := hide (VL.below HV1.out (bAlloc (Below.refl _ _) (.cells #[.bool false, .string sa, .string ta, .bool true, .string sb, .string tb, .bool gc, .string sc, .string tc] 24)))
  have HB1_ := hide (bAlloc HB1.out (.cells #[.bool false, .string sa, .string ta, .bool true, .string sb, .string tb, .bool gc, .string sc, .string tc] 24))
  clear HB1 HV1
  obtain ⟨c12, c13, c14⟩ := VL.cells3 (b := w.heap.size) (g := false) (s := sa) (t := ta) HV1_.out (by simp)
  obtain ⟨c15, c16, c17⟩ := VL.cells3 (b := w.heap.size + 1) (g := true) (s := sb) (t := tb) HV1_.out (by simp)
  obtain ⟨c18, c19, c20⟩ := VL.cells3 (b := w.heap.size + 2) (g := gc) (s := sc) (t := tc) HV1_.out (by simp)
  go_wp2_with fail
  clear c12 c13 c14 c15 c16 c17 c18 c19 c20
  refine (HVA.out _ (HW.out.below HB1_.out)).mono ?_
  rintro e w2 ⟨rfl, hb⟩
  have HB2 := hide (bStep HB1_.out hb)
  have HV2 := hide (HV1_.out.below hb)
  clear hb HB1_ HV1_
  obtain ⟨c21, c22, c23⟩ := VL.cells3 (b := w.heap.size) (g := false) (s := sa) (t := ta) HV2.out (by simp)
  obtain ⟨c24, c25, c26⟩ := VL.cells3 (b := w.heap.size + 1) (g := true) (s := sb) (t := tb) HV2.out (by simp)
  obtain ⟨c27, c28, c29⟩ := VL.cells3 (b := w.heap.size + 2) (g := gc) (s := sc) (t := tc) HV2.out (by simp)
  go_wp2_with fail
  clear c21 c22 c23 c24 c25 c26 c27 c28 c29
  refine (HVB.out _ (HW.out.below HB2.out)).mono ?_
  rintro e w3 ⟨rfl, hb⟩
  have HB3 := hide (bStep HB2.out hb)
  have HV3 := hide (HV2.out.below hb)
  clear hb HB2 HV2
  obtain ⟨c30, c31, c32⟩ := VL.cells3 (b := w.heap.size) (g := false) (s := sa) (t := ta) HV3.out (by simp)
  obtain ⟨c33, c34, c35⟩ := VL.cells3 (b := w.heap.size + 1) (g := true) (s := sb) (t := tb) HV3.out (by simp)
  obtain ⟨c36, c37, c38⟩ := VL.cells3 (b := w.heap.size + 2) (g := gc) (s := sc) (t := tc) HV3.out (by simp)
  go_wp2_with fail
  clear c30 c31 c32 c33 c34 c35 c36 c37 c38
  refine (HVC.out _ (HW.out.below HB3.out)).mono ?_
  rintro e w4 ⟨rfl, hb⟩
  have HB4 := hide (bStep HB3.out hb)
  have HV4 := hide (HV3.out.below hb)
  clear hb HB3 HV3
  go_wp2_with fail
  refine (law04_rat _ _ _ _).mono ?_
  rintro e w5 ⟨rfl, hb⟩
  have HB5 := hide (bStep HB4.out hb)
  have HV5 := hide (HV4.out.below hb)
  clear hb HB4 HV4
  have HV5_ := hide (HV5.out.pushAt (b := w5.heap.size) (by simp) false ⟨#[48]⟩ ⟨#[49]⟩ 24)
  have HB5_ := hide (bAlloc HB5.out (.cells #[.bool false, .string ⟨#[48]⟩, .string ⟨#[49]⟩] 24))
  clear HB5 HV5
  obtain ⟨c39, c40, c41⟩ := VL.cells3 (b := w.heap.size) (g := false) (s := sa) (t := ta) HV5_.out (by simp)
  obtain ⟨c42, c43, c44⟩ := VL.cells3 (b := w.heap.size + 1) (g := true) (s := sb) (t := tb) HV5_.out (by simp)
  go_wp2_with fail
  clear c39 c40 c41 c42 c43 c44
  refine (HAB.out _ (HW.out.below HB5_.out)).mono ?_
  rintro e w6 ⟨rfl, hb⟩
  have HB6 := hide (bStep HB5_.out hb)
  have HV6 := hide (HV5_.out.below hb)
  clear hb HB5_ HV5_
  obtain ⟨c45, c46, c47⟩ := VL.cells3 (b := w.heap.size + 1) (g := true) (s := sb) (t := tb) HV6.out (by simp)
  obtain ⟨c48, c49, c50⟩ := VL.cells3 (b := w.heap.size + 2) (g := gc) (s := sc) (t := tc) HV6.out (by simp)
  go_wp2_with fail
  clear c45 c46 c47 c48 c49 c50
  refine (HBC.out _ (HW.out.below HB6.out)).mono ?_
  rintro e w7 ⟨rfl, hb⟩
  have HB7 := hide (bStep HB6.out hb)
  have HV7 := hide (HV6.out.below hb)
  clear hb HB6 HV6
  obtain ⟨NA, hsA⟩ : ∃ N, VS w N w7 [(w5.heap.size, false, ⟨#[48]⟩, ⟨#[49]⟩), (w.heap.size + 2, gc, sc, tc), (w.heap.size + 1, true, sb, tb), (w.heap.size, false, sa, ta)] := ⟨_, VS.start HB7.out HV7.out⟩
  clear HB7 HV7
  have HSA := hide hsA
  clear hsA
  go_upto_region 7 with fail
  go_cut [86] (fun z86 wx => z86 = .bool false ∧ VS w NA wx [(w5.heap.size, false, ⟨#[48]⟩, ⟨#[49]⟩), (w.heap.size + 2, gc, sc, tc), (w.heap.size + 1, true, sb, tb), (w.heap.size, false, sa, ta)])
  case first =>
    have HBf := hide HSA.out.bel
    have HVf := hide HSA.out.vl
    obtain ⟨c51, c52, c53⟩ := VL.cells3 (b := w.heap.size) (g := false) (s := sa) (t := ta) HVf.out (by simp)
    obtain ⟨c54, c55, c56⟩ := VL.cells3 (b := w.heap.size + 1) (g := true) (s := sb) (t := tb) HVf.out (by simp)
    go_wp2_with fail
    clear c51 c52 c53 c54 c55 c56
    refine (HBA.out _ (HW.out.below HBf.out)).mono ?_
    rintro e wg ⟨rfl, hb⟩
    have HSB := hide (HSA.out.below hb)
    clear hb HBf HVf HSA
    have HBg := hide HSB.out.bel
    have HVg := hide HSB.out.vl
    obtain ⟨c57, c58, c59⟩ := VL.cells3 (b := w.heap.size) (g := false) (s := sa) (t := ta) HVg.out (by simp)
    obtain ⟨c60, c61, c62⟩ := VL.cells3 (b := w.heap.size + 1) (g := true) (s := sb) (t := tb) HVg.out (by simp)
    obtain ⟨c63, c64, c65⟩ := VL.cells3 (b := w.heap.size + 2) (g := gc) (s := sc) (t := tc) HVg.out (by simp)
    rcases HYZ.out with h1 | ⟨h1, h2⟩ | ⟨h1, h2, h3⟩
    · go_wp2_with fail
      go_meet
      exact ⟨rfl, HSB.out⟩
    · go_wp2_with fail
      go_meet
      exact ⟨rfl, HSB.out⟩
    · go_wp2_with fail
      refine (HAC.out _ (HW.out.below HBg.out)).mono ?_
      rintro e wh ⟨rfl, hb⟩
      have HSC := hide (HSB.out.below hb)
      clear hb
      go_wp2_with fail
      go_meet
      exact ⟨rfl, HSC.out⟩
  case rest =>
  obtain ⟨rfl, hsC⟩ := hcut
  have HBc := hide hsC.bel
  have HVc := hide hsC.vl
  clear hsC HSA
  obtain ⟨c66, c67, c68⟩ := VL.cells3 (b := w.heap.size) (g := false) (s := sa) (t := ta) HVc.out (by simp)
  obtain ⟨c69, c70, c71⟩ := VL.cells3 (b := w.heap.size + 1) (g := true) (s := sb) (t := tb) HVc.out (by simp)
  go_wp2_with fail
  clear c66 c67 c68 c69 c70 c71
  refine (HD.out _ (HW.out.below HBc.out)).mono ?_
  rintro e w8 ⟨rfl, hb⟩
  have HB8 := hide (bStep HBc.out hb)
  have HV8 := hide (HVc.out.below hb)
  clear hb HBc HVc
  have HV8_ := hide (HV8.out.pushAt (b := w8.heap.size) (by simp) gd sd td 24)
  have HB8_ := hide (bAlloc HB8.out (.cells #[.bool gd, .string sd, .string td] 24))
  clear HB8 HV8
  obtain ⟨c72, c73, c74⟩ := VL.cells3 (b := w.heap.size) (g := false) (s := sa) (t := ta) HV8_.out (by simp)
  obtain ⟨c75, c76, c77⟩ := VL.cells3 (b := w.heap.size + 2) (g := gc) (s := sc) (t := tc) HV8_.out (by simp)
  go_wp2_with fail
  clear c72 c73 c74 c75 c76 c77
  refine (HS.out _ (HW.out.below HB8_.out)).mono ?_
  rintro e w9 ⟨rfl, hb⟩
  have HB9 := hide (bStep HB8_.out hb)
  have HV9 := hide (HV8_.out.below hb)
  clear hb HB8_ HV8_
  have HV9_ := hide (HV9.out.pushAt (b := w9.heap.size) (by simp) gs ss ts 24)
  have HB9_ := hide (bAlloc HB9.out (.cells #[.bool gs, .string ss, .string ts] 24))
  clear HB9 HV9
  obtain ⟨c78, c79, c80⟩ := VL.cells3 (b := w.heap.size + 1) (g := true) (s := sb) (t := tb) HV9_.out (by simp)
  obtain ⟨c81, c82, c83⟩ := VL.cells3 (b := w.heap.size + 2) (g := gc) (s := sc) (t := tc) HV9_.out (by simp)
  go_wp2_with fail
  clear c78 c79 c80 c81 c82 c83
  refine (HT.out _ (HW.out.below HB9_.out)).mono ?_
  rintro e w10 ⟨rfl, hb⟩
  have HB10 := hide (bStep HB9_.out hb)
  have HV10 := hide (HV9_.out.below hb)
  clear hb HB9_ HV9_
  have HV10_ := hide (HV10.out.pushAt (b := w10.heap.size) (by simp) gt st tt 24)
  have HB10_ := hide (bAlloc HB10.out (.cells #[.bool gt, .string st, .string tt] 24))
  clear HB10 HV10
  obtain ⟨c84, c85, c86⟩ := VL.cells3 (b := w.heap.size) (g := false) (s := sa) (t := ta) HV10_.out (by simp)
  obtain ⟨c87, c88, c89⟩ := VL.cells3 (b := w.heap.size + 2) (g := gc) (s := sc) (t := tc) HV10_.out (by simp)
  go_wp2_with fail
  clear c84 c85 c86 c87 c88 c89
  refine (HM.out _ (HW.out.below HB10_.out)).mono ?_
  rintro e w11 ⟨rfl, hb⟩
  have HB11 := hide (bStep HB10_.out hb)
  have HV11 := hide (HV10_.out.below hb)
  clear hb HB10_ HV10_
  have HV11_ := hide (HV11.out.pushAt (b := w11.heap.size) (by simp) gm sm tm 24)
  have HB11_ := hide (bAlloc HB11.out (.cells #[.bool gm, .string sm, .string tm] 24))
  clear HB11 HV11
  obtain ⟨c90, c91, c92⟩ := VL.cells3 (b := w.heap.size + 1) (g := true) (s := sb) (t := tb) HV11_.out (by simp)
  obtain ⟨c93, c94, c95⟩ := VL.cells3 (b := w.heap.size + 2) (g := gc) (s := sc) (t := tc) HV11_.out (by simp)
  go_wp2_with fail
  clear c90 c91 c92 c93 c94 c95
  refine (HN.out _ (HW.out.below HB11_.out)).mono ?_
  rintro e w12 ⟨rfl, hb⟩
  have HB12 := hide (bStep HB11_.out hb)
  have HV12 := hide (HV11_.out.below hb)
  clear hb HB11_ HV11_
  have HV12_ := hide (HV12.out.pushAt (b := w12.heap.size) (by simp) gn sn tn 24)
  have HB12_ := hide (bAlloc HB12.out (.cells #[.bool gn, .string sn, .string tn] 24))
  clear HB12 HV12
  obtain ⟨c96, c97, c98⟩ := VL.cells3 (b := w8.heap.size) (g := gd) (s := sd) (t := td) HV12_.out (by simp)
  obtain ⟨c99, c100, c101⟩ := VL.cells3 (b := w5.heap.size) (g := false) (s := ⟨#[48]⟩) (t := ⟨#[49]⟩) HV12_.out (by simp)
  go_wp2_with fail
  clear c96 c97 c98 c99 c100 c101
  refine (HDZ.out _ (HW.out.below HB12_.out)).mono ?_
  rintro e w13 ⟨rfl, hb⟩
  have HB13 := hide (bStep HB12_.out hb)
  have HV13 := hide (HV12_.out.below hb)
  clear hb HB12_ HV12_
  obtain ⟨c102, c103, c104⟩ := VL.cells3 (b := w9.heap.size) (g := gs) (s := ss) (t := ts) HV13.out (by simp)
  obtain ⟨c105, c106, c107⟩ := VL.cells3 (b := w10.heap.size) (g := gt) (s := st) (t := tt) HV13.out (by simp)
  go_wp2_with fail
  clear c102 c103 c104 c105 c106 c107
  refine (HST.out _ (HW.out.below HB13.out)).mono ?_
  rintro e w14 ⟨rfl, hb⟩
  have HB14 := hide (bStep HB13.out hb)
  have HV14 := hide (HV13.out.below hb)
  clear hb HB13 HV13
  obtain ⟨c108, c109, c110⟩ := VL.cells3 (b := w.heap.size + 2) (g := gc) (s := sc) (t := tc) HV14.out (by simp)
  obtain ⟨c111, c112, c113⟩ := VL.cells3 (b := w5.heap.size) (g := false) (s := ⟨#[48]⟩) (t := ⟨#[49]⟩) HV14.out (by simp)
  obtain ⟨c114, c115, c116⟩ := VL.cells3 (b := w11.heap.size) (g := gm) (s := sm) (t := tm) HV14.out (by simp)
  obtain ⟨c117, c118, c119⟩ := VL.cells3 (b := w12.heap.size) (g := gn) (s := sn) (t := tn) HV14.out (by simp)
  rcases HZ.out with rfl | ⟨rfl, rfl, rfl⟩ | ⟨rfl, h2, h3⟩
  · go_wp2_with fail
    go_ret
    exact ⟨rfl, HB14.out⟩
  · go_wp2_with fail
    go_ret
    exact ⟨rfl, HB14.out⟩
  · rw [h3] at HMN0
    clear HZ h3
    go_wp2_with fail
    refine (HMN0.out _ (HW.out.below HB14.out)).mono ?_
    rintro e wz ⟨rfl, hb⟩
    have HBz := hide (bStep HB14.out hb)
    clear hb
    go_wp2_with fail
    go_ret
    exact ⟨rfl, HBz.out⟩
theorem rationalOrder_walk (ga : Bool) (sa ta : ByteArray) (gb : Bool) (sb tb : ByteArray) (gc : Bool) (sc tc : ByteArray) (w : World) (hw : LawW w) :
    Calls Tryz.prog 7 #[.agg #[.bool ga, .string sa, .string ta], .agg #[.bool gb, .string sb, .string tb], .agg #[.bool gc, .string sc, .string tc]] w fun e w' => e = .returned (.bool true) ∧ Below w.heap.size w w' := by
  rcases Bool.eq_false_or_eq_true (fewQ 40 [(ga, sa, ta), (gb, sb, tb), (gc, sc, tc)]) with hf | hf
  · obtain ⟨⟨l1, l2⟩, ⟨l3, l4⟩, l5, l6⟩ := fewQ_three hf
    rcases Bool.eq_false_or_eq_true (vldR ga sa ta) with va | va
    · rcases Bool.eq_false_or_eq_true (vldR gb sb tb) with vb | vb
      · rcases Bool.eq_false_or_eq_true (vldR gc sc tc) with vc | vc
        · obtain ⟨p, ep, hp⟩ := few_q (by omega) l1 l2 va
          obtain ⟨q, eq, hq⟩ := few_q (by omega) l3 l4 vb
          obtain ⟨r, er, hr⟩ := few_q (by omega) l5 l6 vc
          by_cases hne : p = q
          · have e := eq
            unfold IsQ at e ep
            rw [← hne, ep] at e
            simp only [Value.agg.injEq, Array.mk.injEq, List.cons.injEq, Value.bool.injEq, Value.string.injEq, and_true] at e
            obtain ⟨rfl, rfl, rfl⟩ := e
            exact order_eq p q r ga sa ta gc sc tc w hp hq hr ep eq er hne hf hw
          · by_cases hg : ga = gb
            · subst hg
              by_cases hs : (sa.toList == sb.toList) = true
              · have e2 : sa = sb := list_inj hs
                subst e2
                have ht : (ta.toList == tb.toList) = false := by
                  rcases Bool.eq_false_or_eq_true (ta.toList == tb.toList) with h | h
                  · have e3 : ta = tb := list_inj h
                    subst e3
                    exact absurd (ep.inj eq) hne
                  · exact h
                exact order_neB p q r ga sa ta tb gc sc tc ht w hp hq hr ep eq er hne hf hw
              · exact order_neA p q r ga sa ta sb tb gc sc tc (by simpa using hs) w hp hq hr ep eq er hne hf hw
            · cases ga
              · cases gb
                · exact absurd rfl hg
                · exact order_neD p q r sa ta sb tb gc sc tc w hp hq hr ep eq er hne hf hw
              · cases gb
                · exact order_neC p q r sa ta sb tb gc sc tc w hp hq hr ep eq er hne hf hw
                · exact absurd rfl hg
        · exact order_bad4 ga sa ta gb sb tb gc sc tc w hf va vb vc hw
      · exact order_bad3 ga sa ta gb sb tb gc sc tc w hf va vb hw
    · exact order_bad2 ga sa ta gb sb tb gc sc tc w hf va hw
  · exact order_bad1 ga sa ta gb sb tb gc sc tc w hf hw
end Go.Proofs.YtncocgfgbocnkaaGreatDoor
