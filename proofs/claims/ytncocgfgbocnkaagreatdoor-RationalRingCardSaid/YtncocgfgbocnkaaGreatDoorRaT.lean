/- RationalRing. -/
import Derived.Test.YtncocgfgbocnkaaGreatDoorRaS
import Derived.BigGuard
set_option linter.unusedVariables false
set_option linter.unusedSimpArgs false
namespace Go.Proofs.YtncocgfgbocnkaaGreatDoor
open Go.RowKit Go.Sort

theorem RS.start {w W : World} {O : Nat} {L : List (Nat × Bool × ByteArray × ByteArray)} (hb : Below w.heap.size w W) (hv : VL W L) (hO : O = W.heap.size) (T : TypeId) : RS w O (O + 1) (W.alloc (.cells #[.bool true] T)) L := by
  subst hO
  have hlt : ∀ x ∈ L, x.1 < W.heap.size := fun x hx => (hv x hx).lt
  exact ⟨⟨bAlloc hb _, hv.below (bAlloc (Below.refl _ _) _), by simp, fun x hx => by have := hlt x hx; omega, by have := hb.size; omega⟩,
    Nat.lt_succ_self _, hb.size, fun x hx => by have := hlt x hx; omega, World.cell?_alloc_new W _ T 0, World.frozen?_alloc_new W _ T 0⟩

set_option maxHeartbeats 4000000 in
set_option maxRecDepth 100000 in
theorem ring_bad1 (ga : Bool) (sa ta : ByteArray) (gb : Bool) (sb tb : ByteArray) (gc : Bool) (sc tc : ByteArray) (w : World) (hf : fewQ 40 [(ga, sa, ta), (gb, sb, tb), (gc, sc, tc)] = false) (hw : LawW w) :
    Calls Tryz.prog 5 #[.agg #[.bool ga, .string sa, .string ta], .agg #[.bool gb, .string sb, .string tb], .agg #[.bool gc, .string sc, .string tc]] w fun e w' => e = .returned (.bool true) ∧ Below w.heap.size w w' := by
  have HW := hide hw
  have HF := hide (fun W T => few_three ga sa ta gb sb tb gc sc tc W T)
  rw [hf] at HF
  have HH := hide (fun W hW => law04_head W hW)
  have HB0 : Hid (Below w.heap.size w w) := Below.refl _ _
  have HV0 : Hid (VL w []) := VL.nil w
  clear hf hw
  go_enter Tryz.func5, Tryz.ntmps5
  have HV0_ := hide (HV0.out.pushAt (b := w.heap.size) (by simp) ga sa ta 24)
  have HB0_ := hide (bAlloc HB0.out (.cells #[.bool ga, .string sa, .string ta] 24))
  clear HB0 HV0
  have HV0__ := hide (HV0_.out.pushAt (b := w.heap.size + 1) (by simp) gb sb tb 24)
  have HB0__ := hide (bAlloc HB0_.out (.cells #[.bool gb, .string sb, .string tb] 24))
  clear HB0_ HV0_
  have HV0___ := hide (HV0__.out.pushAt (b := w.heap.size + 2) (by simp) gc sc tc 24)
  have HB0___ := hide (bAlloc HB0__.out (.cells #[.bool gc, .string sc, .string tc] 24))
  clear HB0__ HV0__
  go_wp2_with fail
  refine (HH.out _ (HW.out.below HB0___.out)).mono ?_
  rintro e w1 ⟨rfl, hb⟩
  have HB1 := hide (bStep HB0___.out hb)
  have HV1 := hide (HV0___.out.below hb)
  clear hb HB0___ HV0___
  obtain ⟨c3, c4, c5⟩ := VL.cells3 (b := w.heap.size) (g := ga) (s := sa) (t := ta) HV1.out (by simp)
  obtain ⟨c6, c7, c8⟩ := VL.cells3 (b := w.heap.size + 1) (g := gb) (s := sb) (t := tb) HV1.out (by simp)
  obtain ⟨c9, c10, c11⟩ := VL.cells3 (b := w.heap.size + 2) (g := gc) (s := sc) (t := tc) HV1.out (by simp)
  go_wp2_with fail
  clear c3 c4 c5 c6 c7 c8 c9 c10 c11
  refine (HF.out _ _).mono ?_
  rintro e wf ⟨rfl, rfl⟩
  have HV1_ := hide (VL.below HV1.out (bAlloc (Below.refl _ _) (.cells #[.bool ga, .string sa, .string ta, .bool gb, .string sb, .string tb, .bool gc, .string sc, .string tc] 24)))
  have HB1_ := hide (bAlloc HB1.out (.cells #[.bool ga, .string sa, .string ta, .bool gb, .string sb, .string tb, .bool gc, .string sc, .string tc] 24))
  clear HB1 HV1
  go_wp2_with fail
  go_ret
  exact ⟨rfl, HB1_.out⟩
set_option maxHeartbeats 4000000 in
set_option maxRecDepth 100000 in
theorem ring_bad2 (ga : Bool) (sa ta : ByteArray) (gb : Bool) (sb tb : ByteArray) (gc : Bool) (sc tc : ByteArray) (w : World) (hf : fewQ 40 [(ga, sa, ta), (gb, sb, tb), (gc, sc, tc)] = true) (va : vldR ga sa ta = false) (hw : LawW w) :
    Calls Tryz.prog 5 #[.agg #[.bool ga, .string sa, .string ta], .agg #[.bool gb, .string sb, .string tb], .agg #[.bool gc, .string sc, .string tc]] w fun e w' => e = .returned (.bool true) ∧ Below w.heap.size w w' := by
  have HW := hide hw
  have HF := hide (fun W T => few_three ga sa ta gb sb tb gc sc tc W T)
  rw [hf] at HF
  obtain ⟨⟨l1, l2⟩, ⟨l3, l4⟩, l5, l6⟩ := fewQ_three hf
  have HVA := hide (fun W hW => rat_valid ga sa ta W (by unfold maxLen; simp at l1; omega) (by unfold maxLen; simp at l2; omega) hW)
  rw [va] at HVA
  have HH := hide (fun W hW => law04_head W hW)
  have HB0 : Hid (Below w.heap.size w w) := Below.refl _ _
  have HV0 : Hid (VL w []) := VL.nil w
  clear hf hw l1 l2 l3 l4 l5 l6 va
  go_enter Tryz.func5, Tryz.ntmps5
  have HV0_ := hide (HV0.out.pushAt (b := w.heap.size) (by simp) ga sa ta 24)
  have HB0_ := hide (bAlloc HB0.out (.cells #[.bool ga, .string sa, .string ta] 24))
  clear HB0 HV0
  have HV0__ := hide (HV0_.out.pushAt (b := w.heap.size + 1) (by simp) gb sb tb 24)
  have HB0__ := hide (bAlloc HB0_.out (.cells #[.bool gb, .string sb, .string tb] 24))
  clear HB0_ HV0_
  have HV0___ := hide (HV0__.out.pushAt (b := w.heap.size + 2) (by simp) gc sc tc 24)
  have HB0___ := hide (bAlloc HB0__.out (.cells #[.bool gc, .string sc, .string tc] 24))
  clear HB0__ HV0__
  go_wp2_with fail
  refine (HH.out _ (HW.out.below HB0___.out)).mono ?_
  rintro e w1 ⟨rfl, hb⟩
  have HB1 := hide (bStep HB0___.out hb)
  have HV1 := hide (HV0___.out.below hb)
  clear hb HB0___ HV0___
  obtain ⟨c3, c4, c5⟩ := VL.cells3 (b := w.heap.size) (g := ga) (s := sa) (t := ta) HV1.out (by simp)
  obtain ⟨c6, c7, c8⟩ := VL.cells3 (b := w.heap.size + 1) (g := gb) (s := sb) (t := tb) HV1.out (by simp)
  obtain ⟨c9, c10, c11⟩ := VL.cells3 (b := w.heap.size + 2) (g := gc) (s := sc) (t := tc) HV1.out (by simp)
  go_wp2_with fail
  clear c3 c4 c5 c6 c7 c8 c9 c10 c11
  refine (HF.out _ _).mono ?_
  rintro e wf ⟨rfl, rfl⟩
  have HV1_ := hide (VL.below HV1.out (bAlloc (Below.refl _ _) (.cells #[.bool ga, .string sa, .string ta, .bool gb, .string sb, .string tb, .bool gc, .string sc, .string tc] 24)))
  have HB1_ := hide (bAlloc HB1.out (.cells #[.bool ga, .string sa, .string ta, .bool gb, .string sb, .string tb, .bool gc, .string sc, .string tc] 24))
  clear HB1 HV1
  obtain ⟨c12, c13, c14⟩ := VL.cells3 (b := w.heap.size) (g := ga) (s := sa) (t := ta) HV1_.out (by simp)
  obtain ⟨c15, c16, c17⟩ := VL.cells3 (b := w.heap.size + 1) (g := gb) (s := sb) (t := tb) HV1_.out (by simp)
  obtain ⟨c18, c19, c20⟩ := VL.cells3 (b := w.heap.size + 2) (g := gc) (s := sc) (t := tc) HV1_.out (by simp)
  go_wp2_with fail
  clear c12 c13 c14 c15 c16 c17 c18 c19 c20
  refine (HVA.out _ (HW.out.below HB1_.out)).mono ?_
  rintro e w2 ⟨rfl, hb⟩
  have HB2 := hide (bStep HB1_.out hb)
  have HV2 := hide (HV1_.out.below hb)
  clear hb HB1_ HV1_
  go_wp2_with fail
  go_ret
  exact ⟨rfl, HB2.out⟩
set_option maxHeartbeats 4000000 in
set_option maxRecDepth 100000 in
theorem ring_bad3 (ga : Bool) (sa ta : ByteArray) (gb : Bool) (sb tb : ByteArray) (gc : Bool) (sc tc : ByteArray) (w : World) (hf : fewQ 40 [(ga, sa, ta), (gb, sb, tb), (gc, sc, tc)] = true) (va : vldR ga sa ta = true) (vb : vldR gb sb tb = false) (hw : LawW w) :
    Calls Tryz.prog 5 #[.agg #[.bool ga, .string sa, .string ta], .agg #[.bool gb, .string sb, .string tb], .agg #[.bool gc, .string sc, .string tc]] w fun e w' => e = .returned (.bool true) ∧ Below w.heap.size w w' := by
  have HW := hide hw
  have HF := hide (fun W T => few_three ga sa ta gb sb tb gc sc tc W T)
  rw [hf] at HF
  obtain ⟨⟨l1, l2⟩, ⟨l3, l4⟩, l5, l6⟩ := fewQ_three hf
  have HVA := hide (fun W hW => rat_valid ga sa ta W (by unfold maxLen; simp at l1; omega) (by unfold maxLen; simp at l2; omega) hW)
  rw [va] at HVA
  have HVB := hide (fun W hW => rat_valid gb sb tb W (by unfold maxLen; simp at l3; omega) (by unfold maxLen; simp at l4; omega) hW)
  rw [vb] at HVB
  have HH := hide (fun W hW => law04_head W hW)
  have HB0 : Hid (Below w.heap.size w w) := Below.refl _ _
  have HV0 : Hid (VL w []) := VL.nil w
  clear hf hw l1 l2 l3 l4 l5 l6 va vb
  go_enter Tryz.func5, Tryz.ntmps5
  have HV0_ := hide (HV0.out.pushAt (b := w.heap.size) (by simp) ga sa ta 24)
  have HB0_ := hide (bAlloc HB0.out (.cells #[.bool ga, .string sa, .string ta] 24))
  clear HB0 HV0
  have HV0__ := hide (HV0_.out.pushAt (b := w.heap.size + 1) (by simp) gb sb tb 24)
  have HB0__ := hide (bAlloc HB0_.out (.cells #[.bool gb, .string sb, .string tb] 24))
  clear HB0_ HV0_
  have HV0___ := hide (HV0__.out.pushAt (b := w.heap.size + 2) (by simp) gc sc tc 24)
  have HB0___ := hide (bAlloc HB0__.out (.cells #[.bool gc, .string sc, .string tc] 24))
  clear HB0__ HV0__
  go_wp2_with fail
  refine (HH.out _ (HW.out.below HB0___.out)).mono ?_
  rintro e w1 ⟨rfl, hb⟩
  have HB1 := hide (bStep HB0___.out hb)
  have HV1 := hide (HV0___.out.below hb)
  clear hb HB0___ HV0___
  obtain ⟨c3, c4, c5⟩ := VL.cells3 (b := w.heap.size) (g := ga) (s := sa) (t := ta) HV1.out (by simp)
  obtain ⟨c6, c7, c8⟩ := VL.cells3 (b := w.heap.size + 1) (g := gb) (s := sb) (t := tb) HV1.out (by simp)
  obtain ⟨c9, c10, c11⟩ := VL.cells3 (b := w.heap.size + 2) (g := gc) (s := sc) (t := tc) HV1.out (by simp)
  go_wp2_with fail
  clear c3 c4 c5 c6 c7 c8 c9 c10 c11
  refine (HF.out _ _).mono ?_
  rintro e wf ⟨rfl, rfl⟩
  have HV1_ := hide (VL.below HV1.out (bAlloc (Below.refl _ _) (.cells #[.bool ga, .string sa, .string ta, .bool gb, .string sb, .string tb, .bool gc, .string sc, .string tc] 24)))
  have HB1_ := hide (bAlloc HB1.out (.cells #[.bool ga, .string sa, .string ta, .bool gb, .string sb, .string tb, .bool gc, .string sc, .string tc] 24))
  clear HB1 HV1
  obtain ⟨c12, c13, c14⟩ := VL.cells3 (b := w.heap.size) (g := ga) (s := sa) (t := ta) HV1_.out (by simp)
  obtain ⟨c15, c16, c17⟩ := VL.cells3 (b := w.heap.size + 1) (g := gb) (s := sb) (t := tb) HV1_.out (by simp)
  obtain ⟨c18, c19, c20⟩ := VL.cells3 (b := w.heap.size + 2) (g := gc) (s := sc) (t := tc) HV1_.out (by simp)
  go_wp2_with fail
  clear c12 c13 c14 c15 c16 c17 c18 c19 c20
  refine (HVA.out _ (HW.out.below HB1_.out)).mono ?_
  rintro e w2 ⟨rfl, hb⟩
  have HB2 := hide (bStep HB1_.out hb)
  have HV2 := hide (HV1_.out.below hb)
  clear hb HB1_ HV1_
  obtain ⟨c21, c22, c23⟩ := VL.cells3 (b := w.heap.size) (g := ga) (s := sa) (t := ta) HV2.out (by simp)
  obtain ⟨c24, c25, c26⟩ := VL.cells3 (b := w.heap.size + 1) (g := gb) (s := sb) (t := tb) HV2.out (by simp)
  obtain ⟨c27, c28, c29⟩ := VL.cells3 (b := w.heap.size + 2) (g := gc) (s := sc) (t := tc) HV2.out (by simp)
  go_wp2_with fail
  clear c21 c22 c23 c24 c25 c26 c27 c28 c29
  refine (HVB.out _ (HW.out.below HB2.out)).mono ?_
  rintro e w3 ⟨rfl, hb⟩
  have HB3 := hide (bStep HB2.out hb)
  have HV3 := hide (HV2.out.below hb)
  clear hb HB2 HV2
  go_wp2_with fail
  go_ret
  exact ⟨rfl, HB3.out⟩
set_option maxHeartbeats 4000000 in
set_option maxRecDepth 100000 in
theorem ring_bad4 (ga : Bool) (sa ta : ByteArray) (gb : Bool) (sb tb : ByteArray) (gc : Bool) (sc tc : ByteArray) (w : World) (hf : fewQ 40 [(ga, sa, ta), (gb, sb, tb), (gc, sc, tc)] = true) (va : vldR ga sa ta = true) (vb : vldR gb sb tb = true) (vc : vldR gc sc tc = false) (hw : LawW w) :
    Calls Tryz.prog 5 #[.agg #[.bool ga, .string sa, .string ta], .agg #[.bool gb, .string sb, .string tb], .agg #[.bool gc, .string sc, .string tc]] w fun e w' => e = .returned (.bool true) ∧ Below w.heap.size w w' := by
  have HW := hide hw
  have HF := hide (fun W T => few_three ga sa ta gb sb tb gc sc tc W T)
  rw [hf] at HF
  obtain ⟨⟨l1, l2⟩, ⟨l3, l4⟩, l5, l6⟩ := fewQ_three hf
  have HVA := hide (fun W hW => rat_valid ga sa ta W (by unfold maxLen; simp at l1; omega) (by unfold maxLen; simp at l2; omega) hW)
  rw [va] at HVA
  have HVB := hide (fun W hW => rat_valid gb sb tb W (by unfold maxLen; simp at l3; omega) (by unfold maxLen; simp at l4; omega) hW)
  rw [vb] at HVB
  have HVC := hide (fun W hW => rat_valid gc sc tc W (by unfold maxLen; simp at l5; omega) (by unfold maxLen; simp at l6; omega) hW)
  rw [vc] at HVC
  have HH := hide (fun W hW => law04_head W hW)
  have HB0 : Hid (Below w.heap.size w w) := Below.refl _ _
  have HV0 : Hid (VL w []) := VL.nil w
  clear hf hw l1 l2 l3 l4 l5 l6 va vb vc
  go_enter Tryz.func5, Tryz.ntmps5
  have HV0_ := hide (HV0.out.pushAt (b := w.heap.size) (by simp) ga sa ta 24)
  have HB0_ := hide (bAlloc HB0.out (.cells #[.bool ga, .string sa, .string ta] 24))
  clear HB0 HV0
  have HV0__ := hide (HV0_.out.pushAt (b := w.heap.size + 1) (by simp) gb sb tb 24)
  have HB0__ := hide (bAlloc HB0_.out (.cells #[.bool gb, .string sb, .string tb] 24))
  clear HB0_ HV0_
  have HV0___ := hide (HV0__.out.pushAt (b := w.heap.size + 2) (by simp) gc sc tc 24)
  have HB0___ := hide (bAlloc HB0__.out (.cells #[.bool gc, .string sc, .string tc] 24))
  clear HB0__ HV0__
  go_wp2_with fail
  refine (HH.out _ (HW.out.below HB0___.out)).mono ?_
  rintro e w1 ⟨rfl, hb⟩
  have HB1 := hide (bStep HB0___.out hb)
  have HV1 := hide (HV0___.out.below hb)
  clear hb HB0___ HV0___
  obtain ⟨c3, c4, c5⟩ := VL.cells3 (b := w.heap.size) (g := ga) (s := sa) (t := ta) HV1.out (by simp)
  obtain ⟨c6, c7, c8⟩ := VL.cells3 (b := w.heap.size + 1) (g := gb) (s := sb) (t := tb) HV1.out (by simp)
  obtain ⟨c9, c10, c11⟩ := VL.cells3 (b := w.heap.size + 2) (g := gc) (s := sc) (t := tc) HV1.out (by simp)
  go_wp2_with fail
  clear c3 c4 c5 c6 c7 c8 c9 c10 c11
  refine (HF.out _ _).mono ?_
  rintro e wf ⟨rfl, rfl⟩
  have HV1_ := hide (VL.below HV1.out (bAlloc (Below.refl _ _) (.cells #[.bool ga, .string sa, .string ta, .bool gb, .string sb, .string tb, .bool gc, .string sc, .string tc] 24)))
  have HB1_ := hide (bAlloc HB1.out (.cells #[.bool ga, .string sa, .string ta, .bool gb, .string sb, .string tb, .bool gc, .string sc, .string tc] 24))
  clear HB1 HV1
  obtain ⟨c12, c13, c14⟩ := VL.cells3 (b := w.heap.size) (g := ga) (s := sa) (t := ta) HV1_.out (by simp)
  obtain ⟨c15, c16, c17⟩ := VL.cells3 (b := w.heap.size + 1) (g := gb) (s := sb) (t := tb) HV1_.out (by simp)
  obtain ⟨c18, c19, c20⟩ := VL.cells3 (b := w.heap.size + 2) (g := gc) (s := sc) (t := tc) HV1_.out (by simp)
  go_wp2_with fail
  clear c12 c13 c14 c15 c16 c17 c18 c19 c20
  refine (HVA.out _ (HW.out.below HB1_.out)).mono ?_
  rintro e w2 ⟨rfl, hb⟩
  have HB2 := hide (bStep HB1_.out hb)
  have HV2 := hide (HV1_.out.below hb)
  clear hb HB1_ HV1_
  obtain ⟨c21, c22, c23⟩ := VL.cells3 (b := w.heap.size) (g := ga) (s := sa) (t := ta) HV2.out (by simp)
  obtain ⟨c24, c25, c26⟩ := VL.cells3 (b := w.heap.size + 1) (g := gb) (s := sb) (t := tb) HV2.out (by simp)
  obtain ⟨c27, c28, c29⟩ := VL.cells3 (b := w.heap.size + 2) (g := gc) (s := sc) (t := tc) HV2.out (by simp)
  go_wp2_with fail
  clear c21 c22 c23 c24 c25 c26 c27 c28 c29
  refine (HVB.out _ (HW.out.below HB2.out)).mono ?_
  rintro e w3 ⟨rfl, hb⟩
  have HB3 := hide (bStep HB2.out hb)
  have HV3 := hide (HV2.out.below hb)
  clear hb HB2 HV2
  obtain ⟨c30, c31, c32⟩ := VL.cells3 (b := w.heap.size) (g := ga) (s := sa) (t := ta) HV3.out (by simp)
  obtain ⟨c33, c34, c35⟩ := VL.cells3 (b := w.heap.size + 1) (g := gb) (s := sb) (t := tb) HV3.out (by simp)
  obtain ⟨c36, c37, c38⟩ := VL.cells3 (b := w.heap.size + 2) (g := gc) (s := sc) (t := tc) HV3.out (by simp)
  go_wp2_with fail
  clear c30 c31 c32 c33 c34 c35 c36 c37 c38
  refine (HVC.out _ (HW.out.below HB3.out)).mono ?_
  rintro e w4 ⟨rfl, hb⟩
  have HB4 := hide (bStep HB3.out hb)
  have HV4 := hide (HV3.out.below hb)
  clear hb HB3 HV3
  go_wp2_with fail
  go_ret
  exact ⟨rfl, HB4.out⟩
set_option maxHeartbeats 8000000 in
set_option maxRecDepth 100000 in
theorem ring_ok (p q r : Rat) (ga : Bool) (sa ta : ByteArray) (gb : Bool) (sb tb : ByteArray) (gc : Bool) (sc tc : ByteArray) (w : World) (hp : Sz 40 p) (hq : Sz 40 q) (hr : Sz 40 r) (ep : IsQ p ga sa ta) (eq : IsQ q gb sb tb) (er : IsQ r gc sc tc) (hf : fewQ 40 [(ga, sa, ta), (gb, sb, tb), (gc, sc, tc)] = true) (hw : LawW w) :
    Calls Tryz.prog 5 #[.agg #[.bool ga, .string sa, .string ta], .agg #[.bool gb, .string sb, .string tb], .agg #[.bool gc, .string sc, .string tc]] w fun e w' => e = .returned (.bool true) ∧ Below w.heap.size w w' := by
  have HW := hide hw
  have HF := hide (fun W T => few_three ga sa ta gb sb tb gc sc tc W T)
  rw [hf] at HF
  have HVA := hide (fun W hW => valid_okq hp (by omega) ep W hW)
  have HVB := hide (fun W hW => valid_okq hq (by omega) eq W hW)
  have HVC := hide (fun W hW => valid_okq hr (by omega) er W hW)
  obtain ⟨g1, s1, t1, eab⟩ := IsQ.get (p + q)
  obtain ⟨g2, s2, t2, eabc⟩ := IsQ.get (p + q + r)
  obtain ⟨g3, s3, t3, ebc⟩ := IsQ.get (q + r)
  obtain ⟨g4, s4, t4, emab⟩ := IsQ.get (p * q)
  obtain ⟨g5, s5, t5, emabc⟩ := IsQ.get (p * q * r)
  obtain ⟨g6, s6, t6, embc⟩ := IsQ.get (q * r)
  obtain ⟨g7, s7, t7, ed⟩ := IsQ.get (p * (q + r))
  obtain ⟨g8, s8, t8, emac⟩ := IsQ.get (p * r)
  have HA0 := hide (fun W hW => add_okq hp hq (by omega) (show p + q = (p + q) by grind) ep eq eab W hW)
  have HA1 := hide (fun W hW => add_okq hq hp (by omega) (show q + p = (p + q) by grind) eq ep eab W hW)
  have HA2 := hide (fun W hW => add_okq (hp.add hq) hr (by omega) (show (p + q) + r = (p + q + r) by grind) eab er eabc W hW)
  have HA3 := hide (fun W hW => add_okq hq hr (by omega) (show q + r = (q + r) by grind) eq er ebc W hW)
  have HA4 := hide (fun W hW => add_okq hp (hq.add hr) (by omega) (show p + (q + r) = (p + q + r) by grind) ep ebc eabc W hW)
  have HA5 := hide (fun W hW => add_okq (hp.mul hq) (hp.mul hr) (by omega) (show (p * q) + (p * r) = (p * (q + r)) by grind) emab emac ed W hW)
  have HM0 := hide (fun W hW => mul_okq hp hq (by omega) (show p * q = (p * q) by grind) ep eq emab W hW)
  have HM1 := hide (fun W hW => mul_okq hq hp (by omega) (show q * p = (p * q) by grind) eq ep emab W hW)
  have HM2 := hide (fun W hW => mul_okq (hp.mul hq) hr (by omega) (show (p * q) * r = (p * q * r) by grind) emab er emabc W hW)
  have HM3 := hide (fun W hW => mul_okq hq hr (by omega) (show q * r = (q * r) by grind) eq er embc W hW)
  have HM4 := hide (fun W hW => mul_okq hp (hq.mul hr) (by omega) (show p * (q * r) = (p * q * r) by grind) ep embc emabc W hW)
  have HM5 := hide (fun W hW => mul_okq hp (hq.add hr) (by omega) (show p * (q + r) = (p * (q + r)) by grind) ep ebc ed W hW)
  have HM6 := hide (fun W hW => mul_okq hp hr (by omega) (show p * r = (p * r) by grind) ep er emac W hW)
  have HH := hide (fun W hW => law04_head W hW)
  have HB0 : Hid (Below w.heap.size w w) := Below.refl _ _
  have HV0 : Hid (VL w []) := VL.nil w
  clear hp hq hr ep eq er hf hw eab eabc ebc emab emabc embc ed emac
  go_enter Tryz.func5, Tryz.ntmps5
  have HV0_ := hide (HV0.out.pushAt (b := w.heap.size) (by simp) ga sa ta 24)
  have HB0_ := hide (bAlloc HB0.out (.cells #[.bool ga, .string sa, .string ta] 24))
  clear HB0 HV0
  have HV0__ := hide (HV0_.out.pushAt (b := w.heap.size + 1) (by simp) gb sb tb 24)
  have HB0__ := hide (bAlloc HB0_.out (.cells #[.bool gb, .string sb, .string tb] 24))
  clear HB0_ HV0_
  have HV0___ := hide (HV0__.out.pushAt (b := w.heap.size + 2) (by simp) gc sc tc 24)
  have HB0___ := hide (bAlloc HB0__.out (.cells #[.bool gc, .string sc, .string tc] 24))
  clear HB0__ HV0__
  go_wp2_with fail
  refine (HH.out _ (HW.out.below HB0___.out)).mono ?_
  rintro e w1 ⟨rfl, hb⟩
  have HB1 := hide (bStep HB0___.out hb)
  have HV1 := hide (HV0___.out.below hb)
  clear hb HB0___ HV0___
  obtain ⟨c3, c4, c5⟩ := VL.cells3 (b := w.heap.size) (g := ga) (s := sa) (t := ta) HV1.out (by simp)
  obtain ⟨c6, c7, c8⟩ := VL.cells3 (b := w.heap.size + 1) (g := gb) (s := sb) (t := tb) HV1.out (by simp)
  obtain ⟨c9, c10, c11⟩ := VL.cells3 (b := w.heap.size + 2) (g := gc) (s := sc) (t := tc) HV1.out (by simp)
  go_wp2_with fail
  clear c3 c4 c5 c6 c7 c8 c9 c10 c11
  refine (HF.out _ _).mono ?_
  rintro e wf ⟨rfl, rfl⟩
  have HV1_ := hide (VL.below HV1.out (bAlloc (Below.refl _ _) (.cells #[.bool ga, .string sa, .string ta, .bool gb, .string sb, .string tb, .bool gc, .string sc, .string tc] 24)))
  have HB1_ := hide (bAlloc HB1.out (.cells #[.bool ga, .string sa, .string ta, .bool gb, .string sb, .string tb, .bool gc, .string sc, .string tc] 24))
  clear HB1 HV1
  obtain ⟨c12, c13, c14⟩ := VL.cells3 (b := w.heap.size) (g := ga) (s := sa) (t := ta) HV1_.out (by simp)
  obtain ⟨c15, c16, c17⟩ := VL.cells3 (b := w.heap.size + 1) (g := gb) (s := sb) (t := tb) HV1_.out (by simp)
  obtain ⟨c18, c19, c20⟩ := VL.cells3 (b := w.heap.size + 2) (g := gc) (s := sc) (t := tc) HV1_.out (by simp)
  go_wp2_with fail
  clear c12 c13 c14 c15 c16 c17 c18 c19 c20
  refine (HVA.out _ (HW.out.below HB1_.out)).mono ?_
  rintro e w2 ⟨rfl, hb⟩
  have HB2 := hide (bStep HB1_.out hb)
  have HV2 := hide (HV1_.out.below hb)
  clear hb HB1_ HV1_
  obtain ⟨c21, c22, c23⟩ := VL.cells3 (b := w.heap.size) (g := ga) (s := sa) (t := ta) HV2.out (by simp)
  obtain ⟨c24, c25, c26⟩ := VL.cells3 (b := w.heap.size + 1) (g := gb) (s := sb) (t := tb) HV2.out (by simp)
  obtain ⟨c27, c28, c29⟩ := VL.cells3 (b := w.heap.size + 2) (g := gc) (s := sc) (t := tc) HV2.out (by simp)
  go_wp2_with fail
  clear c21 c22 c23 c24 c25 c26 c27 c28 c29
  refine (HVB.out _ (HW.out.below HB2.out)).mono ?_
  rintro e w3 ⟨rfl, hb⟩
  have HB3 := hide (bStep HB2.out hb)
  have HV3 := hide (HV2.out.below hb)
  clear hb HB2 HV2
  obtain ⟨c30, c31, c32⟩ := VL.cells3 (b := w.heap.size) (g := ga) (s := sa) (t := ta) HV3.out (by simp)
  obtain ⟨c33, c34, c35⟩ := VL.cells3 (b := w.heap.size + 1) (g := gb) (s := sb) (t := tb) HV3.out (by simp)
  obtain ⟨c36, c37, c38⟩ := VL.cells3 (b := w.heap.size + 2) (g := gc) (s := sc) (t := tc) HV3.out (by simp)
  go_wp2_with fail
  clear c30 c31 c32 c33 c34 c35 c36 c37 c38
  refine (HVC.out _ (HW.out.below HB3.out)).mono ?_
  rintro e w4 ⟨rfl, hb⟩
  have HB4 := hide (bStep HB3.out hb)
  have HV4 := hide (HV3.out.below hb)
  clear hb HB3 HV3
  go_wp2_with fail
  obtain ⟨O, hO⟩ : ∃ x, x = w4.heap.size := ⟨_, rfl⟩
  have HR0 := hide (RS.start HB4.out HV4.out hO 4)
  clear HB4 HV4
  rw [← hO]
  obtain ⟨wx, hwx⟩ : ∃ x, (w4.alloc (.cells #[.bool true] 4)) = x := ⟨_, rfl⟩
  rw [hwx] at HR0 ⊢
  clear hwx hO
  have HC : Hid (∀ W, RS w O (O + 1) W [(w.heap.size + 2, gc, sc, tc), (w.heap.size + 1, gb, sb, tb), (w.heap.size, ga, sa, ta)] → (W.cell? ⟨w.heap.size, 0, none⟩ = some (.bool ga) ∧ W.cell? ⟨w.heap.size, 1, none⟩ = some (.string sa) ∧ W.cell? ⟨w.heap.size, 2, none⟩ = some (.string ta)) ∧ (W.cell? ⟨w.heap.size + 1, 0, none⟩ = some (.bool gb) ∧ W.cell? ⟨w.heap.size + 1, 1, none⟩ = some (.string sb) ∧ W.cell? ⟨w.heap.size + 1, 2, none⟩ = some (.string tb)) ∧ (W.cell? ⟨w.heap.size + 2, 0, none⟩ = some (.bool gc) ∧ W.cell? ⟨w.heap.size + 2, 1, none⟩ = some (.string sc) ∧ W.cell? ⟨w.heap.size + 2, 2, none⟩ = some (.string tc))) := fun W h => ⟨RS.cells3 h (by simp), RS.cells3 h (by simp), RS.cells3 h (by simp)⟩
  have KA0 : Hid (∀ W, RS w O (O + 1) W [(w.heap.size + 2, gc, sc, tc), (w.heap.size + 1, gb, sb, tb), (w.heap.size, ga, sa, ta)] → Calls Tryz.prog 33 #[.agg #[.bool ga, .string sa, .string ta], .agg #[.bool gb, .string sb, .string tb], .pointer (some ⟨O, 0, none⟩)] W fun e w' => e = .returned (.agg #[.bool g1, .string s1, .string t1]) ∧ RS w O (O + 1) w' [(w.heap.size + 2, gc, sc, tc), (w.heap.size + 1, gb, sb, tb), (w.heap.size, ga, sa, ta)]) := fun W h => ring_add w O (O + 1) _ _ _ _ _ _ _ _ _ _ W h HW.out HA0.out
  have KA1 : Hid (∀ W, RS w O (O + 1) W [(w.heap.size + 2, gc, sc, tc), (w.heap.size + 1, gb, sb, tb), (w.heap.size, ga, sa, ta)] → Calls Tryz.prog 33 #[.agg #[.bool gb, .string sb, .string tb], .agg #[.bool ga, .string sa, .string ta], .pointer (some ⟨O, 0, none⟩)] W fun e w' => e = .returned (.agg #[.bool g1, .string s1, .string t1]) ∧ RS w O (O + 1) w' [(w.heap.size + 2, gc, sc, tc), (w.heap.size + 1, gb, sb, tb), (w.heap.size, ga, sa, ta)]) := fun W h => ring_add w O (O + 1) _ _ _ _ _ _ _ _ _ _ W h HW.out HA1.out
  have KA2 : Hid (∀ W, RS w O (O + 1) W [(w.heap.size + 2, gc, sc, tc), (w.heap.size + 1, gb, sb, tb), (w.heap.size, ga, sa, ta)] → Calls Tryz.prog 33 #[.agg #[.bool g1, .string s1, .string t1], .agg #[.bool gc, .string sc, .string tc], .pointer (some ⟨O, 0, none⟩)] W fun e w' => e = .returned (.agg #[.bool g2, .string s2, .string t2]) ∧ RS w O (O + 1) w' [(w.heap.size + 2, gc, sc, tc), (w.heap.size + 1, gb, sb, tb), (w.heap.size, ga, sa, ta)]) := fun W h => ring_add w O (O + 1) _ _ _ _ _ _ _ _ _ _ W h HW.out HA2.out
  have KA3 : Hid (∀ W, RS w O (O + 1) W [(w.heap.size + 2, gc, sc, tc), (w.heap.size + 1, gb, sb, tb), (w.heap.size, ga, sa, ta)] → Calls Tryz.prog 33 #[.agg #[.bool gb, .string sb, .string tb], .agg #[.bool gc, .string sc, .string tc], .pointer (some ⟨O, 0, none⟩)] W fun e w' => e = .returned (.agg #[.bool g3, .string s3, .string t3]) ∧ RS w O (O + 1) w' [(w.heap.size + 2, gc, sc, tc), (w.heap.size + 1, gb, sb, tb), (w.heap.size, ga, sa, ta)]) := fun W h => ring_add w O (O + 1) _ _ _ _ _ _ _ _ _ _ W h HW.out HA3.out
  have KA4 : Hid (∀ W, RS w O (O + 1) W [(w.heap.size + 2, gc, sc, tc), (w.heap.size + 1, gb, sb, tb), (w.heap.size, ga, sa, ta)] → Calls Tryz.prog 33 #[.agg #[.bool ga, .string sa, .string ta], .agg #[.bool g3, .string s3, .string t3], .pointer (some ⟨O, 0, none⟩)] W fun e w' => e = .returned (.agg #[.bool g2, .string s2, .string t2]) ∧ RS w O (O + 1) w' [(w.heap.size + 2, gc, sc, tc), (w.heap.size + 1, gb, sb, tb), (w.heap.size, ga, sa, ta)]) := fun W h => ring_add w O (O + 1) _ _ _ _ _ _ _ _ _ _ W h HW.out HA4.out
  have KA5 : Hid (∀ W, RS w O (O + 1) W [(w.heap.size + 2, gc, sc, tc), (w.heap.size + 1, gb, sb, tb), (w.heap.size, ga, sa, ta)] → Calls Tryz.prog 33 #[.agg #[.bool g4, .string s4, .string t4], .agg #[.bool g8, .string s8, .string t8], .pointer (some ⟨O, 0, none⟩)] W fun e w' => e = .returned (.agg #[.bool g7, .string s7, .string t7]) ∧ RS w O (O + 1) w' [(w.heap.size + 2, gc, sc, tc), (w.heap.size + 1, gb, sb, tb), (w.heap.size, ga, sa, ta)]) := fun W h => ring_add w O (O + 1) _ _ _ _ _ _ _ _ _ _ W h HW.out HA5.out
  have KM0 : Hid (∀ W, RS w O (O + 1) W [(w.heap.size + 2, gc, sc, tc), (w.heap.size + 1, gb, sb, tb), (w.heap.size, ga, sa, ta)] → Calls Tryz.prog 34 #[.agg #[.bool ga, .string sa, .string ta], .agg #[.bool gb, .string sb, .string tb], .pointer (some ⟨O, 0, none⟩)] W fun e w' => e = .returned (.agg #[.bool g4, .string s4, .string t4]) ∧ RS w O (O + 1) w' [(w.heap.size + 2, gc, sc, tc), (w.heap.size + 1, gb, sb, tb), (w.heap.size, ga, sa, ta)]) := fun W h => ring_mul w O (O + 1) _ _ _ _ _ _ _ _ _ _ W h HW.out HM0.out
  have KM1 : Hid (∀ W, RS w O (O + 1) W [(w.heap.size + 2, gc, sc, tc), (w.heap.size + 1, gb, sb, tb), (w.heap.size, ga, sa, ta)] → Calls Tryz.prog 34 #[.agg #[.bool gb, .string sb, .string tb], .agg #[.bool ga, .string sa, .string ta], .pointer (some ⟨O, 0, none⟩)] W fun e w' => e = .returned (.agg #[.bool g4, .string s4, .string t4]) ∧ RS w O (O + 1) w' [(w.heap.size + 2, gc, sc, tc), (w.heap.size + 1, gb, sb, tb), (w.heap.size, ga, sa, ta)]) := fun W h => ring_mul w O (O + 1) _ _ _ _ _ _ _ _ _ _ W h HW.out HM1.out
  have KM2 : Hid (∀ W, RS w O (O + 1) W [(w.heap.size + 2, gc, sc, tc), (w.heap.size + 1, gb, sb, tb), (w.heap.size, ga, sa, ta)] → Calls Tryz.prog 34 #[.agg #[.bool g4, .string s4, .string t4], .agg #[.bool gc, .string sc, .string tc], .pointer (some ⟨O, 0, none⟩)] W fun e w' => e = .returned (.agg #[.bool g5, .string s5, .string t5]) ∧ RS w O (O + 1) w' [(w.heap.size + 2, gc, sc, tc), (w.heap.size + 1, gb, sb, tb), (w.heap.size, ga, sa, ta)]) := fun W h => ring_mul w O (O + 1) _ _ _ _ _ _ _ _ _ _ W h HW.out HM2.out
  have KM3 : Hid (∀ W, RS w O (O + 1) W [(w.heap.size + 2, gc, sc, tc), (w.heap.size + 1, gb, sb, tb), (w.heap.size, ga, sa, ta)] → Calls Tryz.prog 34 #[.agg #[.bool gb, .string sb, .string tb], .agg #[.bool gc, .string sc, .string tc], .pointer (some ⟨O, 0, none⟩)] W fun e w' => e = .returned (.agg #[.bool g6, .string s6, .string t6]) ∧ RS w O (O + 1) w' [(w.heap.size + 2, gc, sc, tc), (w.heap.size + 1, gb, sb, tb), (w.heap.size, ga, sa, ta)]) := fun W h => ring_mul w O (O + 1) _ _ _ _ _ _ _ _ _ _ W h HW.out HM3.out
  have KM4 : Hid (∀ W, RS w O (O + 1) W [(w.heap.size + 2, gc, sc, tc), (w.heap.size + 1, gb, sb, tb), (w.heap.size, ga, sa, ta)] → Calls Tryz.prog 34 #[.agg #[.bool ga, .string sa, .string ta], .agg #[.bool g6, .string s6, .string t6], .pointer (some ⟨O, 0, none⟩)] W fun e w' => e = .returned (.agg #[.bool g5, .string s5, .string t5]) ∧ RS w O (O + 1) w' [(w.heap.size + 2, gc, sc, tc), (w.heap.size + 1, gb, sb, tb), (w.heap.size, ga, sa, ta)]) := fun W h => ring_mul w O (O + 1) _ _ _ _ _ _ _ _ _ _ W h HW.out HM4.out
  have KM5 : Hid (∀ W, RS w O (O + 1) W [(w.heap.size + 2, gc, sc, tc), (w.heap.size + 1, gb, sb, tb), (w.heap.size, ga, sa, ta)] → Calls Tryz.prog 34 #[.agg #[.bool ga, .string sa, .string ta], .agg #[.bool g3, .string s3, .string t3], .pointer (some ⟨O, 0, none⟩)] W fun e w' => e = .returned (.agg #[.bool g7, .string s7, .string t7]) ∧ RS w O (O + 1) w' [(w.heap.size + 2, gc, sc, tc), (w.heap.size + 1, gb, sb, tb), (w.heap.size, ga, sa, ta)]) := fun W h => ring_mul w O (O + 1) _ _ _ _ _ _ _ _ _ _ W h HW.out HM5.out
  have KM6 : Hid (∀ W, RS w O (O + 1) W [(w.heap.size + 2, gc, sc, tc), (w.heap.size + 1, gb, sb, tb), (w.heap.size, ga, sa, ta)] → Calls Tryz.prog 34 #[.agg #[.bool ga, .string sa, .string ta], .agg #[.bool gc, .string sc, .string tc], .pointer (some ⟨O, 0, none⟩)] W fun e w' => e = .returned (.agg #[.bool g8, .string s8, .string t8]) ∧ RS w O (O + 1) w' [(w.heap.size + 2, gc, sc, tc), (w.heap.size + 1, gb, sb, tb), (w.heap.size, ga, sa, ta)]) := fun W h => ring_mul w O (O + 1) _ _ _ _ _ _ _ _ _ _ W h HW.out HM6.out
  clear HA0 HA1 HA2 HA3 HA4 HA5 HM0 HM1 HM2 HM3 HM4 HM5 HM6 HVA HVB HVC HF HH
  go_cut [11] (fun z11 wx => z11 = .bool true ∧ RS w O (O + 1) wx [(w.heap.size + 2, gc, sc, tc), (w.heap.size + 1, gb, sb, tb), (w.heap.size, ga, sa, ta)])
  case first =>
    have hd := hide HR0.out.drew
    have hdd := hd.out
    clear hd
    go_region_held3 (fun w' => (w'.cell? ⟨w.heap.size, 0, none⟩ = some (.bool ga) ∧ w'.cell? ⟨w.heap.size, 1, none⟩ = some (.string sa) ∧ w'.cell? ⟨w.heap.size, 2, none⟩ = some (.string ta)) ∧ (w'.cell? ⟨w.heap.size + 1, 0, none⟩ = some (.bool gb) ∧ w'.cell? ⟨w.heap.size + 1, 1, none⟩ = some (.string sb) ∧ w'.cell? ⟨w.heap.size + 1, 2, none⟩ = some (.string tb)) ∧ (w'.cell? ⟨w.heap.size + 2, 0, none⟩ = some (.bool gc) ∧ w'.cell? ⟨w.heap.size + 2, 1, none⟩ = some (.string sc) ∧ w'.cell? ⟨w.heap.size + 2, 2, none⟩ = some (.string tc)))
      (exact HC.out _ (by assumption))
      ((first
        | (go_at_call 33; (with_reducible refine (KA0.out _ (by assumption)).mono ?_); rintro e wa ⟨rfl, hd⟩)
        | (go_at_call 33; (with_reducible refine (KA1.out _ (by assumption)).mono ?_); rintro e wa ⟨rfl, hd⟩)
        | (go_at_call 33; (with_reducible refine (KA2.out _ (by assumption)).mono ?_); rintro e wa ⟨rfl, hd⟩)
        | (go_at_call 33; (with_reducible refine (KA3.out _ (by assumption)).mono ?_); rintro e wa ⟨rfl, hd⟩)
        | (go_at_call 33; (with_reducible refine (KA4.out _ (by assumption)).mono ?_); rintro e wa ⟨rfl, hd⟩)
        ))
    all_goals
      go_wp2_with fail
      go_meet
      exact ⟨rfl, by assumption⟩
  case rest =>
  obtain ⟨rfl, hsc0⟩ := hcut
  obtain ⟨wq0, rfl⟩ : ∃ x, x = wc := ⟨_, rfl⟩
  have HR1 := hide hsc0
  clear hsc0 HR0
  go_wp2_with fail
  go_cut [12] (fun z12 wx => z12 = .bool true ∧ RS w O (O + 1) wx [(w.heap.size + 2, gc, sc, tc), (w.heap.size + 1, gb, sb, tb), (w.heap.size, ga, sa, ta)])
  case first =>
    have hd := hide HR1.out.drew
    have hdd := hd.out
    clear hd
    go_region_held3 (fun w' => (w'.cell? ⟨w.heap.size, 0, none⟩ = some (.bool ga) ∧ w'.cell? ⟨w.heap.size, 1, none⟩ = some (.string sa) ∧ w'.cell? ⟨w.heap.size, 2, none⟩ = some (.string ta)) ∧ (w'.cell? ⟨w.heap.size + 1, 0, none⟩ = some (.bool gb) ∧ w'.cell? ⟨w.heap.size + 1, 1, none⟩ = some (.string sb) ∧ w'.cell? ⟨w.heap.size + 1, 2, none⟩ = some (.string tb)) ∧ (w'.cell? ⟨w.heap.size + 2, 0, none⟩ = some (.bool gc) ∧ w'.cell? ⟨w.heap.size + 2, 1, none⟩ = some (.string sc) ∧ w'.cell? ⟨w.heap.size + 2, 2, none⟩ = some (.string tc)))
      (exact HC.out _ (by assumption))
      ((first
        | (go_at_call 34; (with_reducible refine (KM0.out _ (by assumption)).mono ?_); rintro e wa ⟨rfl, hd⟩)
        | (go_at_call 34; (with_reducible refine (KM1.out _ (by assumption)).mono ?_); rintro e wa ⟨rfl, hd⟩)
        | (go_at_call 34; (with_reducible refine (KM2.out _ (by assumption)).mono ?_); rintro e wa ⟨rfl, hd⟩)
        | (go_at_call 34; (with_reducible refine (KM3.out _ (by assumption)).mono ?_); rintro e wa ⟨rfl, hd⟩)
        | (go_at_call 34; (with_reducible refine (KM4.out _ (by assumption)).mono ?_); rintro e wa ⟨rfl, hd⟩)
        ))
    all_goals
      go_wp2_with fail
      go_meet
      exact ⟨rfl, by assumption⟩
  case rest =>
  obtain ⟨rfl, hsc1⟩ := hcut
  obtain ⟨wq1, rfl⟩ : ∃ x, x = wc := ⟨_, rfl⟩
  have HR2 := hide hsc1
  clear hsc1 HR1
  go_wp2_with fail
  have hd := hide HR2.out.drew
  case _ =>
    have hdd := hd.out
    clear hd
    go_region_held3 (fun w' => (w'.cell? ⟨w.heap.size, 0, none⟩ = some (.bool ga) ∧ w'.cell? ⟨w.heap.size, 1, none⟩ = some (.string sa) ∧ w'.cell? ⟨w.heap.size, 2, none⟩ = some (.string ta)) ∧ (w'.cell? ⟨w.heap.size + 1, 0, none⟩ = some (.bool gb) ∧ w'.cell? ⟨w.heap.size + 1, 1, none⟩ = some (.string sb) ∧ w'.cell? ⟨w.heap.size + 1, 2, none⟩ = some (.string tb)) ∧ (w'.cell? ⟨w.heap.size + 2, 0, none⟩ = some (.bool gc) ∧ w'.cell? ⟨w.heap.size + 2, 1, none⟩ = some (.string sc) ∧ w'.cell? ⟨w.heap.size + 2, 2, none⟩ = some (.string tc)) ∧ w'.cell? ⟨O, 0, none⟩ = some (.bool true))
      (exact ⟨(HC.out _ (by assumption)).1, (HC.out _ (by assumption)).2.1, (HC.out _ (by assumption)).2.2, RS.ok (by assumption)⟩)
      ((first
        | (go_at_call 33; (with_reducible refine (KA3.out _ (by assumption)).mono ?_); rintro e wa ⟨rfl, hd⟩)
        | (go_at_call 34; (with_reducible refine (KM5.out _ (by assumption)).mono ?_); rintro e wa ⟨rfl, hd⟩)
        | (go_at_call 34; (with_reducible refine (KM0.out _ (by assumption)).mono ?_); rintro e wa ⟨rfl, hd⟩)
        | (go_at_call 34; (with_reducible refine (KM6.out _ (by assumption)).mono ?_); rintro e wa ⟨rfl, hd⟩)
        | (go_at_call 33; (with_reducible refine (KA5.out _ (by assumption)).mono ?_); rintro e wa ⟨rfl, hd⟩)
        ))
    all_goals
      go_wp2_with fail
      go_ret
      exact ⟨rfl, (RS.vs (by assumption)).bel⟩
theorem rationalRing_walk (ga : Bool) (sa ta : ByteArray) (gb : Bool) (sb tb : ByteArray) (gc : Bool) (sc tc : ByteArray) (w : World) (hw : LawW w) :
    Calls Tryz.prog 5 #[.agg #[.bool ga, .string sa, .string ta], .agg #[.bool gb, .string sb, .string tb], .agg #[.bool gc, .string sc, .string tc]] w fun e w' => e = .returned (.bool true) ∧ Below w.heap.size w w' := by
  rcases Bool.eq_false_or_eq_true (fewQ 40 [(ga, sa, ta), (gb, sb, tb), (gc, sc, tc)]) with hf | hf
  · obtain ⟨⟨l1, l2⟩, ⟨l3, l4⟩, l5, l6⟩ := fewQ_three hf
    rcases Bool.eq_false_or_eq_true (vldR ga sa ta) with va | va
    · rcases Bool.eq_false_or_eq_true (vldR gb sb tb) with vb | vb
      · rcases Bool.eq_false_or_eq_true (vldR gc sc tc) with vc | vc
        · obtain ⟨p, ep, hp⟩ := few_q (by omega) l1 l2 va
          obtain ⟨q, eq, hq⟩ := few_q (by omega) l3 l4 vb
          obtain ⟨r, er, hr⟩ := few_q (by omega) l5 l6 vc
          exact ring_ok p q r ga sa ta gb sb tb gc sc tc w hp hq hr ep eq er hf hw
        · exact ring_bad4 ga sa ta gb sb tb gc sc tc w hf va vb vc hw
      · exact ring_bad3 ga sa ta gb sb tb gc sc tc w hf va vb hw
    · exact ring_bad2 ga sa ta gb sb tb gc sc tc w hf va hw
  · exact ring_bad1 ga sa ta gb sb tb gc sc tc w hf hw
end Go.Proofs.YtncocgfgbocnkaaGreatDoor
