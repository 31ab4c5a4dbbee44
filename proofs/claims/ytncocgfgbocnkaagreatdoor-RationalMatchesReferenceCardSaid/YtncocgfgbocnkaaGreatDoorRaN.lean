/- RationalBack. -/
import Derived.Test.YtncocgfgbocnkaaGreatDoorRaM
import Derived.Test.YtncocgfgbocnkaaGreatDoorRaO
import Derived.BigGuard
set_option linter.unusedVariables false
set_option linter.unusedSimpArgs false
namespace Go.Proofs.YtncocgfgbocnkaaGreatDoor
open Go.RowKit Go.Sort

theorem isQ_zero : IsQ 0 false ⟨#[48]⟩ ⟨#[49]⟩ := by
  unfold IsQ rqV
  rw [nmQ_zero.2 rfl, show (0 : Rat).den = 1 from rfl, natS_zero, natS_one]; rfl
theorem sz_zero : Sz 1 (0 : Rat) := ⟨by rw [nmQ_zero.2 rfl]; exact capK_pos 1, by show 1 < capK 1; unfold capK; omega⟩
theorem isQ_num {q : Rat} {g : Bool} {s t : ByteArray} (h : IsQ q g s t) (h0 : q ≠ 0) : (s.toList == [48]) = false := by
  unfold IsQ rqV at h
  simp only [Value.agg.injEq, Array.mk.injEq, List.cons.injEq, Value.bool.injEq, Value.string.injEq, and_true] at h
  rw [← h.2.1]
  exact str_ne (t := ⟨#[48]⟩) (natS_ne_zero (Nat.pos_of_ne_zero fun e => h0 (nmQ_zero.1 e))) rfl
set_option maxHeartbeats 4000000 in
set_option maxRecDepth 100000 in
theorem back_few (ga : Bool) (sa ta : ByteArray) (gb : Bool) (sb tb : ByteArray) (w : World) (hf : fewQ 40 [(ga, sa, ta), (gb, sb, tb)] = false) (hw : LawW w) :
    Calls Tryz.prog 6 #[.agg #[.bool ga, .string sa, .string ta], .agg #[.bool gb, .string sb, .string tb]] w fun e w' => e = .returned (.bool true) ∧ Below w.heap.size w w' := by
  have HW := hide hw
  have HF := hide (fun W T => few_two ga sa ta gb sb tb W T)
  rw [hf] at HF
  have HH := hide (fun W hW => law04_head W hW)
  have HB0 : Hid (Below w.heap.size w w) := Below.refl _ _
  have HV0 : Hid (VL w []) := VL.nil w
  clear hf hw
  go_enter Tryz.func6, Tryz.ntmps6
  have HV0_ := hide (HV0.out.pushAt (b := w.heap.size) (by simp) ga sa ta 24)
  have HB0_ := hide (bAlloc HB0.out (.cells #[.bool ga, .string sa, .string ta] 24))
  clear HB0 HV0
  have HV0__ := hide (HV0_.out.pushAt (b := w.heap.size + 1) (by simp) gb sb tb 24)
  have HB0__ := hide (bAlloc HB0_.out (.cells #[.bool gb, .string sb, .string tb] 24))
  clear HB0_ HV0_
  go_wp2_with fail
  refine (HH.out _ (HW.out.below HB0__.out)).mono ?_
  rintro e w1 ⟨rfl, hb⟩
  have HB1 := hide (bStep HB0__.out hb)
  have HV1 := hide (HV0__.out.below hb)
  clear hb HB0__ HV0__
  obtain ⟨c3, c4, c5⟩ := VL.cells3 (b := w.heap.size) (g := ga) (s := sa) (t := ta) HV1.out (by simp)
  obtain ⟨c6, c7, c8⟩ := VL.cells3 (b := w.heap.size + 1) (g := gb) (s := sb) (t := tb) HV1.out (by simp)
  go_wp2_with fail
  clear c3 c4 c5 c6 c7 c8
  refine (HF.out _ _).mono ?_
  rintro e wf ⟨rfl, rfl⟩
  have HV1_ := hide (VL.below HV1.out (bAlloc (Below.refl _ _) (.cells #[.bool ga, .string sa, .string ta, .bool gb, .string sb, .string tb] 24)))
  have HB1_ := hide (bAlloc HB1.out (.cells #[.bool ga, .string sa, .string ta, .bool gb, .string sb, .string tb] 24))
  clear HB1 HV1
  go_wp2_with fail
  go_ret
  exact ⟨rfl, HB1_.out⟩
set_option maxHeartbeats 4000000 in
set_option maxRecDepth 100000 in
theorem back_badA (ga : Bool) (sa ta : ByteArray) (gb : Bool) (sb tb : ByteArray) (w : World) (hf : fewQ 40 [(ga, sa, ta), (gb, sb, tb)] = true) (va : vldR ga sa ta = false) (hw : LawW w) :
    Calls Tryz.prog 6 #[.agg #[.bool ga, .string sa, .string ta], .agg #[.bool gb, .string sb, .string tb]] w fun e w' => e = .returned (.bool true) ∧ Below w.heap.size w w' := by
  have HW := hide hw
  have HF := hide (fun W T => few_two ga sa ta gb sb tb W T)
  rw [hf] at HF
  obtain ⟨l1, l2, l3, l4⟩ := fewQ_two hf
  have HVA := hide (fun W hW => rat_valid ga sa ta W (by unfold maxLen; simp at l1; omega) (by unfold maxLen; simp at l2; omega) hW)
  rw [va] at HVA
  have HH := hide (fun W hW => law04_head W hW)
  have HB0 : Hid (Below w.heap.size w w) := Below.refl _ _
  have HV0 : Hid (VL w []) := VL.nil w
  clear hf hw va l1 l2 l3 l4
  go_enter Tryz.func6, Tryz.ntmps6
  have HV0_ := hide (HV0.out.pushAt (b := w.heap.size) (by simp) ga sa ta 24)
  have HB0_ := hide (bAlloc HB0.out (.cells #[.bool ga, .string sa, .string ta] 24))
  clear HB0 HV0
  have HV0__ := hide (HV0_.out.pushAt (b := w.heap.size + 1) (by simp) gb sb tb 24)
  have HB0__ := hide (bAlloc HB0_.out (.cells #[.bool gb, .string sb, .string tb] 24))
  clear HB0_ HV0_
  go_wp2_with fail
  refine (HH.out _ (HW.out.below HB0__.out)).mono ?_
  rintro e w1 ⟨rfl, hb⟩
  have HB1 := hide (bStep HB0__.out hb)
  have HV1 := hide (HV0__.out.below hb)
  clear hb HB0__ HV0__
  obtain ⟨c3, c4, c5⟩ := VL.cells3 (b := w.heap.size) (g := ga) (s := sa) (t := ta) HV1.out (by simp)
  obtain ⟨c6, c7, c8⟩ := VL.cells3 (b := w.heap.size + 1) (g := gb) (s := sb) (t := tb) HV1.out (by simp)
  go_wp2_with fail
  clear c3 c4 c5 c6 c7 c8
  refine (HF.out _ _).mono ?_
  rintro e wf ⟨rfl, rfl⟩
  have HV1_ := hide (VL.below HV1.out (bAlloc (Below.refl _ _) (.cells #[.bool ga, .string sa, .string ta, .bool gb, .string sb, .string tb] 24)))
  have HB1_ := hide (bAlloc HB1.out (.cells #[.bool ga, .string sa, .string ta, .bool gb, .string sb, .string tb] 24))
  clear HB1 HV1
  obtain ⟨c9, c10, c11⟩ := VL.cells3 (b := w.heap.size) (g := ga) (s := sa) (t := ta) HV1_.out (by simp)
  obtain ⟨c12, c13, c14⟩ := VL.cells3 (b := w.heap.size + 1) (g := gb) (s := sb) (t := tb) HV1_.out (by simp)
  go_wp2_with fail
  clear c9 c10 c11 c12 c13 c14
  refine (HVA.out _ (HW.out.below HB1_.out)).mono ?_
  rintro e w2 ⟨rfl, hb⟩
  have HB2 := hide (bStep HB1_.out hb)
  have HV2 := hide (HV1_.out.below hb)
  clear hb HB1_ HV1_
  go_wp2_with fail
  go_ret
  exact ⟨rfl, HB2.out⟩
set_option maxHeartbeats 4000000 in
set_option maxRecDepth 100000 in
theorem back_badB (ga : Bool) (sa ta : ByteArray) (gb : Bool) (sb tb : ByteArray) (w : World) (hf : fewQ 40 [(ga, sa, ta), (gb, sb, tb)] = true) (va : vldR ga sa ta = true) (vb : vldR gb sb tb = false) (hw : LawW w) :
    Calls Tryz.prog 6 #[.agg #[.bool ga, .string sa, .string ta], .agg #[.bool gb, .string sb, .string tb]] w fun e w' => e = .returned (.bool true) ∧ Below w.heap.size w w' := by
  have HW := hide hw
  have HF := hide (fun W T => few_two ga sa ta gb sb tb W T)
  rw [hf] at HF
  obtain ⟨l1, l2, l3, l4⟩ := fewQ_two hf
  have HVA := hide (fun W hW => rat_valid ga sa ta W (by unfold maxLen; simp at l1; omega) (by unfold maxLen; simp at l2; omega) hW)
  rw [va] at HVA
  have HVB := hide (fun W hW => rat_valid gb sb tb W (by unfold maxLen; simp at l3; omega) (by unfold maxLen; simp at l4; omega) hW)
  rw [vb] at HVB
  have HH := hide (fun W hW => law04_head W hW)
  have HB0 : Hid (Below w.heap.size w w) := Below.refl _ _
  have HV0 : Hid (VL w []) := VL.nil w
  clear hf hw va l1 l2 l3 l4 vb
  go_enter Tryz.func6, Tryz.ntmps6
  have HV0_ := hide (HV0.out.pushAt (b := w.heap.size) (by simp) ga sa ta 24)
  have HB0_ := hide (bAlloc HB0.out (.cells #[.bool ga, .string sa, .string ta] 24))
  clear HB0 HV0
  have HV0__ := hide (HV0_.out.pushAt (b := w.heap.size + 1) (by simp) gb sb tb 24)
  have HB0__ := hide (bAlloc HB0_.out (.cells #[.bool gb, .string sb, .string tb] 24))
  clear HB0_ HV0_
  go_wp2_with fail
  refine (HH.out _ (HW.out.below HB0__.out)).mono ?_
  rintro e w1 ⟨rfl, hb⟩
  have HB1 := hide (bStep HB0__.out hb)
  have HV1 := hide (HV0__.out.below hb)
  clear hb HB0__ HV0__
  obtain ⟨c3, c4, c5⟩ := VL.cells3 (b := w.heap.size) (g := ga) (s := sa) (t := ta) HV1.out (by simp)
  obtain ⟨c6, c7, c8⟩ := VL.cells3 (b := w.heap.size + 1) (g := gb) (s := sb) (t := tb) HV1.out (by simp)
  go_wp2_with fail
  clear c3 c4 c5 c6 c7 c8
  refine (HF.out _ _).mono ?_
  rintro e wf ⟨rfl, rfl⟩
  have HV1_ := hide (VL.below HV1.out (bAlloc (Below.refl _ _) (.cells #[.bool ga, .string sa, .string ta, .bool gb, .string sb, .string tb] 24)))
  have HB1_ := hide (bAlloc HB1.out (.cells #[.bool ga, .string sa, .string ta, .bool gb, .string sb, .string tb] 24))
  clear HB1 HV1
  obtain ⟨c9, c10, c11⟩ := VL.cells3 (b := w.heap.size) (g := ga) (s := sa) (t := ta) HV1_.out (by simp)
  obtain ⟨c12, c13, c14⟩ := VL.cells3 (b := w.heap.size + 1) (g := gb) (s := sb) (t := tb) HV1_.out (by simp)
  go_wp2_with fail
  clear c9 c10 c11 c12 c13 c14
  refine (HVA.out _ (HW.out.below HB1_.out)).mono ?_
  rintro e w2 ⟨rfl, hb⟩
  have HB2 := hide (bStep HB1_.out hb)
  have HV2 := hide (HV1_.out.below hb)
  clear hb HB1_ HV1_
  obtain ⟨c15, c16, c17⟩ := VL.cells3 (b := w.heap.size) (g := ga) (s := sa) (t := ta) HV2.out (by simp)
  obtain ⟨c18, c19, c20⟩ := VL.cells3 (b := w.heap.size + 1) (g := gb) (s := sb) (t := tb) HV2.out (by simp)
  go_wp2_with fail
  clear c15 c16 c17 c18 c19 c20
  refine (HVB.out _ (HW.out.below HB2.out)).mono ?_
  rintro e w3 ⟨rfl, hb⟩
  have HB3 := hide (bStep HB2.out hb)
  have HV3 := hide (HV2.out.below hb)
  clear hb HB2 HV2
  go_wp2_with fail
  go_ret
  exact ⟨rfl, HB3.out⟩
set_option maxHeartbeats 8000000 in
set_option maxRecDepth 100000 in
theorem back_zero (p q : Rat) (ga : Bool) (sa ta : ByteArray) (w : World) (hp : Sz 40 p) (hq : Sz 40 q) (ep : IsQ p ga sa ta) (eq : IsQ q false ⟨#[48]⟩ ⟨#[49]⟩) (h0 : q = 0) (hf : fewQ 40 [(ga, sa, ta), (false, ⟨#[48]⟩, ⟨#[49]⟩)] = true) (hw : LawW w) :
    Calls Tryz.prog 6 #[.agg #[.bool ga, .string sa, .string ta], .agg #[.bool false, .string ⟨#[48]⟩, .string ⟨#[49]⟩]] w fun e w' => e = .returned (.bool true) ∧ Below w.heap.size w w' := by
  have HW := hide hw
  obtain ⟨gs, ss, ts, es⟩ := IsQ.get (p + q)
  have HF := hide (fun W T => few_two ga sa ta false ⟨#[48]⟩ ⟨#[49]⟩ W T)
  rw [hf] at HF
  have HVA := hide (fun W hW => valid_okq hp (by omega) ep W hW)
  have HVB := hide (fun W hW => valid_okq hq (by omega) eq W hW)
  have HAD := hide (fun W hW => add_okq hp hq (by omega) rfl ep eq es W hW)
  have HSU := hide (fun W hW => sub_okq (hp.add hq) hq (by omega) (show p + q - q = p by grind) es eq ep W hW)
  have HSZ := hide (fun W hW => sub_okq hp hp (by omega) (show p - p = 0 by grind) ep ep isQ_zero W hW)
  have HMU := hide (fun W hW => mul_okq hp hq (by omega) (show p * q = 0 by rw [h0]; grind) ep eq isQ_zero W hW)
  have HDI := hide (fun W hW => div_zeroq sz_zero (by omega) h0 isQ_zero eq W hW)
  have HH := hide (fun W hW => law04_head W hW)
  have HB0 : Hid (Below w.heap.size w w) := Below.refl _ _
  have HV0 : Hid (VL w []) := VL.nil w
  clear hp hq ep eq es hf hw h0
  go_enter Tryz.func6, Tryz.ntmps6
  have HV0_ := hide (HV0.out.pushAt (b := w.heap.size) (by simp) ga sa ta 24)
  have HB0_ := hide (bAlloc HB0.out (.cells #[.bool ga, .string sa, .string ta] 24))
  clear HB0 HV0
  have HV0__ := hide (HV0_.out.pushAt (b := w.heap.size + 1) (by simp) false ⟨#[48]⟩ ⟨#[49]⟩ 24)
  have HB0__ := hide (bAlloc HB0_.out (.cells #[.bool false, .string ⟨#[48]⟩, .string ⟨#[49]⟩] 24))
  clear HB0_ HV0_
  go_wp2_with fail
  refine (HH.out _ (HW.out.below HB0__.out)).mono ?_
  rintro e w1 ⟨rfl, hb⟩
  have HB1 := hide (bStep HB0__.out hb)
  have HV1 := hide (HV0__.out.below hb)
  clear hb HB0__ HV0__
  obtain ⟨c3, c4, c5⟩ := VL.cells3 (b := w.heap.size) (g := ga) (s := sa) (t := ta) HV1.out (by simp)
  obtain ⟨c6, c7, c8⟩ := VL.cells3 (b := w.heap.size + 1) (g := false) (s := ⟨#[48]⟩) (t := ⟨#[49]⟩) HV1.out (by simp)
  go_wp2_with fail
  clear c3 c4 c5 c6 c7 c8
  refine (HF.out _ _).mono ?_
  rintro e wf ⟨rfl, rfl⟩
  have HV1_ := hide (VL.below HV1.out (bAlloc (Below.refl _ _) (.cells #[.bool ga, .string sa, .string ta, .bool false, .string ⟨#[48]⟩, .string ⟨#[49]⟩] 24)))
  have HB1_ := hide (bAlloc HB1.out (.cells #[.bool ga, .string sa, .string ta, .bool false, .string ⟨#[48]⟩, .string ⟨#[49]⟩] 24))
  clear HB1 HV1
  obtain ⟨c9, c10, c11⟩ := VL.cells3 (b := w.heap.size) (g := ga) (s := sa) (t := ta) HV1_.out (by simp)
  obtain ⟨c12, c13, c14⟩ := VL.cells3 (b := w.heap.size + 1) (g := false) (s := ⟨#[48]⟩) (t := ⟨#[49]⟩) HV1_.out (by simp)
  go_wp2_with fail
  clear c9 c10 c11 c12 c13 c14
  refine (HVA.out _ (HW.out.below HB1_.out)).mono ?_
  rintro e w2 ⟨rfl, hb⟩
  have HB2 := hide (bStep HB1_.out hb)
  have HV2 := hide (HV1_.out.below hb)
  clear hb HB1_ HV1_
  obtain ⟨c15, c16, c17⟩ := VL.cells3 (b := w.heap.size) (g := ga) (s := sa) (t := ta) HV2.out (by simp)
  obtain ⟨c18, c19, c20⟩ := VL.cells3 (b := w.heap.size + 1) (g := false) (s := ⟨#[48]⟩) (t := ⟨#[49]⟩) HV2.out (by simp)
  go_wp2_with fail
  clear c15 c16 c17 c18 c19 c20
  refine (HVB.out _ (HW.out.below HB2.out)).mono ?_
  rintro e w3 ⟨rfl, hb⟩
  have HB3 := hide (bStep HB2.out hb)
  have HV3 := hide (HV2.out.below hb)
  clear hb HB2 HV2
  obtain ⟨c21, c22, c23⟩ := VL.cells3 (b := w.heap.size) (g := ga) (s := sa) (t := ta) HV3.out (by simp)
  obtain ⟨c24, c25, c26⟩ := VL.cells3 (b := w.heap.size + 1) (g := false) (s := ⟨#[48]⟩) (t := ⟨#[49]⟩) HV3.out (by simp)
  go_wp2_with fail
  clear c21 c22 c23 c24 c25 c26
  refine (HAD.out _ (HW.out.below HB3.out)).mono ?_
  rintro e w4 ⟨rfl, hb⟩
  have HB4 := hide (bStep HB3.out hb)
  have HV4 := hide (HV3.out.below hb)
  clear hb HB3 HV3
  have HV4_ := hide (HV4.out.pushAt (b := w4.heap.size) (by simp) gs ss ts 24)
  have HB4_ := hide (bAlloc HB4.out (.cells #[.bool gs, .string ss, .string ts] 24))
  clear HB4 HV4
  obtain ⟨c27, c28, c29⟩ := VL.cells3 (b := w4.heap.size) (g := gs) (s := ss) (t := ts) HV4_.out (by simp)
  obtain ⟨c30, c31, c32⟩ := VL.cells3 (b := w.heap.size + 1) (g := false) (s := ⟨#[48]⟩) (t := ⟨#[49]⟩) HV4_.out (by simp)
  go_wp2_with fail
  clear c27 c28 c29 c30 c31 c32
  refine (HSU.out _ (HW.out.below HB4_.out)).mono ?_
  rintro e w5 ⟨rfl, hb⟩
  have HB5 := hide (bStep HB4_.out hb)
  have HV5 := hide (HV4_.out.below hb)
  clear hb HB4_ HV4_
  have HV5_ := hide (HV5.out.pushAt (b := w5.heap.size) (by simp) ga sa ta 24)
  have HB5_ := hide (bAlloc HB5.out (.cells #[.bool ga, .string sa, .string ta] 24))
  clear HB5 HV5
  obtain ⟨c33, c34, c35⟩ := VL.cells3 (b := w.heap.size) (g := ga) (s := sa) (t := ta) HV5_.out (by simp)
  go_wp2_with fail
  clear c33 c34 c35
  refine (HSZ.out _ (HW.out.below HB5_.out)).mono ?_
  rintro e w6 ⟨rfl, hb⟩
  have HB6 := hide (bStep HB5_.out hb)
  have HV6 := hide (HV5_.out.below hb)
  clear hb HB5_ HV5_
  have HV6_ := hide (HV6.out.pushAt (b := w6.heap.size) (by simp) false ⟨#[48]⟩ ⟨#[49]⟩ 24)
  have HB6_ := hide (bAlloc HB6.out (.cells #[.bool false, .string ⟨#[48]⟩, .string ⟨#[49]⟩] 24))
  clear HB6 HV6
  obtain ⟨c36, c37, c38⟩ := VL.cells3 (b := w.heap.size) (g := ga) (s := sa) (t := ta) HV6_.out (by simp)
  obtain ⟨c39, c40, c41⟩ := VL.cells3 (b := w.heap.size + 1) (g := false) (s := ⟨#[48]⟩) (t := ⟨#[49]⟩) HV6_.out (by simp)
  go_wp2_with fail
  clear c36 c37 c38 c39 c40 c41
  refine (HMU.out _ (HW.out.below HB6_.out)).mono ?_
  rintro e w7 ⟨rfl, hb⟩
  have HB7 := hide (bStep HB6_.out hb)
  have HV7 := hide (HV6_.out.below hb)
  clear hb HB6_ HV6_
  have HV7_ := hide (HV7.out.pushAt (b := w7.heap.size) (by simp) false ⟨#[48]⟩ ⟨#[49]⟩ 24)
  have HB7_ := hide (bAlloc HB7.out (.cells #[.bool false, .string ⟨#[48]⟩, .string ⟨#[49]⟩] 24))
  clear HB7 HV7
  go_wp2_with fail
  obtain ⟨NA, hsA⟩ : ∃ N, VS w N (w7.alloc (.cells #[.bool false, .string ⟨#[48]⟩, .string ⟨#[49]⟩] 24)) [(w7.heap.size, false, ⟨#[48]⟩, ⟨#[49]⟩), (w6.heap.size, false, ⟨#[48]⟩, ⟨#[49]⟩), (w5.heap.size, ga, sa, ta), (w4.heap.size, gs, ss, ts), (w.heap.size + 1, false, ⟨#[48]⟩, ⟨#[49]⟩), (w.heap.size, ga, sa, ta)] := ⟨_, VS.start HB7_.out HV7_.out⟩
  obtain ⟨wA, hwA⟩ : ∃ x, (w7.alloc (.cells #[.bool false, .string ⟨#[48]⟩, .string ⟨#[49]⟩] 24)) = x := ⟨_, rfl⟩
  rw [hwA] at hsA ⊢
  clear hwA
  clear HB7_ HV7_
  have HSA : Hid (∀ W, VS w NA W [(w7.heap.size, false, ⟨#[48]⟩, ⟨#[49]⟩), (w6.heap.size, false, ⟨#[48]⟩, ⟨#[49]⟩), (w5.heap.size, ga, sa, ta), (w4.heap.size, gs, ss, ts), (w.heap.size + 1, false, ⟨#[48]⟩, ⟨#[49]⟩), (w.heap.size, ga, sa, ta)] → (W.cell? ⟨w5.heap.size, 0, none⟩ = some (.bool ga) ∧ W.cell? ⟨w5.heap.size, 1, none⟩ = some (.string sa) ∧ W.cell? ⟨w5.heap.size, 2, none⟩ = some (.string ta)) ∧ (W.cell? ⟨w.heap.size, 0, none⟩ = some (.bool ga) ∧ W.cell? ⟨w.heap.size, 1, none⟩ = some (.string sa) ∧ W.cell? ⟨w.heap.size, 2, none⟩ = some (.string ta)) ∧ (W.cell? ⟨w6.heap.size, 0, none⟩ = some (.bool false) ∧ W.cell? ⟨w6.heap.size, 1, none⟩ = some (.string ⟨#[48]⟩) ∧ W.cell? ⟨w6.heap.size, 2, none⟩ = some (.string ⟨#[49]⟩))) := fun W h => ⟨VL.cells3 h.vl (by simp), VL.cells3 h.vl (by simp), VL.cells3 h.vl (by simp)⟩
  go_cut [80] (fun z80 wx => z80 = .bool false ∧ VS w NA wx [(w7.heap.size, false, ⟨#[48]⟩, ⟨#[49]⟩), (w6.heap.size, false, ⟨#[48]⟩, ⟨#[49]⟩), (w5.heap.size, ga, sa, ta), (w4.heap.size, gs, ss, ts), (w.heap.size + 1, false, ⟨#[48]⟩, ⟨#[49]⟩), (w.heap.size, ga, sa, ta)])
  case first =>
    have hd := hsA.drew
    go_region_held3 (fun w' => (w'.cell? ⟨w5.heap.size, 0, none⟩ = some (.bool ga) ∧ w'.cell? ⟨w5.heap.size, 1, none⟩ = some (.string sa) ∧ w'.cell? ⟨w5.heap.size, 2, none⟩ = some (.string ta)) ∧ (w'.cell? ⟨w.heap.size, 0, none⟩ = some (.bool ga) ∧ w'.cell? ⟨w.heap.size, 1, none⟩ = some (.string sa) ∧ w'.cell? ⟨w.heap.size, 2, none⟩ = some (.string ta)) ∧ (w'.cell? ⟨w6.heap.size, 0, none⟩ = some (.bool false) ∧ w'.cell? ⟨w6.heap.size, 1, none⟩ = some (.string ⟨#[48]⟩) ∧ w'.cell? ⟨w6.heap.size, 2, none⟩ = some (.string ⟨#[49]⟩)))
      (first | exact HSA.out _ (by assumption) | exact HSA.out _ (VS.alloc (by assumption) _) | exact HSA.out _ (VS.setZ (by assumption) (by assumption) _ _ _))
      ((first
        | (go_at_call 35; (with_reducible refine (law04_rat _ _ _ _).mono ?_); rintro e wa ⟨rfl, hb⟩; have hd := VS.below (w := w) (N := NA) (L := [(w7.heap.size, false, ⟨#[48]⟩, ⟨#[49]⟩), (w6.heap.size, false, ⟨#[48]⟩, ⟨#[49]⟩), (w5.heap.size, ga, sa, ta), (w4.heap.size, gs, ss, ts), (w.heap.size + 1, false, ⟨#[48]⟩, ⟨#[49]⟩), (w.heap.size, ga, sa, ta)]) (by first | assumption | exact VS.alloc (by assumption) _) hb; clear hb)
        ))
    all_goals
      go_wp2_with fail
      go_meet
      first
      | exact ⟨rfl, by assumption⟩
      | exact ⟨rfl, VS.alloc (by assumption) _⟩
  case rest =>
  obtain ⟨rfl, hscA⟩ := hcut
  have HBcA := hide hscA.bel
  have HVcA := hide hscA.vl
  clear hsA hscA HSA
  obtain ⟨wqA, rfl⟩ : ∃ x, x = wc := ⟨_, rfl⟩
  obtain ⟨c42, c43, c44⟩ := VL.cells3 (b := w7.heap.size) (g := false) (s := ⟨#[48]⟩) (t := ⟨#[49]⟩) HVcA.out (by simp)
  obtain ⟨c45, c46, c47⟩ := VL.cells3 (b := w.heap.size + 1) (g := false) (s := ⟨#[48]⟩) (t := ⟨#[49]⟩) HVcA.out (by simp)
  go_wp2_with fail
  clear c42 c43 c44 c45 c46 c47
  refine (HDI.out _ (HW.out.below HBcA.out)).mono ?_
  rintro e w8 ⟨rfl, hb⟩
  have HB8 := hide (bStep HBcA.out hb)
  have HV8 := hide (HVcA.out.below hb)
  clear hb HBcA HVcA
  have HV8_ := hide (HV8.out.pushAt (b := w8.heap.size) (by simp) false ⟨#[]⟩ ⟨#[]⟩ 24)
  have HB8_ := hide (bAlloc HB8.out (.cells #[.bool false, .string ⟨#[]⟩, .string ⟨#[]⟩] 24))
  clear HB8 HV8
  obtain ⟨c48, c49, c50⟩ := VL.cells3 (b := w.heap.size + 1) (g := false) (s := ⟨#[48]⟩) (t := ⟨#[49]⟩) HV8_.out (by simp)
  obtain ⟨c51, c52, c53⟩ := VL.cells3 (b := w6.heap.size) (g := false) (s := ⟨#[48]⟩) (t := ⟨#[49]⟩) HV8_.out (by simp)
  obtain ⟨c54, c55, c56⟩ := VL.cells3 (b := w7.heap.size) (g := false) (s := ⟨#[48]⟩) (t := ⟨#[49]⟩) HV8_.out (by simp)
  go_wp2_with fail
  clear c48 c49 c50 c51 c52 c53 c54 c55 c56
  go_ret
  exact ⟨rfl, HB8_.out⟩
set_option maxHeartbeats 8000000 in
set_option maxRecDepth 100000 in
theorem back_ok (p q : Rat) (ga : Bool) (sa ta : ByteArray) (gb : Bool) (sb tb : ByteArray) (w : World) (hp : Sz 40 p) (hq : Sz 40 q) (ep : IsQ p ga sa ta) (eq : IsQ q gb sb tb) (h0 : q ≠ 0) (hf : fewQ 40 [(ga, sa, ta), (gb, sb, tb)] = true) (hw : LawW w) :
    Calls Tryz.prog 6 #[.agg #[.bool ga, .string sa, .string ta], .agg #[.bool gb, .string sb, .string tb]] w fun e w' => e = .returned (.bool true) ∧ Below w.heap.size w w' := by
  have HW := hide hw
  obtain ⟨gs, ss, ts, es⟩ := IsQ.get (p + q)
  have HF := hide (fun W T => few_two ga sa ta gb sb tb W T)
  rw [hf] at HF
  have HVA := hide (fun W hW => valid_okq hp (by omega) ep W hW)
  have HVB := hide (fun W hW => valid_okq hq (by omega) eq W hW)
  have HAD := hide (fun W hW => add_okq hp hq (by omega) rfl ep eq es W hW)
  have HSU := hide (fun W hW => sub_okq (hp.add hq) hq (by omega) (show p + q - q = p by grind) es eq ep W hW)
  have HSZ := hide (fun W hW => sub_okq hp hp (by omega) (show p - p = 0 by grind) ep ep isQ_zero W hW)
  obtain ⟨gm, sm, tm, em⟩ := IsQ.get (p * q)
  have HMU := hide (fun W hW => mul_okq hp hq (by omega) rfl ep eq em W hW)
  have HDI := hide (fun W hW => div_okq (hp.mul hq) hq h0 (by omega) (show p * q / q = p by grind) em eq ep W hW)
  have f0 := isQ_num eq h0
  clear em
  have HH := hide (fun W hW => law04_head W hW)
  have HB0 : Hid (Below w.heap.size w w) := Below.refl _ _
  have HV0 : Hid (VL w []) := VL.nil w
  clear hp hq ep eq es hf hw h0
  go_enter Tryz.func6, Tryz.ntmps6
  have HV0_ := hide (HV0.out.pushAt (b := w.heap.size) (by simp) ga sa ta 24)
  have HB0_ := hide (bAlloc HB0.out (.cells #[.bool ga, .string sa, .string ta] 24))
  clear HB0 HV0
  have HV0__ := hide (HV0_.out.pushAt (b := w.heap.size + 1) (by simp) gb sb tb 24)
  have HB0__ := hide (bAlloc HB0_.out (.cells #[.bool gb, .string sb, .string tb] 24))
  clear HB0_ HV0_
  go_wp2_with fail
  refine (HH.out _ (HW.out.below HB0__.out)).mono ?_
  rintro e w1 ⟨rfl, hb⟩
  have HB1 := hide (bStep HB0__.out hb)
  have HV1 := hide (HV0__.out.below hb)
  clear hb HB0__ HV0__
  obtain ⟨c3, c4, c5⟩ := VL.cells3 (b := w.heap.size) (g := ga) (s := sa) (t := ta) HV1.out (by simp)
  obtain ⟨c6, c7, c8⟩ := VL.cells3 (b := w.heap.size + 1) (g := gb) (s := sb) (t := tb) HV1.out (by simp)
  go_wp2_with fail
  clear c3 c4 c5 c6 c7 c8
  refine (HF.out _ _).mono ?_
  rintro e wf ⟨rfl, rfl⟩
  have HV1_ := hide (VL.below HV1.out (bAlloc (Below.refl _ _) (.cells #[.bool ga, .string sa, .string ta, .bool gb, .string sb, .string tb] 24)))
  have HB1_ := hide (bAlloc HB1.out (.cells #[.bool ga, .string sa, .string ta, .bool gb, .string sb, .string tb] 24))
  clear HB1 HV1
  obtain ⟨c9, c10, c11⟩ := VL.cells3 (b := w.heap.size) (g := ga) (s := sa) (t := ta) HV1_.out (by simp)
  obtain ⟨c12, c13, c14⟩ := VL.cells3 (b := w.heap.size + 1) (g := gb) (s := sb) (t := tb) HV1_.out (by simp)
  go_wp2_with fail
  clear c9 c10 c11 c12 c13 c14
  refine (HVA.out _ (HW.out.below HB1_.out)).mono ?_
  rintro e w2 ⟨rfl, hb⟩
  have HB2 := hide (bStep HB1_.out hb)
  have HV2 := hide (HV1_.out.below hb)
  clear hb HB1_ HV1_
  obtain ⟨c15, c16, c17⟩ := VL.cells3 (b := w.heap.size) (g := ga) (s := sa) (t := ta) HV2.out (by simp)
  obtain ⟨c18, c19, c20⟩ := VL.cells3 (b := w.heap.size + 1) (g := gb) (s := sb) (t := tb) HV2.out (by simp)
  go_wp2_with fail
  clear c15 c16 c17 c18 c19 c20
  refine (HVB.out _ (HW.out.below HB2.out)).mono ?_
  rintro e w3 ⟨rfl, hb⟩
  have HB3 := hide (bStep HB2.out hb)
  have HV3 := hide (HV2.out.below hb)
  clear hb HB2 HV2
  obtain ⟨c21, c22, c23⟩ := VL.cells3 (b := w.heap.size) (g := ga) (s := sa) (t := ta) HV3.out (by simp)
  obtain ⟨c24, c25, c26⟩ := VL.cells3 (b := w.heap.size + 1) (g := gb) (s := sb) (t := tb) HV3.out (by simp)
  go_wp2_with fail
  clear c21 c22 c23 c24 c25 c26
  refine (HAD.out _ (HW.out.below HB3.out)).mono ?_
  rintro e w4 ⟨rfl, hb⟩
  have HB4 := hide (bStep HB3.out hb)
  have HV4 := hide (HV3.out.below hb)
  clear hb HB3 HV3
  have HV4_ := hide (HV4.out.pushAt (b := w4.heap.size) (by simp) gs ss ts 24)
  have HB4_ := hide (bAlloc HB4.out (.cells #[.bool gs, .string ss, .string ts] 24))
  clear HB4 HV4
  obtain ⟨c27, c28, c29⟩ := VL.cells3 (b := w4.heap.size) (g := gs) (s := ss) (t := ts) HV4_.out (by simp)
  obtain ⟨c30, c31, c32⟩ := VL.cells3 (b := w.heap.size + 1) (g := gb) (s := sb) (t := tb) HV4_.out (by simp)
  go_wp2_with fail
  clear c27 c28 c29 c30 c31 c32
  refine (HSU.out _ (HW.out.below HB4_.out)).mono ?_
  rintro e w5 ⟨rfl, hb⟩
  have HB5 := hide (bStep HB4_.out hb)
  have HV5 := hide (HV4_.out.below hb)
  clear hb HB4_ HV4_
  have HV5_ := hide (HV5.out.pushAt (b := w5.heap.size) (by simp) ga sa ta 24)
  have HB5_ := hide (bAlloc HB5.out (.cells #[.bool ga, .string sa, .string ta] 24))
  clear HB5 HV5
  obtain ⟨c33, c34, c35⟩ := VL.cells3 (b := w.heap.size) (g := ga) (s := sa) (t := ta) HV5_.out (by simp)
  go_wp2_with fail
  clear c33 c34 c35
  refine (HSZ.out _ (HW.out.below HB5_.out)).mono ?_
  rintro e w6 ⟨rfl, hb⟩
  have HB6 := hide (bStep HB5_.out hb)
  have HV6 := hide (HV5_.out.below hb)
  clear hb HB5_ HV5_
  have HV6_ := hide (HV6.out.pushAt (b := w6.heap.size) (by simp) false ⟨#[48]⟩ ⟨#[49]⟩ 24)
  have HB6_ := hide (bAlloc HB6.out (.cells #[.bool false, .string ⟨#[48]⟩, .string ⟨#[49]⟩] 24))
  clear HB6 HV6
  obtain ⟨c36, c37, c38⟩ := VL.cells3 (b := w.heap.size) (g := ga) (s := sa) (t := ta) HV6_.out (by simp)
  obtain ⟨c39, c40, c41⟩ := VL.cells3 (b := w.heap.size + 1) (g := gb) (s := sb) (t := tb) HV6_.out (by simp)
  go_wp2_with fail
  clear c36 c37 c38 c39 c40 c41
  refine (HMU.out _ (HW.out.below HB6_.out)).mono ?_
  rintro e w7 ⟨rfl, hb⟩
  have HB7 := hide (bStep HB6_.out hb)
  have HV7 := hide (HV6_.out.below hb)
  clear hb HB6_ HV6_
  have HV7_ := hide (HV7.out.pushAt (b := w7.heap.size) (by simp) gm sm tm 24)
  have HB7_ := hide (bAlloc HB7.out (.cells #[.bool gm, .string sm, .string tm] 24))
  clear HB7 HV7
  go_wp2_with fail
  obtain ⟨NA, hsA⟩ : ∃ N, VS w N (w7.alloc (.cells #[.bool gm, .string sm, .string tm] 24)) [(w7.heap.size, gm, sm, tm), (w6.heap.size, false, ⟨#[48]⟩, ⟨#[49]⟩), (w5.heap.size, ga, sa, ta), (w4.heap.size, gs, ss, ts), (w.heap.size + 1, gb, sb, tb), (w.heap.size, ga, sa, ta)] := ⟨_, VS.start HB7_.out HV7_.out⟩
  obtain ⟨wA, hwA⟩ : ∃ x, (w7.alloc (.cells #[.bool gm, .string sm, .string tm] 24)) = x := ⟨_, rfl⟩
  rw [hwA] at hsA ⊢
  clear hwA
  clear HB7_ HV7_
  have HSA : Hid (∀ W, VS w NA W [(w7.heap.size, gm, sm, tm), (w6.heap.size, false, ⟨#[48]⟩, ⟨#[49]⟩), (w5.heap.size, ga, sa, ta), (w4.heap.size, gs, ss, ts), (w.heap.size + 1, gb, sb, tb), (w.heap.size, ga, sa, ta)] → (W.cell? ⟨w5.heap.size, 0, none⟩ = some (.bool ga) ∧ W.cell? ⟨w5.heap.size, 1, none⟩ = some (.string sa) ∧ W.cell? ⟨w5.heap.size, 2, none⟩ = some (.string ta)) ∧ (W.cell? ⟨w.heap.size, 0, none⟩ = some (.bool ga) ∧ W.cell? ⟨w.heap.size, 1, none⟩ = some (.string sa) ∧ W.cell? ⟨w.heap.size, 2, none⟩ = some (.string ta)) ∧ (W.cell? ⟨w6.heap.size, 0, none⟩ = some (.bool false) ∧ W.cell? ⟨w6.heap.size, 1, none⟩ = some (.string ⟨#[48]⟩) ∧ W.cell? ⟨w6.heap.size, 2, none⟩ = some (.string ⟨#[49]⟩))) := fun W h => ⟨VL.cells3 h.vl (by simp), VL.cells3 h.vl (by simp), VL.cells3 h.vl (by simp)⟩
  go_cut [80] (fun z80 wx => z80 = .bool false ∧ VS w NA wx [(w7.heap.size, gm, sm, tm), (w6.heap.size, false, ⟨#[48]⟩, ⟨#[49]⟩), (w5.heap.size, ga, sa, ta), (w4.heap.size, gs, ss, ts), (w.heap.size + 1, gb, sb, tb), (w.heap.size, ga, sa, ta)])
  case first =>
    have hd := hsA.drew
    go_region_held3 (fun w' => (w'.cell? ⟨w5.heap.size, 0, none⟩ = some (.bool ga) ∧ w'.cell? ⟨w5.heap.size, 1, none⟩ = some (.string sa) ∧ w'.cell? ⟨w5.heap.size, 2, none⟩ = some (.string ta)) ∧ (w'.cell? ⟨w.heap.size, 0, none⟩ = some (.bool ga) ∧ w'.cell? ⟨w.heap.size, 1, none⟩ = some (.string sa) ∧ w'.cell? ⟨w.heap.size, 2, none⟩ = some (.string ta)) ∧ (w'.cell? ⟨w6.heap.size, 0, none⟩ = some (.bool false) ∧ w'.cell? ⟨w6.heap.size, 1, none⟩ = some (.string ⟨#[48]⟩) ∧ w'.cell? ⟨w6.heap.size, 2, none⟩ = some (.string ⟨#[49]⟩)))
      (first | exact HSA.out _ (by assumption) | exact HSA.out _ (VS.alloc (by assumption) _) | exact HSA.out _ (VS.setZ (by assumption) (by assumption) _ _ _))
      ((first
        | (go_at_call 35; (with_reducible refine (law04_rat _ _ _ _).mono ?_); rintro e wa ⟨rfl, hb⟩; have hd := VS.below (w := w) (N := NA) (L := [(w7.heap.size, gm, sm, tm), (w6.heap.size, false, ⟨#[48]⟩, ⟨#[49]⟩), (w5.heap.size, ga, sa, ta), (w4.heap.size, gs, ss, ts), (w.heap.size + 1, gb, sb, tb), (w.heap.size, ga, sa, ta)]) (by first | assumption | exact VS.alloc (by assumption) _) hb; clear hb)
        ))
    all_goals
      go_wp2_with fail
      go_meet
      first
      | exact ⟨rfl, by assumption⟩
      | exact ⟨rfl, VS.alloc (by assumption) _⟩
  case rest =>
  obtain ⟨rfl, hscA⟩ := hcut
  have HBcA := hide hscA.bel
  have HVcA := hide hscA.vl
  clear hsA hscA HSA
  obtain ⟨wqA, rfl⟩ : ∃ x, x = wc := ⟨_, rfl⟩
  obtain ⟨c42, c43, c44⟩ := VL.cells3 (b := w7.heap.size) (g := gm) (s := sm) (t := tm) HVcA.out (by simp)
  obtain ⟨c45, c46, c47⟩ := VL.cells3 (b := w.heap.size + 1) (g := gb) (s := sb) (t := tb) HVcA.out (by simp)
  go_wp2_with fail
  clear c42 c43 c44 c45 c46 c47
  refine (HDI.out _ (HW.out.below HBcA.out)).mono ?_
  rintro e w8 ⟨rfl, hb⟩
  have HB8 := hide (bStep HBcA.out hb)
  have HV8 := hide (HVcA.out.below hb)
  clear hb HBcA HVcA
  have HV8_ := hide (HV8.out.pushAt (b := w8.heap.size) (by simp) ga sa ta 24)
  have HB8_ := hide (bAlloc HB8.out (.cells #[.bool ga, .string sa, .string ta] 24))
  clear HB8 HV8
  obtain ⟨c48, c49, c50⟩ := VL.cells3 (b := w.heap.size + 1) (g := gb) (s := sb) (t := tb) HV8_.out (by simp)
  obtain ⟨c51, c52, c53⟩ := VL.cells3 (b := w6.heap.size) (g := false) (s := ⟨#[48]⟩) (t := ⟨#[49]⟩) HV8_.out (by simp)
  obtain ⟨c54, c55, c56⟩ := VL.cells3 (b := w8.heap.size) (g := ga) (s := sa) (t := ta) HV8_.out (by simp)
  obtain ⟨c57, c58, c59⟩ := VL.cells3 (b := w.heap.size) (g := ga) (s := sa) (t := ta) HV8_.out (by simp)
  go_wp2_with fail
  clear c48 c49 c50 c51 c52 c53 c54 c55 c56 c57 c58 c59
  go_ret
  exact ⟨rfl, HB8_.out⟩
theorem rationalBack_walk (ga : Bool) (sa ta : ByteArray) (gb : Bool) (sb tb : ByteArray) (w : World) (hw : LawW w) :
    Calls Tryz.prog 6 #[.agg #[.bool ga, .string sa, .string ta], .agg #[.bool gb, .string sb, .string tb]] w fun e w' => e = .returned (.bool true) ∧ Below w.heap.size w w' := by
  rcases Bool.eq_false_or_eq_true (fewQ 40 [(ga, sa, ta), (gb, sb, tb)]) with hf | hf
  · obtain ⟨l1, l2, l3, l4⟩ := fewQ_two hf
    rcases Bool.eq_false_or_eq_true (vldR ga sa ta) with va | va
    · rcases Bool.eq_false_or_eq_true (vldR gb sb tb) with vb | vb
      · obtain ⟨p, ep, hp⟩ := few_q (by omega) l1 l2 va
        obtain ⟨q, eq, hq⟩ := few_q (by omega) l3 l4 vb
        by_cases h0 : q = 0
        · have e := eq
          unfold IsQ at e
          rw [h0, isQ_zero] at e
          simp only [Value.agg.injEq, Array.mk.injEq, List.cons.injEq, Value.bool.injEq, Value.string.injEq, and_true] at e
          obtain ⟨rfl, rfl, rfl⟩ := e
          exact back_zero p q ga sa ta w hp hq ep eq h0 hf hw
        · exact back_ok p q ga sa ta gb sb tb w hp hq ep eq h0 hf hw
      · exact back_badB ga sa ta gb sb tb w hf va vb hw
    · exact back_badA ga sa ta gb sb tb w hf va hw
  · exact back_few ga sa ta gb sb tb w hf hw
end Go.Proofs.YtncocgfgbocnkaaGreatDoor
