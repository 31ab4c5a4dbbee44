/- RationalTexts. -/
import Derived.Test.YtncocgfgbocnkaaGreatDoorRaN
import Derived.BigGuard
set_option linter.unusedVariables false
set_option linter.unusedSimpArgs false
namespace Go.Proofs.YtncocgfgbocnkaaGreatDoor
open Go.RowKit Go.Sort

theorem text_okq {q : Rat} {g : Bool} {s t : ByteArray} {k : Nat} (h : Sz k q) (hk : k ≤ 1000) (e : IsQ q g s t) (W : World) (hW : LawW W) :
    Calls Tryz.prog 17 #[.agg #[.bool g, .string s, .string t]] W fun e w' => e = .returned (.tuple #[.string (bL (txtQ q)), .int .i64 0]) ∧ Below W.heap.size W w' := by
  have h := rat_Text_q q W (h.fit hk) hW
  rw [e] at h
  exact h
theorem parse_okq {q : Rat} {g : Bool} {s t : ByteArray} {k : Nat} (h : Sz k q) (hk : k ≤ 1000) (e : IsQ q g s t) (W : World) (hW : LawW W) :
    Calls Tryz.prog 19 #[.string (bL (txtQ q))] W fun e w' => e = .returned (.tuple #[.agg #[.bool g, .string s, .string t], .int .i64 0]) ∧ Below W.heap.size W w' := by
  have h := rat_Parse_q q W (h.fit hk) hW
  unfold RqPost at h
  rw [e] at h
  exact h
theorem txt_ne {p q : Rat} (h : p ≠ q) : ((bL (txtQ p)).toList == (bL (txtQ q)).toList) = false :=
  beq_eq_false_iff_ne.2 fun e => h (txtQ_inj (by rwa [ByteArray.toList_eq, ByteArray.toList_eq] at e))
/-- Parse of any string, and Text of its result. -/
def ParN (x : ByteArray) : Prop := ∀ W, LawW W → Calls Tryz.prog 19 #[.string x] W fun e w' => e = .returned (.tuple #[.agg #[.bool false, .string ⟨#[]⟩, .string ⟨#[]⟩], .int .i64 5]) ∧ Below W.heap.size W w'
def ParY (x : ByteArray) (g : Bool) (s t : ByteArray) : Prop := (∀ W, LawW W → Calls Tryz.prog 19 #[.string x] W fun e w' => e = .returned (.tuple #[.agg #[.bool g, .string s, .string t], .int .i64 0]) ∧ Below W.heap.size W w') ∧ (∀ W, LawW W → Calls Tryz.prog 17 #[.agg #[.bool g, .string s, .string t]] W fun e w' => e = .returned (.tuple #[.string x, .int .i64 0]) ∧ Below W.heap.size W w')
theorem parse_any (x : ByteArray) (hx : x.size ≤ 90) : ParN x ∨ ∃ g s t, ParY x g s t := by
  by_cases h : ∃ q, FitQ q ∧ txtQ q = x.data.toList
  · obtain ⟨q, hf, hq⟩ := h
    obtain ⟨g, s, t, e⟩ := IsQ.get q
    have ex : bL (txtQ q) = x := by rw [hq]; exact bL_of x
    refine .inr ⟨g, s, t, fun W hW => ?_, fun W hW => ?_⟩
    · have h := rat_Parse_q q W hf hW
      unfold RqPost at h
      rw [e, ex] at h
      exact h
    · have h := rat_Text_q q W hf hW
      rw [e, ex] at h
      exact h
  · refine .inl fun W hW => ?_
    have h := rat_Parse_no x.data.toList W (by have : x.data.toList.length = x.size := rfl; omega) (fun q hf hq => h ⟨q, hf, hq⟩) hW
    rw [bL_of] at h
    exact h

set_option maxHeartbeats 4000000 in
set_option maxRecDepth 100000 in
theorem texts_few (ga : Bool) (sa ta : ByteArray) (gb : Bool) (sb tb : ByteArray) (x : ByteArray) (w : World) (hf : fewQ 40 [(ga, sa, ta), (gb, sb, tb)] = false) (hw : LawW w) :
    Calls Tryz.prog 8 #[.agg #[.bool ga, .string sa, .string ta], .agg #[.bool gb, .string sb, .string tb], .string x] w fun e w' => e = .returned (.bool true) ∧ Below w.heap.size w w' := by
  have HW := hide hw
  have HF := hide (fun W T => few_two ga sa ta gb sb tb W T)
  rw [hf] at HF
  have HH := hide (fun W hW => law04_head W hW)
  have HB0 : Hid (Below w.heap.size w w) := Below.refl _ _
  have HV0 : Hid (VL w []) := VL.nil w
  clear hf hw
  go_enter Tryz.func8, Tryz.ntmps8
  have HV0_ := hide (HV0.out.pushAt (b := w.heap.size) (by simp) ga sa ta 24)
  have HB0_ := hide (bAlloc HB0.out (.cells #[.bool ga, .string sa, .string ta] 24))
  clear HB0 HV0
  have HV0__ := hide (HV0_.out.pushAt (b := w.heap.size + 1) (by simp) gb sb tb 24)
  have HB0__ := hide (bAlloc HB0_.out (.cells #[.bool gb, .string sb, .string tb] 24))
  clear HB0_ HV0_
  go_wp2_with fail
  refine (HH.out _ (HW.out.below HB0__.out)).mono ?_
  rintro e w1 ⟨rfl, hb⟩
  have HB1 := hide (bStep HB0__.out hb)
  have HV1 := hide (HV0__.out.below hb)
  clear hb HB0__ HV0__
  obtain ⟨c3, c4, c5⟩ := VL.cells3 (b := w.heap.size) (g := ga) (s := sa) (t := ta) HV1.out (by simp)
  obtain ⟨c6, c7, c8⟩ := VL.cells3 (b := w.heap.size + 1) (g := gb) (s := sb) (t := tb) HV1.out (by simp)
  go_wp2_with fail
  clear c3 c4 c5 c6 c7 c8
  refine (HF.out _ _).mono ?_
  rintro e wf ⟨rfl, rfl⟩
  have HV1_ := hide (VL.below HV1.out (bAlloc (Below.refl _ _) (.cells #[.bool ga, .string sa, .string ta, .bool gb, .string sb, .string tb] 24)))
  have HB1_ := hide (bAlloc HB1.out (.cells #[.bool ga, .string sa, .string ta, .bool gb, .string sb, .string tb] 24))
  clear HB1 HV1
  go_wp2_with fail
  go_ret
  exact ⟨rfl, HB1_.out⟩
set_option maxHeartbeats 4000000 in
set_option maxRecDepth 100000 in
theorem texts_long (ga : Bool) (sa ta : ByteArray) (gb : Bool) (sb tb : ByteArray) (x : ByteArray) (w : World) (hf : fewQ 40 [(ga, sa, ta), (gb, sb, tb)] = true) (hx : 90 < x.size) (hw : LawW w) :
    Calls Tryz.prog 8 #[.agg #[.bool ga, .string sa, .string ta], .agg #[.bool gb, .string sb, .string tb], .string x] w fun e w' => e = .returned (.bool true) ∧ Below w.heap.size w w' := by
  have HW := hide hw
  have HF := hide (fun W T => few_two ga sa ta gb sb tb W T)
  rw [hf] at HF
  have hI : (90 : Int) < (x.size : Int) := by omega
  have HH := hide (fun W hW => law04_head W hW)
  have HB0 : Hid (Below w.heap.size w w) := Below.refl _ _
  have HV0 : Hid (VL w []) := VL.nil w
  clear hf hw hx
  go_enter Tryz.func8, Tryz.ntmps8
  have HV0_ := hide (HV0.out.pushAt (b := w.heap.size) (by simp) ga sa ta 24)
  have HB0_ := hide (bAlloc HB0.out (.cells #[.bool ga, .string sa, .string ta] 24))
  clear HB0 HV0
  have HV0__ := hide (HV0_.out.pushAt (b := w.heap.size + 1) (by simp) gb sb tb 24)
  have HB0__ := hide (bAlloc HB0_.out (.cells #[.bool gb, .string sb, .string tb] 24))
  clear HB0_ HV0_
  go_wp2_with fail
  refine (HH.out _ (HW.out.below HB0__.out)).mono ?_
  rintro e w1 ⟨rfl, hb⟩
  have HB1 := hide (bStep HB0__.out hb)
  have HV1 := hide (HV0__.out.below hb)
  clear hb HB0__ HV0__
  obtain ⟨c3, c4, c5⟩ := VL.cells3 (b := w.heap.size) (g := ga) (s := sa) (t := ta) HV1.out (by simp)
  obtain ⟨c6, c7, c8⟩ := VL.cells3 (b := w.heap.size + 1) (g := gb) (s := sb) (t := tb) HV1.out (by simp)
  go_wp2_with fail
  clear c3 c4 c5 c6 c7 c8
  refine (HF.out _ _).mono ?_
  rintro e wf ⟨rfl, rfl⟩
  have HV1_ := hide (VL.below HV1.out (bAlloc (Below.refl _ _) (.cells #[.bool ga, .string sa, .string ta, .bool gb, .string sb, .string tb] 24)))
  have HB1_ := hide (bAlloc HB1.out (.cells #[.bool ga, .string sa, .string ta, .bool gb, .string sb, .string tb] 24))
  clear HB1 HV1
  go_wp2_with fail
  go_ret
  exact ⟨rfl, HB1_.out⟩
set_option maxHeartbeats 4000000 in
set_option maxRecDepth 100000 in
theorem texts_badA (ga : Bool) (sa ta : ByteArray) (gb : Bool) (sb tb : ByteArray) (ub : ByteArray) (kb : Int) (x : ByteArray) (w : World) (hf : fewQ 40 [(ga, sa, ta), (gb, sb, tb)] = true) (hx : x.size ≤ 90) (va : vldR ga sa ta = false) (htb : ∀ W, LawW W → Calls Tryz.prog 17 #[.agg #[.bool gb, .string sb, .string tb]] W fun e w' => e = .returned (.tuple #[.string ub, .int .i64 kb]) ∧ Below W.heap.size W w') (hw : LawW w) :
    Calls Tryz.prog 8 #[.agg #[.bool ga, .string sa, .string ta], .agg #[.bool gb, .string sb, .string tb], .string x] w fun e w' => e = .returned (.bool true) ∧ Below w.heap.size w w' := by
  have HW := hide hw
  have HF := hide (fun W T => few_two ga sa ta gb sb tb W T)
  rw [hf] at HF
  have hI : (x.size : Int) ≤ 90 := by omega
  have HPT := hide (parse_any x hx)
  have HTA := hide (fun W hW => rat_Text_bad ga sa ta W (by have h := fewQ_two hf; unfold maxLen; have := h.1; simp at this; omega) (by have h := fewQ_two hf; unfold maxLen; have := h.2.1; simp at this; omega) va hW)
  have HTB := hide htb
  have HVA := hide (fun W hW => rat_valid ga sa ta W (by have h := fewQ_two hf; unfold maxLen; have := h.1; simp at this; omega) (by have h := fewQ_two hf; unfold maxLen; have := h.2.1; simp at this; omega) hW)
  rw [va] at HVA
  have HH := hide (fun W hW => law04_head W hW)
  have HB0 : Hid (Below w.heap.size w w) := Below.refl _ _
  have HV0 : Hid (VL w []) := VL.nil w
  clear hf hx hw va htb
  go_enter Tryz.func8, Tryz.ntmps8
  have HV0_ := hide (HV0.out.pushAt (b := w.heap.size) (by simp) ga sa ta 24)
  have HB0_ := hide (bAlloc HB0.out (.cells #[.bool ga, .string sa, .string ta] 24))
  clear HB0 HV0
  have HV0__ := hide (HV0_.out.pushAt (b := w.heap.size + 1) (by simp) gb sb tb 24)
  have HB0__ := hide (bAlloc HB0_.out (.cells #[.bool gb, .string sb, .string tb] 24))
  clear HB0_ HV0_
  go_wp2_with fail
  refine (HH.out _ (HW.out.below HB0__.out)).mono ?_
  rintro e w1 ⟨rfl, hb⟩
  have HB1 := hide (bStep HB0__.out hb)
  have HV1 := hide (HV0__.out.below hb)
  clear hb HB0__ HV0__
  obtain ⟨c3, c4, c5⟩ := VL.cells3 (b := w.heap.size) (g := ga) (s := sa) (t := ta) HV1.out (by simp)
  obtain ⟨c6, c7, c8⟩ := VL.cells3 (b := w.heap.size + 1) (g := gb) (s := sb) (t := tb) HV1.out (by simp)
  go_wp2_with fail
  clear c3 c4 c5 c6 c7 c8
  refine (HF.out _ _).mono ?_
  rintro e wf ⟨rfl, rfl⟩
  have HV1_ := hide (VL.below HV1.out (bAlloc (Below.refl _ _) (.cells #[.bool ga, .string sa, .string ta, .bool gb, .string sb, .string tb] 24)))
  have HB1_ := hide (bAlloc HB1.out (.cells #[.bool ga, .string sa, .string ta, .bool gb, .string sb, .string tb] 24))
  clear HB1 HV1
  obtain ⟨c9, c10, c11⟩ := VL.cells3 (b := w.heap.size) (g := ga) (s := sa) (t := ta) HV1_.out (by simp)
  go_wp2_with fail
  clear c9 c10 c11
  refine (HTA.out _ (HW.out.below HB1_.out)).mono ?_
  rintro e w2 ⟨rfl, hb⟩
  have HB2 := hide (bStep HB1_.out hb)
  have HV2 := hide (HV1_.out.below hb)
  clear hb HB1_ HV1_
  obtain ⟨c12, c13, c14⟩ := VL.cells3 (b := w.heap.size + 1) (g := gb) (s := sb) (t := tb) HV2.out (by simp)
  go_wp2_with fail
  clear c12 c13 c14
  refine (HTB.out _ (HW.out.below HB2.out)).mono ?_
  rintro e w3 ⟨rfl, hb⟩
  have HB3 := hide (bStep HB2.out hb)
  have HV3 := hide (HV2.out.below hb)
  clear hb HB2 HV2
  obtain ⟨c15, c16, c17⟩ := VL.cells3 (b := w.heap.size) (g := ga) (s := sa) (t := ta) HV3.out (by simp)
  go_wp2_with fail
  clear c15 c16 c17
  refine (HVA.out _ (HW.out.below HB3.out)).mono ?_
  rintro e w4 ⟨rfl, hb⟩
  have HB4 := hide (bStep HB3.out hb)
  have HV4 := hide (HV3.out.below hb)
  clear hb HB3 HV3
  go_wp2_with fail
  rcases HPT.out with hn | ⟨gy, sy, ty, hy1, hy2⟩
  · have HPN := hide hn
    clear HPT hn
    refine (HPN.out _ (HW.out.below HB4.out)).mono ?_
    rintro e w5 ⟨rfl, hb⟩
    have HB5 := hide (bStep HB4.out hb)
    have HV5 := hide (HV4.out.below hb)
    clear hb HB4 HV4
    have HV5_ := hide (HV5.out.pushAt (b := w5.heap.size) (by simp) false ⟨#[]⟩ ⟨#[]⟩ 24)
    have HB5_ := hide (bAlloc HB5.out (.cells #[.bool false, .string ⟨#[]⟩, .string ⟨#[]⟩] 24))
    clear HB5 HV5
    obtain ⟨c18, c19, c20⟩ := VL.cells3 (b := w5.heap.size) (g := false) (s := ⟨#[]⟩) (t := ⟨#[]⟩) HV5_.out (by simp)
    go_wp2_with fail
    clear c18 c19 c20
    go_ret
    exact ⟨rfl, HB5_.out⟩
  · have HPY := hide hy1
    have HTY := hide hy2
    clear HPT hy1 hy2
    refine (HPY.out _ (HW.out.below HB4.out)).mono ?_
    rintro e w5 ⟨rfl, hb⟩
    have HB5 := hide (bStep HB4.out hb)
    have HV5 := hide (HV4.out.below hb)
    clear hb HB4 HV4
    have HV5_ := hide (HV5.out.pushAt (b := w5.heap.size) (by simp) gy sy ty 24)
    have HB5_ := hide (bAlloc HB5.out (.cells #[.bool gy, .string sy, .string ty] 24))
    clear HB5 HV5
    obtain ⟨c18, c19, c20⟩ := VL.cells3 (b := w5.heap.size) (g := gy) (s := sy) (t := ty) HV5_.out (by simp)
    go_wp2_with fail
    clear c18 c19 c20
    refine (HTY.out _ (HW.out.below HB5_.out)).mono ?_
    rintro e w6 ⟨rfl, hb⟩
    have HB6 := hide (bStep HB5_.out hb)
    have HV6 := hide (HV5_.out.below hb)
    clear hb HB5_ HV5_
    go_wp2_with fail
    go_ret
    exact ⟨rfl, HB6.out⟩
set_option maxHeartbeats 4000000 in
set_option maxRecDepth 100000 in
theorem texts_badB (ga : Bool) (sa ta : ByteArray) (gb : Bool) (sb tb : ByteArray) (x : ByteArray) (w : World) (hf : fewQ 40 [(ga, sa, ta), (gb, sb, tb)] = true) (hx : x.size ≤ 90) (p : Rat) (hp : Sz 40 p) (ep : IsQ p ga sa ta) (vb : vldR gb sb tb = false) (hw : LawW w) :
    Calls Tryz.prog 8 #[.agg #[.bool ga, .string sa, .string ta], .agg #[.bool gb, .string sb, .string tb], .string x] w fun e w' => e = .returned (.bool true) ∧ Below w.heap.size w w' := by
  have HW := hide hw
  have HF := hide (fun W T => few_two ga sa ta gb sb tb W T)
  rw [hf] at HF
  have hI : (x.size : Int) ≤ 90 := by omega
  have HPT := hide (parse_any x hx)
  have HTA := hide (fun W hW => text_okq hp (by omega) ep W hW)
  have HVA := hide (fun W hW => valid_okq hp (by omega) ep W hW)
  have HPA := hide (fun W hW => parse_okq hp (by omega) ep W hW)
  have HTB := hide (fun W hW => rat_Text_bad gb sb tb W (by have h := fewQ_two hf; unfold maxLen; have := h.2.2.1; simp at this; omega) (by have h := fewQ_two hf; unfold maxLen; have := h.2.2.2; simp at this; omega) vb hW)
  obtain ⟨ua, hua⟩ : ∃ u, bL (txtQ p) = u := ⟨_, rfl⟩
  rw [hua] at HTA HPA
  have HH := hide (fun W hW => law04_head W hW)
  have HB0 : Hid (Below w.heap.size w w) := Below.refl _ _
  have HV0 : Hid (VL w []) := VL.nil w
  clear hf hx hw hp ep vb hua
  go_enter Tryz.func8, Tryz.ntmps8
  have HV0_ := hide (HV0.out.pushAt (b := w.heap.size) (by simp) ga sa ta 24)
  have HB0_ := hide (bAlloc HB0.out (.cells #[.bool ga, .string sa, .string ta] 24))
  clear HB0 HV0
  have HV0__ := hide (HV0_.out.pushAt (b := w.heap.size + 1) (by simp) gb sb tb 24)
  have HB0__ := hide (bAlloc HB0_.out (.cells #[.bool gb, .string sb, .string tb] 24))
  clear HB0_ HV0_
  go_wp2_with fail
  refine (HH.out _ (HW.out.below HB0__.out)).mono ?_
  rintro e w1 ⟨rfl, hb⟩
  have HB1 := hide (bStep HB0__.out hb)
  have HV1 := hide (HV0__.out.below hb)
  clear hb HB0__ HV0__
  obtain ⟨c3, c4, c5⟩ := VL.cells3 (b := w.heap.size) (g := ga) (s := sa) (t := ta) HV1.out (by simp)
  obtain ⟨c6, c7, c8⟩ := VL.cells3 (b := w.heap.size + 1) (g := gb) (s := sb) (t := tb) HV1.out (by simp)
  go_wp2_with fail
  clear c3 c4 c5 c6 c7 c8
  refine (HF.out _ _).mono ?_
  rintro e wf ⟨rfl, rfl⟩
  have HV1_ := hide (VL.below HV1.out (bAlloc (Below.refl _ _) (.cells #[.bool ga, .string sa, .string ta, .bool gb, .string sb, .string tb] 24)))
  have HB1_ := hide (bAlloc HB1.out (.cells #[.bool ga, .string sa, .string ta, .bool gb, .string sb, .string tb] 24))
  clear HB1 HV1
  obtain ⟨c9, c10, c11⟩ := VL.cells3 (b := w.heap.size) (g := ga) (s := sa) (t := ta) HV1_.out (by simp)
  go_wp2_with fail
  clear c9 c10 c11
  refine (HTA.out _ (HW.out.below HB1_.out)).mono ?_
  rintro e w2 ⟨rfl, hb⟩
  have HB2 := hide (bStep HB1_.out hb)
  have HV2 := hide (HV1_.out.below hb)
  clear hb HB1_ HV1_
  obtain ⟨c12, c13, c14⟩ := VL.cells3 (b := w.heap.size + 1) (g := gb) (s := sb) (t := tb) HV2.out (by simp)
  go_wp2_with fail
  clear c12 c13 c14
  refine (HTB.out _ (HW.out.below HB2.out)).mono ?_
  rintro e w3 ⟨rfl, hb⟩
  have HB3 := hide (bStep HB2.out hb)
  have HV3 := hide (HV2.out.below hb)
  clear hb HB2 HV2
  obtain ⟨c15, c16, c17⟩ := VL.cells3 (b := w.heap.size) (g := ga) (s := sa) (t := ta) HV3.out (by simp)
  go_wp2_with fail
  clear c15 c16 c17
  refine (HVA.out _ (HW.out.below HB3.out)).mono ?_
  rintro e w4 ⟨rfl, hb⟩
  have HB4 := hide (bStep HB3.out hb)
  have HV4 := hide (HV3.out.below hb)
  clear hb HB3 HV3
  go_wp2_with fail
  refine (HPA.out _ (HW.out.below HB4.out)).mono ?_
  rintro e w5 ⟨rfl, hb⟩
  have HB5 := hide (bStep HB4.out hb)
  have HV5 := hide (HV4.out.below hb)
  clear hb HB4 HV4
  have HV5_ := hide (HV5.out.pushAt (b := w5.heap.size) (by simp) ga sa ta 24)
  have HB5_ := hide (bAlloc HB5.out (.cells #[.bool ga, .string sa, .string ta] 24))
  clear HB5 HV5
  obtain ⟨c18, c19, c20⟩ := VL.cells3 (b := w5.heap.size) (g := ga) (s := sa) (t := ta) HV5_.out (by simp)
  obtain ⟨c21, c22, c23⟩ := VL.cells3 (b := w.heap.size) (g := ga) (s := sa) (t := ta) HV5_.out (by simp)
  obtain ⟨c24, c25, c26⟩ := VL.cells3 (b := w.heap.size + 1) (g := gb) (s := sb) (t := tb) HV5_.out (by simp)
  go_wp2_with fail
  clear c18 c19 c20 c21 c22 c23 c24 c25 c26
  rcases HPT.out with hn | ⟨gy, sy, ty, hy1, hy2⟩
  · have HPN := hide hn
    clear HPT hn
    refine (HPN.out _ (HW.out.below HB5_.out)).mono ?_
    rintro e w6 ⟨rfl, hb⟩
    have HB6 := hide (bStep HB5_.out hb)
    have HV6 := hide (HV5_.out.below hb)
    clear hb HB5_ HV5_
    have HV6_ := hide (HV6.out.pushAt (b := w6.heap.size) (by simp) false ⟨#[]⟩ ⟨#[]⟩ 24)
    have HB6_ := hide (bAlloc HB6.out (.cells #[.bool false, .string ⟨#[]⟩, .string ⟨#[]⟩] 24))
    clear HB6 HV6
    obtain ⟨c27, c28, c29⟩ := VL.cells3 (b := w6.heap.size) (g := false) (s := ⟨#[]⟩) (t := ⟨#[]⟩) HV6_.out (by simp)
    go_wp2_with fail
    clear c27 c28 c29
    go_ret
    exact ⟨rfl, HB6_.out⟩
  · have HPY := hide hy1
    have HTY := hide hy2
    clear HPT hy1 hy2
    refine (HPY.out _ (HW.out.below HB5_.out)).mono ?_
    rintro e w6 ⟨rfl, hb⟩
    have HB6 := hide (bStep HB5_.out hb)
    have HV6 := hide (HV5_.out.below hb)
    clear hb HB5_ HV5_
    have HV6_ := hide (HV6.out.pushAt (b := w6.heap.size) (by simp) gy sy ty 24)
    have HB6_ := hide (bAlloc HB6.out (.cells #[.bool gy, .string sy, .string ty] 24))
    clear HB6 HV6
    obtain ⟨c27, c28, c29⟩ := VL.cells3 (b := w6.heap.size) (g := gy) (s := sy) (t := ty) HV6_.out (by simp)
    go_wp2_with fail
    clear c27 c28 c29
    refine (HTY.out _ (HW.out.below HB6_.out)).mono ?_
    rintro e w7 ⟨rfl, hb⟩
    have HB7 := hide (bStep HB6_.out hb)
    have HV7 := hide (HV6_.out.below hb)
    clear hb HB6_ HV6_
    go_wp2_with fail
    go_ret
    exact ⟨rfl, HB7.out⟩
set_option maxHeartbeats 4000000 in
set_option maxRecDepth 100000 in
theorem texts_eq (ga : Bool) (sa ta : ByteArray) (x : ByteArray) (w : World) (hf : fewQ 40 [(ga, sa, ta), (ga, sa, ta)] = true) (hx : x.size ≤ 90) (p : Rat) (hp : Sz 40 p) (ep : IsQ p ga sa ta) (hw : LawW w) :
    Calls Tryz.prog 8 #[.agg #[.bool ga, .string sa, .string ta], .agg #[.bool ga, .string sa, .string ta], .string x] w fun e w' => e = .returned (.bool true) ∧ Below w.heap.size w w' := by
  have HW := hide hw
  have HF := hide (fun W T => few_two ga sa ta ga sa ta W T)
  rw [hf] at HF
  have hI : (x.size : Int) ≤ 90 := by omega
  have HPT := hide (parse_any x hx)
  have HTA := hide (fun W hW => text_okq hp (by omega) ep W hW)
  have HVA := hide (fun W hW => valid_okq hp (by omega) ep W hW)
  have HPA := hide (fun W hW => parse_okq hp (by omega) ep W hW)
  obtain ⟨ua, hua⟩ : ∃ u, bL (txtQ p) = u := ⟨_, rfl⟩
  rw [hua] at HTA HPA
  have HTB := HTA
  have HH := hide (fun W hW => law04_head W hW)
  have HB0 : Hid (Below w.heap.size w w) := Below.refl _ _
  have HV0 : Hid (VL w []) := VL.nil w
  clear hf hx hw hp ep hua
  go_enter Tryz.func8, Tryz.ntmps8
  have HV0_ := hide (HV0.out.pushAt (b := w.heap.size) (by simp) ga sa ta 24)
  have HB0_ := hide (bAlloc HB0.out (.cells #[.bool ga, .string sa, .string ta] 24))
  clear HB0 HV0
  have HV0__ := hide (HV0_.out.pushAt (b := w.heap.size + 1) (by simp) ga sa ta 24)
  have HB0__ := hide (bAlloc HB0_.out (.cells #[.bool ga, .string sa, .string ta] 24))
  clear HB0_ HV0_
  go_wp2_with fail
  refine (HH.out _ (HW.out.below HB0__.out)).mono ?_
  rintro e w1 ⟨rfl, hb⟩
  have HB1 := hide (bStep HB0__.out hb)
  have HV1 := hide (HV0__.out.below hb)
  clear hb HB0__ HV0__
  obtain ⟨c3, c4, c5⟩ := VL.cells3 (b := w.heap.size) (g := ga) (s := sa) (t := ta) HV1.out (by simp)
  obtain ⟨c6, c7, c8⟩ := VL.cells3 (b := w.heap.size + 1) (g := ga) (s := sa) (t := ta) HV1.out (by simp)
  go_wp2_with fail
  clear c3 c4 c5 c6 c7 c8
  refine (HF.out _ _).mono ?_
  rintro e wf ⟨rfl, rfl⟩
  have HV1_ := hide (VL.below HV1.out (bAlloc (Below.refl _ _) (.cells #[.bool ga, .string sa, .string ta, .bool ga, .string sa, .string ta] 24)))
  have HB1_ := hide (bAlloc HB1.out (.cells #[.bool ga, .string sa, .string ta, .bool ga, .string sa, .string ta] 24))
  clear HB1 HV1
  obtain ⟨c9, c10, c11⟩ := VL.cells3 (b := w.heap.size) (g := ga) (s := sa) (t := ta) HV1_.out (by simp)
  go_wp2_with fail
  clear c9 c10 c11
  refine (HTA.out _ (HW.out.below HB1_.out)).mono ?_
  rintro e w2 ⟨rfl, hb⟩
  have HB2 := hide (bStep HB1_.out hb)
  have HV2 := hide (HV1_.out.below hb)
  clear hb HB1_ HV1_
  obtain ⟨c12, c13, c14⟩ := VL.cells3 (b := w.heap.size + 1) (g := ga) (s := sa) (t := ta) HV2.out (by simp)
  go_wp2_with fail
  clear c12 c13 c14
  refine (HTB.out _ (HW.out.below HB2.out)).mono ?_
  rintro e w3 ⟨rfl, hb⟩
  have HB3 := hide (bStep HB2.out hb)
  have HV3 := hide (HV2.out.below hb)
  clear hb HB2 HV2
  obtain ⟨c15, c16, c17⟩ := VL.cells3 (b := w.heap.size) (g := ga) (s := sa) (t := ta) HV3.out (by simp)
  go_wp2_with fail
  clear c15 c16 c17
  refine (HVA.out _ (HW.out.below HB3.out)).mono ?_
  rintro e w4 ⟨rfl, hb⟩
  have HB4 := hide (bStep HB3.out hb)
  have HV4 := hide (HV3.out.below hb)
  clear hb HB3 HV3
  go_wp2_with fail
  refine (HPA.out _ (HW.out.below HB4.out)).mono ?_
  rintro e w5 ⟨rfl, hb⟩
  have HB5 := hide (bStep HB4.out hb)
  have HV5 := hide (HV4.out.below hb)
  clear hb HB4 HV4
  have HV5_ := hide (HV5.out.pushAt (b := w5.heap.size) (by simp) ga sa ta 24)
  have HB5_ := hide (bAlloc HB5.out (.cells #[.bool ga, .string sa, .string ta] 24))
  clear HB5 HV5
  obtain ⟨c18, c19, c20⟩ := VL.cells3 (b := w5.heap.size) (g := ga) (s := sa) (t := ta) HV5_.out (by simp)
  obtain ⟨c21, c22, c23⟩ := VL.cells3 (b := w.heap.size) (g := ga) (s := sa) (t := ta) HV5_.out (by simp)
  obtain ⟨c24, c25, c26⟩ := VL.cells3 (b := w.heap.size + 1) (g := ga) (s := sa) (t := ta) HV5_.out (by simp)
  go_wp2_with fail
  clear c18 c19 c20 c21 c22 c23 c24 c25 c26
  rcases HPT.out with hn | ⟨gy, sy, ty, hy1, hy2⟩
  · have HPN := hide hn
    clear HPT hn
    refine (HPN.out _ (HW.out.below HB5_.out)).mono ?_
    rintro e w6 ⟨rfl, hb⟩
    have HB6 := hide (bStep HB5_.out hb)
    have HV6 := hide (HV5_.out.below hb)
    clear hb HB5_ HV5_
    have HV6_ := hide (HV6.out.pushAt (b := w6.heap.size) (by simp) false ⟨#[]⟩ ⟨#[]⟩ 24)
    have HB6_ := hide (bAlloc HB6.out (.cells #[.bool false, .string ⟨#[]⟩, .string ⟨#[]⟩] 24))
    clear HB6 HV6
    obtain ⟨c27, c28, c29⟩ := VL.cells3 (b := w6.heap.size) (g := false) (s := ⟨#[]⟩) (t := ⟨#[]⟩) HV6_.out (by simp)
    go_wp2_with fail
    clear c27 c28 c29
    go_ret
    exact ⟨rfl, HB6_.out⟩
  · have HPY := hide hy1
    have HTY := hide hy2
    clear HPT hy1 hy2
    refine (HPY.out _ (HW.out.below HB5_.out)).mono ?_
    rintro e w6 ⟨rfl, hb⟩
    have HB6 := hide (bStep HB5_.out hb)
    have HV6 := hide (HV5_.out.below hb)
    clear hb HB5_ HV5_
    have HV6_ := hide (HV6.out.pushAt (b := w6.heap.size) (by simp) gy sy ty 24)
    have HB6_ := hide (bAlloc HB6.out (.cells #[.bool gy, .string sy, .string ty] 24))
    clear HB6 HV6
    obtain ⟨c27, c28, c29⟩ := VL.cells3 (b := w6.heap.size) (g := gy) (s := sy) (t := ty) HV6_.out (by simp)
    go_wp2_with fail
    clear c27 c28 c29
    refine (HTY.out _ (HW.out.below HB6_.out)).mono ?_
    rintro e w7 ⟨rfl, hb⟩
    have HB7 := hide (bStep HB6_.out hb)
    have HV7 := hide (HV6_.out.below hb)
    clear hb HB6_ HV6_
    go_wp2_with fail
    go_ret
    exact ⟨rfl, HB7.out⟩
set_option maxHeartbeats 4000000 in
set_option maxRecDepth 100000 in
theorem texts_neA (ga : Bool) (sa ta sb tb : ByteArray) (fs : (sa.toList == sb.toList) = false) (x : ByteArray) (w : World) (hf : fewQ 40 [(ga, sa, ta), (ga, sb, tb)] = true) (hx : x.size ≤ 90) (p q : Rat) (hp : Sz 40 p) (hq : Sz 40 q) (ep : IsQ p ga sa ta) (eq : IsQ q ga sb tb) (hne : p ≠ q) (hw : LawW w) :
    Calls Tryz.prog 8 #[.agg #[.bool ga, .string sa, .string ta], .agg #[.bool ga, .string sb, .string tb], .string x] w fun e w' => e = .returned (.bool true) ∧ Below w.heap.size w w' := by
  have HW := hide hw
  have HF := hide (fun W T => few_two ga sa ta ga sb tb W T)
  rw [hf] at HF
  have hI : (x.size : Int) ≤ 90 := by omega
  have HPT := hide (parse_any x hx)
  have HTA := hide (fun W hW => text_okq hp (by omega) ep W hW)
  have HVA := hide (fun W hW => valid_okq hp (by omega) ep W hW)
  have HPA := hide (fun W hW => parse_okq hp (by omega) ep W hW)
  have HTB := hide (fun W hW => text_okq hq (by omega) eq W hW)
  have ft := txt_ne hne
  obtain ⟨ua, hua⟩ : ∃ u, bL (txtQ p) = u := ⟨_, rfl⟩
  obtain ⟨ub, hub⟩ : ∃ u, bL (txtQ q) = u := ⟨_, rfl⟩
  rw [hua] at HTA HPA ft
  rw [hub] at HTB ft
  have HH := hide (fun W hW => law04_head W hW)
  have HB0 : Hid (Below w.heap.size w w) := Below.refl _ _
  have HV0 : Hid (VL w []) := VL.nil w
  clear hf hx hw hp ep hq eq hne hua hub
  go_enter Tryz.func8, Tryz.ntmps8
  have HV0_ := hide (HV0.out.pushAt (b := w.heap.size) (by simp) ga sa ta 24)
  have HB0_ := hide (bAlloc HB0.out (.cells #[.bool ga, .string sa, .string ta] 24))
  clear HB0 HV0
  have HV0__ := hide (HV0_.out.pushAt (b := w.heap.size + 1) (by simp) ga sb tb 24)
  have HB0__ := hide (bAlloc HB0_.out (.cells #[.bool ga, .string sb, .string tb] 24))
  clear HB0_ HV0_
  go_wp2_with fail
  refine (HH.out _ (HW.out.below HB0__.out)).mono ?_
  rintro e w1 ⟨rfl, hb⟩
  have HB1 := hide (bStep HB0__.out hb)
  have HV1 := hide (HV0__.out.below hb)
  clear hb HB0__ HV0__
  obtain ⟨c3, c4, c5⟩ := VL.cells3 (b := w.heap.size) (g := ga) (s := sa) (t := ta) HV1.out (by simp)
  obtain ⟨c6, c7, c8⟩ := VL.cells3 (b := w.heap.size + 1) (g := ga) (s := sb) (t := tb) HV1.out (by simp)
  go_wp2_with fail
  clear c3 c4 c5 c6 c7 c8
  refine (HF.out _ _).mono ?_
  rintro e wf ⟨rfl, rfl⟩
  have HV1_ := hide (VL.below HV1.out (bAlloc (Below.refl _ _) (.cells #[.bool ga, .string sa, .string ta, .bool ga, .string sb, .string tb] 24)))
  have HB1_ := hide (bAlloc HB1.out (.cells #[.bool ga, .string sa, .string ta, .bool ga, .string sb, .string tb] 24))
  clear HB1 HV1
  obtain ⟨c9, c10, c11⟩ := VL.cells3 (b := w.heap.size) (g := ga) (s := sa) (t := ta) HV1_.out (by simp)
  go_wp2_with fail
  clear c9 c10 c11
  refine (HTA.out _ (HW.out.below HB1_.out)).mono ?_
  rintro e w2 ⟨rfl, hb⟩
  have HB2 := hide (bStep HB1_.out hb)
  have HV2 := hide (HV1_.out.below hb)
  clear hb HB1_ HV1_
  obtain ⟨c12, c13, c14⟩ := VL.cells3 (b := w.heap.size + 1) (g := ga) (s := sb) (t := tb) HV2.out (by simp)
  go_wp2_with fail
  clear c12 c13 c14
  refine (HTB.out _ (HW.out.below HB2.out)).mono ?_
  rintro e w3 ⟨rfl, hb⟩
  have HB3 := hide (bStep HB2.out hb)
  have HV3 := hide (HV2.out.below hb)
  clear hb HB2 HV2
  obtain ⟨c15, c16, c17⟩ := VL.cells3 (b := w.heap.size) (g := ga) (s := sa) (t := ta) HV3.out (by simp)
  go_wp2_with fail
  clear c15 c16 c17
  refine (HVA.out _ (HW.out.below HB3.out)).mono ?_
  rintro e w4 ⟨rfl, hb⟩
  have HB4 := hide (bStep HB3.out hb)
  have HV4 := hide (HV3.out.below hb)
  clear hb HB3 HV3
  go_wp2_with fail
  refine (HPA.out _ (HW.out.below HB4.out)).mono ?_
  rintro e w5 ⟨rfl, hb⟩
  have HB5 := hide (bStep HB4.out hb)
  have HV5 := hide (HV4.out.below hb)
  clear hb HB4 HV4
  have HV5_ := hide (HV5.out.pushAt (b := w5.heap.size) (by simp) ga sa ta 24)
  have HB5_ := hide (bAlloc HB5.out (.cells #[.bool ga, .string sa, .string ta] 24))
  clear HB5 HV5
  obtain ⟨c18, c19, c20⟩ := VL.cells3 (b := w5.heap.size) (g := ga) (s := sa) (t := ta) HV5_.out (by simp)
  obtain ⟨c21, c22, c23⟩ := VL.cells3 (b := w.heap.size) (g := ga) (s := sa) (t := ta) HV5_.out (by simp)
  obtain ⟨c24, c25, c26⟩ := VL.cells3 (b := w.heap.size + 1) (g := ga) (s := sb) (t := tb) HV5_.out (by simp)
  go_wp2_with fail
  clear c18 c19 c20 c21 c22 c23 c24 c25 c26
  rcases HPT.out with hn | ⟨gy, sy, ty, hy1, hy2⟩
  · have HPN := hide hn
    clear HPT hn
    refine (HPN.out _ (HW.out.below HB5_.out)).mono ?_
    rintro e w6 ⟨rfl, hb⟩
    have HB6 := hide (bStep HB5_.out hb)
    have HV6 := hide (HV5_.out.below hb)
    clear hb HB5_ HV5_
    have HV6_ := hide (HV6.out.pushAt (b := w6.heap.size) (by simp) false ⟨#[]⟩ ⟨#[]⟩ 24)
    have HB6_ := hide (bAlloc HB6.out (.cells #[.bool false, .string ⟨#[]⟩, .string ⟨#[]⟩] 24))
    clear HB6 HV6
    obtain ⟨c27, c28, c29⟩ := VL.cells3 (b := w6.heap.size) (g := false) (s := ⟨#[]⟩) (t := ⟨#[]⟩) HV6_.out (by simp)
    go_wp2_with fail
    clear c27 c28 c29
    go_ret
    exact ⟨rfl, HB6_.out⟩
  · have HPY := hide hy1
    have HTY := hide hy2
    clear HPT hy1 hy2
    refine (HPY.out _ (HW.out.below HB5_.out)).mono ?_
    rintro e w6 ⟨rfl, hb⟩
    have HB6 := hide (bStep HB5_.out hb)
    have HV6 := hide (HV5_.out.below hb)
    clear hb HB5_ HV5_
    have HV6_ := hide (HV6.out.pushAt (b := w6.heap.size) (by simp) gy sy ty 24)
    have HB6_ := hide (bAlloc HB6.out (.cells #[.bool gy, .string sy, .string ty] 24))
    clear HB6 HV6
    obtain ⟨c27, c28, c29⟩ := VL.cells3 (b := w6.heap.size) (g := gy) (s := sy) (t := ty) HV6_.out (by simp)
    go_wp2_with fail
    clear c27 c28 c29
    refine (HTY.out _ (HW.out.below HB6_.out)).mono ?_
    rintro e w7 ⟨rfl, hb⟩
    have HB7 := hide (bStep HB6_.out hb)
    have HV7 := hide (HV6_.out.below hb)
    clear hb HB6_ HV6_
    go_wp2_with fail
    go_ret
    exact ⟨rfl, HB7.out⟩
set_option maxHeartbeats 4000000 in
set_option maxRecDepth 100000 in
theorem texts_neB (ga : Bool) (sa ta tb : ByteArray) (fs : (ta.toList == tb.toList) = false) (x : ByteArray) (w : World) (hf : fewQ 40 [(ga, sa, ta), (ga, sa, tb)] = true) (hx : x.size ≤ 90) (p q : Rat) (hp : Sz 40 p) (hq : Sz 40 q) (ep : IsQ p ga sa ta) (eq : IsQ q ga sa tb) (hne : p ≠ q) (hw : LawW w) :
    Calls Tryz.prog 8 #[.agg #[.bool ga, .string sa, .string ta], .agg #[.bool ga, .string sa, .string tb], .string x] w fun e w' => e = .returned (.bool true) ∧ Below w.heap.size w w' := by
  have HW := hide hw
  have HF := hide (fun W T => few_two ga sa ta ga sa tb W T)
  rw [hf] at HF
  have hI : (x.size : Int) ≤ 90 := by omega
  have HPT := hide (parse_any x hx)
  have HTA := hide (fun W hW => text_okq hp (by omega) ep W hW)
  have HVA := hide (fun W hW => valid_okq hp (by omega) ep W hW)
  have HPA := hide (fun W hW => parse_okq hp (by omega) ep W hW)
  have HTB := hide (fun W hW => text_okq hq (by omega) eq W hW)
  have ft := txt_ne hne
  obtain ⟨ua, hua⟩ : ∃ u, bL (txtQ p) = u := ⟨_, rfl⟩
  obtain ⟨ub, hub⟩ : ∃ u, bL (txtQ q) = u := ⟨_, rfl⟩
  rw [hua] at HTA HPA ft
  rw [hub] at HTB ft
  have HH := hide (fun W hW => law04_head W hW)
  have HB0 : Hid (Below w.heap.size w w) := Below.refl _ _
  have HV0 : Hid (VL w []) := VL.nil w
  clear hf hx hw hp ep hq eq hne hua hub
  go_enter Tryz.func8, Tryz.ntmps8
  have HV0_ := hide (HV0.out.pushAt (b := w.heap.size) (by simp) ga sa ta 24)
  have HB0_ := hide (bAlloc HB0.out (.cells #[.bool ga, .string sa, .string ta] 24))
  clear HB0 HV0
  have HV0__ := hide (HV0_.out.pushAt (b := w.heap.size + 1) (by simp) ga sa tb 24)
  have HB0__ := hide (bAlloc HB0_.out (.cells #[.bool ga, .string sa, .string tb] 24))
  clear HB0_ HV0_
  go_wp2_with fail
  refine (HH.out _ (HW.out.below HB0__.out)).mono ?_
  rintro e w1 ⟨rfl, hb⟩
  have HB1 := hide (bStep HB0__.out hb)
  have HV1 := hide (HV0__.out.below hb)
  clear hb HB0__ HV0__
  obtain ⟨c3, c4, c5⟩ := VL.cells3 (b := w.heap.size) (g := ga) (s := sa) (t := ta) HV1.out (by simp)
  obtain ⟨c6, c7, c8⟩ := VL.cells3 (b := w.heap.size + 1) (g := ga) (s := sa) (t := tb) HV1.out (by simp)
  go_wp2_with fail
  clear c3 c4 c5 c6 c7 c8
  refine (HF.out _ _).mono ?_
  rintro e wf ⟨rfl, rfl⟩
  have HV1_ := hide (VL.below HV1.out (bAlloc (Below.refl _ _) (.cells #[.bool ga, .string sa, .string ta, .bool ga, .string sa, .string tb] 24)))
  have HB1_ := hide (bAlloc HB1.out (.cells #[.bool ga, .string sa, .string ta, .bool ga, .string sa, .string tb] 24))
  clear HB1 HV1
  obtain ⟨c9, c10, c11⟩ := VL.cells3 (b := w.heap.size) (g := ga) (s := sa) (t := ta) HV1_.out (by simp)
  go_wp2_with fail
  clear c9 c10 c11
  refine (HTA.out _ (HW.out.below HB1_.out)).mono ?_
  rintro e w2 ⟨rfl, hb⟩
  have HB2 := hide (bStep HB1_.out hb)
  have HV2 := hide (HV1_.out.below hb)
  clear hb HB1_ HV1_
  obtain ⟨c12, c13, c14⟩ := VL.cells3 (b := w.heap.size + 1) (g := ga) (s := sa) (t := tb) HV2.out (by simp)
  go_wp2_with fail
  clear c12 c13 c14
  refine (HTB.out _ (HW.out.below HB2.out)).mono ?_
  rintro e w3 ⟨rfl, hb⟩
  have HB3 := hide (bStep HB2.out hb)
  have HV3 := hide (HV2.out.below hb)
  clear hb HB2 HV2
  obtain ⟨c15, c16, c17⟩ := VL.cells3 (b := w.heap.size) (g := ga) (s := sa) (t := ta) HV3.out (by simp)
  go_wp2_with fail
  clear c15 c16 c17
  refine (HVA.out _ (HW.out.below HB3.out)).mono ?_
  rintro e w4 ⟨rfl, hb⟩
  have HB4 := hide (bStep HB3.out hb)
  have HV4 := hide (HV3.out.below hb)
  clear hb HB3 HV3
  go_wp2_with fail
  refine (HPA.out _ (HW.out.below HB4.out)).mono ?_
  rintro e w5 ⟨rfl, hb⟩
  have HB5 := hide (bStep HB4.out hb)
  have HV5 := hide (HV4.out.below hb)
  clear hb HB4 HV4
  have HV5_ := hide (HV5.out.pushAt (b := w5.heap.size) (by simp) ga sa ta 24)
  have HB5_ := hide (bAlloc HB5.out (.cells #[.bool ga, .string sa, .string ta] 24))
  clear HB5 HV5
  obtain ⟨c18, c19, c20⟩ := VL.cells3 (b := w5.heap.size) (g := ga) (s := sa) (t := ta) HV5_.out (by simp)
  obtain ⟨c21, c22, c23⟩ := VL.cells3 (b := w.heap.size) (g := ga) (s := sa) (t := ta) HV5_.out (by simp)
  obtain ⟨c24, c25, c26⟩ := VL.cells3 (b := w.heap.size + 1) (g := ga) (s := sa) (t := tb) HV5_.out (by simp)
  go_wp2_with fail
  clear c18 c19 c20 c21 c22 c23 c24 c25 c26
  rcases HPT.out with hn | ⟨gy, sy, ty, hy1, hy2⟩
  · have HPN := hide hn
    clear HPT hn
    refine (HPN.out _ (HW.out.below HB5_.out)).mono ?_
    rintro e w6 ⟨rfl, hb⟩
    have HB6 := hide (bStep HB5_.out hb)
    have HV6 := hide (HV5_.out.below hb)
    clear hb HB5_ HV5_
    have HV6_ := hide (HV6.out.pushAt (b := w6.heap.size) (by simp) false ⟨#[]⟩ ⟨#[]⟩ 24)
    have HB6_ := hide (bAlloc HB6.out (.cells #[.bool false, .string ⟨#[]⟩, .string ⟨#[]⟩] 24))
    clear HB6 HV6
    obtain ⟨c27, c28, c29⟩ := VL.cells3 (b := w6.heap.size) (g := false) (s := ⟨#[]⟩) (t := ⟨#[]⟩) HV6_.out (by simp)
    go_wp2_with fail
    clear c27 c28 c29
    go_ret
    exact ⟨rfl, HB6_.out⟩
  · have HPY := hide hy1
    have HTY := hide hy2
    clear HPT hy1 hy2
    refine (HPY.out _ (HW.out.below HB5_.out)).mono ?_
    rintro e w6 ⟨rfl, hb⟩
    have HB6 := hide (bStep HB5_.out hb)
    have HV6 := hide (HV5_.out.below hb)
    clear hb HB5_ HV5_
    have HV6_ := hide (HV6.out.pushAt (b := w6.heap.size) (by simp) gy sy ty 24)
    have HB6_ := hide (bAlloc HB6.out (.cells #[.bool gy, .string sy, .string ty] 24))
    clear HB6 HV6
    obtain ⟨c27, c28, c29⟩ := VL.cells3 (b := w6.heap.size) (g := gy) (s := sy) (t := ty) HV6_.out (by simp)
    go_wp2_with fail
    clear c27 c28 c29
    refine (HTY.out _ (HW.out.below HB6_.out)).mono ?_
    rintro e w7 ⟨rfl, hb⟩
    have HB7 := hide (bStep HB6_.out hb)
    have HV7 := hide (HV6_.out.below hb)
    clear hb HB6_ HV6_
    go_wp2_with fail
    go_ret
    exact ⟨rfl, HB7.out⟩
set_option maxHeartbeats 4000000 in
set_option maxRecDepth 100000 in
theorem texts_neC (sa ta sb tb : ByteArray) (x : ByteArray) (w : World) (hf : fewQ 40 [(true, sa, ta), (false, sb, tb)] = true) (hx : x.size ≤ 90) (p q : Rat) (hp : Sz 40 p) (hq : Sz 40 q) (ep : IsQ p true sa ta) (eq : IsQ q false sb tb) (hne : p ≠ q) (hw : LawW w) :
    Calls Tryz.prog 8 #[.agg #[.bool true, .string sa, .string ta], .agg #[.bool false, .string sb, .string tb], .string x] w fun e w' => e = .returned (.bool true) ∧ Below w.heap.size w w' := by
  have HW := hide hw
  have HF := hide (fun W T => few_two true sa ta false sb tb W T)
  rw [hf] at HF
  have hI : (x.size : Int) ≤ 90 := by omega
  have HPT := hide (parse_any x hx)
  have HTA := hide (fun W hW => text_okq hp (by omega) ep W hW)
  have HVA := hide (fun W hW => valid_okq hp (by omega) ep W hW)
  have HPA := hide (fun W hW => parse_okq hp (by omega) ep W hW)
  have HTB := hide (fun W hW => text_okq hq (by omega) eq W hW)
  have ft := txt_ne hne
  obtain ⟨ua, hua⟩ : ∃ u, bL (txtQ p) = u := ⟨_, rfl⟩
  obtain ⟨ub, hub⟩ : ∃ u, bL (txtQ q) = u := ⟨_, rfl⟩
  rw [hua] at HTA HPA ft
  rw [hub] at HTB ft
  have HH := hide (fun W hW => law04_head W hW)
  have HB0 : Hid (Below w.heap.size w w) := Below.refl _ _
  have HV0 : Hid (VL w []) := VL.nil w
  clear hf hx hw hp ep hq eq hne hua hub
  go_enter Tryz.func8, Tryz.ntmps8
  have HV0_ := hide (HV0.out.pushAt (b := w.heap.size) (by simp) true sa ta 24)
  have HB0_ := hide (bAlloc HB0.out (.cells #[.bool true, .string sa, .string ta] 24))
  clear HB0 HV0
  have HV0__ := hide (HV0_.out.pushAt (b := w.heap.size + 1) (by simp) false sb tb 24)
  have HB0__ := hide (bAlloc HB0_.out (.cells #[.bool false, .string sb, .string tb] 24))
  clear HB0_ HV0_
  go_wp2_with fail
  refine (HH.out _ (HW.out.below HB0__.out)).mono ?_
  rintro e w1 ⟨rfl, hb⟩
  have HB1 := hide (bStep HB0__.out hb)
  have HV1 := hide (HV0__.out.below hb)
  clear hb HB0__ HV0__
  obtain ⟨c3, c4, c5⟩ := VL.cells3 (b := w.heap.size) (g := true) (s := sa) (t := ta) HV1.out (by simp)
  obtain ⟨c6, c7, c8⟩ := VL.cells3 (b := w.heap.size + 1) (g := false) (s := sb) (t := tb) HV1.out (by simp)
  go_wp2_with fail
  clear c3 c4 c5 c6 c7 c8
  refine (HF.out _ _).mono ?_
  rintro e wf ⟨rfl, rfl⟩
  have HV1_ := hide (VL.below HV1.out (bAlloc (Below.refl _ _) (.cells #[.bool true, .string sa, .string ta, .bool false, .string sb, .string tb] 24)))
  have HB1_ := hide (bAlloc HB1.out (.cells #[.bool true, .string sa, .string ta, .bool false, .string sb, .string tb] 24))
  clear HB1 HV1
  obtain ⟨c9, c10, c11⟩ := VL.cells3 (b := w.heap.size) (g := true) (s := sa) (t := ta) HV1_.out (by simp)
  go_wp2_with fail
  clear c9 c10 c11
  refine (HTA.out _ (HW.out.below HB1_.out)).mono ?_
  rintro e w2 ⟨rfl, hb⟩
  have HB2 := hide (bStep HB1_.out hb)
  have HV2 := hide (HV1_.out.below hb)
  clear hb HB1_ HV1_
  obtain ⟨c12, c13, c14⟩ := VL.cells3 (b := w.heap.size + 1) (g := false) (s := sb) (t := tb) HV2.out (by simp)
  go_wp2_with fail
  clear c12 c13 c14
  refine (HTB.out _ (HW.out.below HB2.out)).mono ?_
  rintro e w3 ⟨rfl, hb⟩
  have HB3 := hide (bStep HB2.out hb)
  have HV3 := hide (HV2.out.below hb)
  clear hb HB2 HV2
  obtain ⟨c15, c16, c17⟩ := VL.cells3 (b := w.heap.size) (g := true) (s := sa) (t := ta) HV3.out (by simp)
  go_wp2_with fail
  clear c15 c16 c17
  refine (HVA.out _ (HW.out.below HB3.out)).mono ?_
  rintro e w4 ⟨rfl, hb⟩
  have HB4 := hide (bStep HB3.out hb)
  have HV4 := hide (HV3.out.below hb)
  clear hb HB3 HV3
  go_wp2_with fail
  refine (HPA.out _ (HW.out.below HB4.out)).mono ?_
  rintro e w5 ⟨rfl, hb⟩
  have HB5 := hide (bStep HB4.out hb)
  have HV5 := hide (HV4.out.below hb)
  clear hb HB4 HV4
  have HV5_ := hide (HV5.out.pushAt (b := w5.heap.size) (by simp) true sa ta 24)
  have HB5_ := hide (bAlloc HB5.out (.cells #[.bool true, .string sa, .string ta] 24))
  clear HB5 HV5
  obtain ⟨c18, c19, c20⟩ := VL.cells3 (b := w5.heap.size) (g := true) (s := sa) (t := ta) HV5_.out (by simp)
  obtain ⟨c21, c22, c23⟩ := VL.cells3 (b := w.heap.size) (g := true) (s := sa) (t := ta) HV5_.out (by simp)
  obtain ⟨c24, c25, c26⟩ := VL.cells3 (b := w.heap.size + 1) (g := false) (s := sb) (t := tb) HV5_.out (by simp)
  go_wp2_with fail
  clear c18 c19 c20 c21 c22 c23 c24 c25 c26
  rcases HPT.out with hn | ⟨gy, sy, ty, hy1, hy2⟩
  · have HPN := hide hn
    clear HPT hn
    refine (HPN.out _ (HW.out.below HB5_.out)).mono ?_
    rintro e w6 ⟨rfl, hb⟩
    have HB6 := hide (bStep HB5_.out hb)
    have HV6 := hide (HV5_.out.below hb)
    clear hb HB5_ HV5_
    have HV6_ := hide (HV6.out.pushAt (b := w6.heap.size) (by simp) false ⟨#[]⟩ ⟨#[]⟩ 24)
    have HB6_ := hide (bAlloc HB6.out (.cells #[.bool false, .string ⟨#[]⟩, .string ⟨#[]⟩] 24))
    clear HB6 HV6
    obtain ⟨c27, c28, c29⟩ := VL.cells3 (b := w6.heap.size) (g := false) (s := ⟨#[]⟩) (t := ⟨#[]⟩) HV6_.out (by simp)
    go_wp2_with fail
    clear c27 c28 c29
    go_ret
    exact ⟨rfl, HB6_.out⟩
  · have HPY := hide hy1
    have HTY := hide hy2
    clear HPT hy1 hy2
    refine (HPY.out _ (HW.out.below HB5_.out)).mono ?_
    rintro e w6 ⟨rfl, hb⟩
    have HB6 := hide (bStep HB5_.out hb)
    have HV6 := hide (HV5_.out.below hb)
    clear hb HB5_ HV5_
    have HV6_ := hide (HV6.out.pushAt (b := w6.heap.size) (by simp) gy sy ty 24)
    have HB6_ := hide (bAlloc HB6.out (.cells #[.bool gy, .string sy, .string ty] 24))
    clear HB6 HV6
    obtain ⟨c27, c28, c29⟩ := VL.cells3 (b := w6.heap.size) (g := gy) (s := sy) (t := ty) HV6_.out (by simp)
    go_wp2_with fail
    clear c27 c28 c29
    refine (HTY.out _ (HW.out.below HB6_.out)).mono ?_
    rintro e w7 ⟨rfl, hb⟩
    have HB7 := hide (bStep HB6_.out hb)
    have HV7 := hide (HV6_.out.below hb)
    clear hb HB6_ HV6_
    go_wp2_with fail
    go_ret
    exact ⟨rfl, HB7.out⟩
set_option maxHeartbeats 4000000 in
set_option maxRecDepth 100000 in
theorem texts_neD (sa ta sb tb : ByteArray) (x : ByteArray) (w : World) (hf : fewQ 40 [(false, sa, ta), (true, sb, tb)] = true) (hx : x.size ≤ 90) (p q : Rat) (hp : Sz 40 p) (hq : Sz 40 q) (ep : IsQ p false sa ta) (eq : IsQ q true sb tb) (hne : p ≠ q) (hw : LawW w) :
    Calls Tryz.prog 8 #[.agg #[.bool false, .string sa, .string ta], .agg #[.bool true, .string sb, .string tb], .string x] w fun e w' => e = .returned (.bool true) ∧ Below w.heap.size w w' := by
  have HW := hide hw
  have HF := hide (fun W T => few_two false sa ta true sb tb W T)
  rw [hf] at HF
  have hI : (x.size : Int) ≤ 90 := by omega
  have HPT := hide (parse_any x hx)
  have HTA := hide (fun W hW => text_okq hp (by omega) ep W hW)
  have HVA := hide (fun W hW => valid_okq hp (by omega) ep W hW)
  have HPA := hide (fun W hW => parse_okq hp (by omega) ep W hW)
  have HTB := hide (fun W hW => text_okq hq (by omega) eq W hW)
  have ft := txt_ne hne
  obtain ⟨ua, hua⟩ : ∃ u, bL (txtQ p) = u := ⟨_, rfl⟩
  obtain ⟨ub, hub⟩ : ∃ u, bL (txtQ q) = u := ⟨_, rfl⟩
  rw [hua] at HTA HPA ft
  rw [hub] at HTB ft
  have HH := hide (fun W hW => law04_head W hW)
  have HB0 : Hid (Below w.heap.size w w) := Below.refl _ _
  have HV0 : Hid (VL w []) := VL.nil w
  clear hf hx hw hp ep hq eq hne hua hub
  go_enter Tryz.func8, Tryz.ntmps8
  have HV0_ := hide (HV0.out.pushAt (b := w.heap.size) (by simp) false sa ta 24)
  have HB0_ := hide (bAlloc HB0.out (.cells #[.bool false, .string sa, .string ta] 24))
  clear HB0 HV0
  have HV0__ := hide (HV0_.out.pushAt (b := w.heap.size + 1) (by simp) true sb tb 24)
  have HB0__ := hide (bAlloc HB0_.out (.cells #[.bool true, .string sb, .string tb] 24))
  clear HB0_ HV0_
  go_wp2_with fail
  refine (HH.out _ (HW.out.below HB0__.out)).mono ?_
  rintro e w1 ⟨rfl, hb⟩
  have HB1 := hide (bStep HB0__.out hb)
  have HV1 := hide (HV0__.out.below hb)
  clear hb HB0__ HV0__
  obtain ⟨c3, c4, c5⟩ := VL.cells3 (b := w.heap.size) (g := false) (s := sa) (t := ta) HV1.out (by simp)
  obtain ⟨c6, c7, c8⟩ := VL.cells3 (b := w.heap.size + 1) (g := true) (s := sb) (t := tb) HV1.out (by simp)
  go_wp2_with fail
  clear c3 c4 c5 c6 c7 c8
  refine (HF.out _ _).mono ?_
  rintro e wf ⟨rfl, rfl⟩
  have HV1_ := hide (VL.below HV1.out (bAlloc (Below.refl _ _) (.cells #[.bool false, .string sa, .string ta, .bool true, .string sb, .string tb] 24)))
  have HB1_ := hide (bAlloc HB1.out (.cells #[.bool false, .string sa, .string ta, .bool true, .string sb, .string tb] 24))
  clear HB1 HV1
  obtain ⟨c9, c10, c11⟩ := VL.cells3 (b := w.heap.size) (g := false) (s := sa) (t := ta) HV1_.out (by simp)
  go_wp2_with fail
  clear c9 c10 c11
  refine (HTA.out _ (HW.out.below HB1_.out)).mono ?_
  rintro e w2 ⟨rfl, hb⟩
  have HB2 := hide (bStep HB1_.out hb)
  have HV2 := hide (HV1_.out.below hb)
  clear hb HB1_ HV1_
  obtain ⟨c12, c13, c14⟩ := VL.cells3 (b := w.heap.size + 1) (g := true) (s := sb) (t := tb) HV2.out (by simp)
  go_wp2_with fail
  clear c12 c13 c14
  refine (HTB.out _ (HW.out.below HB2.out)).mono ?_
  rintro e w3 ⟨rfl, hb⟩
  have HB3 := hide (bStep HB2.out hb)
  have HV3 := hide (HV2.out.below hb)
  clear hb HB2 HV2
  obtain ⟨c15, c16, c17⟩ := VL.cells3 (b := w.heap.size) (g := false) (s := sa) (t := ta) HV3.out (by simp)
  go_wp2_with fail
  clear c15 c16 c17
  refine (HVA.out _ (HW.out.below HB3.out)).mono ?_
  rintro e w4 ⟨rfl, hb⟩
  have HB4 := hide (bStep HB3.out hb)
  have HV4 := hide (HV3.out.below hb)
  clear hb HB3 HV3
  go_wp2_with fail
  refine (HPA.out _ (HW.out.below HB4.out)).mono ?_
  rintro e w5 ⟨rfl, hb⟩
  have HB5 := hide (bStep HB4.out hb)
  have HV5 := hide (HV4.out.below hb)
  clear hb HB4 HV4
  have HV5_ := hide (HV5.out.pushAt (b := w5.heap.size) (by simp) false sa ta 24)
  have HB5_ := hide (bAlloc HB5.out (.cells #[.bool false, .string sa, .string ta] 24))
  clear HB5 HV5
  obtain ⟨c18, c19, c20⟩ := VL.cells3 (b := w5.heap.size) (g := false) (s := sa) (t := ta) HV5_.out (by simp)
  obtain ⟨c21, c22, c23⟩ := VL.cells3 (b := w.heap.size) (g := false) (s := sa) (t := ta) HV5_.out (by simp)
  obtain ⟨c24, c25, c26⟩ := VL.cells3 (b := w.heap.size + 1) (g := true) (s := sb) (t := tb) HV5_.out (by simp)
  go_wp2_with fail
  clear c18 c19 c20 c21 c22 c23 c24 c25 c26
  rcases HPT.out with hn | ⟨gy, sy, ty, hy1, hy2⟩
  · have HPN := hide hn
    clear HPT hn
    refine (HPN.out _ (HW.out.below HB5_.out)).mono ?_
    rintro e w6 ⟨rfl, hb⟩
    have HB6 := hide (bStep HB5_.out hb)
    have HV6 := hide (HV5_.out.below hb)
    clear hb HB5_ HV5_
    have HV6_ := hide (HV6.out.pushAt (b := w6.heap.size) (by simp) false ⟨#[]⟩ ⟨#[]⟩ 24)
    have HB6_ := hide (bAlloc HB6.out (.cells #[.bool false, .string ⟨#[]⟩, .string ⟨#[]⟩] 24))
    clear HB6 HV6
    obtain ⟨c27, c28, c29⟩ := VL.cells3 (b := w6.heap.size) (g := false) (s := ⟨#[]⟩) (t := ⟨#[]⟩) HV6_.out (by simp)
    go_wp2_with fail
    clear c27 c28 c29
    go_ret
    exact ⟨rfl, HB6_.out⟩
  · have HPY := hide hy1
    have HTY := hide hy2
    clear HPT hy1 hy2
    refine (HPY.out _ (HW.out.below HB5_.out)).mono ?_
    rintro e w6 ⟨rfl, hb⟩
    have HB6 := hide (bStep HB5_.out hb)
    have HV6 := hide (HV5_.out.below hb)
    clear hb HB5_ HV5_
    have HV6_ := hide (HV6.out.pushAt (b := w6.heap.size) (by simp) gy sy ty 24)
    have HB6_ := hide (bAlloc HB6.out (.cells #[.bool gy, .string sy, .string ty] 24))
    clear HB6 HV6
    obtain ⟨c27, c28, c29⟩ := VL.cells3 (b := w6.heap.size) (g := gy) (s := sy) (t := ty) HV6_.out (by simp)
    go_wp2_with fail
    clear c27 c28 c29
    refine (HTY.out _ (HW.out.below HB6_.out)).mono ?_
    rintro e w7 ⟨rfl, hb⟩
    have HB7 := hide (bStep HB6_.out hb)
    have HV7 := hide (HV6_.out.below hb)
    clear hb HB6_ HV6_
    go_wp2_with fail
    go_ret
    exact ⟨rfl, HB7.out⟩
theorem texts_list_inj {s t : ByteArray} (h : (s.toList == t.toList) = true) : s = t := by
  rw [ByteArray.toList_eq, ByteArray.toList_eq] at h
  exact ba_eq (by simpa using h)
theorem text_anyq (g : Bool) (s t : ByteArray) (hs : s.size ≤ 40) (ht : t.size ≤ 40) : ∃ (u : ByteArray) (k : Int), ∀ W, LawW W → Calls Tryz.prog 17 #[.agg #[.bool g, .string s, .string t]] W fun e w' => e = .returned (.tuple #[.string u, .int .i64 k]) ∧ Below W.heap.size W w' := by
  rcases Bool.eq_false_or_eq_true (vldR g s t) with v | v
  · obtain ⟨p, ep, hp⟩ := few_q (k := 40) (by omega) hs ht v
    exact ⟨_, _, fun W hW => text_okq hp (by omega) ep W hW⟩
  · exact ⟨_, _, fun W hW => rat_Text_bad g s t W (by unfold maxLen; omega) (by unfold maxLen; omega) v hW⟩
theorem rationalTexts_walk (ga : Bool) (sa ta : ByteArray) (gb : Bool) (sb tb : ByteArray) (x : ByteArray) (w : World) (hw : LawW w) :
    Calls Tryz.prog 8 #[.agg #[.bool ga, .string sa, .string ta], .agg #[.bool gb, .string sb, .string tb], .string x] w fun e w' => e = .returned (.bool true) ∧ Below w.heap.size w w' := by
  rcases Bool.eq_false_or_eq_true (fewQ 40 [(ga, sa, ta), (gb, sb, tb)]) with hf | hf
  · obtain ⟨l1, l2, l3, l4⟩ := fewQ_two hf
    by_cases hx : x.size ≤ 90
    · rcases Bool.eq_false_or_eq_true (vldR ga sa ta) with va | va
      · obtain ⟨p, ep, hp⟩ := few_q (by omega) l1 l2 va
        rcases Bool.eq_false_or_eq_true (vldR gb sb tb) with vb | vb
        · obtain ⟨q, eq, hq⟩ := few_q (by omega) l3 l4 vb
          by_cases hne : p = q
          · have e := eq
            have ep' := ep
            unfold IsQ at e ep'
            rw [← hne, ep'] at e
            simp only [Value.agg.injEq, Array.mk.injEq, List.cons.injEq, Value.bool.injEq, Value.string.injEq, and_true] at e
            obtain ⟨rfl, rfl, rfl⟩ := e
            exact texts_eq ga sa ta x w hf hx p hp ep hw
          · by_cases hg : ga = gb
            · subst hg
              by_cases hs : (sa.toList == sb.toList) = true
              · have e2 : sa = sb := texts_list_inj hs
                subst e2
                have ht : (ta.toList == tb.toList) = false := by
                  rcases Bool.eq_false_or_eq_true (ta.toList == tb.toList) with h | h
                  · have e3 : ta = tb := texts_list_inj h
                    subst e3
                    exact absurd (ep.inj eq) hne
                  · exact h
                exact texts_neB ga sa ta tb ht x w hf hx p q hp hq ep eq hne hw
              · exact texts_neA ga sa ta sb tb (by simpa using hs) x w hf hx p q hp hq ep eq hne hw
            · cases ga
              · cases gb
                · exact absurd rfl hg
                · exact texts_neD sa ta sb tb x w hf hx p q hp hq ep eq hne hw
              · cases gb
                · exact texts_neC sa ta sb tb x w hf hx p q hp hq ep eq hne hw
                · exact absurd rfl hg
        · exact texts_badB ga sa ta gb sb tb x w hf hx p hp ep vb hw
      · obtain ⟨ub, kb, htb⟩ := text_anyq gb sb tb l3 l4
        exact texts_badA ga sa ta gb sb tb ub kb x w hf hx va htb hw
    · exact texts_long ga sa ta gb sb tb x w hf (by omega) hw
  · exact texts_few ga sa ta gb sb tb x w hf hw
end Go.Proofs.YtncocgfgbocnkaaGreatDoor
