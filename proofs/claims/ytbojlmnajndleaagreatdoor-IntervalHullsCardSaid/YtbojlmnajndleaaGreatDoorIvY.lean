/- IvI, IvJ, IvK in one text. -/
import Derived.Test.YtbojlmnajndleaaGreatDoorIvV
import Derived.Test.YtbojlmnajndleaaGreatDoorIvO
set_option linter.unusedVariables false
set_option linter.unusedSimpArgs false
namespace Go.Proofs.YtbojlmnajndleaaGreatDoor
open Go.RowKit Go.Sort
/-- A short interval. -/
def ShI (a : Q3 × Q3) : Prop := (a.1.2.1.size ≤ 60 ∧ a.1.2.2.size ≤ 60) ∧ a.2.2.1.size ≤ 60 ∧ a.2.2.2.size ≤ 60
def ShQ (r : Q3) : Prop := r.2.1.size ≤ 60 ∧ r.2.2.size ≤ 60
theorem fewQ_sh {l : List Q3} (h : fewQ 60 l = true) : ∀ x ∈ l, ShQ x := fun x hx => by
  unfold fewQ at h
  have := List.all_eq_true.1 h x hx
  simpa [ShQ] using this
theorem sm6_sh {a : Q3 × Q3} (h : sm6 a = true) : ShI a := by
  unfold sm6 at h
  have h1 := fewQ_sh h a.1 (by simp)
  have h2 := fewQ_sh h a.2 (by simp)
  exact ⟨h1, h2⟩
theorem fewI_sh {l : List (Q3 × Q3)} (h : fewI l = true) : l.length ≤ 12 ∧ ∀ a ∈ l, ShI a := by
  unfold fewI at h
  rw [Bool.and_eq_true] at h
  exact ⟨of_decide_eq_true h.1, fun a ha => sm6_sh (List.all_eq_true.1 h.2 a ha)⟩
theorem fewI_two {a c : Q3 × Q3} (h : fewI [a, c] = true) : ShI a ∧ ShI c := ⟨(fewI_sh h).2 a (by simp), (fewI_sh h).2 c (by simp)⟩
theorem fewQ_two6 {a c : Q3} (h : fewQ 60 [a, c] = true) : ShQ a ∧ ShQ c := ⟨fewQ_sh h a (by simp), fewQ_sh h c (by simp)⟩
theorem isx_cases (r : Q3) (h : ShQ r) : IsX 60 r ∨ XV r.1 r.2.1 r.2.2 false := by
  have m1 : r.2.1.size ≤ maxLen := by have := h.1; unfold maxLen; omega
  have m2 : r.2.2.size ≤ maxLen := by have := h.2; unfold maxLen; omega
  rcases Bool.eq_false_or_eq_true (vldR r.1 r.2.1 r.2.2) with v | v
  · obtain ⟨p, ep, hp⟩ := few_q (k := 60) (by omega) h.1 h.2 v
    exact .inl ⟨p, ep, hp⟩
  · exact .inr (fun W hW => by
      have h := rat_valid r.1 r.2.1 r.2.2 W m1 m2 hW
      rw [v] at h; exact h)
theorem has_cases (a : Q3 × Q3) (r : Q3) (ha : ShI a) (hr : ShQ r) : RetC 21 #[iArg a, qArg r] (.bool false) ∨ (IvOk 60 a ∧ IsX 60 r ∧ qv a.1 ≤ qv r ∧ qv r ≤ qv a.2 ∧ RetC 21 #[iArg a, qArg r] (.bool true)) := by
  obtain ⟨⟨h1, h2⟩, h3, h4⟩ := ha
  rcases ivx_cases a h1 h2 h3 h4 with oa | ⟨_, na⟩
  · rcases isx_cases r hr with xr | nr
    · have h := c_contains oa xr (by omega) (by omega)
      by_cases hd : qv a.1 ≤ qv r ∧ qv r ≤ qv a.2
      · rw [decide_eq_true hd] at h
        exact .inr ⟨oa, xr, hd.1, hd.2, h⟩
      · rw [decide_eq_false hd] at h
        exact .inl h
    · exact .inl (c_contains_bad (.inr ⟨ivx_ok oa (by omega), nr⟩))
  · exact .inl (c_contains_bad (.inl na))

set_option maxHeartbeats 8000000 in
set_option maxRecDepth 100000 in
theorem contains_0 (g1 : Bool) (s1 t1 : ByteArray) (g2 : Bool) (s2 t2 : ByteArray) (g3 : Bool) (s3 t3 : ByteArray) (g4 : Bool) (s4 t4 : ByteArray) (g5 : Bool) (s5 t5 : ByteArray) (g6 : Bool) (s6 t6 : ByteArray) (w : World) (hf : (fewI [((g1, s1, t1), (g2, s2, t2)), ((g3, s3, t3), (g4, s4, t4))] && fewQ 60 [(g5, s5, t5), (g6, s6, t6)]) = false) (hw : LawW w) :
    Calls Tryz.prog 4 #[.agg #[.bool g1, .string s1, .string t1, .bool g2, .string s2, .string t2], .agg #[.bool g3, .string s3, .string t3, .bool g4, .string s4, .string t4], .agg #[.bool g5, .string s5, .string t5], .agg #[.bool g6, .string s6, .string t6]] w fun e w' => e = .returned (.bool true) ∧ Below w.heap.size w w' := by
  have HW := hide hw
  have HH := hide (fun W hW => law05_head W hW)
  have HF := hide (fun v u W h1 h2 => law05_few [((g1, s1, t1), (g2, s2, t2)), ((g3, s3, t3), (g4, s4, t4))] [(g5, s5, t5), (g6, s6, t6)] v u W h1 h2 (by show 2 ≤ maxLen; decide) (by show 2 ≤ 1000; decide))
  rw [hf] at HF

  have HV0 : Hid (VB w w []) := VB.nil w
  clear hw hf 
  go_enter Tryz.func4, Tryz.ntmps4
  have HV0_ := hide (HV0.out.push6 (b := w.heap.size) (by simp) (.bool g1) (.string s1) (.string t1) (.bool g2) (.string s2) (.string t2) 26)
  clear HV0
  have HV0__ := hide (HV0_.out.push6 (b := w.heap.size + 1) (by simp) (.bool g3) (.string s3) (.string t3) (.bool g4) (.string s4) (.string t4) 26)
  clear HV0_
  have HV0___ := hide (HV0__.out.push3 (b := w.heap.size + 2) (by simp) (.bool g5) (.string s5) (.string t5) 24)
  clear HV0__
  have HV0____ := hide (HV0___.out.push3 (b := w.heap.size + 3) (by simp) (.bool g6) (.string s6) (.string t6) 24)
  clear HV0___
  go_wp2_with fail
  refine (HH.out _ (HV0____.out.law HW.out)).mono ?_
  rintro e w1 ⟨rfl, hb⟩
  have HV1 := hide (HV0____.out.below hb)
  clear hb HV0____
  obtain ⟨c1, c2, c3, c4, c5, c6⟩ := HV1.out.at6 3 rfl
  obtain ⟨c7, c8, c9, c10, c11, c12⟩ := HV1.out.at6 2 rfl
  have hli : SliceOf vIv 6 (w1.alloc (.cells #[.bool g1, .string s1, .string t1, .bool g2, .string s2, .string t2, .bool g3, .string s3, .string t3, .bool g4, .string s4, .string t4] 26)) (.slice (some ⟨w1.heap.size, 0, none⟩) 2 2) [((g1, s1, t1), (g2, s2, t2)), ((g3, s3, t3), (g4, s4, t4))] := slice_lit_iv vIv_len w1 [((g1, s1, t1), (g2, s2, t2)), ((g3, s3, t3), (g4, s4, t4))] _ (show 2 ≤ maxLen by decide) (by simp) rfl rfl
  have HLI := hide hli
  clear hli
  have HV1_ := hide (HV1.out.anon (.cells #[.bool g1, .string s1, .string t1, .bool g2, .string s2, .string t2, .bool g3, .string s3, .string t3, .bool g4, .string s4, .string t4] 26))
  clear HV1
  obtain ⟨c13, c14, c15⟩ := HV1_.out.at3 1 rfl
  obtain ⟨c16, c17, c18⟩ := HV1_.out.at3 0 rfl
  have hlq : SliceOf vQ 3 ((w1.alloc (.cells #[.bool g1, .string s1, .string t1, .bool g2, .string s2, .string t2, .bool g3, .string s3, .string t3, .bool g4, .string s4, .string t4] 26)).alloc (.cells #[.bool g5, .string s5, .string t5, .bool g6, .string s6, .string t6] 24)) (.slice (some ⟨w1.heap.size + 1, 0, none⟩) 2 2) [(g5, s5, t5), (g6, s6, t6)] := slice_lit_iv vQ_len (w1.alloc (.cells #[.bool g1, .string s1, .string t1, .bool g2, .string s2, .string t2, .bool g3, .string s3, .string t3, .bool g4, .string s4, .string t4] 26)) [(g5, s5, t5), (g6, s6, t6)] _ (show 2 ≤ maxLen by decide) (by simp) rfl rfl
  have HLQ := hide hlq
  clear hlq
  have HV1__ := hide (HV1_.out.anon (.cells #[.bool g5, .string s5, .string t5, .bool g6, .string s6, .string t6] 24))
  clear HV1_
  go_wp2_with fail
  clear c1 c2 c3 c4 c5 c6 c7 c8 c9 c10 c11 c12 c13 c14 c15 c16 c17 c18
  refine (HF.out _ _ _ (HLI.out.below (bAlloc (Below.refl _ _) _)) HLQ.out).mono ?_
  rintro e w2 ⟨rfl, hb⟩
  have HV2 := hide (HV1__.out.below hb)
  clear hb HV1__ HF HLI HLQ
  go_wp2_with fail
  go_ret
  exact ⟨rfl, HV2.out.bel⟩
set_option maxHeartbeats 8000000 in
set_option maxRecDepth 100000 in
theorem contains_1 (g1 : Bool) (s1 t1 : ByteArray) (g2 : Bool) (s2 t2 : ByteArray) (g3 : Bool) (s3 t3 : ByteArray) (g4 : Bool) (s4 t4 : ByteArray) (g5 : Bool) (s5 t5 : ByteArray) (g6 : Bool) (s6 t6 : ByteArray) (w : World) (h1 : ∀ W, LawW W → Calls Tryz.prog 21 #[.agg #[.bool g1, .string s1, .string t1, .bool g2, .string s2, .string t2], .agg #[.bool g5, .string s5, .string t5]] W fun e w' => e = .returned (.bool false) ∧ Below W.heap.size W w') (hf : (fewI [((g1, s1, t1), (g2, s2, t2)), ((g3, s3, t3), (g4, s4, t4))] && fewQ 60 [(g5, s5, t5), (g6, s6, t6)]) = true) (hw : LawW w) :
    Calls Tryz.prog 4 #[.agg #[.bool g1, .string s1, .string t1, .bool g2, .string s2, .string t2], .agg #[.bool g3, .string s3, .string t3, .bool g4, .string s4, .string t4], .agg #[.bool g5, .string s5, .string t5], .agg #[.bool g6, .string s6, .string t6]] w fun e w' => e = .returned (.bool true) ∧ Below w.heap.size w w' := by
  have Hh1 := hide h1
  have HW := hide hw
  have HH := hide (fun W hW => law05_head W hW)
  have HF := hide (fun v u W h1 h2 => law05_few [((g1, s1, t1), (g2, s2, t2)), ((g3, s3, t3), (g4, s4, t4))] [(g5, s5, t5), (g6, s6, t6)] v u W h1 h2 (by show 2 ≤ maxLen; decide) (by show 2 ≤ 1000; decide))
  rw [hf] at HF

  have HV0 : Hid (VB w w []) := VB.nil w
  clear h1 hw hf 
  go_enter Tryz.func4, Tryz.ntmps4
  have HV0_ := hide (HV0.out.push6 (b := w.heap.size) (by simp) (.bool g1) (.string s1) (.string t1) (.bool g2) (.string s2) (.string t2) 26)
  clear HV0
  have HV0__ := hide (HV0_.out.push6 (b := w.heap.size + 1) (by simp) (.bool g3) (.string s3) (.string t3) (.bool g4) (.string s4) (.string t4) 26)
  clear HV0_
  have HV0___ := hide (HV0__.out.push3 (b := w.heap.size + 2) (by simp) (.bool g5) (.string s5) (.string t5) 24)
  clear HV0__
  have HV0____ := hide (HV0___.out.push3 (b := w.heap.size + 3) (by simp) (.bool g6) (.string s6) (.string t6) 24)
  clear HV0___
  go_wp2_with fail
  refine (HH.out _ (HV0____.out.law HW.out)).mono ?_
  rintro e w1 ⟨rfl, hb⟩
  have HV1 := hide (HV0____.out.below hb)
  clear hb HV0____
  obtain ⟨c1, c2, c3, c4, c5, c6⟩ := HV1.out.at6 3 rfl
  obtain ⟨c7, c8, c9, c10, c11, c12⟩ := HV1.out.at6 2 rfl
  have hli : SliceOf vIv 6 (w1.alloc (.cells #[.bool g1, .string s1, .string t1, .bool g2, .string s2, .string t2, .bool g3, .string s3, .string t3, .bool g4, .string s4, .string t4] 26)) (.slice (some ⟨w1.heap.size, 0, none⟩) 2 2) [((g1, s1, t1), (g2, s2, t2)), ((g3, s3, t3), (g4, s4, t4))] := slice_lit_iv vIv_len w1 [((g1, s1, t1), (g2, s2, t2)), ((g3, s3, t3), (g4, s4, t4))] _ (show 2 ≤ maxLen by decide) (by simp) rfl rfl
  have HLI := hide hli
  clear hli
  have HV1_ := hide (HV1.out.anon (.cells #[.bool g1, .string s1, .string t1, .bool g2, .string s2, .string t2, .bool g3, .string s3, .string t3, .bool g4, .string s4, .string t4] 26))
  clear HV1
  obtain ⟨c13, c14, c15⟩ := HV1_.out.at3 1 rfl
  obtain ⟨c16, c17, c18⟩ := HV1_.out.at3 0 rfl
  have hlq : SliceOf vQ 3 ((w1.alloc (.cells #[.bool g1, .string s1, .string t1, .bool g2, .string s2, .string t2, .bool g3, .string s3, .string t3, .bool g4, .string s4, .string t4] 26)).alloc (.cells #[.bool g5, .string s5, .string t5, .bool g6, .string s6, .string t6] 24)) (.slice (some ⟨w1.heap.size + 1, 0, none⟩) 2 2) [(g5, s5, t5), (g6, s6, t6)] := slice_lit_iv vQ_len (w1.alloc (.cells #[.bool g1, .string s1, .string t1, .bool g2, .string s2, .string t2, .bool g3, .string s3, .string t3, .bool g4, .string s4, .string t4] 26)) [(g5, s5, t5), (g6, s6, t6)] _ (show 2 ≤ maxLen by decide) (by simp) rfl rfl
  have HLQ := hide hlq
  clear hlq
  have HV1__ := hide (HV1_.out.anon (.cells #[.bool g5, .string s5, .string t5, .bool g6, .string s6, .string t6] 24))
  clear HV1_
  go_wp2_with fail
  clear c1 c2 c3 c4 c5 c6 c7 c8 c9 c10 c11 c12 c13 c14 c15 c16 c17 c18
  refine (HF.out _ _ _ (HLI.out.below (bAlloc (Below.refl _ _) _)) HLQ.out).mono ?_
  rintro e w2 ⟨rfl, hb⟩
  have HV2 := hide (HV1__.out.below hb)
  clear hb HV1__ HF HLI HLQ
  obtain ⟨c19, c20, c21, c22, c23, c24⟩ := HV2.out.at6 3 rfl
  obtain ⟨c25, c26, c27⟩ := HV2.out.at3 1 rfl
  go_wp2_with fail
  clear c19 c20 c21 c22 c23 c24 c25 c26 c27
  refine (Hh1.out _ (HV2.out.law HW.out)).mono ?_
  rintro e w3 ⟨rfl, hb⟩
  have HV3 := hide (HV2.out.below hb)
  clear hb HV2
  go_wp2_with fail
  go_ret
  exact ⟨rfl, HV3.out.bel⟩
set_option maxHeartbeats 8000000 in
set_option maxRecDepth 100000 in
theorem contains_2 (g1 : Bool) (s1 t1 : ByteArray) (g2 : Bool) (s2 t2 : ByteArray) (g3 : Bool) (s3 t3 : ByteArray) (g4 : Bool) (s4 t4 : ByteArray) (g5 : Bool) (s5 t5 : ByteArray) (g6 : Bool) (s6 t6 : ByteArray) (w : World) (h1 : ∀ W, LawW W → Calls Tryz.prog 21 #[.agg #[.bool g1, .string s1, .string t1, .bool g2, .string s2, .string t2], .agg #[.bool g5, .string s5, .string t5]] W fun e w' => e = .returned (.bool true) ∧ Below W.heap.size W w') (h2 : ∀ W, LawW W → Calls Tryz.prog 21 #[.agg #[.bool g3, .string s3, .string t3, .bool g4, .string s4, .string t4], .agg #[.bool g6, .string s6, .string t6]] W fun e w' => e = .returned (.bool false) ∧ Below W.heap.size W w') (hf : (fewI [((g1, s1, t1), (g2, s2, t2)), ((g3, s3, t3), (g4, s4, t4))] && fewQ 60 [(g5, s5, t5), (g6, s6, t6)]) = true) (hw : LawW w) :
    Calls Tryz.prog 4 #[.agg #[.bool g1, .string s1, .string t1, .bool g2, .string s2, .string t2], .agg #[.bool g3, .string s3, .string t3, .bool g4, .string s4, .string t4], .agg #[.bool g5, .string s5, .string t5], .agg #[.bool g6, .string s6, .string t6]] w fun e w' => e = .returned (.bool true) ∧ Below w.heap.size w w' := by
  have Hh1 := hide h1
  have Hh2 := hide h2
  have HW := hide hw
  have HH := hide (fun W hW => law05_head W hW)
  have HF := hide (fun v u W h1 h2 => law05_few [((g1, s1, t1), (g2, s2, t2)), ((g3, s3, t3), (g4, s4, t4))] [(g5, s5, t5), (g6, s6, t6)] v u W h1 h2 (by show 2 ≤ maxLen; decide) (by show 2 ≤ 1000; decide))
  rw [hf] at HF

  have HV0 : Hid (VB w w []) := VB.nil w
  clear h1 h2 hw hf 
  go_enter Tryz.func4, Tryz.ntmps4
  have HV0_ := hide (HV0.out.push6 (b := w.heap.size) (by simp) (.bool g1) (.string s1) (.string t1) (.bool g2) (.string s2) (.string t2) 26)
  clear HV0
  have HV0__ := hide (HV0_.out.push6 (b := w.heap.size + 1) (by simp) (.bool g3) (.string s3) (.string t3) (.bool g4) (.string s4) (.string t4) 26)
  clear HV0_
  have HV0___ := hide (HV0__.out.push3 (b := w.heap.size + 2) (by simp) (.bool g5) (.string s5) (.string t5) 24)
  clear HV0__
  have HV0____ := hide (HV0___.out.push3 (b := w.heap.size + 3) (by simp) (.bool g6) (.string s6) (.string t6) 24)
  clear HV0___
  go_wp2_with fail
  refine (HH.out _ (HV0____.out.law HW.out)).mono ?_
  rintro e w1 ⟨rfl, hb⟩
  have HV1 := hide (HV0____.out.below hb)
  clear hb HV0____
  obtain ⟨c1, c2, c3, c4, c5, c6⟩ := HV1.out.at6 3 rfl
  obtain ⟨c7, c8, c9, c10, c11, c12⟩ := HV1.out.at6 2 rfl
  have hli : SliceOf vIv 6 (w1.alloc (.cells #[.bool g1, .string s1, .string t1, .bool g2, .string s2, .string t2, .bool g3, .string s3, .string t3, .bool g4, .string s4, .string t4] 26)) (.slice (some ⟨w1.heap.size, 0, none⟩) 2 2) [((g1, s1, t1), (g2, s2, t2)), ((g3, s3, t3), (g4, s4, t4))] := slice_lit_iv vIv_len w1 [((g1, s1, t1), (g2, s2, t2)), ((g3, s3, t3), (g4, s4, t4))] _ (show 2 ≤ maxLen by decide) (by simp) rfl rfl
  have HLI := hide hli
  clear hli
  have HV1_ := hide (HV1.out.anon (.cells #[.bool g1, .string s1, .string t1, .bool g2, .string s2, .string t2, .bool g3, .string s3, .string t3, .bool g4, .string s4, .string t4] 26))
  clear HV1
  obtain ⟨c13, c14, c15⟩ := HV1_.out.at3 1 rfl
  obtain ⟨c16, c17, c18⟩ := HV1_.out.at3 0 rfl
  have hlq : SliceOf vQ 3 ((w1.alloc (.cells #[.bool g1, .string s1, .string t1, .bool g2, .string s2, .string t2, .bool g3, .string s3, .string t3, .bool g4, .string s4, .string t4] 26)).alloc (.cells #[.bool g5, .string s5, .string t5, .bool g6, .string s6, .string t6] 24)) (.slice (some ⟨w1.heap.size + 1, 0, none⟩) 2 2) [(g5, s5, t5), (g6, s6, t6)] := slice_lit_iv vQ_len (w1.alloc (.cells #[.bool g1, .string s1, .string t1, .bool g2, .string s2, .string t2, .bool g3, .string s3, .string t3, .bool g4, .string s4, .string t4] 26)) [(g5, s5, t5), (g6, s6, t6)] _ (show 2 ≤ maxLen by decide) (by simp) rfl rfl
  have HLQ := hide hlq
  clear hlq
  have HV1__ := hide (HV1_.out.anon (.cells #[.bool g5, .string s5, .string t5, .bool g6, .string s6, .string t6] 24))
  clear HV1_
  go_wp2_with fail
  clear c1 c2 c3 c4 c5 c6 c7 c8 c9 c10 c11 c12 c13 c14 c15 c16 c17 c18
  refine (HF.out _ _ _ (HLI.out.below (bAlloc (Below.refl _ _) _)) HLQ.out).mono ?_
  rintro e w2 ⟨rfl, hb⟩
  have HV2 := hide (HV1__.out.below hb)
  clear hb HV1__ HF HLI HLQ
  obtain ⟨c19, c20, c21, c22, c23, c24⟩ := HV2.out.at6 3 rfl
  obtain ⟨c25, c26, c27⟩ := HV2.out.at3 1 rfl
  go_wp2_with fail
  clear c19 c20 c21 c22 c23 c24 c25 c26 c27
  refine (Hh1.out _ (HV2.out.law HW.out)).mono ?_
  rintro e w3 ⟨rfl, hb⟩
  have HV3 := hide (HV2.out.below hb)
  clear hb HV2
  obtain ⟨c28, c29, c30, c31, c32, c33⟩ := HV3.out.at6 2 rfl
  obtain ⟨c34, c35, c36⟩ := HV3.out.at3 0 rfl
  go_wp2_with fail
  clear c28 c29 c30 c31 c32 c33 c34 c35 c36
  refine (Hh2.out _ (HV3.out.law HW.out)).mono ?_
  rintro e w4 ⟨rfl, hb⟩
  have HV4 := hide (HV3.out.below hb)
  clear hb HV3
  go_wp2_with fail
  go_ret
  exact ⟨rfl, HV4.out.bel⟩
set_option maxHeartbeats 8000000 in
set_option maxRecDepth 100000 in
theorem contains_3 (g1 : Bool) (s1 t1 : ByteArray) (g2 : Bool) (s2 t2 : ByteArray) (g3 : Bool) (s3 t3 : ByteArray) (g4 : Bool) (s4 t4 : ByteArray) (g5 : Bool) (s5 t5 : ByteArray) (g6 : Bool) (s6 t6 : ByteArray) (g7 : Bool) (s7 t7 : ByteArray) (g8 : Bool) (s8 t8 : ByteArray) (g9 : Bool) (s9 t9 : ByteArray) (g10 : Bool) (s10 t10 : ByteArray) (g11 : Bool) (s11 t11 : ByteArray) (g12 : Bool) (s12 t12 : ByteArray) (w : World) (h1 : ∀ W, LawW W → Calls Tryz.prog 21 #[.agg #[.bool g1, .string s1, .string t1, .bool g2, .string s2, .string t2], .agg #[.bool g5, .string s5, .string t5]] W fun e w' => e = .returned (.bool true) ∧ Below W.heap.size W w') (h2 : ∀ W, LawW W → Calls Tryz.prog 21 #[.agg #[.bool g3, .string s3, .string t3, .bool g4, .string s4, .string t4], .agg #[.bool g6, .string s6, .string t6]] W fun e w' => e = .returned (.bool true) ∧ Below W.heap.size W w') (h3 : ∀ W, LawW W → Calls Tryz.prog 11 #[.agg #[.bool g1, .string s1, .string t1, .bool g2, .string s2, .string t2], .agg #[.bool g3, .string s3, .string t3, .bool g4, .string s4, .string t4]] W fun e w' => e = .returned (.tuple #[.agg #[.bool g7, .string s7, .string t7, .bool g8, .string s8, .string t8], .int .i64 0]) ∧ Below W.heap.size W w') (h4 : ∀ W, LawW W → Calls Tryz.prog 13 #[.agg #[.bool g1, .string s1, .string t1, .bool g2, .string s2, .string t2], .agg #[.bool g3, .string s3, .string t3, .bool g4, .string s4, .string t4]] W fun e w' => e = .returned (.tuple #[.agg #[.bool g9, .string s9, .string t9, .bool g10, .string s10, .string t10], .int .i64 0]) ∧ Below W.heap.size W w') (h5 : ∀ W, LawW W → Calls Tryz.prog 23 #[.agg #[.bool g5, .string s5, .string t5], .agg #[.bool g6, .string s6, .string t6]] W fun e w' => e = .returned (.tuple #[.agg #[.bool g11, .string s11, .string t11], .int .i64 0]) ∧ Below W.heap.size W w') (h6 : ∀ W, LawW W → Calls Tryz.prog 24 #[.agg #[.bool g5, .string s5, .string t5], .agg #[.bool g6, .string s6, .string t6]] W fun e w' => e = .returned (.tuple #[.agg #[.bool g12, .string s12, .string t12], .int .i64 0]) ∧ Below W.heap.size W w') (h7 : ∀ W, LawW W → Calls Tryz.prog 21 #[.agg #[.bool g7, .string s7, .string t7, .bool g8, .string s8, .string t8], .agg #[.bool g11, .string s11, .string t11]] W fun e w' => e = .returned (.bool true) ∧ Below W.heap.size W w') (h8 : ∀ W, LawW W → Calls Tryz.prog 21 #[.agg #[.bool g9, .string s9, .string t9, .bool g10, .string s10, .string t10], .agg #[.bool g12, .string s12, .string t12]] W fun e w' => e = .returned (.bool true) ∧ Below W.heap.size W w') (hf : (fewI [((g1, s1, t1), (g2, s2, t2)), ((g3, s3, t3), (g4, s4, t4))] && fewQ 60 [(g5, s5, t5), (g6, s6, t6)]) = true) (hw : LawW w) :
    Calls Tryz.prog 4 #[.agg #[.bool g1, .string s1, .string t1, .bool g2, .string s2, .string t2], .agg #[.bool g3, .string s3, .string t3, .bool g4, .string s4, .string t4], .agg #[.bool g5, .string s5, .string t5], .agg #[.bool g6, .string s6, .string t6]] w fun e w' => e = .returned (.bool true) ∧ Below w.heap.size w w' := by
  have Hh1 := hide h1
  have Hh2 := hide h2
  have Hh3 := hide h3
  have Hh4 := hide h4
  have Hh5 := hide h5
  have Hh6 := hide h6
  have Hh7 := hide h7
  have Hh8 := hide h8
  have HW := hide hw
  have HH := hide (fun W hW => law05_head W hW)
  have HF := hide (fun v u W h1 h2 => law05_few [((g1, s1, t1), (g2, s2, t2)), ((g3, s3, t3), (g4, s4, t4))] [(g5, s5, t5), (g6, s6, t6)] v u W h1 h2 (by show 2 ≤ maxLen; decide) (by show 2 ≤ 1000; decide))
  rw [hf] at HF

  have HV0 : Hid (VB w w []) := VB.nil w
  clear h1 h2 h3 h4 h5 h6 h7 h8 hw hf 
  go_enter Tryz.func4, Tryz.ntmps4
  have HV0_ := hide (HV0.out.push6 (b := w.heap.size) (by simp) (.bool g1) (.string s1) (.string t1) (.bool g2) (.string s2) (.string t2) 26)
  clear HV0
  have HV0__ := hide (HV0_.out.push6 (b := w.heap.size + 1) (by simp) (.bool g3) (.string s3) (.string t3) (.bool g4) (.string s4) (.string t4) 26)
  clear HV0_
  have HV0___ := hide (HV0__.out.push3 (b := w.heap.size + 2) (by simp) (.bool g5) (.string s5) (.string t5) 24)
  clear HV0__
  have HV0____ := hide (HV0___.out.push3 (b := w.heap.size + 3) (by simp) (.bool g6) (.string s6) (.string t6) 24)
  clear HV0___
  go_wp2_with fail
  refine (HH.out _ (HV0____.out.law HW.out)).mono ?_
  rintro e w1 ⟨rfl, hb⟩
  have HV1 := hide (HV0____.out.below hb)
  clear hb HV0____
  obtain ⟨c1, c2, c3, c4, c5, c6⟩ := HV1.out.at6 3 rfl
  obtain ⟨c7, c8, c9, c10, c11, c12⟩ := HV1.out.at6 2 rfl
  have hli : SliceOf vIv 6 (w1.alloc (.cells #[.bool g1, .string s1, .string t1, .bool g2, .string s2, .string t2, .bool g3, .string s3, .string t3, .bool g4, .string s4, .string t4] 26)) (.slice (some ⟨w1.heap.size, 0, none⟩) 2 2) [((g1, s1, t1), (g2, s2, t2)), ((g3, s3, t3), (g4, s4, t4))] := slice_lit_iv vIv_len w1 [((g1, s1, t1), (g2, s2, t2)), ((g3, s3, t3), (g4, s4, t4))] _ (show 2 ≤ maxLen by decide) (by simp) rfl rfl
  have HLI := hide hli
  clear hli
  have HV1_ := hide (HV1.out.anon (.cells #[.bool g1, .string s1, .string t1, .bool g2, .string s2, .string t2, .bool g3, .string s3, .string t3, .bool g4, .string s4, .string t4] 26))
  clear HV1
  obtain ⟨c13, c14, c15⟩ := HV1_.out.at3 1 rfl
  obtain ⟨c16, c17, c18⟩ := HV1_.out.at3 0 rfl
  have hlq : SliceOf vQ 3 ((w1.alloc (.cells #[.bool g1, .string s1, .string t1, .bool g2, .string s2, .string t2, .bool g3, .string s3, .string t3, .bool g4, .string s4, .string t4] 26)).alloc (.cells #[.bool g5, .string s5, .string t5, .bool g6, .string s6, .string t6] 24)) (.slice (some ⟨w1.heap.size + 1, 0, none⟩) 2 2) [(g5, s5, t5), (g6, s6, t6)] := slice_lit_iv vQ_len (w1.alloc (.cells #[.bool g1, .string s1, .string t1, .bool g2, .string s2, .string t2, .bool g3, .string s3, .string t3, .bool g4, .string s4, .string t4] 26)) [(g5, s5, t5), (g6, s6, t6)] _ (show 2 ≤ maxLen by decide) (by simp) rfl rfl
  have HLQ := hide hlq
  clear hlq
  have HV1__ := hide (HV1_.out.anon (.cells #[.bool g5, .string s5, .string t5, .bool g6, .string s6, .string t6] 24))
  clear HV1_
  go_wp2_with fail
  clear c1 c2 c3 c4 c5 c6 c7 c8 c9 c10 c11 c12 c13 c14 c15 c16 c17 c18
  refine (HF.out _ _ _ (HLI.out.below (bAlloc (Below.refl _ _) _)) HLQ.out).mono ?_
  rintro e w2 ⟨rfl, hb⟩
  have HV2 := hide (HV1__.out.below hb)
  clear hb HV1__ HF HLI HLQ
  obtain ⟨c19, c20, c21, c22, c23, c24⟩ := HV2.out.at6 3 rfl
  obtain ⟨c25, c26, c27⟩ := HV2.out.at3 1 rfl
  go_wp2_with fail
  clear c19 c20 c21 c22 c23 c24 c25 c26 c27
  refine (Hh1.out _ (HV2.out.law HW.out)).mono ?_
  rintro e w3 ⟨rfl, hb⟩
  have HV3 := hide (HV2.out.below hb)
  clear hb HV2
  obtain ⟨c28, c29, c30, c31, c32, c33⟩ := HV3.out.at6 2 rfl
  obtain ⟨c34, c35, c36⟩ := HV3.out.at3 0 rfl
  go_wp2_with fail
  clear c28 c29 c30 c31 c32 c33 c34 c35 c36
  refine (Hh2.out _ (HV3.out.law HW.out)).mono ?_
  rintro e w4 ⟨rfl, hb⟩
  have HV4 := hide (HV3.out.below hb)
  clear hb HV3
  obtain ⟨c37, c38, c39, c40, c41, c42⟩ := HV4.out.at6 3 rfl
  obtain ⟨c43, c44, c45, c46, c47, c48⟩ := HV4.out.at6 2 rfl
  go_wp2_with fail
  clear c37 c38 c39 c40 c41 c42 c43 c44 c45 c46 c47 c48
  refine (Hh3.out _ (HV4.out.law HW.out)).mono ?_
  rintro e w5 ⟨rfl, hb⟩
  have HV5 := hide (HV4.out.below hb)
  clear hb HV4
  have HV5_ := hide (HV5.out.push6 (b := w5.heap.size) (by simp) (.bool g7) (.string s7) (.string t7) (.bool g8) (.string s8) (.string t8) 26)
  clear HV5
  obtain ⟨c49, c50, c51, c52, c53, c54⟩ := HV5_.out.at6 4 rfl
  obtain ⟨c55, c56, c57, c58, c59, c60⟩ := HV5_.out.at6 3 rfl
  go_wp2_with fail
  clear c49 c50 c51 c52 c53 c54 c55 c56 c57 c58 c59 c60
  refine (Hh4.out _ (HV5_.out.law HW.out)).mono ?_
  rintro e w6 ⟨rfl, hb⟩
  have HV6 := hide (HV5_.out.below hb)
  clear hb HV5_
  have HV6_ := hide (HV6.out.push6 (b := w6.heap.size) (by simp) (.bool g9) (.string s9) (.string t9) (.bool g10) (.string s10) (.string t10) 26)
  clear HV6
  obtain ⟨c61, c62, c63⟩ := HV6_.out.at3 3 rfl
  obtain ⟨c64, c65, c66⟩ := HV6_.out.at3 2 rfl
  go_wp2_with fail
  clear c61 c62 c63 c64 c65 c66
  refine (Hh5.out _ (HV6_.out.law HW.out)).mono ?_
  rintro e w7 ⟨rfl, hb⟩
  have HV7 := hide (HV6_.out.below hb)
  clear hb HV6_
  have HV7_ := hide (HV7.out.push3 (b := w7.heap.size) (by simp) (.bool g11) (.string s11) (.string t11) 24)
  clear HV7
  obtain ⟨c67, c68, c69⟩ := HV7_.out.at3 4 rfl
  obtain ⟨c70, c71, c72⟩ := HV7_.out.at3 3 rfl
  go_wp2_with fail
  clear c67 c68 c69 c70 c71 c72
  refine (Hh6.out _ (HV7_.out.law HW.out)).mono ?_
  rintro e w8 ⟨rfl, hb⟩
  have HV8 := hide (HV7_.out.below hb)
  clear hb HV7_
  have HV8_ := hide (HV8.out.push3 (b := w8.heap.size) (by simp) (.bool g12) (.string s12) (.string t12) 24)
  clear HV8
  obtain ⟨c73, c74, c75, c76, c77, c78⟩ := HV8_.out.at6 3 rfl
  obtain ⟨c79, c80, c81⟩ := HV8_.out.at3 1 rfl
  go_wp2_with fail
  clear c73 c74 c75 c76 c77 c78 c79 c80 c81
  refine (Hh7.out _ (HV8_.out.law HW.out)).mono ?_
  rintro e w9 ⟨rfl, hb⟩
  have HV9 := hide (HV8_.out.below hb)
  clear hb HV8_
  obtain ⟨c82, c83, c84, c85, c86, c87⟩ := HV9.out.at6 2 rfl
  obtain ⟨c88, c89, c90⟩ := HV9.out.at3 0 rfl
  go_wp2_with fail
  clear c82 c83 c84 c85 c86 c87 c88 c89 c90
  refine (Hh8.out _ (HV9.out.law HW.out)).mono ?_
  rintro e w10 ⟨rfl, hb⟩
  have HV10 := hide (HV9.out.below hb)
  clear hb HV9
  go_wp2_with fail
  go_ret
  exact ⟨rfl, HV10.out.bel⟩
/-- What lies between two numbers, times a number. -/
theorem mul_mid {l h x y : Rat} (h1 : l ≤ x) (h2 : x ≤ h) : (l * y ≤ x * y ∨ h * y ≤ x * y) ∧ (x * y ≤ l * y ∨ x * y ≤ h * y) := by
  rcases (Rat.le_total : (0 : Rat) ≤ y ∨ y ≤ 0) with hy | hy
  · exact ⟨.inl (Rat.mul_le_mul_of_nonneg_right h1 hy), .inr (Rat.mul_le_mul_of_nonneg_right h2 hy)⟩
  · have hn : 0 ≤ -y := by grind
    have e1 := Rat.mul_le_mul_of_nonneg_right h1 hn
    have e2 := Rat.mul_le_mul_of_nonneg_right h2 hn
    exact ⟨.inr (by grind), .inl (by grind)⟩
theorem mul_box {a b c d x y m M : Rat} (h1 : a ≤ x) (h2 : x ≤ b) (h3 : c ≤ y) (h4 : y ≤ d) (m1 : m ≤ a * c) (m2 : m ≤ a * d) (m3 : m ≤ b * c) (m4 : m ≤ b * d) (n1 : a * c ≤ M) (n2 : a * d ≤ M) (n3 : b * c ≤ M) (n4 : b * d ≤ M) : m ≤ x * y ∧ x * y ≤ M := by
  obtain ⟨p1, p2⟩ := mul_mid (y := y) h1 h2
  obtain ⟨q1, q2⟩ := mul_mid (y := a) h3 h4
  obtain ⟨r1, r2⟩ := mul_mid (y := b) h3 h4
  rw [Rat.mul_comm c a, Rat.mul_comm d a, Rat.mul_comm y a] at q1 q2
  rw [Rat.mul_comm c b, Rat.mul_comm d b, Rat.mul_comm y b] at r1 r2
  constructor
  · have u1 : m ≤ a * y := by rcases q1 with h | h <;> grind
    have u2 : m ≤ b * y := by rcases r1 with h | h <;> grind
    rcases p1 with h | h <;> grind
  · have u1 : a * y ≤ M := by rcases q2 with h | h <;> grind
    have u2 : b * y ≤ M := by rcases r2 with h | h <;> grind
    rcases p2 with h | h <;> grind
theorem intervalContains (a c : Q3 × Q3) (r s : Q3) (W : World) (hW : LawW W) : Calls Tryz.prog 4 #[iArg a, iArg c, qArg r, qArg s] W fun e w' => e = .returned (.bool true) ∧ Below W.heap.size W w' := by
  obtain ⟨f, hf⟩ : ∃ f, (fewI [a, c] && fewQ 60 [r, s]) = f := ⟨_, rfl⟩
  cases f
  · exact contains_0 _ _ _ _ _ _ _ _ _ _ _ _ _ _ _ _ _ _ W hf hW
  rw [Bool.and_eq_true] at hf
  obtain ⟨sa, sc⟩ := fewI_two hf.1
  obtain ⟨sr, ss⟩ := fewQ_two6 hf.2
  have hf' : (fewI [a, c] && fewQ 60 [r, s]) = true := by rw [hf.1, hf.2]; rfl
  rcases has_cases a r sa sr with h1 | ⟨oa, xr, l1, l2, h1⟩
  · exact contains_1 _ _ _ _ _ _ _ _ _ _ _ _ _ _ _ _ _ _ W h1 hf' hW
  rcases has_cases c s sc ss with h2 | ⟨oc, xs, l3, l4, h2⟩
  · exact contains_2 _ _ _ _ _ _ _ _ _ _ _ _ _ _ _ _ _ _ W h1 h2 hf' hW
  obtain ⟨u, xu, eu⟩ := IsX.get (oa.lo.sz.add oc.lo.sz)
  obtain ⟨v, xv, ev⟩ := IsX.get (oa.hi.sz.add oc.hi.sz)
  obtain ⟨x, xx, ex⟩ := IsX.get (xr.sz.add xs.sz)
  obtain ⟨y, xy, ey⟩ := IsX.get (xr.sz.mul xs.sz)
  obtain ⟨l, pl⟩ := Prods.get oa oc
  have hall := pl.isx
  have ne : l ≠ [] := by obtain ⟨_, _, _, _, rfl, _⟩ := pl.all; simp
  obtain ⟨m, hm⟩ := min_ex l ne
  obtain ⟨n, hn⟩ := max_ex l ne
  have h3 := c_add oa oc (by omega) xu xv eu ev
  have h4 := c_mul oa oc (by omega) pl hm hn
  have h5 : RetC 23 #[qArg r, qArg s] (.tuple #[qArg x, .int .i64 0]) := fun W hW => add_okq xr.sz xs.sz (by omega) ex.symm xr.q xs.q xx.q W hW
  have h6 : RetC 24 #[qArg r, qArg s] (.tuple #[qArg y, .int .i64 0]) := fun W hW => mul_okq xr.sz xs.sz (by omega) ey.symm xr.q xs.q xy.q W hW
  have osu : IvOk (60 + 60 + 1) (u, v) := ⟨xu, xv, by show qv u ≤ qv v; rw [eu, ev]; have := oa.le; have := oc.le; grind⟩
  have h7 : RetC 21 #[iArg (u, v), qArg x] (.bool true) := fun W hW => by
    have h := c_contains osu xx (by omega) (by omega) W hW
    rw [decide_eq_true (by show qv u ≤ qv x ∧ qv x ≤ qv v; rw [eu, ev, ex]; constructor <;> grind)] at h
    exact h
  have box : qv m ≤ qv y ∧ qv y ≤ qv n := by
    obtain ⟨m0, m1, m2, m3, rfl, _, e0, e1, e2, e3⟩ := pl.all
    rw [ey]
    refine mul_box l1 l2 l3 l4 ?_ ?_ ?_ ?_ ?_ ?_ ?_ ?_
    · rw [← e0]; exact hm.2 _ (by simp)
    · rw [← e1]; exact hm.2 _ (by simp)
    · rw [← e2]; exact hm.2 _ (by simp)
    · rw [← e3]; exact hm.2 _ (by simp)
    · rw [← e0]; exact hn.2 _ (by simp)
    · rw [← e1]; exact hn.2 _ (by simp)
    · rw [← e2]; exact hn.2 _ (by simp)
    · rw [← e3]; exact hn.2 _ (by simp)
  have opr : IvOk (60 + 60) (m, n) := ⟨hall m hm.1, hall n hn.1, by show qv m ≤ qv n; grind⟩
  have h8 : RetC 21 #[iArg (m, n), qArg y] (.bool true) := fun W hW => by
    have h := c_contains opr xy (by omega) (by omega) W hW
    rw [decide_eq_true box] at h
    exact h
  exact contains_3 _ _ _ _ _ _ _ _ _ _ _ _ _ _ _ _ _ _ u.1 u.2.1 u.2.2 v.1 v.2.1 v.2.2 m.1 m.2.1 m.2.2 n.1 n.2.1 n.2.2 x.1 x.2.1 x.2.2 y.1 y.2.1 y.2.2 W h1 h2 h3 h4 h5 h6 h7 h8 hf' hW
end Go.Proofs.YtbojlmnajndleaaGreatDoor
namespace Go.Proofs.YtbojlmnajndleaaGreatDoor
open Go.RowKit Go.Sort

set_option maxHeartbeats 8000000 in
set_option maxRecDepth 100000 in
theorem meets_0 (g1 : Bool) (s1 t1 : ByteArray) (g2 : Bool) (s2 t2 : ByteArray) (g3 : Bool) (s3 t3 : ByteArray) (g4 : Bool) (s4 t4 : ByteArray) (g5 : Bool) (s5 t5 : ByteArray) (w : World) (hf : (fewI [((g1, s1, t1), (g2, s2, t2)), ((g3, s3, t3), (g4, s4, t4))] && fewQ 60 [(g5, s5, t5)]) = false) (hw : LawW w) :
    Calls Tryz.prog 7 #[.agg #[.bool g1, .string s1, .string t1, .bool g2, .string s2, .string t2], .agg #[.bool g3, .string s3, .string t3, .bool g4, .string s4, .string t4], .agg #[.bool g5, .string s5, .string t5]] w fun e w' => e = .returned (.bool true) ∧ Below w.heap.size w w' := by
  have HW := hide hw
  have HH := hide (fun W hW => law05_head W hW)
  have HF := hide (fun v u W h1 h2 => law05_few [((g1, s1, t1), (g2, s2, t2)), ((g3, s3, t3), (g4, s4, t4))] [(g5, s5, t5)] v u W h1 h2 (by show 2 ≤ maxLen; decide) (by show 1 ≤ 1000; decide))
  rw [hf] at HF

  have HV0 : Hid (VB w w []) := VB.nil w
  clear hw hf 
  go_enter Tryz.func7, Tryz.ntmps7
  have HV0_ := hide (HV0.out.push6 (b := w.heap.size) (by simp) (.bool g1) (.string s1) (.string t1) (.bool g2) (.string s2) (.string t2) 26)
  clear HV0
  have HV0__ := hide (HV0_.out.push6 (b := w.heap.size + 1) (by simp) (.bool g3) (.string s3) (.string t3) (.bool g4) (.string s4) (.string t4) 26)
  clear HV0_
  have HV0___ := hide (HV0__.out.push3 (b := w.heap.size + 2) (by simp) (.bool g5) (.string s5) (.string t5) 24)
  clear HV0__
  go_wp2_with fail
  refine (HH.out _ (HV0___.out.law HW.out)).mono ?_
  rintro e w1 ⟨rfl, hb⟩
  have HV1 := hide (HV0___.out.below hb)
  clear hb HV0___
  obtain ⟨c1, c2, c3, c4, c5, c6⟩ := HV1.out.at6 2 rfl
  obtain ⟨c7, c8, c9, c10, c11, c12⟩ := HV1.out.at6 1 rfl
  have hli : SliceOf vIv 6 (w1.alloc (.cells #[.bool g1, .string s1, .string t1, .bool g2, .string s2, .string t2, .bool g3, .string s3, .string t3, .bool g4, .string s4, .string t4] 26)) (.slice (some ⟨w1.heap.size, 0, none⟩) 2 2) [((g1, s1, t1), (g2, s2, t2)), ((g3, s3, t3), (g4, s4, t4))] := slice_lit_iv vIv_len w1 [((g1, s1, t1), (g2, s2, t2)), ((g3, s3, t3), (g4, s4, t4))] _ (show 2 ≤ maxLen by decide) (by simp) rfl rfl
  have HLI := hide hli
  clear hli
  have HV1_ := hide (HV1.out.anon (.cells #[.bool g1, .string s1, .string t1, .bool g2, .string s2, .string t2, .bool g3, .string s3, .string t3, .bool g4, .string s4, .string t4] 26))
  clear HV1
  obtain ⟨c13, c14, c15⟩ := HV1_.out.at3 0 rfl
  have hlq : SliceOf vQ 3 ((w1.alloc (.cells #[.bool g1, .string s1, .string t1, .bool g2, .string s2, .string t2, .bool g3, .string s3, .string t3, .bool g4, .string s4, .string t4] 26)).alloc (.cells #[.bool g5, .string s5, .string t5] 24)) (.slice (some ⟨w1.heap.size + 1, 0, none⟩) 1 1) [(g5, s5, t5)] := slice_lit_iv vQ_len (w1.alloc (.cells #[.bool g1, .string s1, .string t1, .bool g2, .string s2, .string t2, .bool g3, .string s3, .string t3, .bool g4, .string s4, .string t4] 26)) [(g5, s5, t5)] _ (show 1 ≤ maxLen by decide) (by simp) rfl rfl
  have HLQ := hide hlq
  clear hlq
  have HV1__ := hide (HV1_.out.anon (.cells #[.bool g5, .string s5, .string t5] 24))
  clear HV1_
  go_wp2_with fail
  clear c1 c2 c3 c4 c5 c6 c7 c8 c9 c10 c11 c12 c13 c14 c15
  refine (HF.out _ _ _ (HLI.out.below (bAlloc (Below.refl _ _) _)) HLQ.out).mono ?_
  rintro e w2 ⟨rfl, hb⟩
  have HV2 := hide (HV1__.out.below hb)
  clear hb HV1__ HF HLI HLQ
  go_wp2_with fail
  go_ret
  exact ⟨rfl, HV2.out.bel⟩
set_option maxHeartbeats 8000000 in
set_option maxRecDepth 100000 in
theorem meets_1 (g1 : Bool) (s1 t1 : ByteArray) (g2 : Bool) (s2 t2 : ByteArray) (g3 : Bool) (s3 t3 : ByteArray) (g4 : Bool) (s4 t4 : ByteArray) (g5 : Bool) (s5 t5 : ByteArray) (w : World) (h1 : ∀ W, LawW W → Calls Tryz.prog 17 #[.agg #[.bool g1, .string s1, .string t1, .bool g2, .string s2, .string t2], .agg #[.bool g3, .string s3, .string t3, .bool g4, .string s4, .string t4]] W fun e w' => e = .returned (.tuple #[.agg #[.bool false, .string ⟨#[]⟩, .string ⟨#[]⟩, .bool false, .string ⟨#[]⟩, .string ⟨#[]⟩], .bool false]) ∧ Below W.heap.size W w') (h5 : ∀ W, LawW W → Calls Tryz.prog 21 #[.agg #[.bool g1, .string s1, .string t1, .bool g2, .string s2, .string t2], .agg #[.bool g5, .string s5, .string t5]] W fun e w' => e = .returned (.bool false) ∧ Below W.heap.size W w') (hf : (fewI [((g1, s1, t1), (g2, s2, t2)), ((g3, s3, t3), (g4, s4, t4))] && fewQ 60 [(g5, s5, t5)]) = true) (hw : LawW w) :
    Calls Tryz.prog 7 #[.agg #[.bool g1, .string s1, .string t1, .bool g2, .string s2, .string t2], .agg #[.bool g3, .string s3, .string t3, .bool g4, .string s4, .string t4], .agg #[.bool g5, .string s5, .string t5]] w fun e w' => e = .returned (.bool true) ∧ Below w.heap.size w w' := by
  have Hh1 := hide h1
  have Hh5 := hide h5
  have HW := hide hw
  have HH := hide (fun W hW => law05_head W hW)
  have HF := hide (fun v u W h1 h2 => law05_few [((g1, s1, t1), (g2, s2, t2)), ((g3, s3, t3), (g4, s4, t4))] [(g5, s5, t5)] v u W h1 h2 (by show 2 ≤ maxLen; decide) (by show 1 ≤ 1000; decide))
  rw [hf] at HF

  have HV0 : Hid (VB w w []) := VB.nil w
  clear h1 h5 hw hf 
  go_enter Tryz.func7, Tryz.ntmps7
  have HV0_ := hide (HV0.out.push6 (b := w.heap.size) (by simp) (.bool g1) (.string s1) (.string t1) (.bool g2) (.string s2) (.string t2) 26)
  clear HV0
  have HV0__ := hide (HV0_.out.push6 (b := w.heap.size + 1) (by simp) (.bool g3) (.string s3) (.string t3) (.bool g4) (.string s4) (.string t4) 26)
  clear HV0_
  have HV0___ := hide (HV0__.out.push3 (b := w.heap.size + 2) (by simp) (.bool g5) (.string s5) (.string t5) 24)
  clear HV0__
  go_wp2_with fail
  refine (HH.out _ (HV0___.out.law HW.out)).mono ?_
  rintro e w1 ⟨rfl, hb⟩
  have HV1 := hide (HV0___.out.below hb)
  clear hb HV0___
  obtain ⟨c1, c2, c3, c4, c5, c6⟩ := HV1.out.at6 2 rfl
  obtain ⟨c7, c8, c9, c10, c11, c12⟩ := HV1.out.at6 1 rfl
  have hli : SliceOf vIv 6 (w1.alloc (.cells #[.bool g1, .string s1, .string t1, .bool g2, .string s2, .string t2, .bool g3, .string s3, .string t3, .bool g4, .string s4, .string t4] 26)) (.slice (some ⟨w1.heap.size, 0, none⟩) 2 2) [((g1, s1, t1), (g2, s2, t2)), ((g3, s3, t3), (g4, s4, t4))] := slice_lit_iv vIv_len w1 [((g1, s1, t1), (g2, s2, t2)), ((g3, s3, t3), (g4, s4, t4))] _ (show 2 ≤ maxLen by decide) (by simp) rfl rfl
  have HLI := hide hli
  clear hli
  have HV1_ := hide (HV1.out.anon (.cells #[.bool g1, .string s1, .string t1, .bool g2, .string s2, .string t2, .bool g3, .string s3, .string t3, .bool g4, .string s4, .string t4] 26))
  clear HV1
  obtain ⟨c13, c14, c15⟩ := HV1_.out.at3 0 rfl
  have hlq : SliceOf vQ 3 ((w1.alloc (.cells #[.bool g1, .string s1, .string t1, .bool g2, .string s2, .string t2, .bool g3, .string s3, .string t3, .bool g4, .string s4, .string t4] 26)).alloc (.cells #[.bool g5, .string s5, .string t5] 24)) (.slice (some ⟨w1.heap.size + 1, 0, none⟩) 1 1) [(g5, s5, t5)] := slice_lit_iv vQ_len (w1.alloc (.cells #[.bool g1, .string s1, .string t1, .bool g2, .string s2, .string t2, .bool g3, .string s3, .string t3, .bool g4, .string s4, .string t4] 26)) [(g5, s5, t5)] _ (show 1 ≤ maxLen by decide) (by simp) rfl rfl
  have HLQ := hide hlq
  clear hlq
  have HV1__ := hide (HV1_.out.anon (.cells #[.bool g5, .string s5, .string t5] 24))
  clear HV1_
  go_wp2_with fail
  clear c1 c2 c3 c4 c5 c6 c7 c8 c9 c10 c11 c12 c13 c14 c15
  refine (HF.out _ _ _ (HLI.out.below (bAlloc (Below.refl _ _) _)) HLQ.out).mono ?_
  rintro e w2 ⟨rfl, hb⟩
  have HV2 := hide (HV1__.out.below hb)
  clear hb HV1__ HF HLI HLQ
  obtain ⟨c16, c17, c18, c19, c20, c21⟩ := HV2.out.at6 2 rfl
  obtain ⟨c22, c23, c24, c25, c26, c27⟩ := HV2.out.at6 1 rfl
  go_wp2_with fail
  clear c16 c17 c18 c19 c20 c21 c22 c23 c24 c25 c26 c27
  refine (Hh1.out _ (HV2.out.law HW.out)).mono ?_
  rintro e w3 ⟨rfl, hb⟩
  have HV3 := hide (HV2.out.below hb)
  clear hb HV2
  have HV3_ := hide (HV3.out.push6 (b := w3.heap.size) (by simp) (.bool false) (.string ⟨#[]⟩) (.string ⟨#[]⟩) (.bool false) (.string ⟨#[]⟩) (.string ⟨#[]⟩) 26)
  clear HV3
  obtain ⟨c28, c29, c30, c31, c32, c33⟩ := HV3_.out.at6 0 rfl
  obtain ⟨c34, c35, c36, c37, c38, c39⟩ := HV3_.out.at6 3 rfl
  obtain ⟨c40, c41, c42⟩ := HV3_.out.at3 1 rfl
  go_wp2_with fail
  clear c28 c29 c30 c31 c32 c33 c34 c35 c36 c37 c38 c39 c40 c41 c42
  refine (Hh5.out _ (HV3_.out.law HW.out)).mono ?_
  rintro e w4 ⟨rfl, hb⟩
  have HV4 := hide (HV3_.out.below hb)
  clear hb HV3_
  go_wp2_with fail
  go_ret
  exact ⟨rfl, HV4.out.bel⟩
set_option maxHeartbeats 8000000 in
set_option maxRecDepth 100000 in
theorem meets_2 (g1 : Bool) (s1 t1 : ByteArray) (g2 : Bool) (s2 t2 : ByteArray) (g3 : Bool) (s3 t3 : ByteArray) (g4 : Bool) (s4 t4 : ByteArray) (g5 : Bool) (s5 t5 : ByteArray) (w : World) (h1 : ∀ W, LawW W → Calls Tryz.prog 17 #[.agg #[.bool g1, .string s1, .string t1, .bool g2, .string s2, .string t2], .agg #[.bool g3, .string s3, .string t3, .bool g4, .string s4, .string t4]] W fun e w' => e = .returned (.tuple #[.agg #[.bool false, .string ⟨#[]⟩, .string ⟨#[]⟩, .bool false, .string ⟨#[]⟩, .string ⟨#[]⟩], .bool false]) ∧ Below W.heap.size W w') (h5 : ∀ W, LawW W → Calls Tryz.prog 21 #[.agg #[.bool g1, .string s1, .string t1, .bool g2, .string s2, .string t2], .agg #[.bool g5, .string s5, .string t5]] W fun e w' => e = .returned (.bool true) ∧ Below W.heap.size W w') (h6 : ∀ W, LawW W → Calls Tryz.prog 21 #[.agg #[.bool g3, .string s3, .string t3, .bool g4, .string s4, .string t4], .agg #[.bool g5, .string s5, .string t5]] W fun e w' => e = .returned (.bool false) ∧ Below W.heap.size W w') (hf : (fewI [((g1, s1, t1), (g2, s2, t2)), ((g3, s3, t3), (g4, s4, t4))] && fewQ 60 [(g5, s5, t5)]) = true) (hw : LawW w) :
    Calls Tryz.prog 7 #[.agg #[.bool g1, .string s1, .string t1, .bool g2, .string s2, .string t2], .agg #[.bool g3, .string s3, .string t3, .bool g4, .string s4, .string t4], .agg #[.bool g5, .string s5, .string t5]] w fun e w' => e = .returned (.bool true) ∧ Below w.heap.size w w' := by
  have Hh1 := hide h1
  have Hh5 := hide h5
  have Hh6 := hide h6
  have HW := hide hw
  have HH := hide (fun W hW => law05_head W hW)
  have HF := hide (fun v u W h1 h2 => law05_few [((g1, s1, t1), (g2, s2, t2)), ((g3, s3, t3), (g4, s4, t4))] [(g5, s5, t5)] v u W h1 h2 (by show 2 ≤ maxLen; decide) (by show 1 ≤ 1000; decide))
  rw [hf] at HF

  have HV0 : Hid (VB w w []) := VB.nil w
  clear h1 h5 h6 hw hf 
  go_enter Tryz.func7, Tryz.ntmps7
  have HV0_ := hide (HV0.out.push6 (b := w.heap.size) (by simp) (.bool g1) (.string s1) (.string t1) (.bool g2) (.string s2) (.string t2) 26)
  clear HV0
  have HV0__ := hide (HV0_.out.push6 (b := w.heap.size + 1) (by simp) (.bool g3) (.string s3) (.string t3) (.bool g4) (.string s4) (.string t4) 26)
  clear HV0_
  have HV0___ := hide (HV0__.out.push3 (b := w.heap.size + 2) (by simp) (.bool g5) (.string s5) (.string t5) 24)
  clear HV0__
  go_wp2_with fail
  refine (HH.out _ (HV0___.out.law HW.out)).mono ?_
  rintro e w1 ⟨rfl, hb⟩
  have HV1 := hide (HV0___.out.below hb)
  clear hb HV0___
  obtain ⟨c1, c2, c3, c4, c5, c6⟩ := HV1.out.at6 2 rfl
  obtain ⟨c7, c8, c9, c10, c11, c12⟩ := HV1.out.at6 1 rfl
  have hli : SliceOf vIv 6 (w1.alloc (.cells #[.bool g1, .string s1, .string t1, .bool g2, .string s2, .string t2, .bool g3, .string s3, .string t3, .bool g4, .string s4, .string t4] 26)) (.slice (some ⟨w1.heap.size, 0, none⟩) 2 2) [((g1, s1, t1), (g2, s2, t2)), ((g3, s3, t3), (g4, s4, t4))] := slice_lit_iv vIv_len w1 [((g1, s1, t1), (g2, s2, t2)), ((g3, s3, t3), (g4, s4, t4))] _ (show 2 ≤ maxLen by decide) (by simp) rfl rfl
  have HLI := hide hli
  clear hli
  have HV1_ := hide (HV1.out.anon (.cells #[.bool g1, .string s1, .string t1, .bool g2, .string s2, .string t2, .bool g3, .string s3, .string t3, .bool g4, .string s4, .string t4] 26))
  clear HV1
  obtain ⟨c13, c14, c15⟩ := HV1_.out.at3 0 rfl
  have hlq : SliceOf vQ 3 ((w1.alloc (.cells #[.bool g1, .string s1, .string t1, .bool g2, .string s2, .string t2, .bool g3, .string s3, .string t3, .bool g4, .string s4, .string t4] 26)).alloc (.cells #[.bool g5, .string s5, .string t5] 24)) (.slice (some ⟨w1.heap.size + 1, 0, none⟩) 1 1) [(g5, s5, t5)] := slice_lit_iv vQ_len (w1.alloc (.cells #[.bool g1, .string s1, .string t1, .bool g2, .string s2, .string t2, .bool g3, .string s3, .string t3, .bool g4, .string s4, .string t4] 26)) [(g5, s5, t5)] _ (show 1 ≤ maxLen by decide) (by simp) rfl rfl
  have HLQ := hide hlq
  clear hlq
  have HV1__ := hide (HV1_.out.anon (.cells #[.bool g5, .string s5, .string t5] 24))
  clear HV1_
  go_wp2_with fail
  clear c1 c2 c3 c4 c5 c6 c7 c8 c9 c10 c11 c12 c13 c14 c15
  refine (HF.out _ _ _ (HLI.out.below (bAlloc (Below.refl _ _) _)) HLQ.out).mono ?_
  rintro e w2 ⟨rfl, hb⟩
  have HV2 := hide (HV1__.out.below hb)
  clear hb HV1__ HF HLI HLQ
  obtain ⟨c16, c17, c18, c19, c20, c21⟩ := HV2.out.at6 2 rfl
  obtain ⟨c22, c23, c24, c25, c26, c27⟩ := HV2.out.at6 1 rfl
  go_wp2_with fail
  clear c16 c17 c18 c19 c20 c21 c22 c23 c24 c25 c26 c27
  refine (Hh1.out _ (HV2.out.law HW.out)).mono ?_
  rintro e w3 ⟨rfl, hb⟩
  have HV3 := hide (HV2.out.below hb)
  clear hb HV2
  have HV3_ := hide (HV3.out.push6 (b := w3.heap.size) (by simp) (.bool false) (.string ⟨#[]⟩) (.string ⟨#[]⟩) (.bool false) (.string ⟨#[]⟩) (.string ⟨#[]⟩) 26)
  clear HV3
  obtain ⟨c28, c29, c30, c31, c32, c33⟩ := HV3_.out.at6 0 rfl
  obtain ⟨c34, c35, c36, c37, c38, c39⟩ := HV3_.out.at6 3 rfl
  obtain ⟨c40, c41, c42⟩ := HV3_.out.at3 1 rfl
  go_wp2_with fail
  clear c28 c29 c30 c31 c32 c33 c34 c35 c36 c37 c38 c39 c40 c41 c42
  refine (Hh5.out _ (HV3_.out.law HW.out)).mono ?_
  rintro e w4 ⟨rfl, hb⟩
  have HV4 := hide (HV3_.out.below hb)
  clear hb HV3_
  obtain ⟨c43, c44, c45, c46, c47, c48⟩ := HV4.out.at6 2 rfl
  obtain ⟨c49, c50, c51⟩ := HV4.out.at3 1 rfl
  go_wp2_with fail
  clear c43 c44 c45 c46 c47 c48 c49 c50 c51
  refine (Hh6.out _ (HV4.out.law HW.out)).mono ?_
  rintro e w5 ⟨rfl, hb⟩
  have HV5 := hide (HV4.out.below hb)
  clear hb HV4
  go_wp2_with fail
  go_ret
  exact ⟨rfl, HV5.out.bel⟩
set_option maxHeartbeats 8000000 in
set_option maxRecDepth 100000 in
theorem meets_3 (g1 : Bool) (s1 t1 : ByteArray) (g2 : Bool) (s2 t2 : ByteArray) (g3 : Bool) (s3 t3 : ByteArray) (g4 : Bool) (s4 t4 : ByteArray) (g5 : Bool) (s5 t5 : ByteArray) (g6 : Bool) (s6 t6 : ByteArray) (g7 : Bool) (s7 t7 : ByteArray) (w : World) (h1 : ∀ W, LawW W → Calls Tryz.prog 17 #[.agg #[.bool g1, .string s1, .string t1, .bool g2, .string s2, .string t2], .agg #[.bool g3, .string s3, .string t3, .bool g4, .string s4, .string t4]] W fun e w' => e = .returned (.tuple #[.agg #[.bool g6, .string s6, .string t6, .bool g7, .string s7, .string t7], .bool true]) ∧ Below W.heap.size W w') (h2 : ∀ W, LawW W → Calls Tryz.prog 19 #[.agg #[.bool g1, .string s1, .string t1, .bool g2, .string s2, .string t2]] W fun e w' => e = .returned (.bool true) ∧ Below W.heap.size W w') (h3 : ∀ W, LawW W → Calls Tryz.prog 19 #[.agg #[.bool g3, .string s3, .string t3, .bool g4, .string s4, .string t4]] W fun e w' => e = .returned (.bool true) ∧ Below W.heap.size W w') (h4 : ∀ W, LawW W → Calls Tryz.prog 19 #[.agg #[.bool g6, .string s6, .string t6, .bool g7, .string s7, .string t7]] W fun e w' => e = .returned (.bool true) ∧ Below W.heap.size W w') (h5 : ∀ W, LawW W → Calls Tryz.prog 21 #[.agg #[.bool g1, .string s1, .string t1, .bool g2, .string s2, .string t2], .agg #[.bool g5, .string s5, .string t5]] W fun e w' => e = .returned (.bool false) ∧ Below W.heap.size W w') (h7 : ∀ W, LawW W → Calls Tryz.prog 21 #[.agg #[.bool g6, .string s6, .string t6, .bool g7, .string s7, .string t7], .agg #[.bool g5, .string s5, .string t5]] W fun e w' => e = .returned (.bool false) ∧ Below W.heap.size W w') (hf : (fewI [((g1, s1, t1), (g2, s2, t2)), ((g3, s3, t3), (g4, s4, t4))] && fewQ 60 [(g5, s5, t5)]) = true) (hw : LawW w) :
    Calls Tryz.prog 7 #[.agg #[.bool g1, .string s1, .string t1, .bool g2, .string s2, .string t2], .agg #[.bool g3, .string s3, .string t3, .bool g4, .string s4, .string t4], .agg #[.bool g5, .string s5, .string t5]] w fun e w' => e = .returned (.bool true) ∧ Below w.heap.size w w' := by
  have Hh1 := hide h1
  have Hh2 := hide h2
  have Hh3 := hide h3
  have Hh4 := hide h4
  have Hh5 := hide h5
  have Hh7 := hide h7
  have HW := hide hw
  have HH := hide (fun W hW => law05_head W hW)
  have HF := hide (fun v u W h1 h2 => law05_few [((g1, s1, t1), (g2, s2, t2)), ((g3, s3, t3), (g4, s4, t4))] [(g5, s5, t5)] v u W h1 h2 (by show 2 ≤ maxLen; decide) (by show 1 ≤ 1000; decide))
  rw [hf] at HF

  have HV0 : Hid (VB w w []) := VB.nil w
  clear h1 h2 h3 h4 h5 h7 hw hf 
  go_enter Tryz.func7, Tryz.ntmps7
  have HV0_ := hide (HV0.out.push6 (b := w.heap.size) (by simp) (.bool g1) (.string s1) (.string t1) (.bool g2) (.string s2) (.string t2) 26)
  clear HV0
  have HV0__ := hide (HV0_.out.push6 (b := w.heap.size + 1) (by simp) (.bool g3) (.string s3) (.string t3) (.bool g4) (.string s4) (.string t4) 26)
  clear HV0_
  have HV0___ := hide (HV0__.out.push3 (b := w.heap.size + 2) (by simp) (.bool g5) (.string s5) (.string t5) 24)
  clear HV0__
  go_wp2_with fail
  refine (HH.out _ (HV0___.out.law HW.out)).mono ?_
  rintro e w1 ⟨rfl, hb⟩
  have HV1 := hide (HV0___.out.below hb)
  clear hb HV0___
  obtain ⟨c1, c2, c3, c4, c5, c6⟩ := HV1.out.at6 2 rfl
  obtain ⟨c7, c8, c9, c10, c11, c12⟩ := HV1.out.at6 1 rfl
  have hli : SliceOf vIv 6 (w1.alloc (.cells #[.bool g1, .string s1, .string t1, .bool g2, .string s2, .string t2, .bool g3, .string s3, .string t3, .bool g4, .string s4, .string t4] 26)) (.slice (some ⟨w1.heap.size, 0, none⟩) 2 2) [((g1, s1, t1), (g2, s2, t2)), ((g3, s3, t3), (g4, s4, t4))] := slice_lit_iv vIv_len w1 [((g1, s1, t1), (g2, s2, t2)), ((g3, s3, t3), (g4, s4, t4))] _ (show 2 ≤ maxLen by decide) (by simp) rfl rfl
  have HLI := hide hli
  clear hli
  have HV1_ := hide (HV1.out.anon (.cells #[.bool g1, .string s1, .string t1, .bool g2, .string s2, .string t2, .bool g3, .string s3, .string t3, .bool g4, .string s4, .string t4] 26))
  clear HV1
  obtain ⟨c13, c14, c15⟩ := HV1_.out.at3 0 rfl
  have hlq : SliceOf vQ 3 ((w1.alloc (.cells #[.bool g1, .string s1, .string t1, .bool g2, .string s2, .string t2, .bool g3, .string s3, .string t3, .bool g4, .string s4, .string t4] 26)).alloc (.cells #[.bool g5, .string s5, .string t5] 24)) (.slice (some ⟨w1.heap.size + 1, 0, none⟩) 1 1) [(g5, s5, t5)] := slice_lit_iv vQ_len (w1.alloc (.cells #[.bool g1, .string s1, .string t1, .bool g2, .string s2, .string t2, .bool g3, .string s3, .string t3, .bool g4, .string s4, .string t4] 26)) [(g5, s5, t5)] _ (show 1 ≤ maxLen by decide) (by simp) rfl rfl
  have HLQ := hide hlq
  clear hlq
  have HV1__ := hide (HV1_.out.anon (.cells #[.bool g5, .string s5, .string t5] 24))
  clear HV1_
  go_wp2_with fail
  clear c1 c2 c3 c4 c5 c6 c7 c8 c9 c10 c11 c12 c13 c14 c15
  refine (HF.out _ _ _ (HLI.out.below (bAlloc (Below.refl _ _) _)) HLQ.out).mono ?_
  rintro e w2 ⟨rfl, hb⟩
  have HV2 := hide (HV1__.out.below hb)
  clear hb HV1__ HF HLI HLQ
  obtain ⟨c16, c17, c18, c19, c20, c21⟩ := HV2.out.at6 2 rfl
  obtain ⟨c22, c23, c24, c25, c26, c27⟩ := HV2.out.at6 1 rfl
  go_wp2_with fail
  clear c16 c17 c18 c19 c20 c21 c22 c23 c24 c25 c26 c27
  refine (Hh1.out _ (HV2.out.law HW.out)).mono ?_
  rintro e w3 ⟨rfl, hb⟩
  have HV3 := hide (HV2.out.below hb)
  clear hb HV2
  have HV3_ := hide (HV3.out.push6 (b := w3.heap.size) (by simp) (.bool g6) (.string s6) (.string t6) (.bool g7) (.string s7) (.string t7) 26)
  clear HV3
  obtain ⟨c28, c29, c30, c31, c32, c33⟩ := HV3_.out.at6 0 rfl
  obtain ⟨c34, c35, c36, c37, c38, c39⟩ := HV3_.out.at6 3 rfl
  go_wp2_with fail
  clear c28 c29 c30 c31 c32 c33 c34 c35 c36 c37 c38 c39
  refine (Hh2.out _ (HV3_.out.law HW.out)).mono ?_
  rintro e w4 ⟨rfl, hb⟩
  have HV4 := hide (HV3_.out.below hb)
  clear hb HV3_
  obtain ⟨c40, c41, c42, c43, c44, c45⟩ := HV4.out.at6 2 rfl
  go_wp2_with fail
  clear c40 c41 c42 c43 c44 c45
  refine (Hh3.out _ (HV4.out.law HW.out)).mono ?_
  rintro e w5 ⟨rfl, hb⟩
  have HV5 := hide (HV4.out.below hb)
  clear hb HV4
  obtain ⟨c46, c47, c48, c49, c50, c51⟩ := HV5.out.at6 0 rfl
  go_wp2_with fail
  clear c46 c47 c48 c49 c50 c51
  refine (Hh4.out _ (HV5.out.law HW.out)).mono ?_
  rintro e w6 ⟨rfl, hb⟩
  have HV6 := hide (HV5.out.below hb)
  clear hb HV5
  obtain ⟨c52, c53, c54, c55, c56, c57⟩ := HV6.out.at6 3 rfl
  obtain ⟨c58, c59, c60⟩ := HV6.out.at3 1 rfl
  go_wp2_with fail
  clear c52 c53 c54 c55 c56 c57 c58 c59 c60
  refine (Hh5.out _ (HV6.out.law HW.out)).mono ?_
  rintro e w7 ⟨rfl, hb⟩
  have HV7 := hide (HV6.out.below hb)
  clear hb HV6
  obtain ⟨c61, c62, c63, c64, c65, c66⟩ := HV7.out.at6 0 rfl
  obtain ⟨c67, c68, c69⟩ := HV7.out.at3 1 rfl
  go_wp2_with fail
  clear c61 c62 c63 c64 c65 c66 c67 c68 c69
  refine (Hh7.out _ (HV7.out.law HW.out)).mono ?_
  rintro e w8 ⟨rfl, hb⟩
  have HV8 := hide (HV7.out.below hb)
  clear hb HV7
  go_wp2_with fail
  go_ret
  exact ⟨rfl, HV8.out.bel⟩
set_option maxHeartbeats 8000000 in
set_option maxRecDepth 100000 in
theorem meets_4 (g1 : Bool) (s1 t1 : ByteArray) (g2 : Bool) (s2 t2 : ByteArray) (g3 : Bool) (s3 t3 : ByteArray) (g4 : Bool) (s4 t4 : ByteArray) (g5 : Bool) (s5 t5 : ByteArray) (g6 : Bool) (s6 t6 : ByteArray) (g7 : Bool) (s7 t7 : ByteArray) (w : World) (h1 : ∀ W, LawW W → Calls Tryz.prog 17 #[.agg #[.bool g1, .string s1, .string t1, .bool g2, .string s2, .string t2], .agg #[.bool g3, .string s3, .string t3, .bool g4, .string s4, .string t4]] W fun e w' => e = .returned (.tuple #[.agg #[.bool g6, .string s6, .string t6, .bool g7, .string s7, .string t7], .bool true]) ∧ Below W.heap.size W w') (h2 : ∀ W, LawW W → Calls Tryz.prog 19 #[.agg #[.bool g1, .string s1, .string t1, .bool g2, .string s2, .string t2]] W fun e w' => e = .returned (.bool true) ∧ Below W.heap.size W w') (h3 : ∀ W, LawW W → Calls Tryz.prog 19 #[.agg #[.bool g3, .string s3, .string t3, .bool g4, .string s4, .string t4]] W fun e w' => e = .returned (.bool true) ∧ Below W.heap.size W w') (h4 : ∀ W, LawW W → Calls Tryz.prog 19 #[.agg #[.bool g6, .string s6, .string t6, .bool g7, .string s7, .string t7]] W fun e w' => e = .returned (.bool true) ∧ Below W.heap.size W w') (h5 : ∀ W, LawW W → Calls Tryz.prog 21 #[.agg #[.bool g1, .string s1, .string t1, .bool g2, .string s2, .string t2], .agg #[.bool g5, .string s5, .string t5]] W fun e w' => e = .returned (.bool true) ∧ Below W.heap.size W w') (h6 : ∀ W, LawW W → Calls Tryz.prog 21 #[.agg #[.bool g3, .string s3, .string t3, .bool g4, .string s4, .string t4], .agg #[.bool g5, .string s5, .string t5]] W fun e w' => e = .returned (.bool false) ∧ Below W.heap.size W w') (h7 : ∀ W, LawW W → Calls Tryz.prog 21 #[.agg #[.bool g6, .string s6, .string t6, .bool g7, .string s7, .string t7], .agg #[.bool g5, .string s5, .string t5]] W fun e w' => e = .returned (.bool false) ∧ Below W.heap.size W w') (hf : (fewI [((g1, s1, t1), (g2, s2, t2)), ((g3, s3, t3), (g4, s4, t4))] && fewQ 60 [(g5, s5, t5)]) = true) (hw : LawW w) :
    Calls Tryz.prog 7 #[.agg #[.bool g1, .string s1, .string t1, .bool g2, .string s2, .string t2], .agg #[.bool g3, .string s3, .string t3, .bool g4, .string s4, .string t4], .agg #[.bool g5, .string s5, .string t5]] w fun e w' => e = .returned (.bool true) ∧ Below w.heap.size w w' := by
  have Hh1 := hide h1
  have Hh2 := hide h2
  have Hh3 := hide h3
  have Hh4 := hide h4
  have Hh5 := hide h5
  have Hh6 := hide h6
  have Hh7 := hide h7
  have HW := hide hw
  have HH := hide (fun W hW => law05_head W hW)
  have HF := hide (fun v u W h1 h2 => law05_few [((g1, s1, t1), (g2, s2, t2)), ((g3, s3, t3), (g4, s4, t4))] [(g5, s5, t5)] v u W h1 h2 (by show 2 ≤ maxLen; decide) (by show 1 ≤ 1000; decide))
  rw [hf] at HF

  have HV0 : Hid (VB w w []) := VB.nil w
  clear h1 h2 h3 h4 h5 h6 h7 hw hf 
  go_enter Tryz.func7, Tryz.ntmps7
  have HV0_ := hide (HV0.out.push6 (b := w.heap.size) (by simp) (.bool g1) (.string s1) (.string t1) (.bool g2) (.string s2) (.string t2) 26)
  clear HV0
  have HV0__ := hide (HV0_.out.push6 (b := w.heap.size + 1) (by simp) (.bool g3) (.string s3) (.string t3) (.bool g4) (.string s4) (.string t4) 26)
  clear HV0_
  have HV0___ := hide (HV0__.out.push3 (b := w.heap.size + 2) (by simp) (.bool g5) (.string s5) (.string t5) 24)
  clear HV0__
  go_wp2_with fail
  refine (HH.out _ (HV0___.out.law HW.out)).mono ?_
  rintro e w1 ⟨rfl, hb⟩
  have HV1 := hide (HV0___.out.below hb)
  clear hb HV0___
  obtain ⟨c1, c2, c3, c4, c5, c6⟩ := HV1.out.at6 2 rfl
  obtain ⟨c7, c8, c9, c10, c11, c12⟩ := HV1.out.at6 1 rfl
  have hli : SliceOf vIv 6 (w1.alloc (.cells #[.bool g1, .string s1, .string t1, .bool g2, .string s2, .string t2, .bool g3, .string s3, .string t3, .bool g4, .string s4, .string t4] 26)) (.slice (some ⟨w1.heap.size, 0, none⟩) 2 2) [((g1, s1, t1), (g2, s2, t2)), ((g3, s3, t3), (g4, s4, t4))] := slice_lit_iv vIv_len w1 [((g1, s1, t1), (g2, s2, t2)), ((g3, s3, t3), (g4, s4, t4))] _ (show 2 ≤ maxLen by decide) (by simp) rfl rfl
  have HLI := hide hli
  clear hli
  have HV1_ := hide (HV1.out.anon (.cells #[.bool g1, .string s1, .string t1, .bool g2, .string s2, .string t2, .bool g3, .string s3, .string t3, .bool g4, .string s4, .string t4] 26))
  clear HV1
  obtain ⟨c13, c14, c15⟩ := HV1_.out.at3 0 rfl
  have hlq : SliceOf vQ 3 ((w1.alloc (.cells #[.bool g1, .string s1, .string t1, .bool g2, .string s2, .string t2, .bool g3, .string s3, .string t3, .bool g4, .string s4, .string t4] 26)).alloc (.cells #[.bool g5, .string s5, .string t5] 24)) (.slice (some ⟨w1.heap.size + 1, 0, none⟩) 1 1) [(g5, s5, t5)] := slice_lit_iv vQ_len (w1.alloc (.cells #[.bool g1, .string s1, .string t1, .bool g2, .string s2, .string t2, .bool g3, .string s3, .string t3, .bool g4, .string s4, .string t4] 26)) [(g5, s5, t5)] _ (show 1 ≤ maxLen by decide) (by simp) rfl rfl
  have HLQ := hide hlq
  clear hlq
  have HV1__ := hide (HV1_.out.anon (.cells #[.bool g5, .string s5, .string t5] 24))
  clear HV1_
  go_wp2_with fail
  clear c1 c2 c3 c4 c5 c6 c7 c8 c9 c10 c11 c12 c13 c14 c15
  refine (HF.out _ _ _ (HLI.out.below (bAlloc (Below.refl _ _) _)) HLQ.out).mono ?_
  rintro e w2 ⟨rfl, hb⟩
  have HV2 := hide (HV1__.out.below hb)
  clear hb HV1__ HF HLI HLQ
  obtain ⟨c16, c17, c18, c19, c20, c21⟩ := HV2.out.at6 2 rfl
  obtain ⟨c22, c23, c24, c25, c26, c27⟩ := HV2.out.at6 1 rfl
  go_wp2_with fail
  clear c16 c17 c18 c19 c20 c21 c22 c23 c24 c25 c26 c27
  refine (Hh1.out _ (HV2.out.law HW.out)).mono ?_
  rintro e w3 ⟨rfl, hb⟩
  have HV3 := hide (HV2.out.below hb)
  clear hb HV2
  have HV3_ := hide (HV3.out.push6 (b := w3.heap.size) (by simp) (.bool g6) (.string s6) (.string t6) (.bool g7) (.string s7) (.string t7) 26)
  clear HV3
  obtain ⟨c28, c29, c30, c31, c32, c33⟩ := HV3_.out.at6 0 rfl
  obtain ⟨c34, c35, c36, c37, c38, c39⟩ := HV3_.out.at6 3 rfl
  go_wp2_with fail
  clear c28 c29 c30 c31 c32 c33 c34 c35 c36 c37 c38 c39
  refine (Hh2.out _ (HV3_.out.law HW.out)).mono ?_
  rintro e w4 ⟨rfl, hb⟩
  have HV4 := hide (HV3_.out.below hb)
  clear hb HV3_
  obtain ⟨c40, c41, c42, c43, c44, c45⟩ := HV4.out.at6 2 rfl
  go_wp2_with fail
  clear c40 c41 c42 c43 c44 c45
  refine (Hh3.out _ (HV4.out.law HW.out)).mono ?_
  rintro e w5 ⟨rfl, hb⟩
  have HV5 := hide (HV4.out.below hb)
  clear hb HV4
  obtain ⟨c46, c47, c48, c49, c50, c51⟩ := HV5.out.at6 0 rfl
  go_wp2_with fail
  clear c46 c47 c48 c49 c50 c51
  refine (Hh4.out _ (HV5.out.law HW.out)).mono ?_
  rintro e w6 ⟨rfl, hb⟩
  have HV6 := hide (HV5.out.below hb)
  clear hb HV5
  obtain ⟨c52, c53, c54, c55, c56, c57⟩ := HV6.out.at6 3 rfl
  obtain ⟨c58, c59, c60⟩ := HV6.out.at3 1 rfl
  go_wp2_with fail
  clear c52 c53 c54 c55 c56 c57 c58 c59 c60
  refine (Hh5.out _ (HV6.out.law HW.out)).mono ?_
  rintro e w7 ⟨rfl, hb⟩
  have HV7 := hide (HV6.out.below hb)
  clear hb HV6
  obtain ⟨c61, c62, c63, c64, c65, c66⟩ := HV7.out.at6 2 rfl
  obtain ⟨c67, c68, c69⟩ := HV7.out.at3 1 rfl
  go_wp2_with fail
  clear c61 c62 c63 c64 c65 c66 c67 c68 c69
  refine (Hh6.out _ (HV7.out.law HW.out)).mono ?_
  rintro e w8 ⟨rfl, hb⟩
  have HV8 := hide (HV7.out.below hb)
  clear hb HV7
  obtain ⟨c70, c71, c72, c73, c74, c75⟩ := HV8.out.at6 0 rfl
  obtain ⟨c76, c77, c78⟩ := HV8.out.at3 1 rfl
  go_wp2_with fail
  clear c70 c71 c72 c73 c74 c75 c76 c77 c78
  refine (Hh7.out _ (HV8.out.law HW.out)).mono ?_
  rintro e w9 ⟨rfl, hb⟩
  have HV9 := hide (HV8.out.below hb)
  clear hb HV8
  go_wp2_with fail
  go_ret
  exact ⟨rfl, HV9.out.bel⟩
set_option maxHeartbeats 8000000 in
set_option maxRecDepth 100000 in
theorem meets_5 (g1 : Bool) (s1 t1 : ByteArray) (g2 : Bool) (s2 t2 : ByteArray) (g3 : Bool) (s3 t3 : ByteArray) (g4 : Bool) (s4 t4 : ByteArray) (g5 : Bool) (s5 t5 : ByteArray) (g6 : Bool) (s6 t6 : ByteArray) (g7 : Bool) (s7 t7 : ByteArray) (w : World) (h1 : ∀ W, LawW W → Calls Tryz.prog 17 #[.agg #[.bool g1, .string s1, .string t1, .bool g2, .string s2, .string t2], .agg #[.bool g3, .string s3, .string t3, .bool g4, .string s4, .string t4]] W fun e w' => e = .returned (.tuple #[.agg #[.bool g6, .string s6, .string t6, .bool g7, .string s7, .string t7], .bool true]) ∧ Below W.heap.size W w') (h2 : ∀ W, LawW W → Calls Tryz.prog 19 #[.agg #[.bool g1, .string s1, .string t1, .bool g2, .string s2, .string t2]] W fun e w' => e = .returned (.bool true) ∧ Below W.heap.size W w') (h3 : ∀ W, LawW W → Calls Tryz.prog 19 #[.agg #[.bool g3, .string s3, .string t3, .bool g4, .string s4, .string t4]] W fun e w' => e = .returned (.bool true) ∧ Below W.heap.size W w') (h4 : ∀ W, LawW W → Calls Tryz.prog 19 #[.agg #[.bool g6, .string s6, .string t6, .bool g7, .string s7, .string t7]] W fun e w' => e = .returned (.bool true) ∧ Below W.heap.size W w') (h5 : ∀ W, LawW W → Calls Tryz.prog 21 #[.agg #[.bool g1, .string s1, .string t1, .bool g2, .string s2, .string t2], .agg #[.bool g5, .string s5, .string t5]] W fun e w' => e = .returned (.bool true) ∧ Below W.heap.size W w') (h6 : ∀ W, LawW W → Calls Tryz.prog 21 #[.agg #[.bool g3, .string s3, .string t3, .bool g4, .string s4, .string t4], .agg #[.bool g5, .string s5, .string t5]] W fun e w' => e = .returned (.bool true) ∧ Below W.heap.size W w') (h7 : ∀ W, LawW W → Calls Tryz.prog 21 #[.agg #[.bool g6, .string s6, .string t6, .bool g7, .string s7, .string t7], .agg #[.bool g5, .string s5, .string t5]] W fun e w' => e = .returned (.bool true) ∧ Below W.heap.size W w') (hf : (fewI [((g1, s1, t1), (g2, s2, t2)), ((g3, s3, t3), (g4, s4, t4))] && fewQ 60 [(g5, s5, t5)]) = true) (hw : LawW w) :
    Calls Tryz.prog 7 #[.agg #[.bool g1, .string s1, .string t1, .bool g2, .string s2, .string t2], .agg #[.bool g3, .string s3, .string t3, .bool g4, .string s4, .string t4], .agg #[.bool g5, .string s5, .string t5]] w fun e w' => e = .returned (.bool true) ∧ Below w.heap.size w w' := by
  have Hh1 := hide h1
  have Hh2 := hide h2
  have Hh3 := hide h3
  have Hh4 := hide h4
  have Hh5 := hide h5
  have Hh6 := hide h6
  have Hh7 := hide h7
  have HW := hide hw
  have HH := hide (fun W hW => law05_head W hW)
  have HF := hide (fun v u W h1 h2 => law05_few [((g1, s1, t1), (g2, s2, t2)), ((g3, s3, t3), (g4, s4, t4))] [(g5, s5, t5)] v u W h1 h2 (by show 2 ≤ maxLen; decide) (by show 1 ≤ 1000; decide))
  rw [hf] at HF

  have HV0 : Hid (VB w w []) := VB.nil w
  clear h1 h2 h3 h4 h5 h6 h7 hw hf 
  go_enter Tryz.func7, Tryz.ntmps7
  have HV0_ := hide (HV0.out.push6 (b := w.heap.size) (by simp) (.bool g1) (.string s1) (.string t1) (.bool g2) (.string s2) (.string t2) 26)
  clear HV0
  have HV0__ := hide (HV0_.out.push6 (b := w.heap.size + 1) (by simp) (.bool g3) (.string s3) (.string t3) (.bool g4) (.string s4) (.string t4) 26)
  clear HV0_
  have HV0___ := hide (HV0__.out.push3 (b := w.heap.size + 2) (by simp) (.bool g5) (.string s5) (.string t5) 24)
  clear HV0__
  go_wp2_with fail
  refine (HH.out _ (HV0___.out.law HW.out)).mono ?_
  rintro e w1 ⟨rfl, hb⟩
  have HV1 := hide (HV0___.out.below hb)
  clear hb HV0___
  obtain ⟨c1, c2, c3, c4, c5, c6⟩ := HV1.out.at6 2 rfl
  obtain ⟨c7, c8, c9, c10, c11, c12⟩ := HV1.out.at6 1 rfl
  have hli : SliceOf vIv 6 (w1.alloc (.cells #[.bool g1, .string s1, .string t1, .bool g2, .string s2, .string t2, .bool g3, .string s3, .string t3, .bool g4, .string s4, .string t4] 26)) (.slice (some ⟨w1.heap.size, 0, none⟩) 2 2) [((g1, s1, t1), (g2, s2, t2)), ((g3, s3, t3), (g4, s4, t4))] := slice_lit_iv vIv_len w1 [((g1, s1, t1), (g2, s2, t2)), ((g3, s3, t3), (g4, s4, t4))] _ (show 2 ≤ maxLen by decide) (by simp) rfl rfl
  have HLI := hide hli
  clear hli
  have HV1_ := hide (HV1.out.anon (.cells #[.bool g1, .string s1, .string t1, .bool g2, .string s2, .string t2, .bool g3, .string s3, .string t3, .bool g4, .string s4, .string t4] 26))
  clear HV1
  obtain ⟨c13, c14, c15⟩ := HV1_.out.at3 0 rfl
  have hlq : SliceOf vQ 3 ((w1.alloc (.cells #[.bool g1, .string s1, .string t1, .bool g2, .string s2, .string t2, .bool g3, .string s3, .string t3, .bool g4, .string s4, .string t4] 26)).alloc (.cells #[.bool g5, .string s5, .string t5] 24)) (.slice (some ⟨w1.heap.size + 1, 0, none⟩) 1 1) [(g5, s5, t5)] := slice_lit_iv vQ_len (w1.alloc (.cells #[.bool g1, .string s1, .string t1, .bool g2, .string s2, .string t2, .bool g3, .string s3, .string t3, .bool g4, .string s4, .string t4] 26)) [(g5, s5, t5)] _ (show 1 ≤ maxLen by decide) (by simp) rfl rfl
  have HLQ := hide hlq
  clear hlq
  have HV1__ := hide (HV1_.out.anon (.cells #[.bool g5, .string s5, .string t5] 24))
  clear HV1_
  go_wp2_with fail
  clear c1 c2 c3 c4 c5 c6 c7 c8 c9 c10 c11 c12 c13 c14 c15
  refine (HF.out _ _ _ (HLI.out.below (bAlloc (Below.refl _ _) _)) HLQ.out).mono ?_
  rintro e w2 ⟨rfl, hb⟩
  have HV2 := hide (HV1__.out.below hb)
  clear hb HV1__ HF HLI HLQ
  obtain ⟨c16, c17, c18, c19, c20, c21⟩ := HV2.out.at6 2 rfl
  obtain ⟨c22, c23, c24, c25, c26, c27⟩ := HV2.out.at6 1 rfl
  go_wp2_with fail
  clear c16 c17 c18 c19 c20 c21 c22 c23 c24 c25 c26 c27
  refine (Hh1.out _ (HV2.out.law HW.out)).mono ?_
  rintro e w3 ⟨rfl, hb⟩
  have HV3 := hide (HV2.out.below hb)
  clear hb HV2
  have HV3_ := hide (HV3.out.push6 (b := w3.heap.size) (by simp) (.bool g6) (.string s6) (.string t6) (.bool g7) (.string s7) (.string t7) 26)
  clear HV3
  obtain ⟨c28, c29, c30, c31, c32, c33⟩ := HV3_.out.at6 0 rfl
  obtain ⟨c34, c35, c36, c37, c38, c39⟩ := HV3_.out.at6 3 rfl
  go_wp2_with fail
  clear c28 c29 c30 c31 c32 c33 c34 c35 c36 c37 c38 c39
  refine (Hh2.out _ (HV3_.out.law HW.out)).mono ?_
  rintro e w4 ⟨rfl, hb⟩
  have HV4 := hide (HV3_.out.below hb)
  clear hb HV3_
  obtain ⟨c40, c41, c42, c43, c44, c45⟩ := HV4.out.at6 2 rfl
  go_wp2_with fail
  clear c40 c41 c42 c43 c44 c45
  refine (Hh3.out _ (HV4.out.law HW.out)).mono ?_
  rintro e w5 ⟨rfl, hb⟩
  have HV5 := hide (HV4.out.below hb)
  clear hb HV4
  obtain ⟨c46, c47, c48, c49, c50, c51⟩ := HV5.out.at6 0 rfl
  go_wp2_with fail
  clear c46 c47 c48 c49 c50 c51
  refine (Hh4.out _ (HV5.out.law HW.out)).mono ?_
  rintro e w6 ⟨rfl, hb⟩
  have HV6 := hide (HV5.out.below hb)
  clear hb HV5
  obtain ⟨c52, c53, c54, c55, c56, c57⟩ := HV6.out.at6 3 rfl
  obtain ⟨c58, c59, c60⟩ := HV6.out.at3 1 rfl
  go_wp2_with fail
  clear c52 c53 c54 c55 c56 c57 c58 c59 c60
  refine (Hh5.out _ (HV6.out.law HW.out)).mono ?_
  rintro e w7 ⟨rfl, hb⟩
  have HV7 := hide (HV6.out.below hb)
  clear hb HV6
  obtain ⟨c61, c62, c63, c64, c65, c66⟩ := HV7.out.at6 2 rfl
  obtain ⟨c67, c68, c69⟩ := HV7.out.at3 1 rfl
  go_wp2_with fail
  clear c61 c62 c63 c64 c65 c66 c67 c68 c69
  refine (Hh6.out _ (HV7.out.law HW.out)).mono ?_
  rintro e w8 ⟨rfl, hb⟩
  have HV8 := hide (HV7.out.below hb)
  clear hb HV7
  obtain ⟨c70, c71, c72, c73, c74, c75⟩ := HV8.out.at6 0 rfl
  obtain ⟨c76, c77, c78⟩ := HV8.out.at3 1 rfl
  go_wp2_with fail
  clear c70 c71 c72 c73 c74 c75 c76 c77 c78
  refine (Hh7.out _ (HV8.out.law HW.out)).mono ?_
  rintro e w9 ⟨rfl, hb⟩
  have HV9 := hide (HV8.out.below hb)
  clear hb HV8
  go_wp2_with fail
  go_ret
  exact ⟨rfl, HV9.out.bel⟩
theorem intervalMeets (a c : Q3 × Q3) (r : Q3) (W : World) (hW : LawW W) : Calls Tryz.prog 7 #[iArg a, iArg c, qArg r] W fun e w' => e = .returned (.bool true) ∧ Below W.heap.size W w' := by
  obtain ⟨f, hf⟩ : ∃ f, (fewI [a, c] && fewQ 60 [r]) = f := ⟨_, rfl⟩
  cases f
  · exact meets_0 _ _ _ _ _ _ _ _ _ _ _ _ _ _ _ W hf hW
  have hf' := hf
  rw [Bool.and_eq_true] at hf
  obtain ⟨sa, sc⟩ := fewI_two hf.1
  have sr := fewQ_sh hf.2 r (by simp)
  have ha := has_cases a r sa sr
  have hc := has_cases c r sc sr
  have done1 : RetC 17 #[iArg a, iArg c] (.tuple #[zI, .bool false]) → (RetC 21 #[iArg a, qArg r] (.bool true) → RetC 21 #[iArg c, qArg r] (.bool false)) → Calls Tryz.prog 7 #[iArg a, iArg c, qArg r] W fun e w' => e = .returned (.bool true) ∧ Below W.heap.size W w' := fun h1 h2 => by
    rcases ha with h | ⟨_, _, _, _, h⟩
    · exact meets_1 _ _ _ _ _ _ _ _ _ _ _ _ _ _ _ W h1 h hf' hW
    · exact meets_2 _ _ _ _ _ _ _ _ _ _ _ _ _ _ _ W h1 h (h2 h) hf' hW
  obtain ⟨⟨z1, z2⟩, z3, z4⟩ := sa
  obtain ⟨⟨y1, y2⟩, y3, y4⟩ := sc
  rcases ivx_cases a z1 z2 z3 z4 with oa | ⟨na, va⟩
  · rcases ivx_cases c y1 y2 y3 y4 with oc | ⟨nc, vc⟩
    · obtain ⟨x, hx⟩ : ∃ x, x = if qv a.1 < qv c.1 then c.1 else a.1 := ⟨_, rfl⟩
      obtain ⟨y, hy⟩ : ∃ y, y = if qv c.2 < qv a.2 then c.2 else a.2 := ⟨_, rfl⟩
      have h1 := c_meet oa oc (by omega) (by omega) hx hy
      have xx : IsX 60 x := by rw [hx]; split <;> first | exact oc.lo | exact oa.lo
      have xy : IsX 60 y := by rw [hy]; split <;> first | exact oc.hi | exact oa.hi
      have l1 : ∀ q, qv x ≤ q ↔ qv a.1 ≤ q ∧ qv c.1 ≤ q := fun q => by
        rw [hx]; split <;> constructor <;> intro h <;> grind
      have l2 : ∀ q, q ≤ qv y ↔ q ≤ qv a.2 ∧ q ≤ qv c.2 := fun q => by
        rw [hy]; split <;> constructor <;> intro h <;> grind
      by_cases hle : qv x ≤ qv y
      · rw [if_pos hle] at h1
        have om : IvOk 60 (x, y) := ⟨xx, xy, hle⟩
        have va := ivx_ok oa (by omega)
        have vc := ivx_ok oc (by omega)
        have vm := ivx_ok om (by omega)
        rcases isx_cases r sr with xr | nr
        · have ka := c_contains oa xr (by omega) (by omega)
          have kc := c_contains oc xr (by omega) (by omega)
          have km := c_contains om xr (by omega) (by omega)
          by_cases p1 : qv a.1 ≤ qv r ∧ qv r ≤ qv a.2
          · rw [decide_eq_true p1] at ka
            by_cases p2 : qv c.1 ≤ qv r ∧ qv r ≤ qv c.2
            · rw [decide_eq_true p2] at kc
              rw [decide_eq_true (⟨(l1 _).2 ⟨p1.1, p2.1⟩, (l2 _).2 ⟨p1.2, p2.2⟩⟩ : qv (x, y).1 ≤ qv r ∧ qv r ≤ qv (x, y).2)] at km
              exact meets_5 _ _ _ _ _ _ _ _ _ _ _ _ _ _ _ x.1 x.2.1 x.2.2 y.1 y.2.1 y.2.2 W h1 va vc vm ka kc km hf' hW
            · rw [decide_eq_false p2] at kc
              rw [decide_eq_false (fun h => p2 ⟨((l1 _).1 h.1).2, ((l2 _).1 h.2).2⟩)] at km
              exact meets_4 _ _ _ _ _ _ _ _ _ _ _ _ _ _ _ x.1 x.2.1 x.2.2 y.1 y.2.1 y.2.2 W h1 va vc vm ka kc km hf' hW
          · rw [decide_eq_false p1] at ka
            rw [decide_eq_false (fun h => p1 ⟨((l1 _).1 h.1).1, ((l2 _).1 h.2).1⟩)] at km
            exact meets_3 _ _ _ _ _ _ _ _ _ _ _ _ _ _ _ x.1 x.2.1 x.2.2 y.1 y.2.1 y.2.2 W h1 va vc vm ka km hf' hW
        · have ka := c_contains_bad (.inr ⟨va, nr⟩)
          have km := c_contains_bad (.inr ⟨vm, nr⟩)
          exact meets_3 _ _ _ _ _ _ _ _ _ _ _ _ _ _ _ x.1 x.2.1 x.2.2 y.1 y.2.1 y.2.2 W h1 va vc vm ka km hf' hW
      · rw [if_neg hle] at h1
        rcases ha with h | ⟨_, _, p1, p2, h⟩
        · exact meets_1 _ _ _ _ _ _ _ _ _ _ _ _ _ _ _ W h1 h hf' hW
        rcases hc with h' | ⟨_, _, p3, p4, _⟩
        · exact meets_2 _ _ _ _ _ _ _ _ _ _ _ _ _ _ _ W h1 h h' hf' hW
        · exact absurd (Rat.le_trans ((l1 _).2 ⟨p1, p3⟩) ((l2 _).2 ⟨p2, p4⟩)) hle
    · exact done1 (c_meet_bad (.inr ⟨ivx_ok oa (by omega), vc⟩)) fun _ => c_contains_bad (.inl vc)
  · refine meets_1 _ _ _ _ _ _ _ _ _ _ _ _ _ _ _ W (c_meet_bad (.inl va)) (c_contains_bad (.inl va)) hf' hW
end Go.Proofs.YtbojlmnajndleaaGreatDoor
namespace Go.Proofs.YtbojlmnajndleaaGreatDoor
open Go.RowKit Go.Sort

set_option maxHeartbeats 8000000 in
set_option maxRecDepth 100000 in
theorem iorder_0 (g1 : Bool) (s1 t1 : ByteArray) (g2 : Bool) (s2 t2 : ByteArray) (g3 : Bool) (s3 t3 : ByteArray) (g4 : Bool) (s4 t4 : ByteArray) (g5 : Bool) (s5 t5 : ByteArray) (g6 : Bool) (s6 t6 : ByteArray) (w : World) (hf : (fewI [((g1, s1, t1), (g2, s2, t2)), ((g3, s3, t3), (g4, s4, t4)), ((g5, s5, t5), (g6, s6, t6))] && fewQ 60 []) = false) (hw : LawW w) :
    Calls Tryz.prog 8 #[.agg #[.bool g1, .string s1, .string t1, .bool g2, .string s2, .string t2], .agg #[.bool g3, .string s3, .string t3, .bool g4, .string s4, .string t4], .agg #[.bool g5, .string s5, .string t5, .bool g6, .string s6, .string t6]] w fun e w' => e = .returned (.bool true) ∧ Below w.heap.size w w' := by
  have HW := hide hw
  have HH := hide (fun W hW => law05_head W hW)
  have HF := hide (fun v u W h1 h2 => law05_few [((g1, s1, t1), (g2, s2, t2)), ((g3, s3, t3), (g4, s4, t4)), ((g5, s5, t5), (g6, s6, t6))] [] v u W h1 h2 (by show 3 ≤ maxLen; decide) (by show 0 ≤ 1000; decide))
  rw [hf] at HF

  have HV0 : Hid (VB w w []) := VB.nil w
  clear hw hf 
  go_enter Tryz.func8, Tryz.ntmps8
  have HV0_ := hide (HV0.out.push6 (b := w.heap.size) (by simp) (.bool g1) (.string s1) (.string t1) (.bool g2) (.string s2) (.string t2) 26)
  clear HV0
  have HV0__ := hide (HV0_.out.push6 (b := w.heap.size + 1) (by simp) (.bool g3) (.string s3) (.string t3) (.bool g4) (.string s4) (.string t4) 26)
  clear HV0_
  have HV0___ := hide (HV0__.out.push6 (b := w.heap.size + 2) (by simp) (.bool g5) (.string s5) (.string t5) (.bool g6) (.string s6) (.string t6) 26)
  clear HV0__
  go_wp2_with fail
  refine (HH.out _ (HV0___.out.law HW.out)).mono ?_
  rintro e w1 ⟨rfl, hb⟩
  have HV1 := hide (HV0___.out.below hb)
  clear hb HV0___
  obtain ⟨c1, c2, c3, c4, c5, c6⟩ := HV1.out.at6 2 rfl
  obtain ⟨c7, c8, c9, c10, c11, c12⟩ := HV1.out.at6 1 rfl
  obtain ⟨c13, c14, c15, c16, c17, c18⟩ := HV1.out.at6 0 rfl
  have hli : SliceOf vIv 6 (w1.alloc (.cells #[.bool g1, .string s1, .string t1, .bool g2, .string s2, .string t2, .bool g3, .string s3, .string t3, .bool g4, .string s4, .string t4, .bool g5, .string s5, .string t5, .bool g6, .string s6, .string t6] 26)) (.slice (some ⟨w1.heap.size, 0, none⟩) 3 3) [((g1, s1, t1), (g2, s2, t2)), ((g3, s3, t3), (g4, s4, t4)), ((g5, s5, t5), (g6, s6, t6))] := slice_lit_iv vIv_len w1 [((g1, s1, t1), (g2, s2, t2)), ((g3, s3, t3), (g4, s4, t4)), ((g5, s5, t5), (g6, s6, t6))] _ (show 3 ≤ maxLen by decide) (by simp) rfl rfl
  have HLI := hide hli
  clear hli
  have HV1_ := hide (HV1.out.anon (.cells #[.bool g1, .string s1, .string t1, .bool g2, .string s2, .string t2, .bool g3, .string s3, .string t3, .bool g4, .string s4, .string t4, .bool g5, .string s5, .string t5, .bool g6, .string s6, .string t6] 26))
  clear HV1
  go_wp2_with fail
  clear c1 c2 c3 c4 c5 c6 c7 c8 c9 c10 c11 c12 c13 c14 c15 c16 c17 c18
  refine (HF.out _ _ _ HLI.out (slice_nil _)).mono ?_
  rintro e w2 ⟨rfl, hb⟩
  have HV2 := hide (HV1_.out.below hb)
  clear hb HV1_ HF HLI
  go_wp2_with fail
  go_ret
  exact ⟨rfl, HV2.out.bel⟩
set_option maxHeartbeats 8000000 in
set_option maxRecDepth 100000 in
theorem iorder_1 (g1 : Bool) (s1 t1 : ByteArray) (g2 : Bool) (s2 t2 : ByteArray) (g3 : Bool) (s3 t3 : ByteArray) (g4 : Bool) (s4 t4 : ByteArray) (g5 : Bool) (s5 t5 : ByteArray) (g6 : Bool) (s6 t6 : ByteArray) (g7 : Bool) (s7 t7 : ByteArray) (g8 : Bool) (s8 t8 : ByteArray) (g9 : Bool) (s9 t9 : ByteArray) (g10 : Bool) (s10 t10 : ByteArray) (g11 : Bool) (s11 t11 : ByteArray) (g12 : Bool) (s12 t12 : ByteArray) (k1 k2 : Int) (b : Bool) (w : World) (h1 : ∀ W, LawW W → Calls Tryz.prog 11 #[.agg #[.bool g1, .string s1, .string t1, .bool g2, .string s2, .string t2], .agg #[.bool g3, .string s3, .string t3, .bool g4, .string s4, .string t4]] W fun e w' => e = .returned (.tuple #[.agg #[.bool g7, .string s7, .string t7, .bool g8, .string s8, .string t8], .int .i64 k1]) ∧ Below W.heap.size W w') (h2 : ∀ W, LawW W → Calls Tryz.prog 11 #[.agg #[.bool g3, .string s3, .string t3, .bool g4, .string s4, .string t4], .agg #[.bool g1, .string s1, .string t1, .bool g2, .string s2, .string t2]] W fun e w' => e = .returned (.tuple #[.agg #[.bool g7, .string s7, .string t7, .bool g8, .string s8, .string t8], .int .i64 k1]) ∧ Below W.heap.size W w') (h3 : ∀ W, LawW W → Calls Tryz.prog 13 #[.agg #[.bool g1, .string s1, .string t1, .bool g2, .string s2, .string t2], .agg #[.bool g3, .string s3, .string t3, .bool g4, .string s4, .string t4]] W fun e w' => e = .returned (.tuple #[.agg #[.bool g9, .string s9, .string t9, .bool g10, .string s10, .string t10], .int .i64 k2]) ∧ Below W.heap.size W w') (h4 : ∀ W, LawW W → Calls Tryz.prog 13 #[.agg #[.bool g3, .string s3, .string t3, .bool g4, .string s4, .string t4], .agg #[.bool g1, .string s1, .string t1, .bool g2, .string s2, .string t2]] W fun e w' => e = .returned (.tuple #[.agg #[.bool g9, .string s9, .string t9, .bool g10, .string s10, .string t10], .int .i64 k2]) ∧ Below W.heap.size W w') (h5 : ∀ W, LawW W → Calls Tryz.prog 17 #[.agg #[.bool g1, .string s1, .string t1, .bool g2, .string s2, .string t2], .agg #[.bool g3, .string s3, .string t3, .bool g4, .string s4, .string t4]] W fun e w' => e = .returned (.tuple #[.agg #[.bool g11, .string s11, .string t11, .bool g12, .string s12, .string t12], .bool b]) ∧ Below W.heap.size W w') (h6 : ∀ W, LawW W → Calls Tryz.prog 17 #[.agg #[.bool g3, .string s3, .string t3, .bool g4, .string s4, .string t4], .agg #[.bool g1, .string s1, .string t1, .bool g2, .string s2, .string t2]] W fun e w' => e = .returned (.tuple #[.agg #[.bool g11, .string s11, .string t11, .bool g12, .string s12, .string t12], .bool b]) ∧ Below W.heap.size W w') (h7 : ∀ W, LawW W → Calls Tryz.prog 19 #[.agg #[.bool g1, .string s1, .string t1, .bool g2, .string s2, .string t2]] W fun e w' => e = .returned (.bool false) ∧ Below W.heap.size W w') (hf : (fewI [((g1, s1, t1), (g2, s2, t2)), ((g3, s3, t3), (g4, s4, t4)), ((g5, s5, t5), (g6, s6, t6))] && fewQ 60 []) = true) (hw : LawW w) :
    Calls Tryz.prog 8 #[.agg #[.bool g1, .string s1, .string t1, .bool g2, .string s2, .string t2], .agg #[.bool g3, .string s3, .string t3, .bool g4, .string s4, .string t4], .agg #[.bool g5, .string s5, .string t5, .bool g6, .string s6, .string t6]] w fun e w' => e = .returned (.bool true) ∧ Below w.heap.size w w' := by
  have Hh1 := hide h1
  have Hh2 := hide h2
  have Hh3 := hide h3
  have Hh4 := hide h4
  have Hh5 := hide h5
  have Hh6 := hide h6
  have Hh7 := hide h7
  have HW := hide hw
  have HH := hide (fun W hW => law05_head W hW)
  have HF := hide (fun v u W h1 h2 => law05_few [((g1, s1, t1), (g2, s2, t2)), ((g3, s3, t3), (g4, s4, t4)), ((g5, s5, t5), (g6, s6, t6))] [] v u W h1 h2 (by show 3 ≤ maxLen; decide) (by show 0 ≤ 1000; decide))
  rw [hf] at HF

  have HV0 : Hid (VB w w []) := VB.nil w
  clear h1 h2 h3 h4 h5 h6 h7 hw hf 
  go_enter Tryz.func8, Tryz.ntmps8
  have HV0_ := hide (HV0.out.push6 (b := w.heap.size) (by simp) (.bool g1) (.string s1) (.string t1) (.bool g2) (.string s2) (.string t2) 26)
  clear HV0
  have HV0__ := hide (HV0_.out.push6 (b := w.heap.size + 1) (by simp) (.bool g3) (.string s3) (.string t3) (.bool g4) (.string s4) (.string t4) 26)
  clear HV0_
  have HV0___ := hide (HV0__.out.push6 (b := w.heap.size + 2) (by simp) (.bool g5) (.string s5) (.string t5) (.bool g6) (.string s6) (.string t6) 26)
  clear HV0__
  go_wp2_with fail
  refine (HH.out _ (HV0___.out.law HW.out)).mono ?_
  rintro e w1 ⟨rfl, hb⟩
  have HV1 := hide (HV0___.out.below hb)
  clear hb HV0___
  obtain ⟨c1, c2, c3, c4, c5, c6⟩ := HV1.out.at6 2 rfl
  obtain ⟨c7, c8, c9, c10, c11, c12⟩ := HV1.out.at6 1 rfl
  obtain ⟨c13, c14, c15, c16, c17, c18⟩ := HV1.out.at6 0 rfl
  have hli : SliceOf vIv 6 (w1.alloc (.cells #[.bool g1, .string s1, .string t1, .bool g2, .string s2, .string t2, .bool g3, .string s3, .string t3, .bool g4, .string s4, .string t4, .bool g5, .string s5, .string t5, .bool g6, .string s6, .string t6] 26)) (.slice (some ⟨w1.heap.size, 0, none⟩) 3 3) [((g1, s1, t1), (g2, s2, t2)), ((g3, s3, t3), (g4, s4, t4)), ((g5, s5, t5), (g6, s6, t6))] := slice_lit_iv vIv_len w1 [((g1, s1, t1), (g2, s2, t2)), ((g3, s3, t3), (g4, s4, t4)), ((g5, s5, t5), (g6, s6, t6))] _ (show 3 ≤ maxLen by decide) (by simp) rfl rfl
  have HLI := hide hli
  clear hli
  have HV1_ := hide (HV1.out.anon (.cells #[.bool g1, .string s1, .string t1, .bool g2, .string s2, .string t2, .bool g3, .string s3, .string t3, .bool g4, .string s4, .string t4, .bool g5, .string s5, .string t5, .bool g6, .string s6, .string t6] 26))
  clear HV1
  go_wp2_with fail
  clear c1 c2 c3 c4 c5 c6 c7 c8 c9 c10 c11 c12 c13 c14 c15 c16 c17 c18
  refine (HF.out _ _ _ HLI.out (slice_nil _)).mono ?_
  rintro e w2 ⟨rfl, hb⟩
  have HV2 := hide (HV1_.out.below hb)
  clear hb HV1_ HF HLI
  obtain ⟨c19, c20, c21, c22, c23, c24⟩ := HV2.out.at6 2 rfl
  obtain ⟨c25, c26, c27, c28, c29, c30⟩ := HV2.out.at6 1 rfl
  go_wp2_with fail
  clear c19 c20 c21 c22 c23 c24 c25 c26 c27 c28 c29 c30
  refine (Hh1.out _ (HV2.out.law HW.out)).mono ?_
  rintro e w3 ⟨rfl, hb⟩
  have HV3 := hide (HV2.out.below hb)
  clear hb HV2
  have HV3_ := hide (HV3.out.push6 (b := w3.heap.size) (by simp) (.bool g7) (.string s7) (.string t7) (.bool g8) (.string s8) (.string t8) 26)
  clear HV3
  obtain ⟨c31, c32, c33, c34, c35, c36⟩ := HV3_.out.at6 2 rfl
  obtain ⟨c37, c38, c39, c40, c41, c42⟩ := HV3_.out.at6 3 rfl
  go_wp2_with fail
  clear c31 c32 c33 c34 c35 c36 c37 c38 c39 c40 c41 c42
  refine (Hh2.out _ (HV3_.out.law HW.out)).mono ?_
  rintro e w4 ⟨rfl, hb⟩
  have HV4 := hide (HV3_.out.below hb)
  clear hb HV3_
  have HV4_ := hide (HV4.out.push6 (b := w4.heap.size) (by simp) (.bool g7) (.string s7) (.string t7) (.bool g8) (.string s8) (.string t8) 26)
  clear HV4
  obtain ⟨c43, c44, c45, c46, c47, c48⟩ := HV4_.out.at6 4 rfl
  obtain ⟨c49, c50, c51, c52, c53, c54⟩ := HV4_.out.at6 3 rfl
  go_wp2_with fail
  clear c43 c44 c45 c46 c47 c48 c49 c50 c51 c52 c53 c54
  refine (Hh3.out _ (HV4_.out.law HW.out)).mono ?_
  rintro e w5 ⟨rfl, hb⟩
  have HV5 := hide (HV4_.out.below hb)
  clear hb HV4_
  have HV5_ := hide (HV5.out.push6 (b := w5.heap.size) (by simp) (.bool g9) (.string s9) (.string t9) (.bool g10) (.string s10) (.string t10) 26)
  clear HV5
  obtain ⟨c55, c56, c57, c58, c59, c60⟩ := HV5_.out.at6 4 rfl
  obtain ⟨c61, c62, c63, c64, c65, c66⟩ := HV5_.out.at6 5 rfl
  go_wp2_with fail
  clear c55 c56 c57 c58 c59 c60 c61 c62 c63 c64 c65 c66
  refine (Hh4.out _ (HV5_.out.law HW.out)).mono ?_
  rintro e w6 ⟨rfl, hb⟩
  have HV6 := hide (HV5_.out.below hb)
  clear hb HV5_
  have HV6_ := hide (HV6.out.push6 (b := w6.heap.size) (by simp) (.bool g9) (.string s9) (.string t9) (.bool g10) (.string s10) (.string t10) 26)
  clear HV6
  obtain ⟨c67, c68, c69, c70, c71, c72⟩ := HV6_.out.at6 6 rfl
  obtain ⟨c73, c74, c75, c76, c77, c78⟩ := HV6_.out.at6 5 rfl
  go_wp2_with fail
  clear c67 c68 c69 c70 c71 c72 c73 c74 c75 c76 c77 c78
  refine (Hh5.out _ (HV6_.out.law HW.out)).mono ?_
  rintro e w7 ⟨rfl, hb⟩
  have HV7 := hide (HV6_.out.below hb)
  clear hb HV6_
  have HV7_ := hide (HV7.out.push6 (b := w7.heap.size) (by simp) (.bool g11) (.string s11) (.string t11) (.bool g12) (.string s12) (.string t12) 26)
  clear HV7
  obtain ⟨c79, c80, c81, c82, c83, c84⟩ := HV7_.out.at6 6 rfl
  obtain ⟨c85, c86, c87, c88, c89, c90⟩ := HV7_.out.at6 7 rfl
  go_wp2_with fail
  clear c79 c80 c81 c82 c83 c84 c85 c86 c87 c88 c89 c90
  refine (Hh6.out _ (HV7_.out.law HW.out)).mono ?_
  rintro e w8 ⟨rfl, hb⟩
  have HV8 := hide (HV7_.out.below hb)
  clear hb HV7_
  have HV8_ := hide (HV8.out.push6 (b := w8.heap.size) (by simp) (.bool g11) (.string s11) (.string t11) (.bool g12) (.string s12) (.string t12) 26)
  clear HV8
  obtain ⟨c91, c92, c93, c94, c95, c96⟩ := HV8_.out.at6 5 rfl
  obtain ⟨c97, c98, c99, c100, c101, c102⟩ := HV8_.out.at6 4 rfl
  obtain ⟨c103, c104, c105, c106, c107, c108⟩ := HV8_.out.at6 3 rfl
  obtain ⟨c109, c110, c111, c112, c113, c114⟩ := HV8_.out.at6 2 rfl
  obtain ⟨c115, c116, c117, c118, c119, c120⟩ := HV8_.out.at6 1 rfl
  obtain ⟨c121, c122, c123, c124, c125, c126⟩ := HV8_.out.at6 0 rfl
  obtain ⟨c127, c128, c129, c130, c131, c132⟩ := HV8_.out.at6 8 rfl
  go_wp2_with fail
  clear c91 c92 c93 c94 c95 c96 c97 c98 c99 c100 c101 c102 c103 c104 c105 c106 c107 c108 c109 c110 c111 c112 c113 c114 c115 c116 c117 c118 c119 c120 c121 c122 c123 c124 c125 c126 c127 c128 c129 c130 c131 c132
  refine (Hh7.out _ (HV8_.out.law HW.out)).mono ?_
  rintro e w9 ⟨rfl, hb⟩
  have HV9 := hide (HV8_.out.below hb)
  clear hb HV8_
  go_wp2_with fail
  go_ret
  exact ⟨rfl, HV9.out.bel⟩
set_option maxHeartbeats 8000000 in
set_option maxRecDepth 100000 in
theorem iorder_2 (g1 : Bool) (s1 t1 : ByteArray) (g2 : Bool) (s2 t2 : ByteArray) (g3 : Bool) (s3 t3 : ByteArray) (g4 : Bool) (s4 t4 : ByteArray) (g5 : Bool) (s5 t5 : ByteArray) (g6 : Bool) (s6 t6 : ByteArray) (g7 : Bool) (s7 t7 : ByteArray) (g8 : Bool) (s8 t8 : ByteArray) (g9 : Bool) (s9 t9 : ByteArray) (g10 : Bool) (s10 t10 : ByteArray) (g11 : Bool) (s11 t11 : ByteArray) (g12 : Bool) (s12 t12 : ByteArray) (k1 k2 : Int) (b : Bool) (w : World) (h1 : ∀ W, LawW W → Calls Tryz.prog 11 #[.agg #[.bool g1, .string s1, .string t1, .bool g2, .string s2, .string t2], .agg #[.bool g3, .string s3, .string t3, .bool g4, .string s4, .string t4]] W fun e w' => e = .returned (.tuple #[.agg #[.bool g7, .string s7, .string t7, .bool g8, .string s8, .string t8], .int .i64 k1]) ∧ Below W.heap.size W w') (h2 : ∀ W, LawW W → Calls Tryz.prog 11 #[.agg #[.bool g3, .string s3, .string t3, .bool g4, .string s4, .string t4], .agg #[.bool g1, .string s1, .string t1, .bool g2, .string s2, .string t2]] W fun e w' => e = .returned (.tuple #[.agg #[.bool g7, .string s7, .string t7, .bool g8, .string s8, .string t8], .int .i64 k1]) ∧ Below W.heap.size W w') (h3 : ∀ W, LawW W → Calls Tryz.prog 13 #[.agg #[.bool g1, .string s1, .string t1, .bool g2, .string s2, .string t2], .agg #[.bool g3, .string s3, .string t3, .bool g4, .string s4, .string t4]] W fun e w' => e = .returned (.tuple #[.agg #[.bool g9, .string s9, .string t9, .bool g10, .string s10, .string t10], .int .i64 k2]) ∧ Below W.heap.size W w') (h4 : ∀ W, LawW W → Calls Tryz.prog 13 #[.agg #[.bool g3, .string s3, .string t3, .bool g4, .string s4, .string t4], .agg #[.bool g1, .string s1, .string t1, .bool g2, .string s2, .string t2]] W fun e w' => e = .returned (.tuple #[.agg #[.bool g9, .string s9, .string t9, .bool g10, .string s10, .string t10], .int .i64 k2]) ∧ Below W.heap.size W w') (h5 : ∀ W, LawW W → Calls Tryz.prog 17 #[.agg #[.bool g1, .string s1, .string t1, .bool g2, .string s2, .string t2], .agg #[.bool g3, .string s3, .string t3, .bool g4, .string s4, .string t4]] W fun e w' => e = .returned (.tuple #[.agg #[.bool g11, .string s11, .string t11, .bool g12, .string s12, .string t12], .bool b]) ∧ Below W.heap.size W w') (h6 : ∀ W, LawW W → Calls Tryz.prog 17 #[.agg #[.bool g3, .string s3, .string t3, .bool g4, .string s4, .string t4], .agg #[.bool g1, .string s1, .string t1, .bool g2, .string s2, .string t2]] W fun e w' => e = .returned (.tuple #[.agg #[.bool g11, .string s11, .string t11, .bool g12, .string s12, .string t12], .bool b]) ∧ Below W.heap.size W w') (h7 : ∀ W, LawW W → Calls Tryz.prog 19 #[.agg #[.bool g1, .string s1, .string t1, .bool g2, .string s2, .string t2]] W fun e w' => e = .returned (.bool true) ∧ Below W.heap.size W w') (h8 : ∀ W, LawW W → Calls Tryz.prog 21 #[.agg #[.bool g3, .string s3, .string t3, .bool g4, .string s4, .string t4], .agg #[.bool g1, .string s1, .string t1]] W fun e w' => e = .returned (.bool false) ∧ Below W.heap.size W w') (hf : (fewI [((g1, s1, t1), (g2, s2, t2)), ((g3, s3, t3), (g4, s4, t4)), ((g5, s5, t5), (g6, s6, t6))] && fewQ 60 []) = true) (hw : LawW w) :
    Calls Tryz.prog 8 #[.agg #[.bool g1, .string s1, .string t1, .bool g2, .string s2, .string t2], .agg #[.bool g3, .string s3, .string t3, .bool g4, .string s4, .string t4], .agg #[.bool g5, .string s5, .string t5, .bool g6, .string s6, .string t6]] w fun e w' => e = .returned (.bool true) ∧ Below w.heap.size w w' := by
  have Hh1 := hide h1
  have Hh2 := hide h2
  have Hh3 := hide h3
  have Hh4 := hide h4
  have Hh5 := hide h5
  have Hh6 := hide h6
  have Hh7 := hide h7
  have Hh8 := hide h8
  have HW := hide hw
  have HH := hide (fun W hW => law05_head W hW)
  have HF := hide (fun v u W h1 h2 => law05_few [((g1, s1, t1), (g2, s2, t2)), ((g3, s3, t3), (g4, s4, t4)), ((g5, s5, t5), (g6, s6, t6))] [] v u W h1 h2 (by show 3 ≤ maxLen; decide) (by show 0 ≤ 1000; decide))
  rw [hf] at HF

  have HV0 : Hid (VB w w []) := VB.nil w
  clear h1 h2 h3 h4 h5 h6 h7 h8 hw hf 
  go_enter Tryz.func8, Tryz.ntmps8
  have HV0_ := hide (HV0.out.push6 (b := w.heap.size) (by simp) (.bool g1) (.string s1) (.string t1) (.bool g2) (.string s2) (.string t2) 26)
  clear HV0
  have HV0__ := hide (HV0_.out.push6 (b := w.heap.size + 1) (by simp) (.bool g3) (.string s3) (.string t3) (.bool g4) (.string s4) (.string t4) 26)
  clear HV0_
  have HV0___ := hide (HV0__.out.push6 (b := w.heap.size + 2) (by simp) (.bool g5) (.string s5) (.string t5) (.bool g6) (.string s6) (.string t6) 26)
  clear HV0__
  go_wp2_with fail
  refine (HH.out _ (HV0___.out.law HW.out)).mono ?_
  rintro e w1 ⟨rfl, hb⟩
  have HV1 := hide (HV0___.out.below hb)
  clear hb HV0___
  obtain ⟨c1, c2, c3, c4, c5, c6⟩ := HV1.out.at6 2 rfl
  obtain ⟨c7, c8, c9, c10, c11, c12⟩ := HV1.out.at6 1 rfl
  obtain ⟨c13, c14, c15, c16, c17, c18⟩ := HV1.out.at6 0 rfl
  have hli : SliceOf vIv 6 (w1.alloc (.cells #[.bool g1, .string s1, .string t1, .bool g2, .string s2, .string t2, .bool g3, .string s3, .string t3, .bool g4, .string s4, .string t4, .bool g5, .string s5, .string t5, .bool g6, .string s6, .string t6] 26)) (.slice (some ⟨w1.heap.size, 0, none⟩) 3 3) [((g1, s1, t1), (g2, s2, t2)), ((g3, s3, t3), (g4, s4, t4)), ((g5, s5, t5), (g6, s6, t6))] := slice_lit_iv vIv_len w1 [((g1, s1, t1), (g2, s2, t2)), ((g3, s3, t3), (g4, s4, t4)), ((g5, s5, t5), (g6, s6, t6))] _ (show 3 ≤ maxLen by decide) (by simp) rfl rfl
  have HLI := hide hli
  clear hli
  have HV1_ := hide (HV1.out.anon (.cells #[.bool g1, .string s1, .string t1, .bool g2, .string s2, .string t2, .bool g3, .string s3, .string t3, .bool g4, .string s4, .string t4, .bool g5, .string s5, .string t5, .bool g6, .string s6, .string t6] 26))
  clear HV1
  go_wp2_with fail
  clear c1 c2 c3 c4 c5 c6 c7 c8 c9 c10 c11 c12 c13 c14 c15 c16 c17 c18
  refine (HF.out _ _ _ HLI.out (slice_nil _)).mono ?_
  rintro e w2 ⟨rfl, hb⟩
  have HV2 := hide (HV1_.out.below hb)
  clear hb HV1_ HF HLI
  obtain ⟨c19, c20, c21, c22, c23, c24⟩ := HV2.out.at6 2 rfl
  obtain ⟨c25, c26, c27, c28, c29, c30⟩ := HV2.out.at6 1 rfl
  go_wp2_with fail
  clear c19 c20 c21 c22 c23 c24 c25 c26 c27 c28 c29 c30
  refine (Hh1.out _ (HV2.out.law HW.out)).mono ?_
  rintro e w3 ⟨rfl, hb⟩
  have HV3 := hide (HV2.out.below hb)
  clear hb HV2
  have HV3_ := hide (HV3.out.push6 (b := w3.heap.size) (by simp) (.bool g7) (.string s7) (.string t7) (.bool g8) (.string s8) (.string t8) 26)
  clear HV3
  obtain ⟨c31, c32, c33, c34, c35, c36⟩ := HV3_.out.at6 2 rfl
  obtain ⟨c37, c38, c39, c40, c41, c42⟩ := HV3_.out.at6 3 rfl
  go_wp2_with fail
  clear c31 c32 c33 c34 c35 c36 c37 c38 c39 c40 c41 c42
  refine (Hh2.out _ (HV3_.out.law HW.out)).mono ?_
  rintro e w4 ⟨rfl, hb⟩
  have HV4 := hide (HV3_.out.below hb)
  clear hb HV3_
  have HV4_ := hide (HV4.out.push6 (b := w4.heap.size) (by simp) (.bool g7) (.string s7) (.string t7) (.bool g8) (.string s8) (.string t8) 26)
  clear HV4
  obtain ⟨c43, c44, c45, c46, c47, c48⟩ := HV4_.out.at6 4 rfl
  obtain ⟨c49, c50, c51, c52, c53, c54⟩ := HV4_.out.at6 3 rfl
  go_wp2_with fail
  clear c43 c44 c45 c46 c47 c48 c49 c50 c51 c52 c53 c54
  refine (Hh3.out _ (HV4_.out.law HW.out)).mono ?_
  rintro e w5 ⟨rfl, hb⟩
  have HV5 := hide (HV4_.out.below hb)
  clear hb HV4_
  have HV5_ := hide (HV5.out.push6 (b := w5.heap.size) (by simp) (.bool g9) (.string s9) (.string t9) (.bool g10) (.string s10) (.string t10) 26)
  clear HV5
  obtain ⟨c55, c56, c57, c58, c59, c60⟩ := HV5_.out.at6 4 rfl
  obtain ⟨c61, c62, c63, c64, c65, c66⟩ := HV5_.out.at6 5 rfl
  go_wp2_with fail
  clear c55 c56 c57 c58 c59 c60 c61 c62 c63 c64 c65 c66
  refine (Hh4.out _ (HV5_.out.law HW.out)).mono ?_
  rintro e w6 ⟨rfl, hb⟩
  have HV6 := hide (HV5_.out.below hb)
  clear hb HV5_
  have HV6_ := hide (HV6.out.push6 (b := w6.heap.size) (by simp) (.bool g9) (.string s9) (.string t9) (.bool g10) (.string s10) (.string t10) 26)
  clear HV6
  obtain ⟨c67, c68, c69, c70, c71, c72⟩ := HV6_.out.at6 6 rfl
  obtain ⟨c73, c74, c75, c76, c77, c78⟩ := HV6_.out.at6 5 rfl
  go_wp2_with fail
  clear c67 c68 c69 c70 c71 c72 c73 c74 c75 c76 c77 c78
  refine (Hh5.out _ (HV6_.out.law HW.out)).mono ?_
  rintro e w7 ⟨rfl, hb⟩
  have HV7 := hide (HV6_.out.below hb)
  clear hb HV6_
  have HV7_ := hide (HV7.out.push6 (b := w7.heap.size) (by simp) (.bool g11) (.string s11) (.string t11) (.bool g12) (.string s12) (.string t12) 26)
  clear HV7
  obtain ⟨c79, c80, c81, c82, c83, c84⟩ := HV7_.out.at6 6 rfl
  obtain ⟨c85, c86, c87, c88, c89, c90⟩ := HV7_.out.at6 7 rfl
  go_wp2_with fail
  clear c79 c80 c81 c82 c83 c84 c85 c86 c87 c88 c89 c90
  refine (Hh6.out _ (HV7_.out.law HW.out)).mono ?_
  rintro e w8 ⟨rfl, hb⟩
  have HV8 := hide (HV7_.out.below hb)
  clear hb HV7_
  have HV8_ := hide (HV8.out.push6 (b := w8.heap.size) (by simp) (.bool g11) (.string s11) (.string t11) (.bool g12) (.string s12) (.string t12) 26)
  clear HV8
  obtain ⟨c91, c92, c93, c94, c95, c96⟩ := HV8_.out.at6 5 rfl
  obtain ⟨c97, c98, c99, c100, c101, c102⟩ := HV8_.out.at6 4 rfl
  obtain ⟨c103, c104, c105, c106, c107, c108⟩ := HV8_.out.at6 3 rfl
  obtain ⟨c109, c110, c111, c112, c113, c114⟩ := HV8_.out.at6 2 rfl
  obtain ⟨c115, c116, c117, c118, c119, c120⟩ := HV8_.out.at6 1 rfl
  obtain ⟨c121, c122, c123, c124, c125, c126⟩ := HV8_.out.at6 0 rfl
  obtain ⟨c127, c128, c129, c130, c131, c132⟩ := HV8_.out.at6 8 rfl
  go_wp2_with fail
  clear c91 c92 c93 c94 c95 c96 c97 c98 c99 c100 c101 c102 c103 c104 c105 c106 c107 c108 c109 c110 c111 c112 c113 c114 c115 c116 c117 c118 c119 c120 c121 c122 c123 c124 c125 c126 c127 c128 c129 c130 c131 c132
  refine (Hh7.out _ (HV8_.out.law HW.out)).mono ?_
  rintro e w9 ⟨rfl, hb⟩
  have HV9 := hide (HV8_.out.below hb)
  clear hb HV8_
  obtain ⟨c133, c134, c135, c136, c137, c138⟩ := HV9.out.at6 7 rfl
  obtain ⟨c139, c140, c141, c142, c143, c144⟩ := HV9.out.at6 8 rfl
  go_wp2_with fail
  clear c133 c134 c135 c136 c137 c138 c139 c140 c141 c142 c143 c144
  refine (Hh8.out _ (HV9.out.law HW.out)).mono ?_
  rintro e w10 ⟨rfl, hb⟩
  have HV10 := hide (HV9.out.below hb)
  clear hb HV9
  go_wp2_with fail
  go_ret
  exact ⟨rfl, HV10.out.bel⟩
set_option maxHeartbeats 8000000 in
set_option maxRecDepth 100000 in
theorem iorder_3 (g1 : Bool) (s1 t1 : ByteArray) (g2 : Bool) (s2 t2 : ByteArray) (g3 : Bool) (s3 t3 : ByteArray) (g4 : Bool) (s4 t4 : ByteArray) (g5 : Bool) (s5 t5 : ByteArray) (g6 : Bool) (s6 t6 : ByteArray) (g7 : Bool) (s7 t7 : ByteArray) (g8 : Bool) (s8 t8 : ByteArray) (g9 : Bool) (s9 t9 : ByteArray) (g10 : Bool) (s10 t10 : ByteArray) (g11 : Bool) (s11 t11 : ByteArray) (g12 : Bool) (s12 t12 : ByteArray) (k1 k2 : Int) (b : Bool) (w : World) (h1 : ∀ W, LawW W → Calls Tryz.prog 11 #[.agg #[.bool g1, .string s1, .string t1, .bool g2, .string s2, .string t2], .agg #[.bool g3, .string s3, .string t3, .bool g4, .string s4, .string t4]] W fun e w' => e = .returned (.tuple #[.agg #[.bool g7, .string s7, .string t7, .bool g8, .string s8, .string t8], .int .i64 k1]) ∧ Below W.heap.size W w') (h2 : ∀ W, LawW W → Calls Tryz.prog 11 #[.agg #[.bool g3, .string s3, .string t3, .bool g4, .string s4, .string t4], .agg #[.bool g1, .string s1, .string t1, .bool g2, .string s2, .string t2]] W fun e w' => e = .returned (.tuple #[.agg #[.bool g7, .string s7, .string t7, .bool g8, .string s8, .string t8], .int .i64 k1]) ∧ Below W.heap.size W w') (h3 : ∀ W, LawW W → Calls Tryz.prog 13 #[.agg #[.bool g1, .string s1, .string t1, .bool g2, .string s2, .string t2], .agg #[.bool g3, .string s3, .string t3, .bool g4, .string s4, .string t4]] W fun e w' => e = .returned (.tuple #[.agg #[.bool g9, .string s9, .string t9, .bool g10, .string s10, .string t10], .int .i64 k2]) ∧ Below W.heap.size W w') (h4 : ∀ W, LawW W → Calls Tryz.prog 13 #[.agg #[.bool g3, .string s3, .string t3, .bool g4, .string s4, .string t4], .agg #[.bool g1, .string s1, .string t1, .bool g2, .string s2, .string t2]] W fun e w' => e = .returned (.tuple #[.agg #[.bool g9, .string s9, .string t9, .bool g10, .string s10, .string t10], .int .i64 k2]) ∧ Below W.heap.size W w') (h5 : ∀ W, LawW W → Calls Tryz.prog 17 #[.agg #[.bool g1, .string s1, .string t1, .bool g2, .string s2, .string t2], .agg #[.bool g3, .string s3, .string t3, .bool g4, .string s4, .string t4]] W fun e w' => e = .returned (.tuple #[.agg #[.bool g11, .string s11, .string t11, .bool g12, .string s12, .string t12], .bool b]) ∧ Below W.heap.size W w') (h6 : ∀ W, LawW W → Calls Tryz.prog 17 #[.agg #[.bool g3, .string s3, .string t3, .bool g4, .string s4, .string t4], .agg #[.bool g1, .string s1, .string t1, .bool g2, .string s2, .string t2]] W fun e w' => e = .returned (.tuple #[.agg #[.bool g11, .string s11, .string t11, .bool g12, .string s12, .string t12], .bool b]) ∧ Below W.heap.size W w') (h7 : ∀ W, LawW W → Calls Tryz.prog 19 #[.agg #[.bool g1, .string s1, .string t1, .bool g2, .string s2, .string t2]] W fun e w' => e = .returned (.bool true) ∧ Below W.heap.size W w') (h8 : ∀ W, LawW W → Calls Tryz.prog 21 #[.agg #[.bool g3, .string s3, .string t3, .bool g4, .string s4, .string t4], .agg #[.bool g1, .string s1, .string t1]] W fun e w' => e = .returned (.bool true) ∧ Below W.heap.size W w') (h9 : ∀ W, LawW W → Calls Tryz.prog 21 #[.agg #[.bool g3, .string s3, .string t3, .bool g4, .string s4, .string t4], .agg #[.bool g2, .string s2, .string t2]] W fun e w' => e = .returned (.bool false) ∧ Below W.heap.size W w') (hf : (fewI [((g1, s1, t1), (g2, s2, t2)), ((g3, s3, t3), (g4, s4, t4)), ((g5, s5, t5), (g6, s6, t6))] && fewQ 60 []) = true) (hw : LawW w) :
    Calls Tryz.prog 8 #[.agg #[.bool g1, .string s1, .string t1, .bool g2, .string s2, .string t2], .agg #[.bool g3, .string s3, .string t3, .bool g4, .string s4, .string t4], .agg #[.bool g5, .string s5, .string t5, .bool g6, .string s6, .string t6]] w fun e w' => e = .returned (.bool true) ∧ Below w.heap.size w w' := by
  have Hh1 := hide h1
  have Hh2 := hide h2
  have Hh3 := hide h3
  have Hh4 := hide h4
  have Hh5 := hide h5
  have Hh6 := hide h6
  have Hh7 := hide h7
  have Hh8 := hide h8
  have Hh9 := hide h9
  have HW := hide hw
  have HH := hide (fun W hW => law05_head W hW)
  have HF := hide (fun v u W h1 h2 => law05_few [((g1, s1, t1), (g2, s2, t2)), ((g3, s3, t3), (g4, s4, t4)), ((g5, s5, t5), (g6, s6, t6))] [] v u W h1 h2 (by show 3 ≤ maxLen; decide) (by show 0 ≤ 1000; decide))
  rw [hf] at HF

  have HV0 : Hid (VB w w []) := VB.nil w
  clear h1 h2 h3 h4 h5 h6 h7 h8 h9 hw hf 
  go_enter Tryz.func8, Tryz.ntmps8
  have HV0_ := hide (HV0.out.push6 (b := w.heap.size) (by simp) (.bool g1) (.string s1) (.string t1) (.bool g2) (.string s2) (.string t2) 26)
  clear HV0
  have HV0__ := hide (HV0_.out.push6 (b := w.heap.size + 1) (by simp) (.bool g3) (.string s3) (.string t3) (.bool g4) (.string s4) (.string t4) 26)
  clear HV0_
  have HV0___ := hide (HV0__.out.push6 (b := w.heap.size + 2) (by simp) (.bool g5) (.string s5) (.string t5) (.bool g6) (.string s6) (.string t6) 26)
  clear HV0__
  go_wp2_with fail
  refine (HH.out _ (HV0___.out.law HW.out)).mono ?_
  rintro e w1 ⟨rfl, hb⟩
  have HV1 := hide (HV0___.out.below hb)
  clear hb HV0___
  obtain ⟨c1, c2, c3, c4, c5, c6⟩ := HV1.out.at6 2 rfl
  obtain ⟨c7, c8, c9, c10, c11, c12⟩ := HV1.out.at6 1 rfl
  obtain ⟨c13, c14, c15, c16, c17, c18⟩ := HV1.out.at6 0 rfl
  have hli : SliceOf vIv 6 (w1.alloc (.cells #[.bool g1, .string s1, .string t1, .bool g2, .string s2, .string t2, .bool g3, .string s3, .string t3, .bool g4, .string s4, .string t4, .bool g5, .string s5, .string t5, .bool g6, .string s6, .string t6] 26)) (.slice (some ⟨w1.heap.size, 0, none⟩) 3 3) [((g1, s1, t1), (g2, s2, t2)), ((g3, s3, t3), (g4, s4, t4)), ((g5, s5, t5), (g6, s6, t6))] := slice_lit_iv vIv_len w1 [((g1, s1, t1), (g2, s2, t2)), ((g3, s3, t3), (g4, s4, t4)), ((g5, s5, t5), (g6, s6, t6))] _ (show 3 ≤ maxLen by decide) (by simp) rfl rfl
  have HLI := hide hli
  clear hli
  have HV1_ := hide (HV1.out.anon (.cells #[.bool g1, .string s1, .string t1, .bool g2, .string s2, .string t2, .bool g3, .string s3, .string t3, .bool g4, .string s4, .string t4, .bool g5, .string s5, .string t5, .bool g6, .string s6, .string t6] 26))
  clear HV1
  go_wp2_with fail
  clear c1 c2 c3 c4 c5 c6 c7 c8 c9 c10 c11 c12 c13 c14 c15 c16 c17 c18
  refine (HF.out _ _ _ HLI.out (slice_nil _)).mono ?_
  rintro e w2 ⟨rfl, hb⟩
  have HV2 := hide (HV1_.out.below hb)
  clear hb HV1_ HF HLI
  obtain ⟨c19, c20, c21, c22, c23, c24⟩ := HV2.out.at6 2 rfl
  obtain ⟨c25, c26, c27, c28, c29, c30⟩ := HV2.out.at6 1 rfl
  go_wp2_with fail
  clear c19 c20 c21 c22 c23 c24 c25 c26 c27 c28 c29 c30
  refine (Hh1.out _ (HV2.out.law HW.out)).mono ?_
  rintro e w3 ⟨rfl, hb⟩
  have HV3 := hide (HV2.out.below hb)
  clear hb HV2
  have HV3_ := hide (HV3.out.push6 (b := w3.heap.size) (by simp) (.bool g7) (.string s7) (.string t7) (.bool g8) (.string s8) (.string t8) 26)
  clear HV3
  obtain ⟨c31, c32, c33, c34, c35, c36⟩ := HV3_.out.at6 2 rfl
  obtain ⟨c37, c38, c39, c40, c41, c42⟩ := HV3_.out.at6 3 rfl
  go_wp2_with fail
  clear c31 c32 c33 c34 c35 c36 c37 c38 c39 c40 c41 c42
  refine (Hh2.out _ (HV3_.out.law HW.out)).mono ?_
  rintro e w4 ⟨rfl, hb⟩
  have HV4 := hide (HV3_.out.below hb)
  clear hb HV3_
  have HV4_ := hide (HV4.out.push6 (b := w4.heap.size) (by simp) (.bool g7) (.string s7) (.string t7) (.bool g8) (.string s8) (.string t8) 26)
  clear HV4
  obtain ⟨c43, c44, c45, c46, c47, c48⟩ := HV4_.out.at6 4 rfl
  obtain ⟨c49, c50, c51, c52, c53, c54⟩ := HV4_.out.at6 3 rfl
  go_wp2_with fail
  clear c43 c44 c45 c46 c47 c48 c49 c50 c51 c52 c53 c54
  refine (Hh3.out _ (HV4_.out.law HW.out)).mono ?_
  rintro e w5 ⟨rfl, hb⟩
  have HV5 := hide (HV4_.out.below hb)
  clear hb HV4_
  have HV5_ := hide (HV5.out.push6 (b := w5.heap.size) (by simp) (.bool g9) (.string s9) (.string t9) (.bool g10) (.string s10) (.string t10) 26)
  clear HV5
  obtain ⟨c55, c56, c57, c58, c59, c60⟩ := HV5_.out.at6 4 rfl
  obtain ⟨c61, c62, c63, c64, c65, c66⟩ := HV5_.out.at6 5 rfl
  go_wp2_with fail
  clear c55 c56 c57 c58 c59 c60 c61 c62 c63 c64 c65 c66
  refine (Hh4.out _ (HV5_.out.law HW.out)).mono ?_
  rintro e w6 ⟨rfl, hb⟩
  have HV6 := hide (HV5_.out.below hb)
  clear hb HV5_
  have HV6_ := hide (HV6.out.push6 (b := w6.heap.size) (by simp) (.bool g9) (.string s9) (.string t9) (.bool g10) (.string s10) (.string t10) 26)
  clear HV6
  obtain ⟨c67, c68, c69, c70, c71, c72⟩ := HV6_.out.at6 6 rfl
  obtain ⟨c73, c74, c75, c76, c77, c78⟩ := HV6_.out.at6 5 rfl
  go_wp2_with fail
  clear c67 c68 c69 c70 c71 c72 c73 c74 c75 c76 c77 c78
  refine (Hh5.out _ (HV6_.out.law HW.out)).mono ?_
  rintro e w7 ⟨rfl, hb⟩
  have HV7 := hide (HV6_.out.below hb)
  clear hb HV6_
  have HV7_ := hide (HV7.out.push6 (b := w7.heap.size) (by simp) (.bool g11) (.string s11) (.string t11) (.bool g12) (.string s12) (.string t12) 26)
  clear HV7
  obtain ⟨c79, c80, c81, c82, c83, c84⟩ := HV7_.out.at6 6 rfl
  obtain ⟨c85, c86, c87, c88, c89, c90⟩ := HV7_.out.at6 7 rfl
  go_wp2_with fail
  clear c79 c80 c81 c82 c83 c84 c85 c86 c87 c88 c89 c90
  refine (Hh6.out _ (HV7_.out.law HW.out)).mono ?_
  rintro e w8 ⟨rfl, hb⟩
  have HV8 := hide (HV7_.out.below hb)
  clear hb HV7_
  have HV8_ := hide (HV8.out.push6 (b := w8.heap.size) (by simp) (.bool g11) (.string s11) (.string t11) (.bool g12) (.string s12) (.string t12) 26)
  clear HV8
  obtain ⟨c91, c92, c93, c94, c95, c96⟩ := HV8_.out.at6 5 rfl
  obtain ⟨c97, c98, c99, c100, c101, c102⟩ := HV8_.out.at6 4 rfl
  obtain ⟨c103, c104, c105, c106, c107, c108⟩ := HV8_.out.at6 3 rfl
  obtain ⟨c109, c110, c111, c112, c113, c114⟩ := HV8_.out.at6 2 rfl
  obtain ⟨c115, c116, c117, c118, c119, c120⟩ := HV8_.out.at6 1 rfl
  obtain ⟨c121, c122, c123, c124, c125, c126⟩ := HV8_.out.at6 0 rfl
  obtain ⟨c127, c128, c129, c130, c131, c132⟩ := HV8_.out.at6 8 rfl
  go_wp2_with fail
  clear c91 c92 c93 c94 c95 c96 c97 c98 c99 c100 c101 c102 c103 c104 c105 c106 c107 c108 c109 c110 c111 c112 c113 c114 c115 c116 c117 c118 c119 c120 c121 c122 c123 c124 c125 c126 c127 c128 c129 c130 c131 c132
  refine (Hh7.out _ (HV8_.out.law HW.out)).mono ?_
  rintro e w9 ⟨rfl, hb⟩
  have HV9 := hide (HV8_.out.below hb)
  clear hb HV8_
  obtain ⟨c133, c134, c135, c136, c137, c138⟩ := HV9.out.at6 7 rfl
  obtain ⟨c139, c140, c141, c142, c143, c144⟩ := HV9.out.at6 8 rfl
  go_wp2_with fail
  clear c133 c134 c135 c136 c137 c138 c139 c140 c141 c142 c143 c144
  refine (Hh8.out _ (HV9.out.law HW.out)).mono ?_
  rintro e w10 ⟨rfl, hb⟩
  have HV10 := hide (HV9.out.below hb)
  clear hb HV9
  obtain ⟨c145, c146, c147, c148, c149, c150⟩ := HV10.out.at6 7 rfl
  obtain ⟨c151, c152, c153, c154, c155, c156⟩ := HV10.out.at6 8 rfl
  go_wp2_with fail
  clear c145 c146 c147 c148 c149 c150 c151 c152 c153 c154 c155 c156
  refine (Hh9.out _ (HV10.out.law HW.out)).mono ?_
  rintro e w11 ⟨rfl, hb⟩
  have HV11 := hide (HV10.out.below hb)
  clear hb HV10
  go_wp2_with fail
  go_ret
  exact ⟨rfl, HV11.out.bel⟩
set_option maxHeartbeats 8000000 in
set_option maxRecDepth 100000 in
theorem iorder_4 (g1 : Bool) (s1 t1 : ByteArray) (g2 : Bool) (s2 t2 : ByteArray) (g3 : Bool) (s3 t3 : ByteArray) (g4 : Bool) (s4 t4 : ByteArray) (g5 : Bool) (s5 t5 : ByteArray) (g6 : Bool) (s6 t6 : ByteArray) (g7 : Bool) (s7 t7 : ByteArray) (g8 : Bool) (s8 t8 : ByteArray) (g9 : Bool) (s9 t9 : ByteArray) (g10 : Bool) (s10 t10 : ByteArray) (g11 : Bool) (s11 t11 : ByteArray) (g12 : Bool) (s12 t12 : ByteArray) (k1 k2 : Int) (b : Bool) (w : World) (h1 : ∀ W, LawW W → Calls Tryz.prog 11 #[.agg #[.bool g1, .string s1, .string t1, .bool g2, .string s2, .string t2], .agg #[.bool g3, .string s3, .string t3, .bool g4, .string s4, .string t4]] W fun e w' => e = .returned (.tuple #[.agg #[.bool g7, .string s7, .string t7, .bool g8, .string s8, .string t8], .int .i64 k1]) ∧ Below W.heap.size W w') (h2 : ∀ W, LawW W → Calls Tryz.prog 11 #[.agg #[.bool g3, .string s3, .string t3, .bool g4, .string s4, .string t4], .agg #[.bool g1, .string s1, .string t1, .bool g2, .string s2, .string t2]] W fun e w' => e = .returned (.tuple #[.agg #[.bool g7, .string s7, .string t7, .bool g8, .string s8, .string t8], .int .i64 k1]) ∧ Below W.heap.size W w') (h3 : ∀ W, LawW W → Calls Tryz.prog 13 #[.agg #[.bool g1, .string s1, .string t1, .bool g2, .string s2, .string t2], .agg #[.bool g3, .string s3, .string t3, .bool g4, .string s4, .string t4]] W fun e w' => e = .returned (.tuple #[.agg #[.bool g9, .string s9, .string t9, .bool g10, .string s10, .string t10], .int .i64 k2]) ∧ Below W.heap.size W w') (h4 : ∀ W, LawW W → Calls Tryz.prog 13 #[.agg #[.bool g3, .string s3, .string t3, .bool g4, .string s4, .string t4], .agg #[.bool g1, .string s1, .string t1, .bool g2, .string s2, .string t2]] W fun e w' => e = .returned (.tuple #[.agg #[.bool g9, .string s9, .string t9, .bool g10, .string s10, .string t10], .int .i64 k2]) ∧ Below W.heap.size W w') (h5 : ∀ W, LawW W → Calls Tryz.prog 17 #[.agg #[.bool g1, .string s1, .string t1, .bool g2, .string s2, .string t2], .agg #[.bool g3, .string s3, .string t3, .bool g4, .string s4, .string t4]] W fun e w' => e = .returned (.tuple #[.agg #[.bool g11, .string s11, .string t11, .bool g12, .string s12, .string t12], .bool b]) ∧ Below W.heap.size W w') (h6 : ∀ W, LawW W → Calls Tryz.prog 17 #[.agg #[.bool g3, .string s3, .string t3, .bool g4, .string s4, .string t4], .agg #[.bool g1, .string s1, .string t1, .bool g2, .string s2, .string t2]] W fun e w' => e = .returned (.tuple #[.agg #[.bool g11, .string s11, .string t11, .bool g12, .string s12, .string t12], .bool b]) ∧ Below W.heap.size W w') (h7 : ∀ W, LawW W → Calls Tryz.prog 19 #[.agg #[.bool g1, .string s1, .string t1, .bool g2, .string s2, .string t2]] W fun e w' => e = .returned (.bool true) ∧ Below W.heap.size W w') (h8 : ∀ W, LawW W → Calls Tryz.prog 21 #[.agg #[.bool g3, .string s3, .string t3, .bool g4, .string s4, .string t4], .agg #[.bool g1, .string s1, .string t1]] W fun e w' => e = .returned (.bool true) ∧ Below W.heap.size W w') (h9 : ∀ W, LawW W → Calls Tryz.prog 21 #[.agg #[.bool g3, .string s3, .string t3, .bool g4, .string s4, .string t4], .agg #[.bool g2, .string s2, .string t2]] W fun e w' => e = .returned (.bool true) ∧ Below W.heap.size W w') (j1 : ∀ W, LawW W → Calls Tryz.prog 11 #[.agg #[.bool g1, .string s1, .string t1, .bool g2, .string s2, .string t2], .agg #[.bool g5, .string s5, .string t5, .bool g6, .string s6, .string t6]] W fun e w' => e = .returned (.tuple #[.agg #[.bool false, .string ⟨#[]⟩, .string ⟨#[]⟩, .bool false, .string ⟨#[]⟩, .string ⟨#[]⟩], .int .i64 1]) ∧ Below W.heap.size W w') (j2 : ∀ W, LawW W → Calls Tryz.prog 11 #[.agg #[.bool g3, .string s3, .string t3, .bool g4, .string s4, .string t4], .agg #[.bool g5, .string s5, .string t5, .bool g6, .string s6, .string t6]] W fun e w' => e = .returned (.tuple #[.agg #[.bool false, .string ⟨#[]⟩, .string ⟨#[]⟩, .bool false, .string ⟨#[]⟩, .string ⟨#[]⟩], .int .i64 1]) ∧ Below W.heap.size W w') (j3 : ∀ W, LawW W → Calls Tryz.prog 13 #[.agg #[.bool g1, .string s1, .string t1, .bool g2, .string s2, .string t2], .agg #[.bool g5, .string s5, .string t5, .bool g6, .string s6, .string t6]] W fun e w' => e = .returned (.tuple #[.agg #[.bool false, .string ⟨#[]⟩, .string ⟨#[]⟩, .bool false, .string ⟨#[]⟩, .string ⟨#[]⟩], .int .i64 1]) ∧ Below W.heap.size W w') (j4 : ∀ W, LawW W → Calls Tryz.prog 13 #[.agg #[.bool g3, .string s3, .string t3, .bool g4, .string s4, .string t4], .agg #[.bool g5, .string s5, .string t5, .bool g6, .string s6, .string t6]] W fun e w' => e = .returned (.tuple #[.agg #[.bool false, .string ⟨#[]⟩, .string ⟨#[]⟩, .bool false, .string ⟨#[]⟩, .string ⟨#[]⟩], .int .i64 1]) ∧ Below W.heap.size W w') (hf : (fewI [((g1, s1, t1), (g2, s2, t2)), ((g3, s3, t3), (g4, s4, t4)), ((g5, s5, t5), (g6, s6, t6))] && fewQ 60 []) = true) (hw : LawW w) :
    Calls Tryz.prog 8 #[.agg #[.bool g1, .string s1, .string t1, .bool g2, .string s2, .string t2], .agg #[.bool g3, .string s3, .string t3, .bool g4, .string s4, .string t4], .agg #[.bool g5, .string s5, .string t5, .bool g6, .string s6, .string t6]] w fun e w' => e = .returned (.bool true) ∧ Below w.heap.size w w' := by
  have Hh1 := hide h1
  have Hh2 := hide h2
  have Hh3 := hide h3
  have Hh4 := hide h4
  have Hh5 := hide h5
  have Hh6 := hide h6
  have Hh7 := hide h7
  have Hh8 := hide h8
  have Hh9 := hide h9
  have Hj1 := hide j1
  have Hj2 := hide j2
  have Hj3 := hide j3
  have Hj4 := hide j4
  have HW := hide hw
  have HH := hide (fun W hW => law05_head W hW)
  have HF := hide (fun v u W h1 h2 => law05_few [((g1, s1, t1), (g2, s2, t2)), ((g3, s3, t3), (g4, s4, t4)), ((g5, s5, t5), (g6, s6, t6))] [] v u W h1 h2 (by show 3 ≤ maxLen; decide) (by show 0 ≤ 1000; decide))
  rw [hf] at HF

  have HV0 : Hid (VB w w []) := VB.nil w
  clear h1 h2 h3 h4 h5 h6 h7 h8 h9 j1 j2 j3 j4 hw hf 
  go_enter Tryz.func8, Tryz.ntmps8
  have HV0_ := hide (HV0.out.push6 (b := w.heap.size) (by simp) (.bool g1) (.string s1) (.string t1) (.bool g2) (.string s2) (.string t2) 26)
  clear HV0
  have HV0__ := hide (HV0_.out.push6 (b := w.heap.size + 1) (by simp) (.bool g3) (.string s3) (.string t3) (.bool g4) (.string s4) (.string t4) 26)
  clear HV0_
  have HV0___ := hide (HV0__.out.push6 (b := w.heap.size + 2) (by simp) (.bool g5) (.string s5) (.string t5) (.bool g6) (.string s6) (.string t6) 26)
  clear HV0__
  go_wp2_with fail
  refine (HH.out _ (HV0___.out.law HW.out)).mono ?_
  rintro e w1 ⟨rfl, hb⟩
  have HV1 := hide (HV0___.out.below hb)
  clear hb HV0___
  obtain ⟨c1, c2, c3, c4, c5, c6⟩ := HV1.out.at6 2 rfl
  obtain ⟨c7, c8, c9, c10, c11, c12⟩ := HV1.out.at6 1 rfl
  obtain ⟨c13, c14, c15, c16, c17, c18⟩ := HV1.out.at6 0 rfl
  have hli : SliceOf vIv 6 (w1.alloc (.cells #[.bool g1, .string s1, .string t1, .bool g2, .string s2, .string t2, .bool g3, .string s3, .string t3, .bool g4, .string s4, .string t4, .bool g5, .string s5, .string t5, .bool g6, .string s6, .string t6] 26)) (.slice (some ⟨w1.heap.size, 0, none⟩) 3 3) [((g1, s1, t1), (g2, s2, t2)), ((g3, s3, t3), (g4, s4, t4)), ((g5, s5, t5), (g6, s6, t6))] := slice_lit_iv vIv_len w1 [((g1, s1, t1), (g2, s2, t2)), ((g3, s3, t3), (g4, s4, t4)), ((g5, s5, t5), (g6, s6, t6))] _ (show 3 ≤ maxLen by decide) (by simp) rfl rfl
  have HLI := hide hli
  clear hli
  have HV1_ := hide (HV1.out.anon (.cells #[.bool g1, .string s1, .string t1, .bool g2, .string s2, .string t2, .bool g3, .string s3, .string t3, .bool g4, .string s4, .string t4, .bool g5, .string s5, .string t5, .bool g6, .string s6, .string t6] 26))
  clear HV1
  go_wp2_with fail
  clear c1 c2 c3 c4 c5 c6 c7 c8 c9 c10 c11 c12 c13 c14 c15 c16 c17 c18
  refine (HF.out _ _ _ HLI.out (slice_nil _)).mono ?_
  rintro e w2 ⟨rfl, hb⟩
  have HV2 := hide (HV1_.out.below hb)
  clear hb HV1_ HF HLI
  obtain ⟨c19, c20, c21, c22, c23, c24⟩ := HV2.out.at6 2 rfl
  obtain ⟨c25, c26, c27, c28, c29, c30⟩ := HV2.out.at6 1 rfl
  go_wp2_with fail
  clear c19 c20 c21 c22 c23 c24 c25 c26 c27 c28 c29 c30
  refine (Hh1.out _ (HV2.out.law HW.out)).mono ?_
  rintro e w3 ⟨rfl, hb⟩
  have HV3 := hide (HV2.out.below hb)
  clear hb HV2
  have HV3_ := hide (HV3.out.push6 (b := w3.heap.size) (by simp) (.bool g7) (.string s7) (.string t7) (.bool g8) (.string s8) (.string t8) 26)
  clear HV3
  obtain ⟨c31, c32, c33, c34, c35, c36⟩ := HV3_.out.at6 2 rfl
  obtain ⟨c37, c38, c39, c40, c41, c42⟩ := HV3_.out.at6 3 rfl
  go_wp2_with fail
  clear c31 c32 c33 c34 c35 c36 c37 c38 c39 c40 c41 c42
  refine (Hh2.out _ (HV3_.out.law HW.out)).mono ?_
  rintro e w4 ⟨rfl, hb⟩
  have HV4 := hide (HV3_.out.below hb)
  clear hb HV3_
  have HV4_ := hide (HV4.out.push6 (b := w4.heap.size) (by simp) (.bool g7) (.string s7) (.string t7) (.bool g8) (.string s8) (.string t8) 26)
  clear HV4
  obtain ⟨c43, c44, c45, c46, c47, c48⟩ := HV4_.out.at6 4 rfl
  obtain ⟨c49, c50, c51, c52, c53, c54⟩ := HV4_.out.at6 3 rfl
  go_wp2_with fail
  clear c43 c44 c45 c46 c47 c48 c49 c50 c51 c52 c53 c54
  refine (Hh3.out _ (HV4_.out.law HW.out)).mono ?_
  rintro e w5 ⟨rfl, hb⟩
  have HV5 := hide (HV4_.out.below hb)
  clear hb HV4_
  have HV5_ := hide (HV5.out.push6 (b := w5.heap.size) (by simp) (.bool g9) (.string s9) (.string t9) (.bool g10) (.string s10) (.string t10) 26)
  clear HV5
  obtain ⟨c55, c56, c57, c58, c59, c60⟩ := HV5_.out.at6 4 rfl
  obtain ⟨c61, c62, c63, c64, c65, c66⟩ := HV5_.out.at6 5 rfl
  go_wp2_with fail
  clear c55 c56 c57 c58 c59 c60 c61 c62 c63 c64 c65 c66
  refine (Hh4.out _ (HV5_.out.law HW.out)).mono ?_
  rintro e w6 ⟨rfl, hb⟩
  have HV6 := hide (HV5_.out.below hb)
  clear hb HV5_
  have HV6_ := hide (HV6.out.push6 (b := w6.heap.size) (by simp) (.bool g9) (.string s9) (.string t9) (.bool g10) (.string s10) (.string t10) 26)
  clear HV6
  obtain ⟨c67, c68, c69, c70, c71, c72⟩ := HV6_.out.at6 6 rfl
  obtain ⟨c73, c74, c75, c76, c77, c78⟩ := HV6_.out.at6 5 rfl
  go_wp2_with fail
  clear c67 c68 c69 c70 c71 c72 c73 c74 c75 c76 c77 c78
  refine (Hh5.out _ (HV6_.out.law HW.out)).mono ?_
  rintro e w7 ⟨rfl, hb⟩
  have HV7 := hide (HV6_.out.below hb)
  clear hb HV6_
  have HV7_ := hide (HV7.out.push6 (b := w7.heap.size) (by simp) (.bool g11) (.string s11) (.string t11) (.bool g12) (.string s12) (.string t12) 26)
  clear HV7
  obtain ⟨c79, c80, c81, c82, c83, c84⟩ := HV7_.out.at6 6 rfl
  obtain ⟨c85, c86, c87, c88, c89, c90⟩ := HV7_.out.at6 7 rfl
  go_wp2_with fail
  clear c79 c80 c81 c82 c83 c84 c85 c86 c87 c88 c89 c90
  refine (Hh6.out _ (HV7_.out.law HW.out)).mono ?_
  rintro e w8 ⟨rfl, hb⟩
  have HV8 := hide (HV7_.out.below hb)
  clear hb HV7_
  have HV8_ := hide (HV8.out.push6 (b := w8.heap.size) (by simp) (.bool g11) (.string s11) (.string t11) (.bool g12) (.string s12) (.string t12) 26)
  clear HV8
  obtain ⟨c91, c92, c93, c94, c95, c96⟩ := HV8_.out.at6 5 rfl
  obtain ⟨c97, c98, c99, c100, c101, c102⟩ := HV8_.out.at6 4 rfl
  obtain ⟨c103, c104, c105, c106, c107, c108⟩ := HV8_.out.at6 3 rfl
  obtain ⟨c109, c110, c111, c112, c113, c114⟩ := HV8_.out.at6 2 rfl
  obtain ⟨c115, c116, c117, c118, c119, c120⟩ := HV8_.out.at6 1 rfl
  obtain ⟨c121, c122, c123, c124, c125, c126⟩ := HV8_.out.at6 0 rfl
  obtain ⟨c127, c128, c129, c130, c131, c132⟩ := HV8_.out.at6 8 rfl
  go_wp2_with fail
  clear c91 c92 c93 c94 c95 c96 c97 c98 c99 c100 c101 c102 c103 c104 c105 c106 c107 c108 c109 c110 c111 c112 c113 c114 c115 c116 c117 c118 c119 c120 c121 c122 c123 c124 c125 c126 c127 c128 c129 c130 c131 c132
  refine (Hh7.out _ (HV8_.out.law HW.out)).mono ?_
  rintro e w9 ⟨rfl, hb⟩
  have HV9 := hide (HV8_.out.below hb)
  clear hb HV8_
  obtain ⟨c133, c134, c135, c136, c137, c138⟩ := HV9.out.at6 7 rfl
  obtain ⟨c139, c140, c141, c142, c143, c144⟩ := HV9.out.at6 8 rfl
  go_wp2_with fail
  clear c133 c134 c135 c136 c137 c138 c139 c140 c141 c142 c143 c144
  refine (Hh8.out _ (HV9.out.law HW.out)).mono ?_
  rintro e w10 ⟨rfl, hb⟩
  have HV10 := hide (HV9.out.below hb)
  clear hb HV9
  obtain ⟨c145, c146, c147, c148, c149, c150⟩ := HV10.out.at6 7 rfl
  obtain ⟨c151, c152, c153, c154, c155, c156⟩ := HV10.out.at6 8 rfl
  go_wp2_with fail
  clear c145 c146 c147 c148 c149 c150 c151 c152 c153 c154 c155 c156
  refine (Hh9.out _ (HV10.out.law HW.out)).mono ?_
  rintro e w11 ⟨rfl, hb⟩
  have HV11 := hide (HV10.out.below hb)
  clear hb HV10
  obtain ⟨c157, c158, c159, c160, c161, c162⟩ := HV11.out.at6 8 rfl
  obtain ⟨c163, c164, c165, c166, c167, c168⟩ := HV11.out.at6 6 rfl
  go_wp2_with fail
  clear c157 c158 c159 c160 c161 c162 c163 c164 c165 c166 c167 c168
  refine (Hj1.out _ (HV11.out.law HW.out)).mono ?_
  rintro e w12 ⟨rfl, hb⟩
  have HV12 := hide (HV11.out.below hb)
  clear hb HV11
  obtain ⟨c169, c170, c171, c172, c173, c174⟩ := HV12.out.at6 5 rfl
  obtain ⟨fc169, fc170, fc171, fc172, fc173, fc174⟩ := HV12.out.fz6 5 rfl
  have HV12_ := hide (HV12.out.put6 5 rfl (.bool false) (.string ⟨#[]⟩) (.string ⟨#[]⟩) (.bool false) (.string ⟨#[]⟩) (.string ⟨#[]⟩))
  clear HV12
  obtain ⟨c175, c176, c177, c178, c179, c180⟩ := HV12_.out.at6 7 rfl
  obtain ⟨c181, c182, c183, c184, c185, c186⟩ := HV12_.out.at6 6 rfl
  go_wp2_with fail
  clear c169 c170 c171 c172 c173 c174 fc169 fc170 fc171 fc172 fc173 fc174 c175 c176 c177 c178 c179 c180 c181 c182 c183 c184 c185 c186
  refine (Hj2.out _ (HV12_.out.law HW.out)).mono ?_
  rintro e w13 ⟨rfl, hb⟩
  have HV13 := hide (HV12_.out.below hb)
  clear hb HV12_
  obtain ⟨c187, c188, c189, c190, c191, c192⟩ := HV13.out.at6 4 rfl
  obtain ⟨fc187, fc188, fc189, fc190, fc191, fc192⟩ := HV13.out.fz6 4 rfl
  have HV13_ := hide (HV13.out.put6 4 rfl (.bool false) (.string ⟨#[]⟩) (.string ⟨#[]⟩) (.bool false) (.string ⟨#[]⟩) (.string ⟨#[]⟩))
  clear HV13
  obtain ⟨c193, c194, c195, c196, c197, c198⟩ := HV13_.out.at6 8 rfl
  obtain ⟨c199, c200, c201, c202, c203, c204⟩ := HV13_.out.at6 6 rfl
  go_wp2_with fail
  clear c187 c188 c189 c190 c191 c192 fc187 fc188 fc189 fc190 fc191 fc192 c193 c194 c195 c196 c197 c198 c199 c200 c201 c202 c203 c204
  refine (Hj3.out _ (HV13_.out.law HW.out)).mono ?_
  rintro e w14 ⟨rfl, hb⟩
  have HV14 := hide (HV13_.out.below hb)
  clear hb HV13_
  obtain ⟨c205, c206, c207, c208, c209, c210⟩ := HV14.out.at6 3 rfl
  obtain ⟨fc205, fc206, fc207, fc208, fc209, fc210⟩ := HV14.out.fz6 3 rfl
  have HV14_ := hide (HV14.out.put6 3 rfl (.bool false) (.string ⟨#[]⟩) (.string ⟨#[]⟩) (.bool false) (.string ⟨#[]⟩) (.string ⟨#[]⟩))
  clear HV14
  obtain ⟨c211, c212, c213, c214, c215, c216⟩ := HV14_.out.at6 7 rfl
  obtain ⟨c217, c218, c219, c220, c221, c222⟩ := HV14_.out.at6 6 rfl
  go_wp2_with fail
  clear c205 c206 c207 c208 c209 c210 fc205 fc206 fc207 fc208 fc209 fc210 c211 c212 c213 c214 c215 c216 c217 c218 c219 c220 c221 c222
  refine (Hj4.out _ (HV14_.out.law HW.out)).mono ?_
  rintro e w15 ⟨rfl, hb⟩
  have HV15 := hide (HV14_.out.below hb)
  clear hb HV14_
  obtain ⟨c223, c224, c225, c226, c227, c228⟩ := HV15.out.at6 2 rfl
  obtain ⟨fc223, fc224, fc225, fc226, fc227, fc228⟩ := HV15.out.fz6 2 rfl
  have HV15_ := hide (HV15.out.put6 2 rfl (.bool false) (.string ⟨#[]⟩) (.string ⟨#[]⟩) (.bool false) (.string ⟨#[]⟩) (.string ⟨#[]⟩))
  clear HV15
  go_wp2_with fail
  clear c223 c224 c225 c226 c227 c228 fc223 fc224 fc225 fc226 fc227 fc228
  go_ret
  exact ⟨rfl, HV15_.out.bel⟩
set_option maxHeartbeats 8000000 in
set_option maxRecDepth 100000 in
theorem iorder_5 (g1 : Bool) (s1 t1 : ByteArray) (g2 : Bool) (s2 t2 : ByteArray) (g3 : Bool) (s3 t3 : ByteArray) (g4 : Bool) (s4 t4 : ByteArray) (g5 : Bool) (s5 t5 : ByteArray) (g6 : Bool) (s6 t6 : ByteArray) (g7 : Bool) (s7 t7 : ByteArray) (g8 : Bool) (s8 t8 : ByteArray) (g9 : Bool) (s9 t9 : ByteArray) (g10 : Bool) (s10 t10 : ByteArray) (g11 : Bool) (s11 t11 : ByteArray) (g12 : Bool) (s12 t12 : ByteArray) (g13 : Bool) (s13 t13 : ByteArray) (g14 : Bool) (s14 t14 : ByteArray) (g15 : Bool) (s15 t15 : ByteArray) (g16 : Bool) (s16 t16 : ByteArray) (g17 : Bool) (s17 t17 : ByteArray) (g18 : Bool) (s18 t18 : ByteArray) (g19 : Bool) (s19 t19 : ByteArray) (g20 : Bool) (s20 t20 : ByteArray) (k1 k2 : Int) (b : Bool) (w : World) (h1 : ∀ W, LawW W → Calls Tryz.prog 11 #[.agg #[.bool g1, .string s1, .string t1, .bool g2, .string s2, .string t2], .agg #[.bool g3, .string s3, .string t3, .bool g4, .string s4, .string t4]] W fun e w' => e = .returned (.tuple #[.agg #[.bool g7, .string s7, .string t7, .bool g8, .string s8, .string t8], .int .i64 k1]) ∧ Below W.heap.size W w') (h2 : ∀ W, LawW W → Calls Tryz.prog 11 #[.agg #[.bool g3, .string s3, .string t3, .bool g4, .string s4, .string t4], .agg #[.bool g1, .string s1, .string t1, .bool g2, .string s2, .string t2]] W fun e w' => e = .returned (.tuple #[.agg #[.bool g7, .string s7, .string t7, .bool g8, .string s8, .string t8], .int .i64 k1]) ∧ Below W.heap.size W w') (h3 : ∀ W, LawW W → Calls Tryz.prog 13 #[.agg #[.bool g1, .string s1, .string t1, .bool g2, .string s2, .string t2], .agg #[.bool g3, .string s3, .string t3, .bool g4, .string s4, .string t4]] W fun e w' => e = .returned (.tuple #[.agg #[.bool g9, .string s9, .string t9, .bool g10, .string s10, .string t10], .int .i64 k2]) ∧ Below W.heap.size W w') (h4 : ∀ W, LawW W → Calls Tryz.prog 13 #[.agg #[.bool g3, .string s3, .string t3, .bool g4, .string s4, .string t4], .agg #[.bool g1, .string s1, .string t1, .bool g2, .string s2, .string t2]] W fun e w' => e = .returned (.tuple #[.agg #[.bool g9, .string s9, .string t9, .bool g10, .string s10, .string t10], .int .i64 k2]) ∧ Below W.heap.size W w') (h5 : ∀ W, LawW W → Calls Tryz.prog 17 #[.agg #[.bool g1, .string s1, .string t1, .bool g2, .string s2, .string t2], .agg #[.bool g3, .string s3, .string t3, .bool g4, .string s4, .string t4]] W fun e w' => e = .returned (.tuple #[.agg #[.bool g11, .string s11, .string t11, .bool g12, .string s12, .string t12], .bool b]) ∧ Below W.heap.size W w') (h6 : ∀ W, LawW W → Calls Tryz.prog 17 #[.agg #[.bool g3, .string s3, .string t3, .bool g4, .string s4, .string t4], .agg #[.bool g1, .string s1, .string t1, .bool g2, .string s2, .string t2]] W fun e w' => e = .returned (.tuple #[.agg #[.bool g11, .string s11, .string t11, .bool g12, .string s12, .string t12], .bool b]) ∧ Below W.heap.size W w') (h7 : ∀ W, LawW W → Calls Tryz.prog 19 #[.agg #[.bool g1, .string s1, .string t1, .bool g2, .string s2, .string t2]] W fun e w' => e = .returned (.bool true) ∧ Below W.heap.size W w') (h8 : ∀ W, LawW W → Calls Tryz.prog 21 #[.agg #[.bool g3, .string s3, .string t3, .bool g4, .string s4, .string t4], .agg #[.bool g1, .string s1, .string t1]] W fun e w' => e = .returned (.bool true) ∧ Below W.heap.size W w') (h9 : ∀ W, LawW W → Calls Tryz.prog 21 #[.agg #[.bool g3, .string s3, .string t3, .bool g4, .string s4, .string t4], .agg #[.bool g2, .string s2, .string t2]] W fun e w' => e = .returned (.bool true) ∧ Below W.heap.size W w') (j1 : ∀ W, LawW W → Calls Tryz.prog 11 #[.agg #[.bool g1, .string s1, .string t1, .bool g2, .string s2, .string t2], .agg #[.bool g5, .string s5, .string t5, .bool g6, .string s6, .string t6]] W fun e w' => e = .returned (.tuple #[.agg #[.bool g13, .string s13, .string t13, .bool g14, .string s14, .string t14], .int .i64 0]) ∧ Below W.heap.size W w') (j2 : ∀ W, LawW W → Calls Tryz.prog 11 #[.agg #[.bool g3, .string s3, .string t3, .bool g4, .string s4, .string t4], .agg #[.bool g5, .string s5, .string t5, .bool g6, .string s6, .string t6]] W fun e w' => e = .returned (.tuple #[.agg #[.bool g15, .string s15, .string t15, .bool g16, .string s16, .string t16], .int .i64 0]) ∧ Below W.heap.size W w') (j3 : ∀ W, LawW W → Calls Tryz.prog 13 #[.agg #[.bool g1, .string s1, .string t1, .bool g2, .string s2, .string t2], .agg #[.bool g5, .string s5, .string t5, .bool g6, .string s6, .string t6]] W fun e w' => e = .returned (.tuple #[.agg #[.bool g17, .string s17, .string t17, .bool g18, .string s18, .string t18], .int .i64 0]) ∧ Below W.heap.size W w') (j4 : ∀ W, LawW W → Calls Tryz.prog 13 #[.agg #[.bool g3, .string s3, .string t3, .bool g4, .string s4, .string t4], .agg #[.bool g5, .string s5, .string t5, .bool g6, .string s6, .string t6]] W fun e w' => e = .returned (.tuple #[.agg #[.bool g19, .string s19, .string t19, .bool g20, .string s20, .string t20], .int .i64 0]) ∧ Below W.heap.size W w') (j5 : ∀ W, LawW W → Calls Tryz.prog 21 #[.agg #[.bool g15, .string s15, .string t15, .bool g16, .string s16, .string t16], .agg #[.bool g13, .string s13, .string t13]] W fun e w' => e = .returned (.bool true) ∧ Below W.heap.size W w') (j6 : ∀ W, LawW W → Calls Tryz.prog 21 #[.agg #[.bool g15, .string s15, .string t15, .bool g16, .string s16, .string t16], .agg #[.bool g14, .string s14, .string t14]] W fun e w' => e = .returned (.bool true) ∧ Below W.heap.size W w') (j7 : ∀ W, LawW W → Calls Tryz.prog 21 #[.agg #[.bool g19, .string s19, .string t19, .bool g20, .string s20, .string t20], .agg #[.bool g17, .string s17, .string t17]] W fun e w' => e = .returned (.bool true) ∧ Below W.heap.size W w') (j8 : ∀ W, LawW W → Calls Tryz.prog 21 #[.agg #[.bool g19, .string s19, .string t19, .bool g20, .string s20, .string t20], .agg #[.bool g18, .string s18, .string t18]] W fun e w' => e = .returned (.bool true) ∧ Below W.heap.size W w') (hf : (fewI [((g1, s1, t1), (g2, s2, t2)), ((g3, s3, t3), (g4, s4, t4)), ((g5, s5, t5), (g6, s6, t6))] && fewQ 60 []) = true) (hw : LawW w) :
    Calls Tryz.prog 8 #[.agg #[.bool g1, .string s1, .string t1, .bool g2, .string s2, .string t2], .agg #[.bool g3, .string s3, .string t3, .bool g4, .string s4, .string t4], .agg #[.bool g5, .string s5, .string t5, .bool g6, .string s6, .string t6]] w fun e w' => e = .returned (.bool true) ∧ Below w.heap.size w w' := by
  have Hh1 := hide h1
  have Hh2 := hide h2
  have Hh3 := hide h3
  have Hh4 := hide h4
  have Hh5 := hide h5
  have Hh6 := hide h6
  have Hh7 := hide h7
  have Hh8 := hide h8
  have Hh9 := hide h9
  have Hj1 := hide j1
  have Hj2 := hide j2
  have Hj3 := hide j3
  have Hj4 := hide j4
  have Hj5 := hide j5
  have Hj6 := hide j6
  have Hj7 := hide j7
  have Hj8 := hide j8
  have HW := hide hw
  have HH := hide (fun W hW => law05_head W hW)
  have HF := hide (fun v u W h1 h2 => law05_few [((g1, s1, t1), (g2, s2, t2)), ((g3, s3, t3), (g4, s4, t4)), ((g5, s5, t5), (g6, s6, t6))] [] v u W h1 h2 (by show 3 ≤ maxLen; decide) (by show 0 ≤ 1000; decide))
  rw [hf] at HF

  have HV0 : Hid (VB w w []) := VB.nil w
  clear h1 h2 h3 h4 h5 h6 h7 h8 h9 j1 j2 j3 j4 j5 j6 j7 j8 hw hf 
  go_enter Tryz.func8, Tryz.ntmps8
  have HV0_ := hide (HV0.out.push6 (b := w.heap.size) (by simp) (.bool g1) (.string s1) (.string t1) (.bool g2) (.string s2) (.string t2) 26)
  clear HV0
  have HV0__ := hide (HV0_.out.push6 (b := w.heap.size + 1) (by simp) (.bool g3) (.string s3) (.string t3) (.bool g4) (.string s4) (.string t4) 26)
  clear HV0_
  have HV0___ := hide (HV0__.out.push6 (b := w.heap.size + 2) (by simp) (.bool g5) (.string s5) (.string t5) (.bool g6) (.string s6) (.string t6) 26)
  clear HV0__
  go_wp2_with fail
  refine (HH.out _ (HV0___.out.law HW.out)).mono ?_
  rintro e w1 ⟨rfl, hb⟩
  have HV1 := hide (HV0___.out.below hb)
  clear hb HV0___
  obtain ⟨c1, c2, c3, c4, c5, c6⟩ := HV1.out.at6 2 rfl
  obtain ⟨c7, c8, c9, c10, c11, c12⟩ := HV1.out.at6 1 rfl
  obtain ⟨c13, c14, c15, c16, c17, c18⟩ := HV1.out.at6 0 rfl
  have hli : SliceOf vIv 6 (w1.alloc (.cells #[.bool g1, .string s1, .string t1, .bool g2, .string s2, .string t2, .bool g3, .string s3, .string t3, .bool g4, .string s4, .string t4, .bool g5, .string s5, .string t5, .bool g6, .string s6, .string t6] 26)) (.slice (some ⟨w1.heap.size, 0, none⟩) 3 3) [((g1, s1, t1), (g2, s2, t2)), ((g3, s3, t3), (g4, s4, t4)), ((g5, s5, t5), (g6, s6, t6))] := slice_lit_iv vIv_len w1 [((g1, s1, t1), (g2, s2, t2)), ((g3, s3, t3), (g4, s4, t4)), ((g5, s5, t5), (g6, s6, t6))] _ (show 3 ≤ maxLen by decide) (by simp) rfl rfl
  have HLI := hide hli
  clear hli
  have HV1_ := hide (HV1.out.anon (.cells #[.bool g1, .string s1, .string t1, .bool g2, .string s2, .string t2, .bool g3, .string s3, .string t3, .bool g4, .string s4, .string t4, .bool g5, .string s5, .string t5, .bool g6, .string s6, .string t6] 26))
  clear HV1
  go_wp2_with fail
  clear c1 c2 c3 c4 c5 c6 c7 c8 c9 c10 c11 c12 c13 c14 c15 c16 c17 c18
  refine (HF.out _ _ _ HLI.out (slice_nil _)).mono ?_
  rintro e w2 ⟨rfl, hb⟩
  have HV2 := hide (HV1_.out.below hb)
  clear hb HV1_ HF HLI
  obtain ⟨c19, c20, c21, c22, c23, c24⟩ := HV2.out.at6 2 rfl
  obtain ⟨c25, c26, c27, c28, c29, c30⟩ := HV2.out.at6 1 rfl
  go_wp2_with fail
  clear c19 c20 c21 c22 c23 c24 c25 c26 c27 c28 c29 c30
  refine (Hh1.out _ (HV2.out.law HW.out)).mono ?_
  rintro e w3 ⟨rfl, hb⟩
  have HV3 := hide (HV2.out.below hb)
  clear hb HV2
  have HV3_ := hide (HV3.out.push6 (b := w3.heap.size) (by simp) (.bool g7) (.string s7) (.string t7) (.bool g8) (.string s8) (.string t8) 26)
  clear HV3
  obtain ⟨c31, c32, c33, c34, c35, c36⟩ := HV3_.out.at6 2 rfl
  obtain ⟨c37, c38, c39, c40, c41, c42⟩ := HV3_.out.at6 3 rfl
  go_wp2_with fail
  clear c31 c32 c33 c34 c35 c36 c37 c38 c39 c40 c41 c42
  refine (Hh2.out _ (HV3_.out.law HW.out)).mono ?_
  rintro e w4 ⟨rfl, hb⟩
  have HV4 := hide (HV3_.out.below hb)
  clear hb HV3_
  have HV4_ := hide (HV4.out.push6 (b := w4.heap.size) (by simp) (.bool g7) (.string s7) (.string t7) (.bool g8) (.string s8) (.string t8) 26)
  clear HV4
  obtain ⟨c43, c44, c45, c46, c47, c48⟩ := HV4_.out.at6 4 rfl
  obtain ⟨c49, c50, c51, c52, c53, c54⟩ := HV4_.out.at6 3 rfl
  go_wp2_with fail
  clear c43 c44 c45 c46 c47 c48 c49 c50 c51 c52 c53 c54
  refine (Hh3.out _ (HV4_.out.law HW.out)).mono ?_
  rintro e w5 ⟨rfl, hb⟩
  have HV5 := hide (HV4_.out.below hb)
  clear hb HV4_
  have HV5_ := hide (HV5.out.push6 (b := w5.heap.size) (by simp) (.bool g9) (.string s9) (.string t9) (.bool g10) (.string s10) (.string t10) 26)
  clear HV5
  obtain ⟨c55, c56, c57, c58, c59, c60⟩ := HV5_.out.at6 4 rfl
  obtain ⟨c61, c62, c63, c64, c65, c66⟩ := HV5_.out.at6 5 rfl
  go_wp2_with fail
  clear c55 c56 c57 c58 c59 c60 c61 c62 c63 c64 c65 c66
  refine (Hh4.out _ (HV5_.out.law HW.out)).mono ?_
  rintro e w6 ⟨rfl, hb⟩
  have HV6 := hide (HV5_.out.below hb)
  clear hb HV5_
  have HV6_ := hide (HV6.out.push6 (b := w6.heap.size) (by simp) (.bool g9) (.string s9) (.string t9) (.bool g10) (.string s10) (.string t10) 26)
  clear HV6
  obtain ⟨c67, c68, c69, c70, c71, c72⟩ := HV6_.out.at6 6 rfl
  obtain ⟨c73, c74, c75, c76, c77, c78⟩ := HV6_.out.at6 5 rfl
  go_wp2_with fail
  clear c67 c68 c69 c70 c71 c72 c73 c74 c75 c76 c77 c78
  refine (Hh5.out _ (HV6_.out.law HW.out)).mono ?_
  rintro e w7 ⟨rfl, hb⟩
  have HV7 := hide (HV6_.out.below hb)
  clear hb HV6_
  have HV7_ := hide (HV7.out.push6 (b := w7.heap.size) (by simp) (.bool g11) (.string s11) (.string t11) (.bool g12) (.string s12) (.string t12) 26)
  clear HV7
  obtain ⟨c79, c80, c81, c82, c83, c84⟩ := HV7_.out.at6 6 rfl
  obtain ⟨c85, c86, c87, c88, c89, c90⟩ := HV7_.out.at6 7 rfl
  go_wp2_with fail
  clear c79 c80 c81 c82 c83 c84 c85 c86 c87 c88 c89 c90
  refine (Hh6.out _ (HV7_.out.law HW.out)).mono ?_
  rintro e w8 ⟨rfl, hb⟩
  have HV8 := hide (HV7_.out.below hb)
  clear hb HV7_
  have HV8_ := hide (HV8.out.push6 (b := w8.heap.size) (by simp) (.bool g11) (.string s11) (.string t11) (.bool g12) (.string s12) (.string t12) 26)
  clear HV8
  obtain ⟨c91, c92, c93, c94, c95, c96⟩ := HV8_.out.at6 5 rfl
  obtain ⟨c97, c98, c99, c100, c101, c102⟩ := HV8_.out.at6 4 rfl
  obtain ⟨c103, c104, c105, c106, c107, c108⟩ := HV8_.out.at6 3 rfl
  obtain ⟨c109, c110, c111, c112, c113, c114⟩ := HV8_.out.at6 2 rfl
  obtain ⟨c115, c116, c117, c118, c119, c120⟩ := HV8_.out.at6 1 rfl
  obtain ⟨c121, c122, c123, c124, c125, c126⟩ := HV8_.out.at6 0 rfl
  obtain ⟨c127, c128, c129, c130, c131, c132⟩ := HV8_.out.at6 8 rfl
  go_wp2_with fail
  clear c91 c92 c93 c94 c95 c96 c97 c98 c99 c100 c101 c102 c103 c104 c105 c106 c107 c108 c109 c110 c111 c112 c113 c114 c115 c116 c117 c118 c119 c120 c121 c122 c123 c124 c125 c126 c127 c128 c129 c130 c131 c132
  refine (Hh7.out _ (HV8_.out.law HW.out)).mono ?_
  rintro e w9 ⟨rfl, hb⟩
  have HV9 := hide (HV8_.out.below hb)
  clear hb HV8_
  obtain ⟨c133, c134, c135, c136, c137, c138⟩ := HV9.out.at6 7 rfl
  obtain ⟨c139, c140, c141, c142, c143, c144⟩ := HV9.out.at6 8 rfl
  go_wp2_with fail
  clear c133 c134 c135 c136 c137 c138 c139 c140 c141 c142 c143 c144
  refine (Hh8.out _ (HV9.out.law HW.out)).mono ?_
  rintro e w10 ⟨rfl, hb⟩
  have HV10 := hide (HV9.out.below hb)
  clear hb HV9
  obtain ⟨c145, c146, c147, c148, c149, c150⟩ := HV10.out.at6 7 rfl
  obtain ⟨c151, c152, c153, c154, c155, c156⟩ := HV10.out.at6 8 rfl
  go_wp2_with fail
  clear c145 c146 c147 c148 c149 c150 c151 c152 c153 c154 c155 c156
  refine (Hh9.out _ (HV10.out.law HW.out)).mono ?_
  rintro e w11 ⟨rfl, hb⟩
  have HV11 := hide (HV10.out.below hb)
  clear hb HV10
  obtain ⟨c157, c158, c159, c160, c161, c162⟩ := HV11.out.at6 8 rfl
  obtain ⟨c163, c164, c165, c166, c167, c168⟩ := HV11.out.at6 6 rfl
  go_wp2_with fail
  clear c157 c158 c159 c160 c161 c162 c163 c164 c165 c166 c167 c168
  refine (Hj1.out _ (HV11.out.law HW.out)).mono ?_
  rintro e w12 ⟨rfl, hb⟩
  have HV12 := hide (HV11.out.below hb)
  clear hb HV11
  obtain ⟨c169, c170, c171, c172, c173, c174⟩ := HV12.out.at6 5 rfl
  obtain ⟨fc169, fc170, fc171, fc172, fc173, fc174⟩ := HV12.out.fz6 5 rfl
  have HV12_ := hide (HV12.out.put6 5 rfl (.bool g13) (.string s13) (.string t13) (.bool g14) (.string s14) (.string t14))
  clear HV12
  obtain ⟨c175, c176, c177, c178, c179, c180⟩ := HV12_.out.at6 7 rfl
  obtain ⟨c181, c182, c183, c184, c185, c186⟩ := HV12_.out.at6 6 rfl
  go_wp2_with fail
  clear c169 c170 c171 c172 c173 c174 fc169 fc170 fc171 fc172 fc173 fc174 c175 c176 c177 c178 c179 c180 c181 c182 c183 c184 c185 c186
  refine (Hj2.out _ (HV12_.out.law HW.out)).mono ?_
  rintro e w13 ⟨rfl, hb⟩
  have HV13 := hide (HV12_.out.below hb)
  clear hb HV12_
  obtain ⟨c187, c188, c189, c190, c191, c192⟩ := HV13.out.at6 4 rfl
  obtain ⟨fc187, fc188, fc189, fc190, fc191, fc192⟩ := HV13.out.fz6 4 rfl
  have HV13_ := hide (HV13.out.put6 4 rfl (.bool g15) (.string s15) (.string t15) (.bool g16) (.string s16) (.string t16))
  clear HV13
  obtain ⟨c193, c194, c195, c196, c197, c198⟩ := HV13_.out.at6 8 rfl
  obtain ⟨c199, c200, c201, c202, c203, c204⟩ := HV13_.out.at6 6 rfl
  go_wp2_with fail
  clear c187 c188 c189 c190 c191 c192 fc187 fc188 fc189 fc190 fc191 fc192 c193 c194 c195 c196 c197 c198 c199 c200 c201 c202 c203 c204
  refine (Hj3.out _ (HV13_.out.law HW.out)).mono ?_
  rintro e w14 ⟨rfl, hb⟩
  have HV14 := hide (HV13_.out.below hb)
  clear hb HV13_
  obtain ⟨c205, c206, c207, c208, c209, c210⟩ := HV14.out.at6 3 rfl
  obtain ⟨fc205, fc206, fc207, fc208, fc209, fc210⟩ := HV14.out.fz6 3 rfl
  have HV14_ := hide (HV14.out.put6 3 rfl (.bool g17) (.string s17) (.string t17) (.bool g18) (.string s18) (.string t18))
  clear HV14
  obtain ⟨c211, c212, c213, c214, c215, c216⟩ := HV14_.out.at6 7 rfl
  obtain ⟨c217, c218, c219, c220, c221, c222⟩ := HV14_.out.at6 6 rfl
  go_wp2_with fail
  clear c205 c206 c207 c208 c209 c210 fc205 fc206 fc207 fc208 fc209 fc210 c211 c212 c213 c214 c215 c216 c217 c218 c219 c220 c221 c222
  refine (Hj4.out _ (HV14_.out.law HW.out)).mono ?_
  rintro e w15 ⟨rfl, hb⟩
  have HV15 := hide (HV14_.out.below hb)
  clear hb HV14_
  obtain ⟨c223, c224, c225, c226, c227, c228⟩ := HV15.out.at6 2 rfl
  obtain ⟨fc223, fc224, fc225, fc226, fc227, fc228⟩ := HV15.out.fz6 2 rfl
  have HV15_ := hide (HV15.out.put6 2 rfl (.bool g19) (.string s19) (.string t19) (.bool g20) (.string s20) (.string t20))
  clear HV15
  obtain ⟨c229, c230, c231, c232, c233, c234⟩ := HV15_.out.at6 4 rfl
  obtain ⟨c235, c236, c237, c238, c239, c240⟩ := HV15_.out.at6 5 rfl
  go_wp2_with fail
  clear c223 c224 c225 c226 c227 c228 fc223 fc224 fc225 fc226 fc227 fc228 c229 c230 c231 c232 c233 c234 c235 c236 c237 c238 c239 c240
  refine (Hj5.out _ (HV15_.out.law HW.out)).mono ?_
  rintro e w16 ⟨rfl, hb⟩
  have HV16 := hide (HV15_.out.below hb)
  clear hb HV15_
  obtain ⟨c241, c242, c243, c244, c245, c246⟩ := HV16.out.at6 4 rfl
  obtain ⟨c247, c248, c249, c250, c251, c252⟩ := HV16.out.at6 5 rfl
  go_wp2_with fail
  clear c241 c242 c243 c244 c245 c246 c247 c248 c249 c250 c251 c252
  refine (Hj6.out _ (HV16.out.law HW.out)).mono ?_
  rintro e w17 ⟨rfl, hb⟩
  have HV17 := hide (HV16.out.below hb)
  clear hb HV16
  obtain ⟨c253, c254, c255, c256, c257, c258⟩ := HV17.out.at6 2 rfl
  obtain ⟨c259, c260, c261, c262, c263, c264⟩ := HV17.out.at6 3 rfl
  go_wp2_with fail
  clear c253 c254 c255 c256 c257 c258 c259 c260 c261 c262 c263 c264
  refine (Hj7.out _ (HV17.out.law HW.out)).mono ?_
  rintro e w18 ⟨rfl, hb⟩
  have HV18 := hide (HV17.out.below hb)
  clear hb HV17
  obtain ⟨c265, c266, c267, c268, c269, c270⟩ := HV18.out.at6 2 rfl
  obtain ⟨c271, c272, c273, c274, c275, c276⟩ := HV18.out.at6 3 rfl
  go_wp2_with fail
  clear c265 c266 c267 c268 c269 c270 c271 c272 c273 c274 c275 c276
  refine (Hj8.out _ (HV18.out.law HW.out)).mono ?_
  rintro e w19 ⟨rfl, hb⟩
  have HV19 := hide (HV18.out.below hb)
  clear hb HV18
  go_wp2_with fail
  go_ret
  exact ⟨rfl, HV19.out.bel⟩
/-- The least and the greatest product hold all products of numbers between the ends. -/
theorem Prods.box {k : Nat} {a c : Q3 × Q3} {l : List Q3} {m n : Q3} (pl : Prods k a c l) (hm : MinX l m) (hn : MaxX l n) {x y : Rat} (l1 : qv a.1 ≤ x) (l2 : x ≤ qv a.2) (l3 : qv c.1 ≤ y) (l4 : y ≤ qv c.2) : qv m ≤ x * y ∧ x * y ≤ qv n := by
  obtain ⟨m0, m1, m2, m3, rfl, _, e0, e1, e2, e3⟩ := pl.all
  refine mul_box l1 l2 l3 l4 ?_ ?_ ?_ ?_ ?_ ?_ ?_ ?_
  · rw [← e0]; exact hm.2 _ (by simp)
  · rw [← e1]; exact hm.2 _ (by simp)
  · rw [← e2]; exact hm.2 _ (by simp)
  · rw [← e3]; exact hm.2 _ (by simp)
  · rw [← e0]; exact hn.2 _ (by simp)
  · rw [← e1]; exact hn.2 _ (by simp)
  · rw [← e2]; exact hn.2 _ (by simp)
  · rw [← e3]; exact hn.2 _ (by simp)
theorem Prods.ends {k : Nat} {a c : Q3 × Q3} {l : List Q3} (pl : Prods k a c l) {z : Q3} (hz : z ∈ l) : ∃ x y, (x = a.1 ∨ x = a.2) ∧ (y = c.1 ∨ y = c.2) ∧ qv z = qv x * qv y := by
  obtain ⟨m0, m1, m2, m3, rfl, _, e0, e1, e2, e3⟩ := pl.all
  simp only [List.mem_cons, List.not_mem_nil, or_false] at hz
  rcases hz with rfl | rfl | rfl | rfl
  · exact ⟨_, _, .inl rfl, .inl rfl, e0⟩
  · exact ⟨_, _, .inl rfl, .inr rfl, e1⟩
  · exact ⟨_, _, .inr rfl, .inl rfl, e2⟩
  · exact ⟨_, _, .inr rfl, .inr rfl, e3⟩
theorem Prods.ne {k : Nat} {a c : Q3 × Q3} {l : List Q3} (pl : Prods k a c l) : l ≠ [] := by
  obtain ⟨_, _, _, _, rfl, _⟩ := pl.all; simp
theorem Prods.swap {k : Nat} {a c : Q3 × Q3} {l : List Q3} (pl : Prods k a c l) : ∃ l', Prods k c a l' ∧ ∀ x, x ∈ l ↔ x ∈ l' := by
  obtain ⟨m0, m1, m2, m3, rfl, ⟨i0, i1, i2, i3⟩, e0, e1, e2, e3⟩ := pl.all
  refine ⟨_, ⟨m0, m2, m1, m3, rfl, ⟨i0, i2, i1, i3⟩, by rw [e0, Rat.mul_comm], by rw [e2, Rat.mul_comm], by rw [e1, Rat.mul_comm], by rw [e3, Rat.mul_comm]⟩, fun x => ?_⟩
  simp only [List.mem_cons, List.not_mem_nil, or_false]
  constructor <;> (rintro (h | h | h | h) <;> simp [h])
/-- Either both are valid, or every function of two says no. -/
theorem two_cases {a c : Q3 × Q3} (sa : ShI a) (sc : ShI c) : (IvOk 60 a ∧ IvOk 60 c) ∨ ((IVx a false ∨ (IVx a true ∧ IVx c false)) ∧ (IVx c false ∨ (IVx c true ∧ IVx a false))) := by
  obtain ⟨⟨z1, z2⟩, z3, z4⟩ := sa
  obtain ⟨⟨y1, y2⟩, y3, y4⟩ := sc
  rcases ivx_cases a z1 z2 z3 z4 with oa | ⟨na, va⟩
  · rcases ivx_cases c y1 y2 y3 y4 with oc | ⟨nc, vc⟩
    · exact .inl ⟨oa, oc⟩
    · exact .inr ⟨.inr ⟨ivx_ok oa (by omega), vc⟩, .inl vc⟩
  · rcases ivx_cases c y1 y2 y3 y4 with oc | ⟨nc, vc⟩
    · exact .inr ⟨.inl va, .inr ⟨ivx_ok oc (by omega), va⟩⟩
    · exact .inr ⟨.inl va, .inl vc⟩
theorem add_comm5 {a c : Q3 × Q3} (sa : ShI a) (sc : ShI c) : ∃ (u : Q3 × Q3) (k : Int), RetC 11 #[iArg a, iArg c] (.tuple #[iArg u, .int .i64 k]) ∧ RetC 11 #[iArg c, iArg a] (.tuple #[iArg u, .int .i64 k]) := by
  rcases two_cases sa sc with ⟨oa, oc⟩ | ⟨b1, b2⟩
  · obtain ⟨x, xx, ex⟩ := IsX.get (oa.lo.sz.add oc.lo.sz)
    obtain ⟨y, xy, ey⟩ := IsX.get (oa.hi.sz.add oc.hi.sz)
    exact ⟨(x, y), 0, c_add oa oc (by omega) xx xy ex ey, c_add oc oa (by omega) xx xy (by rw [ex, Rat.add_comm]) (by rw [ey, Rat.add_comm])⟩
  · exact ⟨((false, ⟨#[]⟩, ⟨#[]⟩), (false, ⟨#[]⟩, ⟨#[]⟩)), 1, c_add_bad b1, c_add_bad b2⟩
theorem mul_comm5 {a c : Q3 × Q3} (sa : ShI a) (sc : ShI c) : ∃ (u : Q3 × Q3) (k : Int), RetC 13 #[iArg a, iArg c] (.tuple #[iArg u, .int .i64 k]) ∧ RetC 13 #[iArg c, iArg a] (.tuple #[iArg u, .int .i64 k]) := by
  rcases two_cases sa sc with ⟨oa, oc⟩ | ⟨b1, b2⟩
  · obtain ⟨l, pl⟩ := Prods.get oa oc
    obtain ⟨m, hm⟩ := min_ex l pl.ne
    obtain ⟨n, hn⟩ := max_ex l pl.ne
    obtain ⟨l', pl', hl⟩ := pl.swap
    exact ⟨(m, n), 0, c_mul oa oc (by omega) pl hm hn, c_mul oc oa (by omega) pl' ⟨(hl _).1 hm.1, fun y hy => hm.2 y ((hl _).2 hy)⟩ ⟨(hl _).1 hn.1, fun y hy => hn.2 y ((hl _).2 hy)⟩⟩
  · exact ⟨((false, ⟨#[]⟩, ⟨#[]⟩), (false, ⟨#[]⟩, ⟨#[]⟩)), 1, c_mul_bad b1, c_mul_bad b2⟩
theorem meet_comm5 {a c : Q3 × Q3} (sa : ShI a) (sc : ShI c) : ∃ (u : Q3 × Q3) (b : Bool), RetC 17 #[iArg a, iArg c] (.tuple #[iArg u, .bool b]) ∧ RetC 17 #[iArg c, iArg a] (.tuple #[iArg u, .bool b]) := by
  rcases two_cases sa sc with ⟨oa, oc⟩ | ⟨b1, b2⟩
  · obtain ⟨x, hx⟩ : ∃ x, x = if qv a.1 < qv c.1 then c.1 else a.1 := ⟨_, rfl⟩
    obtain ⟨y, hy⟩ : ∃ y, y = if qv c.2 < qv a.2 then c.2 else a.2 := ⟨_, rfl⟩
    have hx' : x = if qv c.1 < qv a.1 then a.1 else c.1 := by
      rw [hx]
      by_cases h : qv a.1 < qv c.1
      · rw [if_pos h, if_neg (by grind)]
      · rw [if_neg h]
        by_cases h2 : qv c.1 < qv a.1
        · rw [if_pos h2]
        · rw [if_neg h2]; exact oa.lo.eq oc.lo (by grind)
    have hy' : y = if qv a.2 < qv c.2 then a.2 else c.2 := by
      rw [hy]
      by_cases h : qv c.2 < qv a.2
      · rw [if_pos h, if_neg (by grind)]
      · rw [if_neg h]
        by_cases h2 : qv a.2 < qv c.2
        · rw [if_pos h2]
        · rw [if_neg h2]; exact oa.hi.eq oc.hi (by grind)
    have h1 := c_meet oa oc (by omega) (by omega) hx hy
    have h2 := c_meet oc oa (by omega) (by omega) hx' hy'
    by_cases hle : qv x ≤ qv y
    · rw [if_pos hle] at h1 h2
      exact ⟨(x, y), true, h1, h2⟩
    · rw [if_neg hle] at h1 h2
      exact ⟨((false, ⟨#[]⟩, ⟨#[]⟩), (false, ⟨#[]⟩, ⟨#[]⟩)), false, h1, h2⟩
  · exact ⟨((false, ⟨#[]⟩, ⟨#[]⟩), (false, ⟨#[]⟩, ⟨#[]⟩)), false, c_meet_bad b1, c_meet_bad b2⟩
theorem intervalOrder (a c e : Q3 × Q3) (W : World) (hW : LawW W) : Calls Tryz.prog 8 #[iArg a, iArg c, iArg e] W fun e w' => e = .returned (.bool true) ∧ Below W.heap.size W w' := by
  obtain ⟨f, hf⟩ : ∃ f, (fewI [a, c, e] && fewQ 60 []) = f := ⟨_, rfl⟩
  cases f
  · exact iorder_0 _ _ _ _ _ _ _ _ _ _ _ _ _ _ _ _ _ _ W hf hW
  have hf' := hf
  rw [Bool.and_eq_true] at hf
  have sa := (fewI_sh hf.1).2 a (by simp)
  have sc := (fewI_sh hf.1).2 c (by simp)
  have se := (fewI_sh hf.1).2 e (by simp)
  obtain ⟨u, k1, h1, h2⟩ := add_comm5 sa sc
  obtain ⟨p, k2, h3, h4⟩ := mul_comm5 sa sc
  obtain ⟨m, b, h5, h6⟩ := meet_comm5 sa sc
  rcases ivx_cases a sa.1.1 sa.1.2 sa.2.1 sa.2.2 with oa | ⟨na, h7⟩
  case inr => exact iorder_1 _ _ _ _ _ _ _ _ _ _ _ _ _ _ _ _ _ _ u.1.1 u.1.2.1 u.1.2.2 u.2.1 u.2.2.1 u.2.2.2 p.1.1 p.1.2.1 p.1.2.2 p.2.1 p.2.2.1 p.2.2.2 m.1.1 m.1.2.1 m.1.2.2 m.2.1 m.2.2.1 m.2.2.2 k1 k2 b W h1 h2 h3 h4 h5 h6 h7 hf' hW
  have h7 := ivx_ok oa (by omega)
  rcases has_cases c a.1 sc sa.1 with h8 | ⟨oc, _, l1, l2, h8⟩
  · exact iorder_2 _ _ _ _ _ _ _ _ _ _ _ _ _ _ _ _ _ _ u.1.1 u.1.2.1 u.1.2.2 u.2.1 u.2.2.1 u.2.2.2 p.1.1 p.1.2.1 p.1.2.2 p.2.1 p.2.2.1 p.2.2.2 m.1.1 m.1.2.1 m.1.2.2 m.2.1 m.2.2.1 m.2.2.2 k1 k2 b W h1 h2 h3 h4 h5 h6 h7 h8 hf' hW
  rcases has_cases c a.2 sc sa.2 with h9 | ⟨_, _, l3, l4, h9⟩
  · exact iorder_3 _ _ _ _ _ _ _ _ _ _ _ _ _ _ _ _ _ _ u.1.1 u.1.2.1 u.1.2.2 u.2.1 u.2.2.1 u.2.2.2 p.1.1 p.1.2.1 p.1.2.2 p.2.1 p.2.2.1 p.2.2.2 m.1.1 m.1.2.1 m.1.2.2 m.2.1 m.2.2.1 m.2.2.2 k1 k2 b W h1 h2 h3 h4 h5 h6 h7 h8 h9 hf' hW
  rcases ivx_cases e se.1.1 se.1.2 se.2.1 se.2.2 with oe | ⟨ne, ve⟩
  case inr =>
    exact iorder_4 _ _ _ _ _ _ _ _ _ _ _ _ _ _ _ _ _ _ u.1.1 u.1.2.1 u.1.2.2 u.2.1 u.2.2.1 u.2.2.2 p.1.1 p.1.2.1 p.1.2.2 p.2.1 p.2.2.1 p.2.2.2 m.1.1 m.1.2.1 m.1.2.2 m.2.1 m.2.2.1 m.2.2.2 k1 k2 b W h1 h2 h3 h4 h5 h6 h7 h8 h9 (c_add_bad (.inr ⟨h7, ve⟩)) (c_add_bad (.inr ⟨ivx_ok oc (by omega), ve⟩)) (c_mul_bad (.inr ⟨h7, ve⟩)) (c_mul_bad (.inr ⟨ivx_ok oc (by omega), ve⟩)) hf' hW
  obtain ⟨x1, i1, e1⟩ := IsX.get (oa.lo.sz.add oe.lo.sz)
  obtain ⟨y1, i2, e2⟩ := IsX.get (oa.hi.sz.add oe.hi.sz)
  obtain ⟨x2, i3, e3⟩ := IsX.get (oc.lo.sz.add oe.lo.sz)
  obtain ⟨y2, i4, e4⟩ := IsX.get (oc.hi.sz.add oe.hi.sz)
  have j1 := c_add oa oe (by omega) i1 i2 e1 e2
  have j2 := c_add oc oe (by omega) i3 i4 e3 e4
  obtain ⟨la, pa⟩ := Prods.get oa oe
  obtain ⟨lc, pc⟩ := Prods.get oc oe
  obtain ⟨m1, hm1⟩ := min_ex la pa.ne
  obtain ⟨n1, hn1⟩ := max_ex la pa.ne
  obtain ⟨m2, hm2⟩ := min_ex lc pc.ne
  obtain ⟨n2, hn2⟩ := max_ex lc pc.ne
  have j3 := c_mul oa oe (by omega) pa hm1 hn1
  have j4 := c_mul oc oe (by omega) pc hm2 hn2
  have hle := oe.le
  have hla := oa.le
  have osum : IvOk (60 + 60 + 1) (x2, y2) := ⟨i3, i4, by show qv x2 ≤ qv y2; rw [e3, e4]; grind⟩
  have j5 := c_contains osum i1 (by omega) (by omega)
  rw [decide_eq_true (by show qv x2 ≤ qv x1 ∧ qv x1 ≤ qv y2; rw [e3, e1, e4]; constructor <;> grind)] at j5
  have j6 := c_contains osum i2 (by omega) (by omega)
  rw [decide_eq_true (by show qv x2 ≤ qv y1 ∧ qv y1 ≤ qv y2; rw [e3, e2, e4]; constructor <;> grind)] at j6
  have inn : ∀ z ∈ la, qv m2 ≤ qv z ∧ qv z ≤ qv n2 := fun z hz => by
    obtain ⟨x, y, hx, hy, ez⟩ := pa.ends hz
    rw [ez]
    exact pc.box hm2 hn2 (by rcases hx with rfl | rfl <;> grind) (by rcases hx with rfl | rfl <;> grind) (by rcases hy with rfl | rfl <;> grind) (by rcases hy with rfl | rfl <;> grind)
  have oprod : IvOk (60 + 60) (m2, n2) := ⟨pc.isx _ hm2.1, pc.isx _ hn2.1, hm2.2 _ hn2.1⟩
  have j7 := c_contains oprod (pa.isx _ hm1.1) (by omega) (by omega)
  rw [decide_eq_true (inn _ hm1.1)] at j7
  have j8 := c_contains oprod (pa.isx _ hn1.1) (by omega) (by omega)
  rw [decide_eq_true (inn _ hn1.1)] at j8
  exact iorder_5 _ _ _ _ _ _ _ _ _ _ _ _ _ _ _ _ _ _ u.1.1 u.1.2.1 u.1.2.2 u.2.1 u.2.2.1 u.2.2.2 p.1.1 p.1.2.1 p.1.2.2 p.2.1 p.2.2.1 p.2.2.2 m.1.1 m.1.2.1 m.1.2.2 m.2.1 m.2.2.1 m.2.2.2 x1.1 x1.2.1 x1.2.2 y1.1 y1.2.1 y1.2.2 x2.1 x2.2.1 x2.2.2 y2.1 y2.2.1 y2.2.2 m1.1 m1.2.1 m1.2.2 n1.1 n1.2.1 n1.2.2 m2.1 m2.2.1 m2.2.2 n2.1 n2.2.1 n2.2.2 k1 k2 b W h1 h2 h3 h4 h5 h6 h7 h8 h9 j1 j2 j3 j4 j5 j6 j7 j8 hf' hW
end Go.Proofs.YtbojlmnajndleaaGreatDoor
