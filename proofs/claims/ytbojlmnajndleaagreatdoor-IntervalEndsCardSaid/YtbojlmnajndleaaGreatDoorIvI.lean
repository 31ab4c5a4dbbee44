/- IntervalContains. -/
import Derived.Test.YtbojlmnajndleaaGreatDoorIvV
import Derived.Test.YtbojlmnajndleaaGreatDoorIvO
set_option linter.unusedVariables false
set_option linter.unusedSimpArgs false
namespace Go.Proofs.YtbojlmnajndleaaGreatDoor
open Go.RowKit Go.Sort
/-- A short interval. -/
def ShI (a : Q3 × Q3) : Prop := (a.1.2.1.size ≤ 60 ∧ a.1.2.2.size ≤ 60) ∧ a.2.2.1.size ≤ 60 ∧ a.2.2.2.size ≤ 60
def ShQ (r : Q3) : Prop := r.2.1.size ≤ 60 ∧ r.2.2.size ≤ 60
theorem fewQ_sh {l : List Q3} (h : fewQ 60 l = true) : ∀ x ∈ l, ShQ x := fun x hx => by
  unfold fewQ at h
  have := List.all_eq_true.1 h x hx
  simpa [ShQ] using this
theorem sm6_sh {a : Q3 × Q3} (h : sm6 a = true) : ShI a := by
  unfold sm6 at h
  have h1 := fewQ_sh h a.1 (by simp)
  have h2 := fewQ_sh h a.2 (by simp)
  exact ⟨h1, h2⟩
theorem fewI_sh {l : List (Q3 × Q3)} (h : fewI l = true) : l.length ≤ 12 ∧ ∀ a ∈ l, ShI a := by
  unfold fewI at h
  rw [Bool.and_eq_true] at h
  exact ⟨of_decide_eq_true h.1, fun a ha => sm6_sh (List.all_eq_true.1 h.2 a ha)⟩
theorem fewI_two {a c : Q3 × Q3} (h : fewI [a, c] = true) : ShI a ∧ ShI c := ⟨(fewI_sh h).2 a (by simp), (fewI_sh h).2 c (by simp)⟩
theorem fewQ_two6 {a c : Q3} (h : fewQ 60 [a, c] = true) : ShQ a ∧ ShQ c := ⟨fewQ_sh h a (by simp), fewQ_sh h c (by simp)⟩
theorem isx_cases (r : Q3) (h : ShQ r) : IsX 60 r ∨ XV r.1 r.2.1 r.2.2 false := by
  have m1 : r.2.1.size ≤ maxLen := by have := h.1; unfold maxLen; omega
  have m2 : r.2.2.size ≤ maxLen := by have := h.2; unfold maxLen; omega
  rcases Bool.eq_false_or_eq_true (vldR r.1 r.2.1 r.2.2) with v | v
  · obtain ⟨p, ep, hp⟩ := few_q (k := 60) (by omega) h.1 h.2 v
    exact .inl ⟨p, ep, hp⟩
  · exact .inr (fun W hW => by
      have h := rat_valid r.1 r.2.1 r.2.2 W m1 m2 hW
      rw [v] at h; exact h)
theorem has_cases (a : Q3 × Q3) (r : Q3) (ha : ShI a) (hr : ShQ r) : RetC 21 #[iArg a, qArg r] (.bool false) ∨ (IvOk 60 a ∧ IsX 60 r ∧ qv a.1 ≤ qv r ∧ qv r ≤ qv a.2 ∧ RetC 21 #[iArg a, qArg r] (.bool true)) := by
  obtain ⟨⟨h1, h2⟩, h3, h4⟩ := ha
  rcases ivx_cases a h1 h2 h3 h4 with oa | ⟨_, na⟩
  · rcases isx_cases r hr with xr | nr
    · have h := c_contains oa xr (by omega) (by omega)
      by_cases hd : qv a.1 ≤ qv r ∧ qv r ≤ qv a.2
      · rw [decide_eq_true hd] at h
        exact .inr ⟨oa, xr, hd.1, hd.2, h⟩
      · rw [decide_eq_false hd] at h
        exact .inl h
    · exact .inl (c_contains_bad (.inr ⟨ivx_ok oa (by omega), nr⟩))
  · exact .inl (c_contains_bad (.inl na))

set_option maxHeartbeats 8000000 in
set_option maxRecDepth 100000 in
theorem contains_0 (g1 : Bool) (s1 t1 : ByteArray) (g2 : Bool) (s2 t2 : ByteArray) (g3 : Bool) (s3 t3 : ByteArray) (g4 : Bool) (s4 t4 : ByteArray) (g5 : Bool) (s5 t5 : ByteArray) (g6 : Bool) (s6 t6 : ByteArray) (w : World) (hf : (fewI [((g1, s1, t1), (g2, s2, t2)), ((g3, s3, t3), (g4, s4, t4))] && fewQ 60 [(g5, s5, t5), (g6, s6, t6)]) = false) (hw : LawW w) :
    Calls Tryz.prog 4 #[.agg #[.bool g1, .string s1, .string t1, .bool g2, .string s2, .string t2], .agg #[.bool g3, .string s3, .string t3, .bool g4, .string s4, .string t4], .agg #[.bool g5, .string s5, .string t5], .agg #[.bool g6, .string s6, .string t6]] w fun e w' => e = .returned (.bool true) ∧ Below w.heap.size w w' := by
  have HW := hide hw
  have HH := hide (fun W hW => law05_head W hW)
  have HF := hide (fun v u W h1 h2 => law05_few [((g1, s1, t1), (g2, s2, t2)), ((g3, s3, t3), (g4, s4, t4))] [(g5, s5, t5), (g6, s6, t6)] v u W h1 h2 (by show 2 ≤ maxLen; decide) (by show 2 ≤ 1000; decide))
  rw [hf] at HF

  have HV0 : Hid (VB w w []) := VB.nil w
  clear hw hf 
  go_enter Tryz.func4, Tryz.ntmps4
  have HV0_ := hide (HV0.out.push6 (b := w.heap.size) (by simp) (.bool g1) (.string s1) (.string t1) (.bool g2) (.string s2) (.string t2) 26)
  clear HV0
  have HV0__ := hide (HV0_.out.push6 (b := w.heap.size + 1) (by simp) (.bool g3) (.string s3) (.string t3) (.bool g4) (.string s4) (.string t4) 26)
  clear HV0_
  have HV0___ := hide (HV0__.out.push3 (b := w.heap.size + 2) (by simp) (.bool g5) (.string s5) (.string t5) 24)
  clear HV0__
  have HV0____ := hide (HV0___.out.push3 (b := w.heap.size + 3) (by simp) (.bool g6) (.string s6) (.string t6) 24)
  clear HV0___
  go_wp2_with fail
  refine (HH.out _ (HV0____.out.law HW.out)).mono ?_
  rintro e w1 ⟨rfl, hb⟩
  have HV1 := hide (HV0____.out.below hb)
  clear hb HV0____
  obtain ⟨c1, c2, c3, c4, c5, c6⟩ := HV1.out.at6 3 rfl
  obtain ⟨c7, c8, c9, c10, c11, c12⟩ := HV1.out.at6 2 rfl
  have hli : SliceOf vIv 6 (w1.alloc (.cells #[.bool g1, .string s1, .string t1, .bool g2, .string s2, .string t2, .bool g3, .string s3, .string t3, .bool g4, .string s4, .string t4] 26)) (.slice (some ⟨w1.heap.size, 0, none⟩) 2 2) [((g1, s1, t1), (g2, s2, t2)), ((g3, s3, t3), (g4, s4, t4))] := slice_lit_iv vIv_len w1 [((g1, s1, t1), (g2, s2, t2)), ((g3, s3, t3), (g4, s4, t4))] _ (show 2 ≤ maxLen by decide) (by simp) rfl rfl
  have HLI := hide hli
  clear hli
  have HV1_ := hide (HV1.out.anon (.cells #[.bool g1, .string s1, .string t1, .bool g2, .string s2, .string t2, .bool g3, .string s3, .string t3, .bool g4, .string s4, .string t4] 26))
  clear HV1
  obtain ⟨c13, c14, c15⟩ := HV1_.out.at3 1 rfl
  obtain ⟨c16, c17, c18⟩ := HV1_.out.at3 0 rfl
  have hlq : SliceOf vQ 3 ((w1.alloc (.cells #[.bool g1, .string s1, .string t1, .bool g2, .string s2, .string t2, .bool g3, .string s3, .string t3, .bool g4, .string s4, .string t4] 26)).alloc (.cells #[.bool g5, .string s5, .string t5, .bool g6, .string s6, .string t6] 24)) (.slice (some ⟨w1.heap.size + 1, 0, none⟩) 2 2) [(g5, s5, t5), (g6, s6, t6)] := slice_lit_iv vQ_len (w1.alloc (.cells #[.bool g1, .string s1, .string t1, .bool g2, .string s2, .string t2, .bool g3, .string s3, .string t3, .bool g4, .string s4, .string t4] 26)) [(g5, s5, t5), (g6, s6, t6)] _ (show 2 ≤ maxLen by decide) (by simp) rfl rfl
  have HLQ := hide hlq
  clear hlq
  have HV1__ := hide (HV1_.out.anon (.cells #[.bool g5, .string s5, .string t5, .bool g6, .string s6, .string t6] 24))
  clear HV1_
  go_wp2_with fail
  clear c1 c2 c3 c4 c5 c6 c7 c8 c9 c10 c11 c12 c13 c14 c15 c16 c17 c18
  refine (HF.out _ _ _ (HLI.out.below (bAlloc (Below.refl _ _) _)) HLQ.out).mono ?_
  rintro e w2 ⟨rfl, hb⟩
  have HV2 := hide (HV1__.out.below hb)
  clear hb HV1__ HF HLI HLQ
  go_wp2_with fail
  go_ret
  exact ⟨rfl, HV2.out.bel⟩
set_option maxHeartbeats 8000000 in
set_option maxRecDepth 100000 in
theorem contains_1 (g1 : Bool) (s1 t1 : ByteArray) (g2 : Bool) (s2 t2 : ByteArray) (g3 : Bool) (s3 t3 : ByteArray) (g4 : Bool) (s4 t4 : ByteArray) (g5 : Bool) (s5 t5 : ByteArray) (g6 : Bool) (s6 t6 : ByteArray) (w : World) (h1 : ∀ W, LawW W → Calls Tryz.prog 21 #[.agg #[.bool g1, .string s1, .string t1, .bool g2, .string s2, .string t2], .agg #[.bool g5, .string s5, .string t5]] W fun e w' => e = .returned (.bool false) ∧ Below W.heap.size W w') (hf : (fewI [((g1, s1, t1), (g2, s2, t2)), ((g3, s3, t3), (g4, s4, t4))] && fewQ 60 [(g5, s5, t5), (g6, s6, t6)]) = true) (hw : LawW w) :
    Calls Tryz.prog 4 #[.agg #[.bool g1, .string s1, .string t1, .bool g2, .string s2, .string t2], .agg #[.bool g3, .string s3, .string t3, .bool g4, .string s4, .string t4], .agg #[.bool g5, .string s5, .string t5], .agg #[.bool g6, .string s6, .string t6]] w fun e w' => e = .returned (.bool true) ∧ Below w.heap.size w w' := by
  have Hh1 := hide h1
  have HW := hide hw
  have HH := hide (fun W hW => law05_head W hW)
  have HF := hide (fun v u W h1 h2 => law05_few [((g1, s1, t1), (g2, s2, t2)), ((g3, s3, t3), (g4, s4, t4))] [(g5, s5, t5), (g6, s6, t6)] v u W h1 h2 (by show 2 ≤ maxLen; decide) (by show 2 ≤ 1000; decide))
  rw [hf] at HF

  have HV0 : Hid (VB w w []) := VB.nil w
  clear h1 hw hf 
  go_enter Tryz.func4, Tryz.ntmps4
  have HV0_ := hide (HV0.out.push6 (b := w.heap.size) (by simp) (.bool g1) (.string s1) (.string t1) (.bool g2) (.string s2) (.string t2) 26)
  clear HV0
  have HV0__ := hide (HV0_.out.push6 (b := w.heap.size + 1) (by simp) (.bool g3) (.string s3) (.string t3) (.bool g4) (.string s4) (.string t4) 26)
  clear HV0_
  have HV0___ := hide (HV0__.out.push3 (b := w.heap.size + 2) (by simp) (.bool g5) (.string s5) (.string t5) 24)
  clear HV0__
  have HV0____ := hide (HV0___.out.push3 (b := w.heap.size + 3) (by simp) (.bool g6) (.string s6) (.string t6) 24)
  clear HV0___
  go_wp2_with fail
  refine (HH.out _ (HV0____.out.law HW.out)).mono ?_
  rintro e w1 ⟨rfl, hb⟩
  have HV1 := hide (HV0____.out.below hb)
  clear hb HV0____
  obtain ⟨c1, c2, c3, c4, c5, c6⟩ := HV1.out.at6 3 rfl
  obtain ⟨c7, c8, c9, c10, c11, c12⟩ := HV1.out.at6 2 rfl
  have hli : SliceOf vIv 6 (w1.alloc (.cells #[.bool g1, .string s1, .string t1, .bool g2, .string s2, .string t2, .bool g3, .string s3, .string t3, .bool g4, .string s4, .string t4] 26)) (.slice (some ⟨w1.heap.size, 0, none⟩) 2 2) [((g1, s1, t1), (g2, s2, t2)), ((g3, s3, t3), (g4, s4, t4))] := slice_lit_iv vIv_len w1 [((g1, s1, t1), (g2, s2, t2)), ((g3, s3, t3), (g4, s4, t4))] _ (show 2 ≤ maxLen by decide) (by simp) rfl rfl
  have HLI := hide hli
  clear hli
  have HV1_ := hide (HV1.out.anon (.cells #[.bool g1, .string s1, .string t1, .bool g2, .string s2, .string t2, .bool g3, .string s3, .string t3, .bool g4, .string s4, .string t4] 26))
  clear HV1
  obtain ⟨c13, c14, c15⟩ := HV1_.out.at3 1 rfl
  obtain ⟨c16, c17, c18⟩ := HV1_.out.at3 0 rfl
  have hlq : SliceOf vQ 3 ((w1.alloc (.cells #[.bool g1, .string s1, .string t1, .bool g2, .string s2, .string t2, .bool g3, .string s3, .string t3, .bool g4, .string s4, .string t4] 26)).alloc (.cells #[.bool g5, .string s5, .string t5, .bool g6, .string s6, .string t6] 24)) (.slice (some ⟨w1.heap.size + 1, 0, none⟩) 2 2) [(g5, s5, t5), (g6, s6, t6)] := slice_lit_iv vQ_len (w1.alloc (.cells #[.bool g1, .string s1, .string t1, .bool g2, .string s2, .string t2, .bool g3, .string s3, .string t3, .bool g4, .string s4, .string t4] 26)) [(g5, s5, t5), (g6, s6, t6)] _ (show 2 ≤ maxLen by decide) (by simp) rfl rfl
  have HLQ := hide hlq
  clear hlq
  have HV1__ := hide (HV1_.out.anon (.cells #[.bool g5, .string s5, .string t5, .bool g6, .string s6, .string t6] 24))
  clear HV1_
  go_wp2_with fail
  clear c1 c2 c3 c4 c5 c6 c7 c8 c9 c10 c11 c12 c13 c14 c15 c16 c17 c18
  refine (HF.out _ _ _ (HLI.out.below (bAlloc (Below.refl _ _) _)) HLQ.out).mono ?_
  rintro e w2 ⟨rfl, hb⟩
  have HV2 := hide (HV1__.out.below hb)
  clear hb HV1__ HF HLI HLQ
  obtain ⟨c19, c20, c21, c22, c23, c24⟩ := HV2.out.at6 3 rfl
  obtain ⟨c25, c26, c27⟩ := HV2.out.at3 1 rfl
  go_wp2_with fail
  clear c19 c20 c21 c22 c23 c24 c25 c26 c27
  refine (Hh1.out _ (HV2.out.law HW.out)).mono ?_
  rintro e w3 ⟨rfl, hb⟩
  have HV3 := hide (HV2.out.below hb)
  clear hb HV2
  go_wp2_with fail
  go_ret
  exact ⟨rfl, HV3.out.bel⟩
set_option maxHeartbeats 8000000 in
set_option maxRecDepth 100000 in
theorem contains_2 (g1 : Bool) (s1 t1 : ByteArray) (g2 : Bool) (s2 t2 : ByteArray) (g3 : Bool) (s3 t3 : ByteArray) (g4 : Bool) (s4 t4 : ByteArray) (g5 : Bool) (s5 t5 : ByteArray) (g6 : Bool) (s6 t6 : ByteArray) (w : World) (h1 : ∀ W, LawW W → Calls Tryz.prog 21 #[.agg #[.bool g1, .string s1, .string t1, .bool g2, .string s2, .string t2], .agg #[.bool g5, .string s5, .string t5]] W fun e w' => e = .returned (.bool true) ∧ Below W.heap.size W w') (h2 : ∀ W, LawW W → Calls Tryz.prog 21 #[.agg #[.bool g3, .string s3, .string t3, .bool g4, .string s4, .string t4], .agg #[.bool g6, .string s6, .string t6]] W fun e w' => e = .returned (.bool false) ∧ Below W.heap.size W w') (hf : (fewI [((g1, s1, t1), (g2, s2, t2)), ((g3, s3, t3), (g4, s4, t4))] && fewQ 60 [(g5, s5, t5), (g6, s6, t6)]) = true) (hw : LawW w) :
    Calls Tryz.prog 4 #[.agg #[.bool g1, .string s1, .string t1, .bool g2, .string s2, .string t2], .agg #[.bool g3, .string s3, .string t3, .bool g4, .string s4, .string t4], .agg #[.bool g5, .string s5, .string t5], .agg #[.bool g6, .string s6, .string t6]] w fun e w' => e = .returned (.bool true) ∧ Below w.heap.size w w' := by
  have Hh1 := hide h1
  have Hh2 := hide h2
  have HW := hide hw
  have HH := hide (fun W hW => law05_head W hW)
  have HF := hide (fun v u W h1 h2 => law05_few [((g1, s1, t1), (g2, s2, t2)), ((g3, s3, t3), (g4, s4, t4))] [(g5, s5, t5), (g6, s6, t6)] v u W h1 h2 (by show 2 ≤ maxLen; decide) (by show 2 ≤ 1000; decide))
  rw [hf] at HF

  have HV0 : Hid (VB w w []) := VB.nil w
  clear h1 h2 hw hf 
  go_enter Tryz.func4, Tryz.ntmps4
  have HV0_ := hide (HV0.out.push6 (b := w.heap.size) (by simp) (.bool g1) (.string s1) (.string t1) (.bool g2) (.string s2) (.string t2) 26)
  clear HV0
  have HV0__ := hide (HV0_.out.push6 (b := w.heap.size + 1) (by simp) (.bool g3) (.string s3) (.string t3) (.bool g4) (.string s4) (.string t4) 26)
  clear HV0_
  have HV0___ := hide (HV0__.out.push3 (b := w.heap.size + 2) (by simp) (.bool g5) (.string s5) (.string t5) 24)
  clear HV0__
  have HV0____ := hide (HV0___.out.push3 (b := w.heap.size + 3) (by simp) (.bool g6) (.string s6) (.string t6) 24)
  clear HV0___
  go_wp2_with fail
  refine (HH.out _ (HV0____.out.law HW.out)).mono ?_
  rintro e w1 ⟨rfl, hb⟩
  have HV1 := hide (HV0____.out.below hb)
  clear hb HV0____
  obtain ⟨c1, c2, c3, c4, c5, c6⟩ := HV1.out.at6 3 rfl
  obtain ⟨c7, c8, c9, c10, c11, c12⟩ := HV1.out.at6 2 rfl
  have hli : SliceOf vIv 6 (w1.alloc (.cells #[.bool g1, .string s1, .string t1, .bool g2, .string s2, .string t2, .bool g3, .string s3, .string t3, .bool g4, .string s4, .string t4] 26)) (.slice (some ⟨w1.heap.size, 0, none⟩) 2 2) [((g1, s1, t1), (g2, s2, t2)), ((g3, s3, t3), (g4, s4, t4))] := slice_lit_iv vIv_len w1 [((g1, s1, t1), (g2, s2, t2)), ((g3, s3, t3), (g4, s4, t4))] _ (show 2 ≤ maxLen by decide) (by simp) rfl rfl
  have HLI := hide hli
  clear hli
  have HV1_ := hide (HV1.out.anon (.cells #[.bool g1, .string s1, .string t1, .bool g2, .string s2, .string t2, .bool g3, .string s3, .string t3, .bool g4, .string s4, .string t4] 26))
  clear HV1
  obtain ⟨c13, c14, c15⟩ := HV1_.out.at3 1 rfl
  obtain ⟨c16, c17, c18⟩ := HV1_.out.at3 0 rfl
  have hlq : SliceOf vQ 3 ((w1.alloc (.cells #[.bool g1, .string s1, .string t1, .bool g2, .string s2, .string t2, .bool g3, .string s3, .string t3, .bool g4, .string s4, .string t4] 26)).alloc (.cells #[.bool g5, .string s5, .string t5, .bool g6, .string s6, .string t6] 24)) (.slice (some ⟨w1.heap.size + 1, 0, none⟩) 2 2) [(g5, s5, t5), (g6, s6, t6)] := slice_lit_iv vQ_len (w1.alloc (.cells #[.bool g1, .string s1, .string t1, .bool g2, .string s2, .string t2, .bool g3, .string s3, .string t3, .bool g4, .string s4, .string t4] 26)) [(g5, s5, t5), (g6, s6, t6)] _ (show 2 ≤ maxLen by decide) (by simp) rfl rfl
  have HLQ := hide hlq
  clear hlq
  have HV1__ := hide (HV1_.out.anon (.cells #[.bool g5, .string s5, .string t5, .bool g6, .string s6, .string t6] 24))
  clear HV1_
  go_wp2_with fail
  clear c1 c2 c3 c4 c5 c6 c7 c8 c9 c10 c11 c12 c13 c14 c15 c16 c17 c18
  refine (HF.out _ _ _ (HLI.out.below (bAlloc (Below.refl _ _) _)) HLQ.out).mono ?_
  rintro e w2 ⟨rfl, hb⟩
  have HV2 := hide (HV1__.out.below hb)
  clear hb HV1__ HF HLI HLQ
  obtain ⟨c19, c20, c21, c22, c23, c24⟩ := HV2.out.at6 3 rfl
  obtain ⟨c25, c26, c27⟩ := HV2.out.at3 1 rfl
  go_wp2_with fail
  clear c19 c20 c21 c22 c23 c24 c25 c26 c27
  refine (Hh1.out _ (HV2.out.law HW.out)).mono ?_
  rintro e w3 ⟨rfl, hb⟩
  have HV3 := hide (HV2.out.below hb)
  clear hb HV2
  obtain ⟨c28, c29, c30, c31, c32, c33⟩ := HV3.out.at6 2 rfl
  obtain ⟨c34, c35, c36⟩ := HV3.out.at3 0 rfl
  go_wp2_with fail
  clear c28 c29 c30 c31 c32 c33 c34 c35 c36
  refine (Hh2.out _ (HV3.out.law HW.out)).mono ?_
  rintro e w4 ⟨rfl, hb⟩
  have HV4 := hide (HV3.out.below hb)
  clear hb HV3
  go_wp2_with fail
  go_ret
  exact ⟨rfl, HV4.out.bel⟩
set_option maxHeartbeats 8000000 in
set_option maxRecDepth 100000 in
theorem contains_3 (g1 : Bool) (s1 t1 : ByteArray) (g2 : Bool) (s2 t2 : ByteArray) (g3 : Bool) (s3 t3 : ByteArray) (g4 : Bool) (s4 t4 : ByteArray) (g5 : Bool) (s5 t5 : ByteArray) (g6 : Bool) (s6 t6 : ByteArray) (g7 : Bool) (s7 t7 : ByteArray) (g8 : Bool) (s8 t8 : ByteArray) (g9 : Bool) (s9 t9 : ByteArray) (g10 : Bool) (s10 t10 : ByteArray) (g11 : Bool) (s11 t11 : ByteArray) (g12 : Bool) (s12 t12 : ByteArray) (w : World) (h1 : ∀ W, LawW W → Calls Tryz.prog 21 #[.agg #[.bool g1, .string s1, .string t1, .bool g2, .string s2, .string t2], .agg #[.bool g5, .string s5, .string t5]] W fun e w' => e = .returned (.bool true) ∧ Below W.heap.size W w') (h2 : ∀ W, LawW W → Calls Tryz.prog 21 #[.agg #[.bool g3, .string s3, .string t3, .bool g4, .string s4, .string t4], .agg #[.bool g6, .string s6, .string t6]] W fun e w' => e = .returned (.bool true) ∧ Below W.heap.size W w') (h3 : ∀ W, LawW W → Calls Tryz.prog 11 #[.agg #[.bool g1, .string s1, .string t1, .bool g2, .string s2, .string t2], .agg #[.bool g3, .string s3, .string t3, .bool g4, .string s4, .string t4]] W fun e w' => e = .returned (.tuple #[.agg #[.bool g7, .string s7, .string t7, .bool g8, .string s8, .string t8], .int .i64 0]) ∧ Below W.heap.size W w') (h4 : ∀ W, LawW W → Calls Tryz.prog 13 #[.agg #[.bool g1, .string s1, .string t1, .bool g2, .string s2, .string t2], .agg #[.bool g3, .string s3, .string t3, .bool g4, .string s4, .string t4]] W fun e w' => e = .returned (.tuple #[.agg #[.bool g9, .string s9, .string t9, .bool g10, .string s10, .string t10], .int .i64 0]) ∧ Below W.heap.size W w') (h5 : ∀ W, LawW W → Calls Tryz.prog 23 #[.agg #[.bool g5, .string s5, .string t5], .agg #[.bool g6, .string s6, .string t6]] W fun e w' => e = .returned (.tuple #[.agg #[.bool g11, .string s11, .string t11], .int .i64 0]) ∧ Below W.heap.size W w') (h6 : ∀ W, LawW W → Calls Tryz.prog 24 #[.agg #[.bool g5, .string s5, .string t5], .agg #[.bool g6, .string s6, .string t6]] W fun e w' => e = .returned (.tuple #[.agg #[.bool g12, .string s12, .string t12], .int .i64 0]) ∧ Below W.heap.size W w') (h7 : ∀ W, LawW W → Calls Tryz.prog 21 #[.agg #[.bool g7, .string s7, .string t7, .bool g8, .string s8, .string t8], .agg #[.bool g11, .string s11, .string t11]] W fun e w' => e = .returned (.bool true) ∧ Below W.heap.size W w') (h8 : ∀ W, LawW W → Calls Tryz.prog 21 #[.agg #[.bool g9, .string s9, .string t9, .bool g10, .string s10, .string t10], .agg #[.bool g12, .string s12, .string t12]] W fun e w' => e = .returned (.bool true) ∧ Below W.heap.size W w') (hf : (fewI [((g1, s1, t1), (g2, s2, t2)), ((g3, s3, t3), (g4, s4, t4))] && fewQ 60 [(g5, s5, t5), (g6, s6, t6)]) = true) (hw : LawW w) :
    Calls Tryz.prog 4 #[.agg #[.bool g1, .string s1, .string t1, .bool g2, .string s2, .string t2], .agg #[.bool g3, .string s3, .string t3, .bool g4, .string s4, .string t4], .agg #[.bool g5, .string s5, .string t5], .agg #[.bool g6, .string s6, .string t6]] w fun e w' => e = .returned (.bool true) ∧ Below w.heap.size w w' := by
  have Hh1 := hide h1
  have Hh2 := hide h2
  have Hh3 := hide h3
  have Hh4 := hide h4
  have Hh5 := hide h5
  have Hh6 := hide h6
  have Hh7 := hide h7
  have Hh8 := hide h8
  have HW := hide hw
  have HH := hide (fun W hW => law05_head W hW)
  have HF := hide (fun v u W h1 h2 => law05_few [((g1, s1, t1), (g2, s2, t2)), ((g3, s3, t3), (g4, s4, t4))] [(g5, s5, t5), (g6, s6, t6)] v u W h1 h2 (by show 2 ≤ maxLen; decide) (by show 2 ≤ 1000; decide))
  rw [hf] at HF

  have HV0 : Hid (VB w w []) := VB.nil w
  clear h1 h2 h3 h4 h5 h6 h7 h8 hw hf 
  go_enter Tryz.func4, Tryz.ntmps4
  have HV0_ := hide (HV0.out.push6 (b := w.heap.size) (by simp) (.bool g1) (.string s1) (.string t1) (.bool g2) (.string s2) (.string t2) 26)
  clear HV0
  have HV0__ := hide (HV0_.out.push6 (b := w.heap.size + 1) (by simp) (.bool g3) (.string s3) (.string t3) (.bool g4) (.string s4) (.string t4) 26)
  clear HV0_
  have HV0___ := hide (HV0__.out.push3 (b := w.heap.size + 2) (by simp) (.bool g5) (.string s5) (.string t5) 24)
  clear HV0__
  have HV0____ := hide (HV0___.out.push3 (b := w.heap.size + 3) (by simp) (.bool g6) (.string s6) (.string t6) 24)
  clear HV0___
  go_wp2_with fail
  refine (HH.out _ (HV0____.out.law HW.out)).mono ?_
  rintro e w1 ⟨rfl, hb⟩
  have HV1 := hide (HV0____.out.below hb)
  clear hb HV0____
  obtain ⟨c1, c2, c3, c4, c5, c6⟩ := HV1.out.at6 3 rfl
  obtain ⟨c7, c8, c9, c10, c11, c12⟩ := HV1.out.at6 2 rfl
  have hli : SliceOf vIv 6 (w1.alloc (.cells #[.bool g1, .string s1, .string t1, .bool g2, .string s2, .string t2, .bool g3, .string s3, .string t3, .bool g4, .string s4, .string t4] 26)) (.slice (some ⟨w1.heap.size, 0, none⟩) 2 2) [((g1, s1, t1), (g2, s2, t2)), ((g3, s3, t3), (g4, s4, t4))] := slice_lit_iv vIv_len w1 [((g1, s1, t1), (g2, s2, t2)), ((g3, s3, t3), (g4, s4, t4))] _ (show 2 ≤ maxLen by decide) (by simp) rfl rfl
  have HLI := hide hli
  clear hli
  have HV1_ := hide (HV1.out.anon (.cells #[.bool g1, .string s1, .string t1, .bool g2, .string s2, .string t2, .bool g3, .string s3, .string t3, .bool g4, .string s4, .string t4] 26))
  clear HV1
  obtain ⟨c13, c14, c15⟩ := HV1_.out.at3 1 rfl
  obtain ⟨c16, c17, c18⟩ := HV1_.out.at3 0 rfl
  have hlq : SliceOf vQ 3 ((w1.alloc (.cells #[.bool g1, .string s1, .string t1, .bool g2, .string s2, .string t2, .bool g3, .string s3, .string t3, .bool g4, .string s4, .string t4] 26)).alloc (.cells #[.bool g5, .string s5, .string t5, .bool g6, .string s6, .string t6] 24)) (.slice (some ⟨w1.heap.size + 1, 0, none⟩) 2 2) [(g5, s5, t5), (g6, s6, t6)] := slice_lit_iv vQ_len (w1.alloc (.cells #[.bool g1, .string s1, .string t1, .bool g2, .string s2, .string t2, .bool g3, .string s3, .string t3, .bool g4, .string s4, .string t4] 26)) [(g5, s5, t5), (g6, s6, t6)] _ (show 2 ≤ maxLen by decide) (by simp) rfl rfl
  have HLQ := hide hlq
  clear hlq
  have HV1__ := hide (HV1_.out.anon (.cells #[.bool g5, .string s5, .string t5, .bool g6, .string s6, .string t6] 24))
  clear HV1_
  go_wp2_with fail
  clear c1 c2 c3 c4 c5 c6 c7 c8 c9 c10 c11 c12 c13 c14 c15 c16 c17 c18
  refine (HF.out _ _ _ (HLI.out.below (bAlloc (Below.refl _ _) _)) HLQ.out).mono ?_
  rintro e w2 ⟨rfl, hb⟩
  have HV2 := hide (HV1__.out.below hb)
  clear hb HV1__ HF HLI HLQ
  obtain ⟨c19, c20, c21, c22, c23, c24⟩ := HV2.out.at6 3 rfl
  obtain ⟨c25, c26, c27⟩ := HV2.out.at3 1 rfl
  go_wp2_with fail
  clear c19 c20 c21 c22 c23 c24 c25 c26 c27
  refine (Hh1.out _ (HV2.out.law HW.out)).mono ?_
  rintro e w3 ⟨rfl, hb⟩
  have HV3 := hide (HV2.out.below hb)
  clear hb HV2
  obtain ⟨c28, c29, c30, c31, c32, c33⟩ := HV3.out.at6 2 rfl
  obtain ⟨c34, c35, c36⟩ := HV3.out.at3 0 rfl
  go_wp2_with fail
  clear c28 c29 c30 c31 c32 c33 c34 c35 c36
  refine (Hh2.out _ (HV3.out.law HW.out)).mono ?_
  rintro e w4 ⟨rfl, hb⟩
  have HV4 := hide (HV3.out.below hb)
  clear hb HV3
  obtain ⟨c37, c38, c39, c40, c41, c42⟩ := HV4.out.at6 3 rfl
  obtain ⟨c43, c44, c45, c46, c47, c48⟩ := HV4.out.at6 2 rfl
  go_wp2_with fail
  clear c37 c38 c39 c40 c41 c42 c43 c44 c45 c46 c47 c48
  refine (Hh3.out _ (HV4.out.law HW.out)).mono ?_
  rintro e w5 ⟨rfl, hb⟩
  have HV5 := hide (HV4.out.below hb)
  clear hb HV4
  have HV5_ := hide (HV5.out.push6 (b := w5.heap.size) (by simp) (.bool g7) (.string s7) (.string t7) (.bool g8) (.string s8) (.string t8) 26)
  clear HV5
  obtain ⟨c49, c50, c51, c52, c53, c54⟩ := HV5_.out.at6 4 rfl
  obtain ⟨c55, c56, c57, c58, c59, c60⟩ := HV5_.out.at6 3 rfl
  go_wp2_with fail
  clear c49 c50 c51 c52 c53 c54 c55 c56 c57 c58 c59 c60
  refine (Hh4.out _ (HV5_.out.law HW.out)).mono ?_
  rintro e w6 ⟨rfl, hb⟩
  have HV6 := hide (HV5_.out.below hb)
  clear hb HV5_
  have HV6_ := hide (HV6.out.push6 (b := w6.heap.size) (by simp) (.bool g9) (.string s9) (.string t9) (.bool g10) (.string s10) (.string t10) 26)
  clear HV6
  obtain ⟨c61, c62, c63⟩ := HV6_.out.at3 3 rfl
  obtain ⟨c64, c65, c66⟩ := HV6_.out.at3 2 rfl
  go_wp2_with fail
  clear c61 c62 c63 c64 c65 c66
  refine (Hh5.out _ (HV6_.out.law HW.out)).mono ?_
  rintro e w7 ⟨rfl, hb⟩
  have HV7 := hide (HV6_.out.below hb)
  clear hb HV6_
  have HV7_ := hide (HV7.out.push3 (b := w7.heap.size) (by simp) (.bool g11) (.string s11) (.string t11) 24)
  clear HV7
  obtain ⟨c67, c68, c69⟩ := HV7_.out.at3 4 rfl
  obtain ⟨c70, c71, c72⟩ := HV7_.out.at3 3 rfl
  go_wp2_with fail
  clear c67 c68 c69 c70 c71 c72
  refine (Hh6.out _ (HV7_.out.law HW.out)).mono ?_
  rintro e w8 ⟨rfl, hb⟩
  have HV8 := hide (HV7_.out.below hb)
  clear hb HV7_
  have HV8_ := hide (HV8.out.push3 (b := w8.heap.size) (by simp) (.bool g12) (.string s12) (.string t12) 24)
  clear HV8
  obtain ⟨c73, c74, c75, c76, c77, c78⟩ := HV8_.out.at6 3 rfl
  obtain ⟨c79, c80, c81⟩ := HV8_.out.at3 1 rfl
  go_wp2_with fail
  clear c73 c74 c75 c76 c77 c78 c79 c80 c81
  refine (Hh7.out _ (HV8_.out.law HW.out)).mono ?_
  rintro e w9 ⟨rfl, hb⟩
  have HV9 := hide (HV8_.out.below hb)
  clear hb HV8_
  obtain ⟨c82, c83, c84, c85, c86, c87⟩ := HV9.out.at6 2 rfl
  obtain ⟨c88, c89, c90⟩ := HV9.out.at3 0 rfl
  go_wp2_with fail
  clear c82 c83 c84 c85 c86 c87 c88 c89 c90
  refine (Hh8.out _ (HV9.out.law HW.out)).mono ?_
  rintro e w10 ⟨rfl, hb⟩
  have HV10 := hide (HV9.out.below hb)
  clear hb HV9
  go_wp2_with fail
  go_ret
  exact ⟨rfl, HV10.out.bel⟩
/-- What lies between two numbers, times a number. -/
theorem mul_mid {l h x y : Rat} (h1 : l ≤ x) (h2 : x ≤ h) : (l * y ≤ x * y ∨ h * y ≤ x * y) ∧ (x * y ≤ l * y ∨ x * y ≤ h * y) := by
  rcases (Rat.le_total : (0 : Rat) ≤ y ∨ y ≤ 0) with hy | hy
  · exact ⟨.inl (Rat.mul_le_mul_of_nonneg_right h1 hy), .inr (Rat.mul_le_mul_of_nonneg_right h2 hy)⟩
  · have hn : 0 ≤ -y := by grind
    have e1 := Rat.mul_le_mul_of_nonneg_right h1 hn
    have e2 := Rat.mul_le_mul_of_nonneg_right h2 hn
    exact ⟨.inr (by grind), .inl (by grind)⟩
theorem mul_box {a b c d x y m M : Rat} (h1 : a ≤ x) (h2 : x ≤ b) (h3 : c ≤ y) (h4 : y ≤ d) (m1 : m ≤ a * c) (m2 : m ≤ a * d) (m3 : m ≤ b * c) (m4 : m ≤ b * d) (n1 : a * c ≤ M) (n2 : a * d ≤ M) (n3 : b * c ≤ M) (n4 : b * d ≤ M) : m ≤ x * y ∧ x * y ≤ M := by
  obtain ⟨p1, p2⟩ := mul_mid (y := y) h1 h2
  obtain ⟨q1, q2⟩ := mul_mid (y := a) h3 h4
  obtain ⟨r1, r2⟩ := mul_mid (y := b) h3 h4
  rw [Rat.mul_comm c a, Rat.mul_comm d a, Rat.mul_comm y a] at q1 q2
  rw [Rat.mul_comm c b, Rat.mul_comm d b, Rat.mul_comm y b] at r1 r2
  constructor
  · have u1 : m ≤ a * y := by rcases q1 with h | h <;> grind
    have u2 : m ≤ b * y := by rcases r1 with h | h <;> grind
    rcases p1 with h | h <;> grind
  · have u1 : a * y ≤ M := by rcases q2 with h | h <;> grind
    have u2 : b * y ≤ M := by rcases r2 with h | h <;> grind
    rcases p2 with h | h <;> grind
theorem intervalContains (a c : Q3 × Q3) (r s : Q3) (W : World) (hW : LawW W) : Calls Tryz.prog 4 #[iArg a, iArg c, qArg r, qArg s] W fun e w' => e = .returned (.bool true) ∧ Below W.heap.size W w' := by
  obtain ⟨f, hf⟩ : ∃ f, (fewI [a, c] && fewQ 60 [r, s]) = f := ⟨_, rfl⟩
  cases f
  · exact contains_0 _ _ _ _ _ _ _ _ _ _ _ _ _ _ _ _ _ _ W hf hW
  rw [Bool.and_eq_true] at hf
  obtain ⟨sa, sc⟩ := fewI_two hf.1
  obtain ⟨sr, ss⟩ := fewQ_two6 hf.2
  have hf' : (fewI [a, c] && fewQ 60 [r, s]) = true := by rw [hf.1, hf.2]; rfl
  rcases has_cases a r sa sr with h1 | ⟨oa, xr, l1, l2, h1⟩
  · exact contains_1 _ _ _ _ _ _ _ _ _ _ _ _ _ _ _ _ _ _ W h1 hf' hW
  rcases has_cases c s sc ss with h2 | ⟨oc, xs, l3, l4, h2⟩
  · exact contains_2 _ _ _ _ _ _ _ _ _ _ _ _ _ _ _ _ _ _ W h1 h2 hf' hW
  obtain ⟨u, xu, eu⟩ := IsX.get (oa.lo.sz.add oc.lo.sz)
  obtain ⟨v, xv, ev⟩ := IsX.get (oa.hi.sz.add oc.hi.sz)
  obtain ⟨x, xx, ex⟩ := IsX.get (xr.sz.add xs.sz)
  obtain ⟨y, xy, ey⟩ := IsX.get (xr.sz.mul xs.sz)
  obtain ⟨l, pl⟩ := Prods.get oa oc
  have hall := pl.isx
  have ne : l ≠ [] := by obtain ⟨_, _, _, _, rfl, _⟩ := pl.all; simp
  obtain ⟨m, hm⟩ := min_ex l ne
  obtain ⟨n, hn⟩ := max_ex l ne
  have h3 := c_add oa oc (by omega) xu xv eu ev
  have h4 := c_mul oa oc (by omega) pl hm hn
  have h5 : RetC 23 #[qArg r, qArg s] (.tuple #[qArg x, .int .i64 0]) := fun W hW => add_okq xr.sz xs.sz (by omega) ex.symm xr.q xs.q xx.q W hW
  have h6 : RetC 24 #[qArg r, qArg s] (.tuple #[qArg y, .int .i64 0]) := fun W hW => mul_okq xr.sz xs.sz (by omega) ey.symm xr.q xs.q xy.q W hW
  have osu : IvOk (60 + 60 + 1) (u, v) := ⟨xu, xv, by show qv u ≤ qv v; rw [eu, ev]; have := oa.le; have := oc.le; grind⟩
  have h7 : RetC 21 #[iArg (u, v), qArg x] (.bool true) := fun W hW => by
    have h := c_contains osu xx (by omega) (by omega) W hW
    rw [decide_eq_true (by show qv u ≤ qv x ∧ qv x ≤ qv v; rw [eu, ev, ex]; constructor <;> grind)] at h
    exact h
  have box : qv m ≤ qv y ∧ qv y ≤ qv n := by
    obtain ⟨m0, m1, m2, m3, rfl, _, e0, e1, e2, e3⟩ := pl.all
    rw [ey]
    refine mul_box l1 l2 l3 l4 ?_ ?_ ?_ ?_ ?_ ?_ ?_ ?_
    · rw [← e0]; exact hm.2 _ (by simp)
    · rw [← e1]; exact hm.2 _ (by simp)
    · rw [← e2]; exact hm.2 _ (by simp)
    · rw [← e3]; exact hm.2 _ (by simp)
    · rw [← e0]; exact hn.2 _ (by simp)
    · rw [← e1]; exact hn.2 _ (by simp)
    · rw [← e2]; exact hn.2 _ (by simp)
    · rw [← e3]; exact hn.2 _ (by simp)
  have opr : IvOk (60 + 60) (m, n) := ⟨hall m hm.1, hall n hn.1, by show qv m ≤ qv n; grind⟩
  have h8 : RetC 21 #[iArg (m, n), qArg y] (.bool true) := fun W hW => by
    have h := c_contains opr xy (by omega) (by omega) W hW
    rw [decide_eq_true box] at h
    exact h
  exact contains_3 _ _ _ _ _ _ _ _ _ _ _ _ _ _ _ _ _ _ u.1 u.2.1 u.2.2 v.1 v.2.1 v.2.2 m.1 m.2.1 m.2.2 n.1 n.2.1 n.2.2 x.1 x.2.1 x.2.2 y.1 y.2.1 y.2.2 W h1 h2 h3 h4 h5 h6 h7 h8 hf' hW
end Go.Proofs.YtbojlmnajndleaaGreatDoor
