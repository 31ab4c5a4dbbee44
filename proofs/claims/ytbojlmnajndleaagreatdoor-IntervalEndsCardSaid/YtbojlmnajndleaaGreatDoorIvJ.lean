/- IntervalMeets. -/
import Derived.Test.YtbojlmnajndleaaGreatDoorIvI
set_option linter.unusedVariables false
set_option linter.unusedSimpArgs false
namespace Go.Proofs.YtbojlmnajndleaaGreatDoor
open Go.RowKit Go.Sort

set_option maxHeartbeats 8000000 in
set_option maxRecDepth 100000 in
theorem meets_0 (g1 : Bool) (s1 t1 : ByteArray) (g2 : Bool) (s2 t2 : ByteArray) (g3 : Bool) (s3 t3 : ByteArray) (g4 : Bool) (s4 t4 : ByteArray) (g5 : Bool) (s5 t5 : ByteArray) (w : World) (hf : (fewI [((g1, s1, t1), (g2, s2, t2)), ((g3, s3, t3), (g4, s4, t4))] && fewQ 60 [(g5, s5, t5)]) = false) (hw : LawW w) :
    Calls Tryz.prog 7 #[.agg #[.bool g1, .string s1, .string t1, .bool g2, .string s2, .string t2], .agg #[.bool g3, .string s3, .string t3, .bool g4, .string s4, .string t4], .agg #[.bool g5, .string s5, .string t5]] w fun e w' => e = .returned (.bool true) ∧ Below w.heap.size w w' := by
  have HW := hide hw
  have HH := hide (fun W hW => law05_head W hW)
  have HF := hide (fun v u W h1 h2 => law05_few [((g1, s1, t1), (g2, s2, t2)), ((g3, s3, t3), (g4, s4, t4))] [(g5, s5, t5)] v u W h1 h2 (by show 2 ≤ maxLen; decide) (by show 1 ≤ 1000; decide))
  rw [hf] at HF

  have HV0 : Hid (VB w w []) := VB.nil w
  clear hw hf 
  go_enter Tryz.func7, Tryz.ntmps7
  have HV0_ := hide (HV0.out.push6 (b := w.heap.size) (by simp) (.bool g1) (.string s1) (.string t1) (.bool g2) (.string s2) (.string t2) 26)
  clear HV0
  have HV0__ := hide (HV0_.out.push6 (b := w.heap.size + 1) (by simp) (.bool g3) (.string s3) (.string t3) (.bool g4) (.string s4) (.string t4) 26)
  clear HV0_
  have HV0___ := hide (HV0__.out.push3 (b := w.heap.size + 2) (by simp) (.bool g5) (.string s5) (.string t5) 24)
  clear HV0__
  go_wp2_with fail
  refine (HH.out _ (HV0___.out.law HW.out)).mono ?_
  rintro e w1 ⟨rfl, hb⟩
  have HV1 := hide (HV0___.out.below hb)
  clear hb HV0___
  obtain ⟨c1, c2, c3, c4, c5, c6⟩ := HV1.out.at6 2 rfl
  obtain ⟨c7, c8, c9, c10, c11, c12⟩ := HV1.out.at6 1 rfl
  have hli : SliceOf vIv 6 (w1.alloc (.cells #[.bool g1, .string s1, .string t1, .bool g2, .string s2, .string t2, .bool g3, .string s3, .string t3, .bool g4, .string s4, .string t4] 26)) (.slice (some ⟨w1.heap.size, 0, none⟩) 2 2) [((g1, s1, t1), (g2, s2, t2)), ((g3, s3, t3), (g4, s4, t4))] := slice_lit_iv vIv_len w1 [((g1, s1, t1), (g2, s2, t2)), ((g3, s3, t3), (g4, s4, t4))] _ (show 2 ≤ maxLen by decide) (by simp) rfl rfl
  have HLI := hide hli
  clear hli
  have HV1_ := hide (HV1.out.anon (.cells #[.bool g1, .string s1, .string t1, .bool g2, .string s2, .string t2, .bool g3, .string s3, .string t3, .bool g4, .string s4, .string t4] 26))
  clear HV1
  obtain ⟨c13, c14, c15⟩ := HV1_.out.at3 0 rfl
  have hlq : SliceOf vQ 3 ((w1.alloc (.cells #[.bool g1, .string s1, .string t1, .bool g2, .string s2, .string t2, .bool g3, .string s3, .string t3, .bool g4, .string s4, .string t4] 26)).alloc (.cells #[.bool g5, .string s5, .string t5] 24)) (.slice (some ⟨w1.heap.size + 1, 0, none⟩) 1 1) [(g5, s5, t5)] := slice_lit_iv vQ_len (w1.alloc (.cells #[.bool g1, .string s1, .string t1, .bool g2, .string s2, .string t2, .bool g3, .string s3, .string t3, .bool g4, .string s4, .string t4] 26)) [(g5, s5, t5)] _ (show 1 ≤ maxLen by decide) (by simp) rfl rfl
  have HLQ := hide hlq
  clear hlq
  have HV1__ := hide (HV1_.out.anon (.cells #[.bool g5, .string s5, .string t5] 24))
  clear HV1_
  go_wp2_with fail
  clear c1 c2 c3 c4 c5 c6 c7 c8 c9 c10 c11 c12 c13 c14 c15
  refine (HF.out _ _ _ (HLI.out.below (bAlloc (Below.refl _ _) _)) HLQ.out).mono ?_
  rintro e w2 ⟨rfl, hb⟩
  have HV2 := hide (HV1__.out.below hb)
  clear hb HV1__ HF HLI HLQ
  go_wp2_with fail
  go_ret
  exact ⟨rfl, HV2.out.bel⟩
set_option maxHeartbeats 8000000 in
set_option maxRecDepth 100000 in
theorem meets_1 (g1 : Bool) (s1 t1 : ByteArray) (g2 : Bool) (s2 t2 : ByteArray) (g3 : Bool) (s3 t3 : ByteArray) (g4 : Bool) (s4 t4 : ByteArray) (g5 : Bool) (s5 t5 : ByteArray) (w : World) (h1 : ∀ W, LawW W → Calls Tryz.prog 17 #[.agg #[.bool g1, .string s1, .string t1, .bool g2, .string s2, .string t2], .agg #[.bool g3, .string s3, .string t3, .bool g4, .string s4, .string t4]] W fun e w' => e = .returned (.tuple #[.agg #[.bool false, .string ⟨#[]⟩, .string ⟨#[]⟩, .bool false, .string ⟨#[]⟩, .string ⟨#[]⟩], .bool false]) ∧ Below W.heap.size W w') (h5 : ∀ W, LawW W → Calls Tryz.prog 21 #[.agg #[.bool g1, .string s1, .string t1, .bool g2, .string s2, .string t2], .agg #[.bool g5, .string s5, .string t5]] W fun e w' => e = .returned (.bool false) ∧ Below W.heap.size W w') (hf : (fewI [((g1, s1, t1), (g2, s2, t2)), ((g3, s3, t3), (g4, s4, t4))] && fewQ 60 [(g5, s5, t5)]) = true) (hw : LawW w) :
    Calls Tryz.prog 7 #[.agg #[.bool g1, .string s1, .string t1, .bool g2, .string s2, .string t2], .agg #[.bool g3, .string s3, .string t3, .bool g4, .string s4, .string t4], .agg #[.bool g5, .string s5, .string t5]] w fun e w' => e = .returned (.bool true) ∧ Below w.heap.size w w' := by
  have Hh1 := hide h1
  have Hh5 := hide h5
  have HW := hide hw
  have HH := hide (fun W hW => law05_head W hW)
  have HF := hide (fun v u W h1 h2 => law05_few [((g1, s1, t1), (g2, s2, t2)), ((g3, s3, t3), (g4, s4, t4))] [(g5, s5, t5)] v u W h1 h2 (by show 2 ≤ maxLen; decide) (by show 1 ≤ 1000; decide))
  rw [hf] at HF

  have HV0 : Hid (VB w w []) := VB.nil w
  clear h1 h5 hw hf 
  go_enter Tryz.func7, Tryz.ntmps7
  have HV0_ := hide (HV0.out.push6 (b := w.heap.size) (by simp) (.bool g1) (.string s1) (.string t1) (.bool g2) (.string s2) (.string t2) 26)
  clear HV0
  have HV0__ := hide (HV0_.out.push6 (b := w.heap.size + 1) (by simp) (.bool g3) (.string s3) (.string t3) (.bool g4) (.string s4) (.string t4) 26)
  clear HV0_
  have HV0___ := hide (HV0__.out.push3 (b := w.heap.size + 2) (by simp) (.bool g5) (.string s5) (.string t5) 24)
  clear HV0__
  go_wp2_with fail
  refine (HH.out _ (HV0___.out.law HW.out)).mono ?_
  rintro e w1 ⟨rfl, hb⟩
  have HV1 := hide (HV0___.out.below hb)
  clear hb HV0___
  obtain ⟨c1, c2, c3, c4, c5, c6⟩ := HV1.out.at6 2 rfl
  obtain ⟨c7, c8, c9, c10, c11, c12⟩ := HV1.out.at6 1 rfl
  have hli : SliceOf vIv 6 (w1.alloc (.cells #[.bool g1, .string s1, .string t1, .bool g2, .string s2, .string t2, .bool g3, .string s3, .string t3, .bool g4, .string s4, .string t4] 26)) (.slice (some ⟨w1.heap.size, 0, none⟩) 2 2) [((g1, s1, t1), (g2, s2, t2)), ((g3, s3, t3), (g4, s4, t4))] := slice_lit_iv vIv_len w1 [((g1, s1, t1), (g2, s2, t2)), ((g3, s3, t3), (g4, s4, t4))] _ (show 2 ≤ maxLen by decide) (by simp) rfl rfl
  have HLI := hide hli
  clear hli
  have HV1_ := hide (HV1.out.anon (.cells #[.bool g1, .string s1, .string t1, .bool g2, .string s2, .string t2, .bool g3, .string s3, .string t3, .bool g4, .string s4, .string t4] 26))
  clear HV1
  obtain ⟨c13, c14, c15⟩ := HV1_.out.at3 0 rfl
  have hlq : SliceOf vQ 3 ((w1.alloc (.cells #[.bool g1, .string s1, .string t1, .bool g2, .string s2, .string t2, .bool g3, .string s3, .string t3, .bool g4, .string s4, .string t4] 26)).alloc (.cells #[.bool g5, .string s5, .string t5] 24)) (.slice (some ⟨w1.heap.size + 1, 0, none⟩) 1 1) [(g5, s5, t5)] := slice_lit_iv vQ_len (w1.alloc (.cells #[.bool g1, .string s1, .string t1, .bool g2, .string s2, .string t2, .bool g3, .string s3, .string t3, .bool g4, .string s4, .string t4] 26)) [(g5, s5, t5)] _ (show 1 ≤ maxLen by decide) (by simp) rfl rfl
  have HLQ := hide hlq
  clear hlq
  have HV1__ := hide (HV1_.out.anon (.cells #[.bool g5, .string s5, .string t5] 24))
  clear HV1_
  go_wp2_with fail
  clear c1 c2 c3 c4 c5 c6 c7 c8 c9 c10 c11 c12 c13 c14 c15
  refine (HF.out _ _ _ (HLI.out.below (bAlloc (Below.refl _ _) _)) HLQ.out).mono ?_
  rintro e w2 ⟨rfl, hb⟩
  have HV2 := hide (HV1__.out.below hb)
  clear hb HV1__ HF HLI HLQ
  obtain ⟨c16, c17, c18, c19, c20, c21⟩ := HV2.out.at6 2 rfl
  obtain ⟨c22, c23, c24, c25, c26, c27⟩ := HV2.out.at6 1 rfl
  go_wp2_with fail
  clear c16 c17 c18 c19 c20 c21 c22 c23 c24 c25 c26 c27
  refine (Hh1.out _ (HV2.out.law HW.out)).mono ?_
  rintro e w3 ⟨rfl, hb⟩
  have HV3 := hide (HV2.out.below hb)
  clear hb HV2
  have HV3_ := hide (HV3.out.push6 (b := w3.heap.size) (by simp) (.bool false) (.string ⟨#[]⟩) (.string ⟨#[]⟩) (.bool false) (.string ⟨#[]⟩) (.string ⟨#[]⟩) 26)
  clear HV3
  obtain ⟨c28, c29, c30, c31, c32, c33⟩ := HV3_.out.at6 0 rfl
  obtain ⟨c34, c35, c36, c37, c38, c39⟩ := HV3_.out.at6 3 rfl
  obtain ⟨c40, c41, c42⟩ := HV3_.out.at3 1 rfl
  go_wp2_with fail
  clear c28 c29 c30 c31 c32 c33 c34 c35 c36 c37 c38 c39 c40 c41 c42
  refine (Hh5.out _ (HV3_.out.law HW.out)).mono ?_
  rintro e w4 ⟨rfl, hb⟩
  have HV4 := hide (HV3_.out.below hb)
  clear hb HV3_
  go_wp2_with fail
  go_ret
  exact ⟨rfl, HV4.out.bel⟩
set_option maxHeartbeats 8000000 in
set_option maxRecDepth 100000 in
theorem meets_2 (g1 : Bool) (s1 t1 : ByteArray) (g2 : Bool) (s2 t2 : ByteArray) (g3 : Bool) (s3 t3 : ByteArray) (g4 : Bool) (s4 t4 : ByteArray) (g5 : Bool) (s5 t5 : ByteArray) (w : World) (h1 : ∀ W, LawW W → Calls Tryz.prog 17 #[.agg #[.bool g1, .string s1, .string t1, .bool g2, .string s2, .string t2], .agg #[.bool g3, .string s3, .string t3, .bool g4, .string s4, .string t4]] W fun e w' => e = .returned (.tuple #[.agg #[.bool false, .string ⟨#[]⟩, .string ⟨#[]⟩, .bool false, .string ⟨#[]⟩, .string ⟨#[]⟩], .bool false]) ∧ Below W.heap.size W w') (h5 : ∀ W, LawW W → Calls Tryz.prog 21 #[.agg #[.bool g1, .string s1, .string t1, .bool g2, .string s2, .string t2], .agg #[.bool g5, .string s5, .string t5]] W fun e w' => e = .returned (.bool true) ∧ Below W.heap.size W w') (h6 : ∀ W, LawW W → Calls Tryz.prog 21 #[.agg #[.bool g3, .string s3, .string t3, .bool g4, .string s4, .string t4], .agg #[.bool g5, .string s5, .string t5]] W fun e w' => e = .returned (.bool false) ∧ Below W.heap.size W w') (hf : (fewI [((g1, s1, t1), (g2, s2, t2)), ((g3, s3, t3), (g4, s4, t4))] && fewQ 60 [(g5, s5, t5)]) = true) (hw : LawW w) :
    Calls Tryz.prog 7 #[.agg #[.bool g1, .string s1, .string t1, .bool g2, .string s2, .string t2], .agg #[.bool g3, .string s3, .string t3, .bool g4, .string s4, .string t4], .agg #[.bool g5, .string s5, .string t5]] w fun e w' => e = .returned (.bool true) ∧ Below w.heap.size w w' := by
  have Hh1 := hide h1
  have Hh5 := hide h5
  have Hh6 := hide h6
  have HW := hide hw
  have HH := hide (fun W hW => law05_head W hW)
  have HF := hide (fun v u W h1 h2 => law05_few [((g1, s1, t1), (g2, s2, t2)), ((g3, s3, t3), (g4, s4, t4))] [(g5, s5, t5)] v u W h1 h2 (by show 2 ≤ maxLen; decide) (by show 1 ≤ 1000; decide))
  rw [hf] at HF

  have HV0 : Hid (VB w w []) := VB.nil w
  clear h1 h5 h6 hw hf 
  go_enter Tryz.func7, Tryz.ntmps7
  have HV0_ := hide (HV0.out.push6 (b := w.heap.size) (by simp) (.bool g1) (.string s1) (.string t1) (.bool g2) (.string s2) (.string t2) 26)
  clear HV0
  have HV0__ := hide (HV0_.out.push6 (b := w.heap.size + 1) (by simp) (.bool g3) (.string s3) (.string t3) (.bool g4) (.string s4) (.string t4) 26)
  clear HV0_
  have HV0___ := hide (HV0__.out.push3 (b := w.heap.size + 2) (by simp) (.bool g5) (.string s5) (.string t5) 24)
  clear HV0__
  go_wp2_with fail
  refine (HH.out _ (HV0___.out.law HW.out)).mono ?_
  rintro e w1 ⟨rfl, hb⟩
  have HV1 := hide (HV0___.out.below hb)
  clear hb HV0___
  obtain ⟨c1, c2, c3, c4, c5, c6⟩ := HV1.out.at6 2 rfl
  obtain ⟨c7, c8, c9, c10, c11, c12⟩ := HV1.out.at6 1 rfl
  have hli : SliceOf vIv 6 (w1.alloc (.cells #[.bool g1, .string s1, .string t1, .bool g2, .string s2, .string t2, .bool g3, .string s3, .string t3, .bool g4, .string s4, .string t4] 26)) (.slice (some ⟨w1.heap.size, 0, none⟩) 2 2) [((g1, s1, t1), (g2, s2, t2)), ((g3, s3, t3), (g4, s4, t4))] := slice_lit_iv vIv_len w1 [((g1, s1, t1), (g2, s2, t2)), ((g3, s3, t3), (g4, s4, t4))] _ (show 2 ≤ maxLen by decide) (by simp) rfl rfl
  have HLI := hide hli
  clear hli
  have HV1_ := hide (HV1.out.anon (.cells #[.bool g1, .string s1, .string t1, .bool g2, .string s2, .string t2, .bool g3, .string s3, .string t3, .bool g4, .string s4, .string t4] 26))
  clear HV1
  obtain ⟨c13, c14, c15⟩ := HV1_.out.at3 0 rfl
  have hlq : SliceOf vQ 3 ((w1.alloc (.cells #[.bool g1, .string s1, .string t1, .bool g2, .string s2, .string t2, .bool g3, .string s3, .string t3, .bool g4, .string s4, .string t4] 26)).alloc (.cells #[.bool g5, .string s5, .string t5] 24)) (.slice (some ⟨w1.heap.size + 1, 0, none⟩) 1 1) [(g5, s5, t5)] := slice_lit_iv vQ_len (w1.alloc (.cells #[.bool g1, .string s1, .string t1, .bool g2, .string s2, .string t2, .bool g3, .string s3, .string t3, .bool g4, .string s4, .string t4] 26)) [(g5, s5, t5)] _ (show 1 ≤ maxLen by decide) (by simp) rfl rfl
  have HLQ := hide hlq
  clear hlq
  have HV1__ := hide (HV1_.out.anon (.cells #[.bool g5, .string s5, .string t5] 24))
  clear HV1_
  go_wp2_with fail
  clear c1 c2 c3 c4 c5 c6 c7 c8 c9 c10 c11 c12 c13 c14 c15
  refine (HF.out _ _ _ (HLI.out.below (bAlloc (Below.refl _ _) _)) HLQ.out).mono ?_
  rintro e w2 ⟨rfl, hb⟩
  have HV2 := hide (HV1__.out.below hb)
  clear hb HV1__ HF HLI HLQ
  obtain ⟨c16, c17, c18, c19, c20, c21⟩ := HV2.out.at6 2 rfl
  obtain ⟨c22, c23, c24, c25, c26, c27⟩ := HV2.out.at6 1 rfl
  go_wp2_with fail
  clear c16 c17 c18 c19 c20 c21 c22 c23 c24 c25 c26 c27
  refine (Hh1.out _ (HV2.out.law HW.out)).mono ?_
  rintro e w3 ⟨rfl, hb⟩
  have HV3 := hide (HV2.out.below hb)
  clear hb HV2
  have HV3_ := hide (HV3.out.push6 (b := w3.heap.size) (by simp) (.bool false) (.string ⟨#[]⟩) (.string ⟨#[]⟩) (.bool false) (.string ⟨#[]⟩) (.string ⟨#[]⟩) 26)
  clear HV3
  obtain ⟨c28, c29, c30, c31, c32, c33⟩ := HV3_.out.at6 0 rfl
  obtain ⟨c34, c35, c36, c37, c38, c39⟩ := HV3_.out.at6 3 rfl
  obtain ⟨c40, c41, c42⟩ := HV3_.out.at3 1 rfl
  go_wp2_with fail
  clear c28 c29 c30 c31 c32 c33 c34 c35 c36 c37 c38 c39 c40 c41 c42
  refine (Hh5.out _ (HV3_.out.law HW.out)).mono ?_
  rintro e w4 ⟨rfl, hb⟩
  have HV4 := hide (HV3_.out.below hb)
  clear hb HV3_
  obtain ⟨c43, c44, c45, c46, c47, c48⟩ := HV4.out.at6 2 rfl
  obtain ⟨c49, c50, c51⟩ := HV4.out.at3 1 rfl
  go_wp2_with fail
  clear c43 c44 c45 c46 c47 c48 c49 c50 c51
  refine (Hh6.out _ (HV4.out.law HW.out)).mono ?_
  rintro e w5 ⟨rfl, hb⟩
  have HV5 := hide (HV4.out.below hb)
  clear hb HV4
  go_wp2_with fail
  go_ret
  exact ⟨rfl, HV5.out.bel⟩
set_option maxHeartbeats 8000000 in
set_option maxRecDepth 100000 in
theorem meets_3 (g1 : Bool) (s1 t1 : ByteArray) (g2 : Bool) (s2 t2 : ByteArray) (g3 : Bool) (s3 t3 : ByteArray) (g4 : Bool) (s4 t4 : ByteArray) (g5 : Bool) (s5 t5 : ByteArray) (g6 : Bool) (s6 t6 : ByteArray) (g7 : Bool) (s7 t7 : ByteArray) (w : World) (h1 : ∀ W, LawW W → Calls Tryz.prog 17 #[.agg #[.bool g1, .string s1, .string t1, .bool g2, .string s2, .string t2], .agg #[.bool g3, .string s3, .string t3, .bool g4, .string s4, .string t4]] W fun e w' => e = .returned (.tuple #[.agg #[.bool g6, .string s6, .string t6, .bool g7, .string s7, .string t7], .bool true]) ∧ Below W.heap.size W w') (h2 : ∀ W, LawW W → Calls Tryz.prog 19 #[.agg #[.bool g1, .string s1, .string t1, .bool g2, .string s2, .string t2]] W fun e w' => e = .returned (.bool true) ∧ Below W.heap.size W w') (h3 : ∀ W, LawW W → Calls Tryz.prog 19 #[.agg #[.bool g3, .string s3, .string t3, .bool g4, .string s4, .string t4]] W fun e w' => e = .returned (.bool true) ∧ Below W.heap.size W w') (h4 : ∀ W, LawW W → Calls Tryz.prog 19 #[.agg #[.bool g6, .string s6, .string t6, .bool g7, .string s7, .string t7]] W fun e w' => e = .returned (.bool true) ∧ Below W.heap.size W w') (h5 : ∀ W, LawW W → Calls Tryz.prog 21 #[.agg #[.bool g1, .string s1, .string t1, .bool g2, .string s2, .string t2], .agg #[.bool g5, .string s5, .string t5]] W fun e w' => e = .returned (.bool false) ∧ Below W.heap.size W w') (h7 : ∀ W, LawW W → Calls Tryz.prog 21 #[.agg #[.bool g6, .string s6, .string t6, .bool g7, .string s7, .string t7], .agg #[.bool g5, .string s5, .string t5]] W fun e w' => e = .returned (.bool false) ∧ Below W.heap.size W w') (hf : (fewI [((g1, s1, t1), (g2, s2, t2)), ((g3, s3, t3), (g4, s4, t4))] && fewQ 60 [(g5, s5, t5)]) = true) (hw : LawW w) :
    Calls Tryz.prog 7 #[.agg #[.bool g1, .string s1, .string t1, .bool g2, .string s2, .string t2], .agg #[.bool g3, .string s3, .string t3, .bool g4, .string s4, .string t4], .agg #[.bool g5, .string s5, .string t5]] w fun e w' => e = .returned (.bool true) ∧ Below w.heap.size w w' := by
  have Hh1 := hide h1
  have Hh2 := hide h2
  have Hh3 := hide h3
  have Hh4 := hide h4
  have Hh5 := hide h5
  have Hh7 := hide h7
  have HW := hide hw
  have HH := hide (fun W hW => law05_head W hW)
  have HF := hide (fun v u W h1 h2 => law05_few [((g1, s1, t1), (g2, s2, t2)), ((g3, s3, t3), (g4, s4, t4))] [(g5, s5, t5)] v u W h1 h2 (by show 2 ≤ maxLen; decide) (by show 1 ≤ 1000; decide))
  rw [hf] at HF

  have HV0 : Hid (VB w w []) := VB.nil w
  clear h1 h2 h3 h4 h5 h7 hw hf 
  go_enter Tryz.func7, Tryz.ntmps7
  have HV0_ := hide (HV0.out.push6 (b := w.heap.size) (by simp) (.bool g1) (.string s1) (.string t1) (.bool g2) (.string s2) (.string t2) 26)
  clear HV0
  have HV0__ := hide (HV0_.out.push6 (b := w.heap.size + 1) (by simp) (.bool g3) (.string s3) (.string t3) (.bool g4) (.string s4) (.string t4) 26)
  clear HV0_
  have HV0___ := hide (HV0__.out.push3 (b := w.heap.size + 2) (by simp) (.bool g5) (.string s5) (.string t5) 24)
  clear HV0__
  go_wp2_with fail
  refine (HH.out _ (HV0___.out.law HW.out)).mono ?_
  rintro e w1 ⟨rfl, hb⟩
  have HV1 := hide (HV0___.out.below hb)
  clear hb HV0___
  obtain ⟨c1, c2, c3, c4, c5, c6⟩ := HV1.out.at6 2 rfl
  obtain ⟨c7, c8, c9, c10, c11, c12⟩ := HV1.out.at6 1 rfl
  have hli : SliceOf vIv 6 (w1.alloc (.cells #[.bool g1, .string s1, .string t1, .bool g2, .string s2, .string t2, .bool g3, .string s3, .string t3, .bool g4, .string s4, .string t4] 26)) (.slice (some ⟨w1.heap.size, 0, none⟩) 2 2) [((g1, s1, t1), (g2, s2, t2)), ((g3, s3, t3), (g4, s4, t4))] := slice_lit_iv vIv_len w1 [((g1, s1, t1), (g2, s2, t2)), ((g3, s3, t3), (g4, s4, t4))] _ (show 2 ≤ maxLen by decide) (by simp) rfl rfl
  have HLI := hide hli
  clear hli
  have HV1_ := hide (HV1.out.anon (.cells #[.bool g1, .string s1, .string t1, .bool g2, .string s2, .string t2, .bool g3, .string s3, .string t3, .bool g4, .string s4, .string t4] 26))
  clear HV1
  obtain ⟨c13, c14, c15⟩ := HV1_.out.at3 0 rfl
  have hlq : SliceOf vQ 3 ((w1.alloc (.cells #[.bool g1, .string s1, .string t1, .bool g2, .string s2, .string t2, .bool g3, .string s3, .string t3, .bool g4, .string s4, .string t4] 26)).alloc (.cells #[.bool g5, .string s5, .string t5] 24)) (.slice (some ⟨w1.heap.size + 1, 0, none⟩) 1 1) [(g5, s5, t5)] := slice_lit_iv vQ_len (w1.alloc (.cells #[.bool g1, .string s1, .string t1, .bool g2, .string s2, .string t2, .bool g3, .string s3, .string t3, .bool g4, .string s4, .string t4] 26)) [(g5, s5, t5)] _ (show 1 ≤ maxLen by decide) (by simp) rfl rfl
  have HLQ := hide hlq
  clear hlq
  have HV1__ := hide (HV1_.out.anon (.cells #[.bool g5, .string s5, .string t5] 24))
  clear HV1_
  go_wp2_with fail
  clear c1 c2 c3 c4 c5 c6 c7 c8 c9 c10 c11 c12 c13 c14 c15
  refine (HF.out _ _ _ (HLI.out.below (bAlloc (Below.refl _ _) _)) HLQ.out).mono ?_
  rintro e w2 ⟨rfl, hb⟩
  have HV2 := hide (HV1__.out.below hb)
  clear hb HV1__ HF HLI HLQ
  obtain ⟨c16, c17, c18, c19, c20, c21⟩ := HV2.out.at6 2 rfl
  obtain ⟨c22, c23, c24, c25, c26, c27⟩ := HV2.out.at6 1 rfl
  go_wp2_with fail
  clear c16 c17 c18 c19 c20 c21 c22 c23 c24 c25 c26 c27
  refine (Hh1.out _ (HV2.out.law HW.out)).mono ?_
  rintro e w3 ⟨rfl, hb⟩
  have HV3 := hide (HV2.out.below hb)
  clear hb HV2
  have HV3_ := hide (HV3.out.push6 (b := w3.heap.size) (by simp) (.bool g6) (.string s6) (.string t6) (.bool g7) (.string s7) (.string t7) 26)
  clear HV3
  obtain ⟨c28, c29, c30, c31, c32, c33⟩ := HV3_.out.at6 0 rfl
  obtain ⟨c34, c35, c36, c37, c38, c39⟩ := HV3_.out.at6 3 rfl
  go_wp2_with fail
  clear c28 c29 c30 c31 c32 c33 c34 c35 c36 c37 c38 c39
  refine (Hh2.out _ (HV3_.out.law HW.out)).mono ?_
  rintro e w4 ⟨rfl, hb⟩
  have HV4 := hide (HV3_.out.below hb)
  clear hb HV3_
  obtain ⟨c40, c41, c42, c43, c44, c45⟩ := HV4.out.at6 2 rfl
  go_wp2_with fail
  clear c40 c41 c42 c43 c44 c45
  refine (Hh3.out _ (HV4.out.law HW.out)).mono ?_
  rintro e w5 ⟨rfl, hb⟩
  have HV5 := hide (HV4.out.below hb)
  clear hb HV4
  obtain ⟨c46, c47, c48, c49, c50, c51⟩ := HV5.out.at6 0 rfl
  go_wp2_with fail
  clear c46 c47 c48 c49 c50 c51
  refine (Hh4.out _ (HV5.out.law HW.out)).mono ?_
  rintro e w6 ⟨rfl, hb⟩
  have HV6 := hide (HV5.out.below hb)
  clear hb HV5
  obtain ⟨c52, c53, c54, c55, c56, c57⟩ := HV6.out.at6 3 rfl
  obtain ⟨c58, c59, c60⟩ := HV6.out.at3 1 rfl
  go_wp2_with fail
  clear c52 c53 c54 c55 c56 c57 c58 c59 c60
  refine (Hh5.out _ (HV6.out.law HW.out)).mono ?_
  rintro e w7 ⟨rfl, hb⟩
  have HV7 := hide (HV6.out.below hb)
  clear hb HV6
  obtain ⟨c61, c62, c63, c64, c65, c66⟩ := HV7.out.at6 0 rfl
  obtain ⟨c67, c68, c69⟩ := HV7.out.at3 1 rfl
  go_wp2_with fail
  clear c61 c62 c63 c64 c65 c66 c67 c68 c69
  refine (Hh7.out _ (HV7.out.law HW.out)).mono ?_
  rintro e w8 ⟨rfl, hb⟩
  have HV8 := hide (HV7.out.below hb)
  clear hb HV7
  go_wp2_with fail
  go_ret
  exact ⟨rfl, HV8.out.bel⟩
set_option maxHeartbeats 8000000 in
set_option maxRecDepth 100000 in
theorem meets_4 (g1 : Bool) (s1 t1 : ByteArray) (g2 : Bool) (s2 t2 : ByteArray) (g3 : Bool) (s3 t3 : ByteArray) (g4 : Bool) (s4 t4 : ByteArray) (g5 : Bool) (s5 t5 : ByteArray) (g6 : Bool) (s6 t6 : ByteArray) (g7 : Bool) (s7 t7 : ByteArray) (w : World) (h1 : ∀ W, LawW W → Calls Tryz.prog 17 #[.agg #[.bool g1, .string s1, .string t1, .bool g2, .string s2, .string t2], .agg #[.bool g3, .string s3, .string t3, .bool g4, .string s4, .string t4]] W fun e w' => e = .returned (.tuple #[.agg #[.bool g6, .string s6, .string t6, .bool g7, .string s7, .string t7], .bool true]) ∧ Below W.heap.size W w') (h2 : ∀ W, LawW W → Calls Tryz.prog 19 #[.agg #[.bool g1, .string s1, .string t1, .bool g2, .string s2, .string t2]] W fun e w' => e = .returned (.bool true) ∧ Below W.heap.size W w') (h3 : ∀ W, LawW W → Calls Tryz.prog 19 #[.agg #[.bool g3, .string s3, .string t3, .bool g4, .string s4, .string t4]] W fun e w' => e = .returned (.bool true) ∧ Below W.heap.size W w') (h4 : ∀ W, LawW W → Calls Tryz.prog 19 #[.agg #[.bool g6, .string s6, .string t6, .bool g7, .string s7, .string t7]] W fun e w' => e = .returned (.bool true) ∧ Below W.heap.size W w') (h5 : ∀ W, LawW W → Calls Tryz.prog 21 #[.agg #[.bool g1, .string s1, .string t1, .bool g2, .string s2, .string t2], .agg #[.bool g5, .string s5, .string t5]] W fun e w' => e = .returned (.bool true) ∧ Below W.heap.size W w') (h6 : ∀ W, LawW W → Calls Tryz.prog 21 #[.agg #[.bool g3, .string s3, .string t3, .bool g4, .string s4, .string t4], .agg #[.bool g5, .string s5, .string t5]] W fun e w' => e = .returned (.bool false) ∧ Below W.heap.size W w') (h7 : ∀ W, LawW W → Calls Tryz.prog 21 #[.agg #[.bool g6, .string s6, .string t6, .bool g7, .string s7, .string t7], .agg #[.bool g5, .string s5, .string t5]] W fun e w' => e = .returned (.bool false) ∧ Below W.heap.size W w') (hf : (fewI [((g1, s1, t1), (g2, s2, t2)), ((g3, s3, t3), (g4, s4, t4))] && fewQ 60 [(g5, s5, t5)]) = true) (hw : LawW w) :
    Calls Tryz.prog 7 #[.agg #[.bool g1, .string s1, .string t1, .bool g2, .string s2, .string t2], .agg #[.bool g3, .string s3, .string t3, .bool g4, .string s4, .string t4], .agg #[.bool g5, .string s5, .string t5]] w fun e w' => e = .returned (.bool true) ∧ Below w.heap.size w w' := by
  have Hh1 := hide h1
  have Hh2 := hide h2
  have Hh3 := hide h3
  have Hh4 := hide h4
  have Hh5 := hide h5
  have Hh6 := hide h6
  have Hh7 := hide h7
  have HW := hide hw
  have HH := hide (fun W hW => law05_head W hW)
  have HF := hide (fun v u W h1 h2 => law05_few [((g1, s1, t1), (g2, s2, t2)), ((g3, s3, t3), (g4, s4, t4))] [(g5, s5, t5)] v u W h1 h2 (by show 2 ≤ maxLen; decide) (by show 1 ≤ 1000; decide))
  rw [hf] at HF

  have HV0 : Hid (VB w w []) := VB.nil w
  clear h1 h2 h3 h4 h5 h6 h7 hw hf 
  go_enter Tryz.func7, Tryz.ntmps7
  have HV0_ := hide (HV0.out.push6 (b := w.heap.size) (by simp) (.bool g1) (.string s1) (.string t1) (.bool g2) (.string s2) (.string t2) 26)
  clear HV0
  have HV0__ := hide (HV0_.out.push6 (b := w.heap.size + 1) (by simp) (.bool g3) (.string s3) (.string t3) (.bool g4) (.string s4) (.string t4) 26)
  clear HV0_
  have HV0___ := hide (HV0__.out.push3 (b := w.heap.size + 2) (by simp) (.bool g5) (.string s5) (.string t5) 24)
  clear HV0__
  go_wp2_with fail
  refine (HH.out _ (HV0___.out.law HW.out)).mono ?_
  rintro e w1 ⟨rfl, hb⟩
  have HV1 := hide (HV0___.out.below hb)
  clear hb HV0___
  obtain ⟨c1, c2, c3, c4, c5, c6⟩ := HV1.out.at6 2 rfl
  obtain ⟨c7, c8, c9, c10, c11, c12⟩ := HV1.out.at6 1 rfl
  have hli : SliceOf vIv 6 (w1.alloc (.cells #[.bool g1, .string s1, .string t1, .bool g2, .string s2, .string t2, .bool g3, .string s3, .string t3, .bool g4, .string s4, .string t4] 26)) (.slice (some ⟨w1.heap.size, 0, none⟩) 2 2) [((g1, s1, t1), (g2, s2, t2)), ((g3, s3, t3), (g4, s4, t4))] := slice_lit_iv vIv_len w1 [((g1, s1, t1), (g2, s2, t2)), ((g3, s3, t3), (g4, s4, t4))] _ (show 2 ≤ maxLen by decide) (by simp) rfl rfl
  have HLI := hide hli
  clear hli
  have HV1_ := hide (HV1.out.anon (.cells #[.bool g1, .string s1, .string t1, .bool g2, .string s2, .string t2, .bool g3, .string s3, .string t3, .bool g4, .string s4, .string t4] 26))
  clear HV1
  obtain ⟨c13, c14, c15⟩ := HV1_.out.at3 0 rfl
  have hlq : SliceOf vQ 3 ((w1.alloc (.cells #[.bool g1, .string s1, .string t1, .bool g2, .string s2, .string t2, .bool g3, .string s3, .string t3, .bool g4, .string s4, .string t4] 26)).alloc (.cells #[.bool g5, .string s5, .string t5] 24)) (.slice (some ⟨w1.heap.size + 1, 0, none⟩) 1 1) [(g5, s5, t5)] := slice_lit_iv vQ_len (w1.alloc (.cells #[.bool g1, .string s1, .string t1, .bool g2, .string s2, .string t2, .bool g3, .string s3, .string t3, .bool g4, .string s4, .string t4] 26)) [(g5, s5, t5)] _ (show 1 ≤ maxLen by decide) (by simp) rfl rfl
  have HLQ := hide hlq
  clear hlq
  have HV1__ := hide (HV1_.out.anon (.cells #[.bool g5, .string s5, .string t5] 24))
  clear HV1_
  go_wp2_with fail
  clear c1 c2 c3 c4 c5 c6 c7 c8 c9 c10 c11 c12 c13 c14 c15
  refine (HF.out _ _ _ (HLI.out.below (bAlloc (Below.refl _ _) _)) HLQ.out).mono ?_
  rintro e w2 ⟨rfl, hb⟩
  have HV2 := hide (HV1__.out.below hb)
  clear hb HV1__ HF HLI HLQ
  obtain ⟨c16, c17, c18, c19, c20, c21⟩ := HV2.out.at6 2 rfl
  obtain ⟨c22, c23, c24, c25, c26, c27⟩ := HV2.out.at6 1 rfl
  go_wp2_with fail
  clear c16 c17 c18 c19 c20 c21 c22 c23 c24 c25 c26 c27
  refine (Hh1.out _ (HV2.out.law HW.out)).mono ?_
  rintro e w3 ⟨rfl, hb⟩
  have HV3 := hide (HV2.out.below hb)
  clear hb HV2
  have HV3_ := hide (HV3.out.push6 (b := w3.heap.size) (by simp) (.bool g6) (.string s6) (.string t6) (.bool g7) (.string s7) (.string t7) 26)
  clear HV3
  obtain ⟨c28, c29, c30, c31, c32, c33⟩ := HV3_.out.at6 0 rfl
  obtain ⟨c34, c35, c36, c37, c38, c39⟩ := HV3_.out.at6 3 rfl
  go_wp2_with fail
  clear c28 c29 c30 c31 c32 c33 c34 c35 c36 c37 c38 c39
  refine (Hh2.out _ (HV3_.out.law HW.out)).mono ?_
  rintro e w4 ⟨rfl, hb⟩
  have HV4 := hide (HV3_.out.below hb)
  clear hb HV3_
  obtain ⟨c40, c41, c42, c43, c44, c45⟩ := HV4.out.at6 2 rfl
  go_wp2_with fail
  clear c40 c41 c42 c43 c44 c45
  refine (Hh3.out _ (HV4.out.law HW.out)).mono ?_
  rintro e w5 ⟨rfl, hb⟩
  have HV5 := hide (HV4.out.below hb)
  clear hb HV4
  obtain ⟨c46, c47, c48, c49, c50, c51⟩ := HV5.out.at6 0 rfl
  go_wp2_with fail
  clear c46 c47 c48 c49 c50 c51
  refine (Hh4.out _ (HV5.out.law HW.out)).mono ?_
  rintro e w6 ⟨rfl, hb⟩
  have HV6 := hide (HV5.out.below hb)
  clear hb HV5
  obtain ⟨c52, c53, c54, c55, c56, c57⟩ := HV6.out.at6 3 rfl
  obtain ⟨c58, c59, c60⟩ := HV6.out.at3 1 rfl
  go_wp2_with fail
  clear c52 c53 c54 c55 c56 c57 c58 c59 c60
  refine (Hh5.out _ (HV6.out.law HW.out)).mono ?_
  rintro e w7 ⟨rfl, hb⟩
  have HV7 := hide (HV6.out.below hb)
  clear hb HV6
  obtain ⟨c61, c62, c63, c64, c65, c66⟩ := HV7.out.at6 2 rfl
  obtain ⟨c67, c68, c69⟩ := HV7.out.at3 1 rfl
  go_wp2_with fail
  clear c61 c62 c63 c64 c65 c66 c67 c68 c69
  refine (Hh6.out _ (HV7.out.law HW.out)).mono ?_
  rintro e w8 ⟨rfl, hb⟩
  have HV8 := hide (HV7.out.below hb)
  clear hb HV7
  obtain ⟨c70, c71, c72, c73, c74, c75⟩ := HV8.out.at6 0 rfl
  obtain ⟨c76, c77, c78⟩ := HV8.out.at3 1 rfl
  go_wp2_with fail
  clear c70 c71 c72 c73 c74 c75 c76 c77 c78
  refine (Hh7.out _ (HV8.out.law HW.out)).mono ?_
  rintro e w9 ⟨rfl, hb⟩
  have HV9 := hide (HV8.out.below hb)
  clear hb HV8
  go_wp2_with fail
  go_ret
  exact ⟨rfl, HV9.out.bel⟩
set_option maxHeartbeats 8000000 in
set_option maxRecDepth 100000 in
theorem meets_5 (g1 : Bool) (s1 t1 : ByteArray) (g2 : Bool) (s2 t2 : ByteArray) (g3 : Bool) (s3 t3 : ByteArray) (g4 : Bool) (s4 t4 : ByteArray) (g5 : Bool) (s5 t5 : ByteArray) (g6 : Bool) (s6 t6 : ByteArray) (g7 : Bool) (s7 t7 : ByteArray) (w : World) (h1 : ∀ W, LawW W → Calls Tryz.prog 17 #[.agg #[.bool g1, .string s1, .string t1, .bool g2, .string s2, .string t2], .agg #[.bool g3, .string s3, .string t3, .bool g4, .string s4, .string t4]] W fun e w' => e = .returned (.tuple #[.agg #[.bool g6, .string s6, .string t6, .bool g7, .string s7, .string t7], .bool true]) ∧ Below W.heap.size W w') (h2 : ∀ W, LawW W → Calls Tryz.prog 19 #[.agg #[.bool g1, .string s1, .string t1, .bool g2, .string s2, .string t2]] W fun e w' => e = .returned (.bool true) ∧ Below W.heap.size W w') (h3 : ∀ W, LawW W → Calls Tryz.prog 19 #[.agg #[.bool g3, .string s3, .string t3, .bool g4, .string s4, .string t4]] W fun e w' => e = .returned (.bool true) ∧ Below W.heap.size W w') (h4 : ∀ W, LawW W → Calls Tryz.prog 19 #[.agg #[.bool g6, .string s6, .string t6, .bool g7, .string s7, .string t7]] W fun e w' => e = .returned (.bool true) ∧ Below W.heap.size W w') (h5 : ∀ W, LawW W → Calls Tryz.prog 21 #[.agg #[.bool g1, .string s1, .string t1, .bool g2, .string s2, .string t2], .agg #[.bool g5, .string s5, .string t5]] W fun e w' => e = .returned (.bool true) ∧ Below W.heap.size W w') (h6 : ∀ W, LawW W → Calls Tryz.prog 21 #[.agg #[.bool g3, .string s3, .string t3, .bool g4, .string s4, .string t4], .agg #[.bool g5, .string s5, .string t5]] W fun e w' => e = .returned (.bool true) ∧ Below W.heap.size W w') (h7 : ∀ W, LawW W → Calls Tryz.prog 21 #[.agg #[.bool g6, .string s6, .string t6, .bool g7, .string s7, .string t7], .agg #[.bool g5, .string s5, .string t5]] W fun e w' => e = .returned (.bool true) ∧ Below W.heap.size W w') (hf : (fewI [((g1, s1, t1), (g2, s2, t2)), ((g3, s3, t3), (g4, s4, t4))] && fewQ 60 [(g5, s5, t5)]) = true) (hw : LawW w) :
    Calls Tryz.prog 7 #[.agg #[.bool g1, .string s1, .string t1, .bool g2, .string s2, .string t2], .agg #[.bool g3, .string s3, .string t3, .bool g4, .string s4, .string t4], .agg #[.bool g5, .string s5, .string t5]] w fun e w' => e = .returned (.bool true) ∧ Below w.heap.size w w' := by
  have Hh1 := hide h1
  have Hh2 := hide h2
  have Hh3 := hide h3
  have Hh4 := hide h4
  have Hh5 := hide h5
  have Hh6 := hide h6
  have Hh7 := hide h7
  have HW := hide hw
  have HH := hide (fun W hW => law05_head W hW)
  have HF := hide (fun v u W h1 h2 => law05_few [((g1, s1, t1), (g2, s2, t2)), ((g3, s3, t3), (g4, s4, t4))] [(g5, s5, t5)] v u W h1 h2 (by show 2 ≤ maxLen; decide) (by show 1 ≤ 1000; decide))
  rw [hf] at HF

  have HV0 : Hid (VB w w []) := VB.nil w
  clear h1 h2 h3 h4 h5 h6 h7 hw hf 
  go_enter Tryz.func7, Tryz.ntmps7
  have HV0_ := hide (HV0.out.push6 (b := w.heap.size) (by simp) (.bool g1) (.string s1) (.string t1) (.bool g2) (.string s2) (.string t2) 26)
  clear HV0
  have HV0__ := hide (HV0_.out.push6 (b := w.heap.size + 1) (by simp) (.bool g3) (.string s3) (.string t3) (.bool g4) (.string s4) (.string t4) 26)
  clear HV0_
  have HV0___ := hide (HV0__.out.push3 (b := w.heap.size + 2) (by simp) (.bool g5) (.string s5) (.string t5) 24)
  clear HV0__
  go_wp2_with fail
  refine (HH.out _ (HV0___.out.law HW.out)).mono ?_
  rintro e w1 ⟨rfl, hb⟩
  have HV1 := hide (HV0___.out.below hb)
  clear hb HV0___
  obtain ⟨c1, c2, c3, c4, c5, c6⟩ := HV1.out.at6 2 rfl
  obtain ⟨c7, c8, c9, c10, c11, c12⟩ := HV1.out.at6 1 rfl
  have hli : SliceOf vIv 6 (w1.alloc (.cells #[.bool g1, .string s1, .string t1, .bool g2, .string s2, .string t2, .bool g3, .string s3, .string t3, .bool g4, .string s4, .string t4] 26)) (.slice (some ⟨w1.heap.size, 0, none⟩) 2 2) [((g1, s1, t1), (g2, s2, t2)), ((g3, s3, t3), (g4, s4, t4))] := slice_lit_iv vIv_len w1 [((g1, s1, t1), (g2, s2, t2)), ((g3, s3, t3), (g4, s4, t4))] _ (show 2 ≤ maxLen by decide) (by simp) rfl rfl
  have HLI := hide hli
  clear hli
  have HV1_ := hide (HV1.out.anon (.cells #[.bool g1, .string s1, .string t1, .bool g2, .string s2, .string t2, .bool g3, .string s3, .string t3, .bool g4, .string s4, .string t4] 26))
  clear HV1
  obtain ⟨c13, c14, c15⟩ := HV1_.out.at3 0 rfl
  have hlq : SliceOf vQ 3 ((w1.alloc (.cells #[.bool g1, .string s1, .string t1, .bool g2, .string s2, .string t2, .bool g3, .string s3, .string t3, .bool g4, .string s4, .string t4] 26)).alloc (.cells #[.bool g5, .string s5, .string t5] 24)) (.slice (some ⟨w1.heap.size + 1, 0, none⟩) 1 1) [(g5, s5, t5)] := slice_lit_iv vQ_len (w1.alloc (.cells #[.bool g1, .string s1, .string t1, .bool g2, .string s2, .string t2, .bool g3, .string s3, .string t3, .bool g4, .string s4, .string t4] 26)) [(g5, s5, t5)] _ (show 1 ≤ maxLen by decide) (by simp) rfl rfl
  have HLQ := hide hlq
  clear hlq
  have HV1__ := hide (HV1_.out.anon (.cells #[.bool g5, .string s5, .string t5] 24))
  clear HV1_
  go_wp2_with fail
  clear c1 c2 c3 c4 c5 c6 c7 c8 c9 c10 c11 c12 c13 c14 c15
  refine (HF.out _ _ _ (HLI.out.below (bAlloc (Below.refl _ _) _)) HLQ.out).mono ?_
  rintro e w2 ⟨rfl, hb⟩
  have HV2 := hide (HV1__.out.below hb)
  clear hb HV1__ HF HLI HLQ
  obtain ⟨c16, c17, c18, c19, c20, c21⟩ := HV2.out.at6 2 rfl
  obtain ⟨c22, c23, c24, c25, c26, c27⟩ := HV2.out.at6 1 rfl
  go_wp2_with fail
  clear c16 c17 c18 c19 c20 c21 c22 c23 c24 c25 c26 c27
  refine (Hh1.out _ (HV2.out.law HW.out)).mono ?_
  rintro e w3 ⟨rfl, hb⟩
  have HV3 := hide (HV2.out.below hb)
  clear hb HV2
  have HV3_ := hide (HV3.out.push6 (b := w3.heap.size) (by simp) (.bool g6) (.string s6) (.string t6) (.bool g7) (.string s7) (.string t7) 26)
  clear HV3
  obtain ⟨c28, c29, c30, c31, c32, c33⟩ := HV3_.out.at6 0 rfl
  obtain ⟨c34, c35, c36, c37, c38, c39⟩ := HV3_.out.at6 3 rfl
  go_wp2_with fail
  clear c28 c29 c30 c31 c32 c33 c34 c35 c36 c37 c38 c39
  refine (Hh2.out _ (HV3_.out.law HW.out)).mono ?_
  rintro e w4 ⟨rfl, hb⟩
  have HV4 := hide (HV3_.out.below hb)
  clear hb HV3_
  obtain ⟨c40, c41, c42, c43, c44, c45⟩ := HV4.out.at6 2 rfl
  go_wp2_with fail
  clear c40 c41 c42 c43 c44 c45
  refine (Hh3.out _ (HV4.out.law HW.out)).mono ?_
  rintro e w5 ⟨rfl, hb⟩
  have HV5 := hide (HV4.out.below hb)
  clear hb HV4
  obtain ⟨c46, c47, c48, c49, c50, c51⟩ := HV5.out.at6 0 rfl
  go_wp2_with fail
  clear c46 c47 c48 c49 c50 c51
  refine (Hh4.out _ (HV5.out.law HW.out)).mono ?_
  rintro e w6 ⟨rfl, hb⟩
  have HV6 := hide (HV5.out.below hb)
  clear hb HV5
  obtain ⟨c52, c53, c54, c55, c56, c57⟩ := HV6.out.at6 3 rfl
  obtain ⟨c58, c59, c60⟩ := HV6.out.at3 1 rfl
  go_wp2_with fail
  clear c52 c53 c54 c55 c56 c57 c58 c59 c60
  refine (Hh5.out _ (HV6.out.law HW.out)).mono ?_
  rintro e w7 ⟨rfl, hb⟩
  have HV7 := hide (HV6.out.below hb)
  clear hb HV6
  obtain ⟨c61, c62, c63, c64, c65, c66⟩ := HV7.out.at6 2 rfl
  obtain ⟨c67, c68, c69⟩ := HV7.out.at3 1 rfl
  go_wp2_with fail
  clear c61 c62 c63 c64 c65 c66 c67 c68 c69
  refine (Hh6.out _ (HV7.out.law HW.out)).mono ?_
  rintro e w8 ⟨rfl, hb⟩
  have HV8 := hide (HV7.out.below hb)
  clear hb HV7
  obtain ⟨c70, c71, c72, c73, c74, c75⟩ := HV8.out.at6 0 rfl
  obtain ⟨c76, c77, c78⟩ := HV8.out.at3 1 rfl
  go_wp2_with fail
  clear c70 c71 c72 c73 c74 c75 c76 c77 c78
  refine (Hh7.out _ (HV8.out.law HW.out)).mono ?_
  rintro e w9 ⟨rfl, hb⟩
  have HV9 := hide (HV8.out.below hb)
  clear hb HV8
  go_wp2_with fail
  go_ret
  exact ⟨rfl, HV9.out.bel⟩
theorem intervalMeets (a c : Q3 × Q3) (r : Q3) (W : World) (hW : LawW W) : Calls Tryz.prog 7 #[iArg a, iArg c, qArg r] W fun e w' => e = .returned (.bool true) ∧ Below W.heap.size W w' := by
  obtain ⟨f, hf⟩ : ∃ f, (fewI [a, c] && fewQ 60 [r]) = f := ⟨_, rfl⟩
  cases f
  · exact meets_0 _ _ _ _ _ _ _ _ _ _ _ _ _ _ _ W hf hW
  have hf' := hf
  rw [Bool.and_eq_true] at hf
  obtain ⟨sa, sc⟩ := fewI_two hf.1
  have sr := fewQ_sh hf.2 r (by simp)
  have ha := has_cases a r sa sr
  have hc := has_cases c r sc sr
  have done1 : RetC 17 #[iArg a, iArg c] (.tuple #[zI, .bool false]) → (RetC 21 #[iArg a, qArg r] (.bool true) → RetC 21 #[iArg c, qArg r] (.bool false)) → Calls Tryz.prog 7 #[iArg a, iArg c, qArg r] W fun e w' => e = .returned (.bool true) ∧ Below W.heap.size W w' := fun h1 h2 => by
    rcases ha with h | ⟨_, _, _, _, h⟩
    · exact meets_1 _ _ _ _ _ _ _ _ _ _ _ _ _ _ _ W h1 h hf' hW
    · exact meets_2 _ _ _ _ _ _ _ _ _ _ _ _ _ _ _ W h1 h (h2 h) hf' hW
  obtain ⟨⟨z1, z2⟩, z3, z4⟩ := sa
  obtain ⟨⟨y1, y2⟩, y3, y4⟩ := sc
  rcases ivx_cases a z1 z2 z3 z4 with oa | ⟨na, va⟩
  · rcases ivx_cases c y1 y2 y3 y4 with oc | ⟨nc, vc⟩
    · obtain ⟨x, hx⟩ : ∃ x, x = if qv a.1 < qv c.1 then c.1 else a.1 := ⟨_, rfl⟩
      obtain ⟨y, hy⟩ : ∃ y, y = if qv c.2 < qv a.2 then c.2 else a.2 := ⟨_, rfl⟩
      have h1 := c_meet oa oc (by omega) (by omega) hx hy
      have xx : IsX 60 x := by rw [hx]; split <;> first | exact oc.lo | exact oa.lo
      have xy : IsX 60 y := by rw [hy]; split <;> first | exact oc.hi | exact oa.hi
      have l1 : ∀ q, qv x ≤ q ↔ qv a.1 ≤ q ∧ qv c.1 ≤ q := fun q => by
        rw [hx]; split <;> constructor <;> intro h <;> grind
      have l2 : ∀ q, q ≤ qv y ↔ q ≤ qv a.2 ∧ q ≤ qv c.2 := fun q => by
        rw [hy]; split <;> constructor <;> intro h <;> grind
      by_cases hle : qv x ≤ qv y
      · rw [if_pos hle] at h1
        have om : IvOk 60 (x, y) := ⟨xx, xy, hle⟩
        have va := ivx_ok oa (by omega)
        have vc := ivx_ok oc (by omega)
        have vm := ivx_ok om (by omega)
        rcases isx_cases r sr with xr | nr
        · have ka := c_contains oa xr (by omega) (by omega)
          have kc := c_contains oc xr (by omega) (by omega)
          have km := c_contains om xr (by omega) (by omega)
          by_cases p1 : qv a.1 ≤ qv r ∧ qv r ≤ qv a.2
          · rw [decide_eq_true p1] at ka
            by_cases p2 : qv c.1 ≤ qv r ∧ qv r ≤ qv c.2
            · rw [decide_eq_true p2] at kc
              rw [decide_eq_true (⟨(l1 _).2 ⟨p1.1, p2.1⟩, (l2 _).2 ⟨p1.2, p2.2⟩⟩ : qv (x, y).1 ≤ qv r ∧ qv r ≤ qv (x, y).2)] at km
              exact meets_5 _ _ _ _ _ _ _ _ _ _ _ _ _ _ _ x.1 x.2.1 x.2.2 y.1 y.2.1 y.2.2 W h1 va vc vm ka kc km hf' hW
            · rw [decide_eq_false p2] at kc
              rw [decide_eq_false (fun h => p2 ⟨((l1 _).1 h.1).2, ((l2 _).1 h.2).2⟩)] at km
              exact meets_4 _ _ _ _ _ _ _ _ _ _ _ _ _ _ _ x.1 x.2.1 x.2.2 y.1 y.2.1 y.2.2 W h1 va vc vm ka kc km hf' hW
          · rw [decide_eq_false p1] at ka
            rw [decide_eq_false (fun h => p1 ⟨((l1 _).1 h.1).1, ((l2 _).1 h.2).1⟩)] at km
            exact meets_3 _ _ _ _ _ _ _ _ _ _ _ _ _ _ _ x.1 x.2.1 x.2.2 y.1 y.2.1 y.2.2 W h1 va vc vm ka km hf' hW
        · have ka := c_contains_bad (.inr ⟨va, nr⟩)
          have km := c_contains_bad (.inr ⟨vm, nr⟩)
          exact meets_3 _ _ _ _ _ _ _ _ _ _ _ _ _ _ _ x.1 x.2.1 x.2.2 y.1 y.2.1 y.2.2 W h1 va vc vm ka km hf' hW
      · rw [if_neg hle] at h1
        rcases ha with h | ⟨_, _, p1, p2, h⟩
        · exact meets_1 _ _ _ _ _ _ _ _ _ _ _ _ _ _ _ W h1 h hf' hW
        rcases hc with h' | ⟨_, _, p3, p4, _⟩
        · exact meets_2 _ _ _ _ _ _ _ _ _ _ _ _ _ _ _ W h1 h h' hf' hW
        · exact absurd (Rat.le_trans ((l1 _).2 ⟨p1, p3⟩) ((l2 _).2 ⟨p2, p4⟩)) hle
    · exact done1 (c_meet_bad (.inr ⟨ivx_ok oa (by omega), vc⟩)) fun _ => c_contains_bad (.inl vc)
  · refine meets_1 _ _ _ _ _ _ _ _ _ _ _ _ _ _ _ W (c_meet_bad (.inl va)) (c_contains_bad (.inl va)) hf' hW
end Go.Proofs.YtbojlmnajndleaaGreatDoor
