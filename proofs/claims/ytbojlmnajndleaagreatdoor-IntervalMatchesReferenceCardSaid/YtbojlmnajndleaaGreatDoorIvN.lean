/- IntervalMatchesReference. -/
import Derived.Test.YtbojlmnajndleaaGreatDoorRvC
set_option linter.unusedVariables false
set_option linter.unusedSimpArgs false
namespace Go.Proofs.YtbojlmnajndleaaGreatDoor
open Go.RowKit Go.Sort Go.Deep Go.ChangeShapes Go.WideShapes

set_option maxHeartbeats 8000000 in
set_option maxRecDepth 100000 in
theorem imatch_0 (l : List (Q3 × Q3)) (ao : Option Addr) (cp : Nat) (g1 : Bool) (s1 t1 : ByteArray) (g2 : Bool) (s2 t2 : ByteArray) (g3 : Bool) (s3 t3 : ByteArray) (g4 : Bool) (s4 t4 : ByteArray) (g5 : Bool) (s5 t5 : ByteArray) (w : World) (hv : SliceOf vIv 6 w (.slice ao l.length cp) l) (hl : l.length ≤ maxLen) (hf : (fewI [((g1, s1, t1), (g2, s2, t2)), ((g3, s3, t3), (g4, s4, t4))] && fewQ 60 [(g5, s5, t5)]) = false) (hw : LawW w) :
    Calls Tryz.prog 3 #[.agg #[.bool g1, .string s1, .string t1, .bool g2, .string s2, .string t2], .agg #[.bool g3, .string s3, .string t3, .bool g4, .string s4, .string t4], .agg #[.bool g5, .string s5, .string t5], .slice ao l.length cp] w fun e w' => e = .returned (.bool true) ∧ Below w.heap.size w w' := by
  have HW := hide hw
  have HH := hide (fun W hW => law05_head W hW)
  have HF := hide (fun v u W h1 h2 => law05_few [((g1, s1, t1), (g2, s2, t2)), ((g3, s3, t3), (g4, s4, t4))] [(g5, s5, t5)] v u W h1 h2 (by show 2 ≤ maxLen; decide) (by show 1 ≤ 1000; decide))
  rw [hf] at HF

  have HV0 : Hid (VB w w []) := VB.nil w
  clear hw hf hv hl
  go_enter Tryz.func3, Tryz.ntmps3
  have HV0_ := hide (HV0.out.push6 (b := w.heap.size) (by simp) (.bool g1) (.string s1) (.string t1) (.bool g2) (.string s2) (.string t2) 26)
  clear HV0
  have HV0__ := hide (HV0_.out.push6 (b := w.heap.size + 1) (by simp) (.bool g3) (.string s3) (.string t3) (.bool g4) (.string s4) (.string t4) 26)
  clear HV0_
  have HV0___ := hide (HV0__.out.push3 (b := w.heap.size + 2) (by simp) (.bool g5) (.string s5) (.string t5) 24)
  clear HV0__
  go_wp2_with fail
  refine (HH.out _ (HV0___.out.law HW.out)).mono ?_
  rintro e w1 ⟨rfl, hb⟩
  have HV1 := hide (HV0___.out.below hb)
  clear hb HV0___
  obtain ⟨c1, c2, c3, c4, c5, c6⟩ := HV1.out.at6 2 rfl
  obtain ⟨c7, c8, c9, c10, c11, c12⟩ := HV1.out.at6 1 rfl
  have hli : SliceOf vIv 6 (w1.alloc (.cells #[.bool g1, .string s1, .string t1, .bool g2, .string s2, .string t2, .bool g3, .string s3, .string t3, .bool g4, .string s4, .string t4] 26)) (.slice (some ⟨w1.heap.size, 0, none⟩) 2 2) [((g1, s1, t1), (g2, s2, t2)), ((g3, s3, t3), (g4, s4, t4))] := slice_lit_iv vIv_len w1 [((g1, s1, t1), (g2, s2, t2)), ((g3, s3, t3), (g4, s4, t4))] _ (show 2 ≤ maxLen by decide) (by simp) rfl rfl
  have HLI := hide hli
  clear hli
  have HV1_ := hide (HV1.out.anon (.cells #[.bool g1, .string s1, .string t1, .bool g2, .string s2, .string t2, .bool g3, .string s3, .string t3, .bool g4, .string s4, .string t4] 26))
  clear HV1
  obtain ⟨c13, c14, c15⟩ := HV1_.out.at3 0 rfl
  have hlq : SliceOf vQ 3 ((w1.alloc (.cells #[.bool g1, .string s1, .string t1, .bool g2, .string s2, .string t2, .bool g3, .string s3, .string t3, .bool g4, .string s4, .string t4] 26)).alloc (.cells #[.bool g5, .string s5, .string t5] 24)) (.slice (some ⟨w1.heap.size + 1, 0, none⟩) 1 1) [(g5, s5, t5)] := slice_lit_iv vQ_len (w1.alloc (.cells #[.bool g1, .string s1, .string t1, .bool g2, .string s2, .string t2, .bool g3, .string s3, .string t3, .bool g4, .string s4, .string t4] 26)) [(g5, s5, t5)] _ (show 1 ≤ maxLen by decide) (by simp) rfl rfl
  have HLQ := hide hlq
  clear hlq
  have HV1__ := hide (HV1_.out.anon (.cells #[.bool g5, .string s5, .string t5] 24))
  clear HV1_
  go_wp2_with fail
  clear c1 c2 c3 c4 c5 c6 c7 c8 c9 c10 c11 c12 c13 c14 c15
  refine (HF.out _ _ _ (HLI.out.below (bAlloc (Below.refl _ _) _)) HLQ.out).mono ?_
  rintro e w2 ⟨rfl, hb⟩
  have HV2 := hide (HV1__.out.below hb)
  clear hb HV1__ HF HLI HLQ
  go_wp2_with fail
  go_ret
  exact ⟨rfl, HV2.out.bel⟩
set_option maxHeartbeats 8000000 in
set_option maxRecDepth 100000 in
theorem imatch_1 (l : List (Q3 × Q3)) (ao : Option Addr) (cp : Nat) (g1 : Bool) (s1 t1 : ByteArray) (g2 : Bool) (s2 t2 : ByteArray) (g3 : Bool) (s3 t3 : ByteArray) (g4 : Bool) (s4 t4 : ByteArray) (g5 : Bool) (s5 t5 : ByteArray) (w : World) (hv : SliceOf vIv 6 w (.slice ao l.length cp) l) (hl : l.length ≤ maxLen) (hg : (fewI l && fewQ 60 []) = false) (hf : (fewI [((g1, s1, t1), (g2, s2, t2)), ((g3, s3, t3), (g4, s4, t4))] && fewQ 60 [(g5, s5, t5)]) = true) (hw : LawW w) :
    Calls Tryz.prog 3 #[.agg #[.bool g1, .string s1, .string t1, .bool g2, .string s2, .string t2], .agg #[.bool g3, .string s3, .string t3, .bool g4, .string s4, .string t4], .agg #[.bool g5, .string s5, .string t5], .slice ao l.length cp] w fun e w' => e = .returned (.bool true) ∧ Below w.heap.size w w' := by
  have HW := hide hw
  have HH := hide (fun W hW => law05_head W hW)
  have HF := hide (fun v u W h1 h2 => law05_few [((g1, s1, t1), (g2, s2, t2)), ((g3, s3, t3), (g4, s4, t4))] [(g5, s5, t5)] v u W h1 h2 (by show 2 ≤ maxLen; decide) (by show 1 ≤ 1000; decide))
  rw [hf] at HF
  have HG := hide (fun W (h1 : Below w.heap.size w W) => law05_few l [] (.slice ao l.length cp) (.slice none 0 0) W (hv.below h1) (slice_nil _) hl (by simp))
  rw [hg] at HG

  have HV0 : Hid (VB w w []) := VB.nil w
  clear hw hf hv hl hg
  go_enter Tryz.func3, Tryz.ntmps3
  have HV0_ := hide (HV0.out.push6 (b := w.heap.size) (by simp) (.bool g1) (.string s1) (.string t1) (.bool g2) (.string s2) (.string t2) 26)
  clear HV0
  have HV0__ := hide (HV0_.out.push6 (b := w.heap.size + 1) (by simp) (.bool g3) (.string s3) (.string t3) (.bool g4) (.string s4) (.string t4) 26)
  clear HV0_
  have HV0___ := hide (HV0__.out.push3 (b := w.heap.size + 2) (by simp) (.bool g5) (.string s5) (.string t5) 24)
  clear HV0__
  go_wp2_with fail
  refine (HH.out _ (HV0___.out.law HW.out)).mono ?_
  rintro e w1 ⟨rfl, hb⟩
  have HV1 := hide (HV0___.out.below hb)
  clear hb HV0___
  obtain ⟨c1, c2, c3, c4, c5, c6⟩ := HV1.out.at6 2 rfl
  obtain ⟨c7, c8, c9, c10, c11, c12⟩ := HV1.out.at6 1 rfl
  have hli : SliceOf vIv 6 (w1.alloc (.cells #[.bool g1, .string s1, .string t1, .bool g2, .string s2, .string t2, .bool g3, .string s3, .string t3, .bool g4, .string s4, .string t4] 26)) (.slice (some ⟨w1.heap.size, 0, none⟩) 2 2) [((g1, s1, t1), (g2, s2, t2)), ((g3, s3, t3), (g4, s4, t4))] := slice_lit_iv vIv_len w1 [((g1, s1, t1), (g2, s2, t2)), ((g3, s3, t3), (g4, s4, t4))] _ (show 2 ≤ maxLen by decide) (by simp) rfl rfl
  have HLI := hide hli
  clear hli
  have HV1_ := hide (HV1.out.anon (.cells #[.bool g1, .string s1, .string t1, .bool g2, .string s2, .string t2, .bool g3, .string s3, .string t3, .bool g4, .string s4, .string t4] 26))
  clear HV1
  obtain ⟨c13, c14, c15⟩ := HV1_.out.at3 0 rfl
  have hlq : SliceOf vQ 3 ((w1.alloc (.cells #[.bool g1, .string s1, .string t1, .bool g2, .string s2, .string t2, .bool g3, .string s3, .string t3, .bool g4, .string s4, .string t4] 26)).alloc (.cells #[.bool g5, .string s5, .string t5] 24)) (.slice (some ⟨w1.heap.size + 1, 0, none⟩) 1 1) [(g5, s5, t5)] := slice_lit_iv vQ_len (w1.alloc (.cells #[.bool g1, .string s1, .string t1, .bool g2, .string s2, .string t2, .bool g3, .string s3, .string t3, .bool g4, .string s4, .string t4] 26)) [(g5, s5, t5)] _ (show 1 ≤ maxLen by decide) (by simp) rfl rfl
  have HLQ := hide hlq
  clear hlq
  have HV1__ := hide (HV1_.out.anon (.cells #[.bool g5, .string s5, .string t5] 24))
  clear HV1_
  go_wp2_with fail
  clear c1 c2 c3 c4 c5 c6 c7 c8 c9 c10 c11 c12 c13 c14 c15
  refine (HF.out _ _ _ (HLI.out.below (bAlloc (Below.refl _ _) _)) HLQ.out).mono ?_
  rintro e w2 ⟨rfl, hb⟩
  have HV2 := hide (HV1__.out.below hb)
  clear hb HV1__ HF HLI HLQ
  go_wp2_with fail
  refine (HG.out _ HV2.out.bel).mono ?_
  rintro e w3 ⟨rfl, hb⟩
  have HV3 := hide (HV2.out.below hb)
  clear hb HV2
  go_wp2_with fail
  go_ret
  exact ⟨rfl, HV3.out.bel⟩
set_option maxHeartbeats 8000000 in
set_option maxRecDepth 100000 in
theorem imatch_2 (l : List (Q3 × Q3)) (ao : Option Addr) (cp : Nat) (g1 : Bool) (s1 t1 : ByteArray) (g2 : Bool) (s2 t2 : ByteArray) (g3 : Bool) (s3 t3 : ByteArray) (g4 : Bool) (s4 t4 : ByteArray) (g5 : Bool) (s5 t5 : ByteArray) (g6 : Bool) (s6 t6 : ByteArray) (g7 : Bool) (s7 t7 : ByteArray) (g8 : Bool) (s8 t8 : ByteArray) (g9 : Bool) (s9 t9 : ByteArray) (g10 : Bool) (s10 t10 : ByteArray) (g11 : Bool) (s11 t11 : ByteArray) (g12 : Bool) (s12 t12 : ByteArray) (g13 : Bool) (s13 t13 : ByteArray) (k1 k2 k3 : Int) (b1 b2 b3 : Bool) (w : World) (hv : SliceOf vIv 6 w (.slice ao l.length cp) l) (hl : l.length ≤ maxLen) (h1 : ∀ W, LawW W → Calls Tryz.prog 11 #[.agg #[.bool g1, .string s1, .string t1, .bool g2, .string s2, .string t2], .agg #[.bool g3, .string s3, .string t3, .bool g4, .string s4, .string t4]] W fun e w' => e = .returned (.tuple #[.agg #[.bool g6, .string s6, .string t6, .bool g7, .string s7, .string t7], .int .i64 k1]) ∧ Below W.heap.size W w') (h2 : ∀ W, LawW W → Calls Tryz.prog 12 #[.agg #[.bool g1, .string s1, .string t1, .bool g2, .string s2, .string t2], .agg #[.bool g3, .string s3, .string t3, .bool g4, .string s4, .string t4]] W fun e w' => e = .returned (.tuple #[.agg #[.bool g6, .string s6, .string t6, .bool g7, .string s7, .string t7], .int .i64 k1]) ∧ Below W.heap.size W w') (h3 : ∀ W, LawW W → Calls Tryz.prog 13 #[.agg #[.bool g1, .string s1, .string t1, .bool g2, .string s2, .string t2], .agg #[.bool g3, .string s3, .string t3, .bool g4, .string s4, .string t4]] W fun e w' => e = .returned (.tuple #[.agg #[.bool g8, .string s8, .string t8, .bool g9, .string s9, .string t9], .int .i64 k2]) ∧ Below W.heap.size W w') (h4 : ∀ W, LawW W → Calls Tryz.prog 14 #[.agg #[.bool g1, .string s1, .string t1, .bool g2, .string s2, .string t2], .agg #[.bool g3, .string s3, .string t3, .bool g4, .string s4, .string t4]] W fun e w' => e = .returned (.tuple #[.agg #[.bool g8, .string s8, .string t8, .bool g9, .string s9, .string t9], .int .i64 k2]) ∧ Below W.heap.size W w') (h5 : ∀ W, Below w.heap.size w W → LawW W → Calls Tryz.prog 15 #[.slice ao l.length cp] W fun e w' => e = .returned (.tuple #[.agg #[.bool g10, .string s10, .string t10, .bool g11, .string s11, .string t11], .int .i64 k3]) ∧ Below W.heap.size W w') (h6 : ∀ W, Below w.heap.size w W → LawW W → Calls Tryz.prog 16 #[.slice ao l.length cp] W fun e w' => e = .returned (.tuple #[.agg #[.bool g10, .string s10, .string t10, .bool g11, .string s11, .string t11], .int .i64 k3]) ∧ Below W.heap.size W w') (h7 : ∀ W, LawW W → Calls Tryz.prog 17 #[.agg #[.bool g1, .string s1, .string t1, .bool g2, .string s2, .string t2], .agg #[.bool g3, .string s3, .string t3, .bool g4, .string s4, .string t4]] W fun e w' => e = .returned (.tuple #[.agg #[.bool g12, .string s12, .string t12, .bool g13, .string s13, .string t13], .bool b1]) ∧ Below W.heap.size W w') (h8 : ∀ W, LawW W → Calls Tryz.prog 18 #[.agg #[.bool g1, .string s1, .string t1, .bool g2, .string s2, .string t2], .agg #[.bool g3, .string s3, .string t3, .bool g4, .string s4, .string t4]] W fun e w' => e = .returned (.tuple #[.agg #[.bool g12, .string s12, .string t12, .bool g13, .string s13, .string t13], .bool b1]) ∧ Below W.heap.size W w') (h9 : ∀ W, LawW W → Calls Tryz.prog 19 #[.agg #[.bool g1, .string s1, .string t1, .bool g2, .string s2, .string t2]] W fun e w' => e = .returned (.bool b2) ∧ Below W.heap.size W w') (j1 : ∀ W, LawW W → Calls Tryz.prog 20 #[.agg #[.bool g1, .string s1, .string t1, .bool g2, .string s2, .string t2]] W fun e w' => e = .returned (.bool b2) ∧ Below W.heap.size W w') (j2 : ∀ W, LawW W → Calls Tryz.prog 21 #[.agg #[.bool g1, .string s1, .string t1, .bool g2, .string s2, .string t2], .agg #[.bool g5, .string s5, .string t5]] W fun e w' => e = .returned (.bool b3) ∧ Below W.heap.size W w') (j3 : ∀ W, LawW W → Calls Tryz.prog 22 #[.agg #[.bool g1, .string s1, .string t1, .bool g2, .string s2, .string t2], .agg #[.bool g5, .string s5, .string t5]] W fun e w' => e = .returned (.bool b3) ∧ Below W.heap.size W w') (hg : (fewI l && fewQ 60 []) = true) (hf : (fewI [((g1, s1, t1), (g2, s2, t2)), ((g3, s3, t3), (g4, s4, t4))] && fewQ 60 [(g5, s5, t5)]) = true) (hw : LawW w) :
    Calls Tryz.prog 3 #[.agg #[.bool g1, .string s1, .string t1, .bool g2, .string s2, .string t2], .agg #[.bool g3, .string s3, .string t3, .bool g4, .string s4, .string t4], .agg #[.bool g5, .string s5, .string t5], .slice ao l.length cp] w fun e w' => e = .returned (.bool true) ∧ Below w.heap.size w w' := by
  have Hh1 := hide h1
  have Hh2 := hide h2
  have Hh3 := hide h3
  have Hh4 := hide h4
  have Hh5 := hide h5
  have Hh6 := hide h6
  have Hh7 := hide h7
  have Hh8 := hide h8
  have Hh9 := hide h9
  have Hj1 := hide j1
  have Hj2 := hide j2
  have Hj3 := hide j3
  have HW := hide hw
  have HH := hide (fun W hW => law05_head W hW)
  have HF := hide (fun v u W h1 h2 => law05_few [((g1, s1, t1), (g2, s2, t2)), ((g3, s3, t3), (g4, s4, t4))] [(g5, s5, t5)] v u W h1 h2 (by show 2 ≤ maxLen; decide) (by show 1 ≤ 1000; decide))
  rw [hf] at HF
  have HG := hide (fun W (h1 : Below w.heap.size w W) => law05_few l [] (.slice ao l.length cp) (.slice none 0 0) W (hv.below h1) (slice_nil _) hl (by simp))
  rw [hg] at HG

  have HV0 : Hid (VB w w []) := VB.nil w
  clear h1 h2 h3 h4 h5 h6 h7 h8 h9 j1 j2 j3 hw hf hv hl hg
  go_enter Tryz.func3, Tryz.ntmps3
  have HV0_ := hide (HV0.out.push6 (b := w.heap.size) (by simp) (.bool g1) (.string s1) (.string t1) (.bool g2) (.string s2) (.string t2) 26)
  clear HV0
  have HV0__ := hide (HV0_.out.push6 (b := w.heap.size + 1) (by simp) (.bool g3) (.string s3) (.string t3) (.bool g4) (.string s4) (.string t4) 26)
  clear HV0_
  have HV0___ := hide (HV0__.out.push3 (b := w.heap.size + 2) (by simp) (.bool g5) (.string s5) (.string t5) 24)
  clear HV0__
  go_wp2_with fail
  refine (HH.out _ (HV0___.out.law HW.out)).mono ?_
  rintro e w1 ⟨rfl, hb⟩
  have HV1 := hide (HV0___.out.below hb)
  clear hb HV0___
  obtain ⟨c1, c2, c3, c4, c5, c6⟩ := HV1.out.at6 2 rfl
  obtain ⟨c7, c8, c9, c10, c11, c12⟩ := HV1.out.at6 1 rfl
  have hli : SliceOf vIv 6 (w1.alloc (.cells #[.bool g1, .string s1, .string t1, .bool g2, .string s2, .string t2, .bool g3, .string s3, .string t3, .bool g4, .string s4, .string t4] 26)) (.slice (some ⟨w1.heap.size, 0, none⟩) 2 2) [((g1, s1, t1), (g2, s2, t2)), ((g3, s3, t3), (g4, s4, t4))] := slice_lit_iv vIv_len w1 [((g1, s1, t1), (g2, s2, t2)), ((g3, s3, t3), (g4, s4, t4))] _ (show 2 ≤ maxLen by decide) (by simp) rfl rfl
  have HLI := hide hli
  clear hli
  have HV1_ := hide (HV1.out.anon (.cells #[.bool g1, .string s1, .string t1, .bool g2, .string s2, .string t2, .bool g3, .string s3, .string t3, .bool g4, .string s4, .string t4] 26))
  clear HV1
  obtain ⟨c13, c14, c15⟩ := HV1_.out.at3 0 rfl
  have hlq : SliceOf vQ 3 ((w1.alloc (.cells #[.bool g1, .string s1, .string t1, .bool g2, .string s2, .string t2, .bool g3, .string s3, .string t3, .bool g4, .string s4, .string t4] 26)).alloc (.cells #[.bool g5, .string s5, .string t5] 24)) (.slice (some ⟨w1.heap.size + 1, 0, none⟩) 1 1) [(g5, s5, t5)] := slice_lit_iv vQ_len (w1.alloc (.cells #[.bool g1, .string s1, .string t1, .bool g2, .string s2, .string t2, .bool g3, .string s3, .string t3, .bool g4, .string s4, .string t4] 26)) [(g5, s5, t5)] _ (show 1 ≤ maxLen by decide) (by simp) rfl rfl
  have HLQ := hide hlq
  clear hlq
  have HV1__ := hide (HV1_.out.anon (.cells #[.bool g5, .string s5, .string t5] 24))
  clear HV1_
  go_wp2_with fail
  clear c1 c2 c3 c4 c5 c6 c7 c8 c9 c10 c11 c12 c13 c14 c15
  refine (HF.out _ _ _ (HLI.out.below (bAlloc (Below.refl _ _) _)) HLQ.out).mono ?_
  rintro e w2 ⟨rfl, hb⟩
  have HV2 := hide (HV1__.out.below hb)
  clear hb HV1__ HF HLI HLQ
  go_wp2_with fail
  refine (HG.out _ HV2.out.bel).mono ?_
  rintro e w3 ⟨rfl, hb⟩
  have HV3 := hide (HV2.out.below hb)
  clear hb HV2
  obtain ⟨c16, c17, c18, c19, c20, c21⟩ := HV3.out.at6 2 rfl
  obtain ⟨c22, c23, c24, c25, c26, c27⟩ := HV3.out.at6 1 rfl
  go_wp2_with fail
  clear c16 c17 c18 c19 c20 c21 c22 c23 c24 c25 c26 c27
  refine (Hh1.out _ (HV3.out.law HW.out)).mono ?_
  rintro e w4 ⟨rfl, hb⟩
  have HV4 := hide (HV3.out.below hb)
  clear hb HV3
  have HV4_ := hide (HV4.out.push6 (b := w4.heap.size) (by simp) (.bool g6) (.string s6) (.string t6) (.bool g7) (.string s7) (.string t7) 26)
  clear HV4
  obtain ⟨c28, c29, c30, c31, c32, c33⟩ := HV4_.out.at6 3 rfl
  obtain ⟨c34, c35, c36, c37, c38, c39⟩ := HV4_.out.at6 2 rfl
  go_wp2_with fail
  clear c28 c29 c30 c31 c32 c33 c34 c35 c36 c37 c38 c39
  refine (Hh2.out _ (HV4_.out.law HW.out)).mono ?_
  rintro e w5 ⟨rfl, hb⟩
  have HV5 := hide (HV4_.out.below hb)
  clear hb HV4_
  have HV5_ := hide (HV5.out.push6 (b := w5.heap.size) (by simp) (.bool g6) (.string s6) (.string t6) (.bool g7) (.string s7) (.string t7) 26)
  clear HV5
  obtain ⟨c40, c41, c42, c43, c44, c45⟩ := HV5_.out.at6 4 rfl
  obtain ⟨c46, c47, c48, c49, c50, c51⟩ := HV5_.out.at6 3 rfl
  go_wp2_with fail
  clear c40 c41 c42 c43 c44 c45 c46 c47 c48 c49 c50 c51
  refine (Hh3.out _ (HV5_.out.law HW.out)).mono ?_
  rintro e w6 ⟨rfl, hb⟩
  have HV6 := hide (HV5_.out.below hb)
  clear hb HV5_
  have HV6_ := hide (HV6.out.push6 (b := w6.heap.size) (by simp) (.bool g8) (.string s8) (.string t8) (.bool g9) (.string s9) (.string t9) 26)
  clear HV6
  obtain ⟨c52, c53, c54, c55, c56, c57⟩ := HV6_.out.at6 5 rfl
  obtain ⟨c58, c59, c60, c61, c62, c63⟩ := HV6_.out.at6 4 rfl
  go_wp2_with fail
  clear c52 c53 c54 c55 c56 c57 c58 c59 c60 c61 c62 c63
  refine (Hh4.out _ (HV6_.out.law HW.out)).mono ?_
  rintro e w7 ⟨rfl, hb⟩
  have HV7 := hide (HV6_.out.below hb)
  clear hb HV6_
  have HV7_ := hide (HV7.out.push6 (b := w7.heap.size) (by simp) (.bool g8) (.string s8) (.string t8) (.bool g9) (.string s9) (.string t9) 26)
  clear HV7
  go_wp2_with fail
  refine (Hh5.out _ HV7_.out.bel (HV7_.out.law HW.out)).mono ?_
  rintro e w8 ⟨rfl, hb⟩
  have HV8 := hide (HV7_.out.below hb)
  clear hb HV7_
  have HV8_ := hide (HV8.out.push6 (b := w8.heap.size) (by simp) (.bool g10) (.string s10) (.string t10) (.bool g11) (.string s11) (.string t11) 26)
  clear HV8
  go_wp2_with fail
  refine (Hh6.out _ HV8_.out.bel (HV8_.out.law HW.out)).mono ?_
  rintro e w9 ⟨rfl, hb⟩
  have HV9 := hide (HV8_.out.below hb)
  clear hb HV8_
  have HV9_ := hide (HV9.out.push6 (b := w9.heap.size) (by simp) (.bool g10) (.string s10) (.string t10) (.bool g11) (.string s11) (.string t11) 26)
  clear HV9
  obtain ⟨c64, c65, c66, c67, c68, c69⟩ := HV9_.out.at6 8 rfl
  obtain ⟨c70, c71, c72, c73, c74, c75⟩ := HV9_.out.at6 7 rfl
  go_wp2_with fail
  clear c64 c65 c66 c67 c68 c69 c70 c71 c72 c73 c74 c75
  refine (Hh7.out _ (HV9_.out.law HW.out)).mono ?_
  rintro e w10 ⟨rfl, hb⟩
  have HV10 := hide (HV9_.out.below hb)
  clear hb HV9_
  have HV10_ := hide (HV10.out.push6 (b := w10.heap.size) (by simp) (.bool g12) (.string s12) (.string t12) (.bool g13) (.string s13) (.string t13) 26)
  clear HV10
  obtain ⟨c76, c77, c78, c79, c80, c81⟩ := HV10_.out.at6 9 rfl
  obtain ⟨c82, c83, c84, c85, c86, c87⟩ := HV10_.out.at6 8 rfl
  go_wp2_with fail
  clear c76 c77 c78 c79 c80 c81 c82 c83 c84 c85 c86 c87
  refine (Hh8.out _ (HV10_.out.law HW.out)).mono ?_
  rintro e w11 ⟨rfl, hb⟩
  have HV11 := hide (HV10_.out.below hb)
  clear hb HV10_
  have HV11_ := hide (HV11.out.push6 (b := w11.heap.size) (by simp) (.bool g12) (.string s12) (.string t12) (.bool g13) (.string s13) (.string t13) 26)
  clear HV11
  go_wp2_with fail
  obtain ⟨wq, hwq⟩ : ∃ x, (w11.alloc (.cells #[.bool g12, .string s12, .string t12, .bool g13, .string s13, .string t13] 26)) = x := ⟨_, rfl⟩
  have HVQ := hide HV11_.out
  rw [hwq] at HVQ ⊢
  clear hwq HV11_
  have HLW : Hid (∀ W, Below wq.heap.size wq W → LawW W) := fun W h => (HVQ.out.below h).law HW.out
  have HCS : Hid (∀ W, Below wq.heap.size wq W → (W.cell? ⟨w.heap.size, 0, none⟩ = some (.bool g1) ∧ W.cell? ⟨w.heap.size, 1, none⟩ = some (.string s1) ∧ W.cell? ⟨w.heap.size, 2, none⟩ = some (.string t1) ∧ W.cell? ⟨w.heap.size, 3, none⟩ = some (.bool g2) ∧ W.cell? ⟨w.heap.size, 4, none⟩ = some (.string s2) ∧ W.cell? ⟨w.heap.size, 5, none⟩ = some (.string t2)) ∧ (W.cell? ⟨w.heap.size + 2, 0, none⟩ = some (.bool g5) ∧ W.cell? ⟨w.heap.size + 2, 1, none⟩ = some (.string s5) ∧ W.cell? ⟨w.heap.size + 2, 2, none⟩ = some (.string t5)) ∧ (W.cell? ⟨w4.heap.size, 0, none⟩ = some (.bool g6) ∧ W.cell? ⟨w4.heap.size, 1, none⟩ = some (.string s6) ∧ W.cell? ⟨w4.heap.size, 2, none⟩ = some (.string t6) ∧ W.cell? ⟨w4.heap.size, 3, none⟩ = some (.bool g7) ∧ W.cell? ⟨w4.heap.size, 4, none⟩ = some (.string s7) ∧ W.cell? ⟨w4.heap.size, 5, none⟩ = some (.string t7)) ∧ (W.cell? ⟨w5.heap.size, 0, none⟩ = some (.bool g6) ∧ W.cell? ⟨w5.heap.size, 1, none⟩ = some (.string s6) ∧ W.cell? ⟨w5.heap.size, 2, none⟩ = some (.string t6) ∧ W.cell? ⟨w5.heap.size, 3, none⟩ = some (.bool g7) ∧ W.cell? ⟨w5.heap.size, 4, none⟩ = some (.string s7) ∧ W.cell? ⟨w5.heap.size, 5, none⟩ = some (.string t7))) := fun W h => ⟨(HVQ.out.below h).at6 10 rfl, (HVQ.out.below h).at3 8 rfl, (HVQ.out.below h).at6 7 rfl, (HVQ.out.below h).at6 6 rfl⟩
  go_cut [26] (fun z wx => z = .bool true ∧ Below wq.heap.size wq wx)
  case first =>
    have hd := (Below.refl wq.heap.size wq).drew
    go_region_held3 (fun w' => (w'.cell? ⟨w.heap.size, 0, none⟩ = some (.bool g1) ∧ w'.cell? ⟨w.heap.size, 1, none⟩ = some (.string s1) ∧ w'.cell? ⟨w.heap.size, 2, none⟩ = some (.string t1) ∧ w'.cell? ⟨w.heap.size, 3, none⟩ = some (.bool g2) ∧ w'.cell? ⟨w.heap.size, 4, none⟩ = some (.string s2) ∧ w'.cell? ⟨w.heap.size, 5, none⟩ = some (.string t2)) ∧ (w'.cell? ⟨w.heap.size + 2, 0, none⟩ = some (.bool g5) ∧ w'.cell? ⟨w.heap.size + 2, 1, none⟩ = some (.string s5) ∧ w'.cell? ⟨w.heap.size + 2, 2, none⟩ = some (.string t5)) ∧ (w'.cell? ⟨w4.heap.size, 0, none⟩ = some (.bool g6) ∧ w'.cell? ⟨w4.heap.size, 1, none⟩ = some (.string s6) ∧ w'.cell? ⟨w4.heap.size, 2, none⟩ = some (.string t6) ∧ w'.cell? ⟨w4.heap.size, 3, none⟩ = some (.bool g7) ∧ w'.cell? ⟨w4.heap.size, 4, none⟩ = some (.string s7) ∧ w'.cell? ⟨w4.heap.size, 5, none⟩ = some (.string t7)) ∧ (w'.cell? ⟨w5.heap.size, 0, none⟩ = some (.bool g6) ∧ w'.cell? ⟨w5.heap.size, 1, none⟩ = some (.string s6) ∧ w'.cell? ⟨w5.heap.size, 2, none⟩ = some (.string t6) ∧ w'.cell? ⟨w5.heap.size, 3, none⟩ = some (.bool g7) ∧ w'.cell? ⟨w5.heap.size, 4, none⟩ = some (.string s7) ∧ w'.cell? ⟨w5.heap.size, 5, none⟩ = some (.string t7)))
      (first | exact HCS.out _ (by assumption))
      (first
        | (go_at_call 19; refine (Hh9.out _ (HLW.out _ hd)).mono ?_; rintro e wa ⟨rfl, hb⟩; have hd := bStep (w0 := wq) hd hb; clear hb)
        | (go_at_call 20; refine (Hj1.out _ (HLW.out _ hd)).mono ?_; rintro e wa ⟨rfl, hb⟩; have hd := bStep (w0 := wq) hd hb; clear hb)
        | (go_at_call 21; refine (Hj2.out _ (HLW.out _ hd)).mono ?_; rintro e wa ⟨rfl, hb⟩; have hd := bStep (w0 := wq) hd hb; clear hb)
        | (go_at_call 22; refine (Hj3.out _ (HLW.out _ hd)).mono ?_; rintro e wa ⟨rfl, hb⟩; have hd := bStep (w0 := wq) hd hb; clear hb))
    all_goals
      go_wp2_with fail
      go_meet
      exact ⟨rfl, hd⟩
  case rest =>
  obtain ⟨rfl, hb⟩ := hcut
  have HVR := hide (HVQ.out.below hb)
  clear hb HVQ HLW HCS
  obtain ⟨wq2, rfl⟩ : ∃ x, x = wc := ⟨_, rfl⟩
  obtain ⟨c88, c89, c90, c91, c92, c93⟩ := HVR.out.at6 5 rfl
  obtain ⟨c94, c95, c96, c97, c98, c99⟩ := HVR.out.at6 4 rfl
  obtain ⟨c100, c101, c102, c103, c104, c105⟩ := HVR.out.at6 3 rfl
  obtain ⟨c106, c107, c108, c109, c110, c111⟩ := HVR.out.at6 2 rfl
  obtain ⟨c112, c113, c114, c115, c116, c117⟩ := HVR.out.at6 1 rfl
  obtain ⟨c118, c119, c120, c121, c122, c123⟩ := HVR.out.at6 0 rfl
  go_wp2_with fail
  clear c88 c89 c90 c91 c92 c93 c94 c95 c96 c97 c98 c99 c100 c101 c102 c103 c104 c105 c106 c107 c108 c109 c110 c111 c112 c113 c114 c115 c116 c117 c118 c119 c120 c121 c122 c123
  go_ret
  exact ⟨rfl, HVR.out.bel⟩
/-- Two functions answer alike. -/
def Same (F G : FuncId) (args : Array Value) (v : Value) : Prop := RetC F args v ∧ RetC G args v
def JVx (x : Q3 × Q3) (b : Bool) : Prop := JV x.1.1 x.1.2.1 x.1.2.2 x.2.1 x.2.2.1 x.2.2.2 b
theorem yv_ok {k : Nat} {x : Q3} (h : IsX k x) (hk : k ≤ 999) : YV x.1 x.2.1 x.2.2 true := fun W _ => qvd_of h.sz hk h.q W
theorem yc_ok {j k : Nat} {x y : Q3} (hx : IsX j x) (hy : IsX k y) (hj : j ≤ 999) (hk : k ≤ 999) : YC x.1 x.2.1 x.2.2 y.1 y.2.1 y.2.2 (cmpQ (qv x) (qv y)) := fun W _ => q_cmp hx.sz hy.sz hj hk hx.q hy.q W
theorem cmpQ_pos {p q : Rat} : 0 < cmpQ p q ↔ q < p := by
  have h := cmpQ_neg (p := q) (q := p)
  rw [cmpQ_flip] at h
  exact ⟨fun h1 => h.1 (by omega), fun h1 => by have := h.2 h1; omega⟩
theorem y_cases (r : Q3) (h : ShQ r) : IsX 60 r ∨ (XV r.1 r.2.1 r.2.2 false ∧ YV r.1 r.2.1 r.2.2 false) := by
  have m1 : r.2.1.size ≤ maxLen := by have := h.1; unfold maxLen; omega
  have m2 : r.2.2.size ≤ maxLen := by have := h.2; unfold maxLen; omega
  rcases Bool.eq_false_or_eq_true (vldR r.1 r.2.1 r.2.2) with v | v
  · obtain ⟨p, ep, hp⟩ := few_q (k := 60) (by omega) h.1 h.2 v
    exact .inl ⟨p, ep, hp⟩
  · refine .inr ⟨fun W hW => ?_, fun W _ => ?_⟩
    · have h := rat_valid r.1 r.2.1 r.2.2 W m1 m2 hW
      rw [v] at h; exact h
    · have h := r4_valid r.1 r.2.1 r.2.2 (by have := h.1; omega) (by have := h.2; omega)
      rw [v] at h; exact h W
theorem jv_ok {k : Nat} {a : Q3 × Q3} (h : IvOk k a) (hk : k ≤ 999) : JVx a true := fun W hW => by
  have := rv_valid3 a.1.1 a.1.2.1 a.1.2.2 a.2.1 a.2.2.1 a.2.2.2 _ W (yv_ok h.lo hk) (yv_ok h.hi hk) (yc_ok h.lo h.hi hk hk) hW
  rw [decide_eq_true (cmpQ_le.2 h.le)] at this
  exact this
theorem j_cases (a : Q3 × Q3) (h : ShI a) : IvOk 60 a ∨ (IVx a false ∧ JVx a false) := by
  rcases ivx_cases a h.1.1 h.1.2 h.2.1 h.2.2 with o | ⟨no, hn⟩
  · exact .inl o
  refine .inr ⟨hn, fun W hW => ?_⟩
  rcases y_cases a.1 h.1 with x1 | ⟨_, y1⟩
  · rcases y_cases a.2 h.2 with x2 | ⟨_, y2⟩
    · have := rv_valid3 a.1.1 a.1.2.1 a.1.2.2 a.2.1 a.2.2.1 a.2.2.2 _ W (yv_ok x1 (by omega)) (yv_ok x2 (by omega)) (yc_ok x1 x2 (by omega) (by omega)) hW
      rw [decide_eq_false (fun h => no ⟨x1, x2, cmpQ_le.1 h⟩)] at this
      exact this
    · exact rv_valid2 _ _ _ _ _ _ W (yv_ok x1 (by omega)) y2 hW
  · exact rv_valid1 _ _ _ _ _ _ W y1 hW
theorem valid_alike (a : Q3 × Q3) (h : ShI a) : ∃ b : Bool, Same 19 20 #[iArg a] (.bool b) := by
  rcases j_cases a h with o | ⟨h1, h2⟩
  · exact ⟨true, ivx_ok o (by omega), jv_ok o (by omega)⟩
  · exact ⟨false, h1, h2⟩
theorem contains_alike (a : Q3 × Q3) (r : Q3) (h : ShI a) (hr : ShQ r) : ∃ b : Bool, Same 21 22 #[iArg a, qArg r] (.bool b) := by
  rcases j_cases a h with o | ⟨h1, h2⟩
  · rcases y_cases r hr with x | ⟨n1, n2⟩
    · refine ⟨_, c_contains o x (by omega) (by omega), fun W hW => ?_⟩
      by_cases h1 : qv a.1 ≤ qv r
      · have h := rv_contains4 _ _ _ _ _ _ _ _ _ _ _ W (jv_ok o (by omega)) (yv_ok x (by omega)) (yc_ok o.lo x (by omega) (by omega)) (decide_eq_true (cmpQ_le.2 h1)) (yc_ok x o.hi (by omega) (by omega)) hW
        rw [show decide (cmpQ (qv r) (qv a.2) ≤ 0) = decide (qv a.1 ≤ qv r ∧ qv r ≤ qv a.2) from decide_eq_decide.2 (cmpQ_le.trans ⟨fun h => ⟨h1, h⟩, fun h => h.2⟩)] at h
        exact h
      · have h := rv_contains3 _ _ _ _ _ _ _ _ _ _ W (jv_ok o (by omega)) (yv_ok x (by omega)) (yc_ok o.lo x (by omega) (by omega)) (decide_eq_false (fun h => h1 (cmpQ_le.1 h))) hW
        rw [decide_eq_false (fun h => h1 h.1)]
        exact h
    · exact ⟨false, c_contains_bad (.inr ⟨ivx_ok o (by omega), n1⟩), fun W hW => rv_contains2 _ _ _ _ _ _ _ _ _ W (jv_ok o (by omega)) n2 hW⟩
  · exact ⟨false, c_contains_bad (.inl h1), fun W hW => rv_contains1 _ _ _ _ _ _ _ _ _ W h2 hW⟩
/-- Both are valid, or the second is not, or the first is not. -/
theorem jj_cases (a c : Q3 × Q3) (ha : ShI a) (hc : ShI c) : (IvOk 60 a ∧ IvOk 60 c) ∨ ((IVx a false ∨ (IVx a true ∧ IVx c false)) ∧ (JVx a false ∨ (JVx a true ∧ JVx c false))) := by
  rcases j_cases a ha with o | ⟨h1, h2⟩
  · rcases j_cases c hc with p | ⟨n1, n2⟩
    · exact .inl ⟨o, p⟩
    · exact .inr ⟨.inr ⟨ivx_ok o (by omega), n1⟩, .inr ⟨jv_ok o (by omega), n2⟩⟩
  · exact .inr ⟨.inl h1, .inl h2⟩
theorem add_alike (a c : Q3 × Q3) (ha : ShI a) (hc : ShI c) : ∃ (u : Q3 × Q3) (k : Int), Same 11 12 #[iArg a, iArg c] (.tuple #[iArg u, .int .i64 k]) := by
  rcases jj_cases a c ha hc with ⟨oa, oc⟩ | ⟨b1, b2⟩
  · obtain ⟨x, i1, e1⟩ := IsX.get (oa.lo.sz.add oc.lo.sz)
    obtain ⟨y, i2, e2⟩ := IsX.get (oa.hi.sz.add oc.hi.sz)
    exact ⟨(x, y), 0, c_add oa oc (by omega) i1 i2 e1 e2, fun W hW => rv_add3 _ _ _ _ _ _ _ _ _ _ _ _ x.1 x.2.1 x.2.2 y.1 y.2.1 y.2.2 W (jv_ok oa (by omega)) (jv_ok oc (by omega))
      (fun W _ => q2_add oa.lo.sz oc.lo.sz (by omega) e1.symm oa.lo.q oc.lo.q i1.q W) (fun W _ => q2_add oa.hi.sz oc.hi.sz (by omega) e2.symm oa.hi.q oc.hi.q i2.q W) hW⟩
  · refine ⟨((false, ⟨#[]⟩, ⟨#[]⟩), (false, ⟨#[]⟩, ⟨#[]⟩)), 1, c_add_bad b1, fun W hW => ?_⟩
    rcases b2 with h | ⟨h, h'⟩
    · exact rv_add1 _ _ _ _ _ _ _ _ _ _ _ _ W h hW
    · exact rv_add2 _ _ _ _ _ _ _ _ _ _ _ _ W h h' hW
theorem cmpAll_of {l : List Q3} {k : Nat} (h : ∀ x ∈ l, IsX k x) (hk : k ≤ 999) : CmpAll l := fun x hx y hy => ⟨_, yc_ok (h x hx) (h y hy) hk hk, cmpQ_neg, cmpQ_pos⟩
theorem mul_alike (a c : Q3 × Q3) (ha : ShI a) (hc : ShI c) : ∃ (u : Q3 × Q3) (k : Int), Same 13 14 #[iArg a, iArg c] (.tuple #[iArg u, .int .i64 k]) := by
  rcases jj_cases a c ha hc with ⟨oa, oc⟩ | ⟨b1, b2⟩
  · obtain ⟨l, pl⟩ := Prods.get oa oc
    obtain ⟨m, hm⟩ := min_ex l pl.ne
    obtain ⟨n, hn⟩ := max_ex l pl.ne
    refine ⟨(m, n), 0, c_mul oa oc (by omega) pl hm hn, fun W hW => ?_⟩
    have hall := pl.isx
    have hca := cmpAll_of hall (by omega)
    obtain ⟨m0, m1, m2, m3, rfl, ⟨x0, x1, x2, x3⟩, f0, f1, f2, f3⟩ := pl.all
    refine (rv_mul3 _ _ _ _ _ _ _ _ _ _ _ _ m0.1 m0.2.1 m0.2.2 m1.1 m1.2.1 m1.2.2 m2.1 m2.2.1 m2.2.2 m3.1 m3.2.1 m3.2.2 W (jv_ok oa (by omega)) (jv_ok oc (by omega))
      (fun W _ => q2_mul oa.lo.sz oc.lo.sz (by omega) f0.symm oa.lo.q oc.lo.q x0.q W) (fun W _ => q2_mul oa.lo.sz oc.hi.sz (by omega) f1.symm oa.lo.q oc.hi.q x1.q W)
      (fun W _ => q2_mul oa.hi.sz oc.lo.sz (by omega) f2.symm oa.hi.q oc.lo.q x2.q W) (fun W _ => q2_mul oa.hi.sz oc.hi.sz (by omega) f3.symm oa.hi.q oc.hi.q x3.q W) hca hW).mono ?_
    rintro e w' ⟨lo, hi, rfl, ⟨h1, h2⟩, hb⟩
    have u1 := MinX.uniq hall hm h1
    have u2 := MaxX.uniq hall hn h2
    subst u1 u2
    exact ⟨rfl, hb⟩
  · refine ⟨((false, ⟨#[]⟩, ⟨#[]⟩), (false, ⟨#[]⟩, ⟨#[]⟩)), 1, c_mul_bad b1, fun W hW => ?_⟩
    rcases b2 with h | ⟨h, h'⟩
    · exact rv_mul1 _ _ _ _ _ _ _ _ _ _ _ _ W h hW
    · exact rv_mul2 _ _ _ _ _ _ _ _ _ _ _ _ W h h' hW
theorem jv_dec {a : Q3 × Q3} (h1 : IsX 60 a.1) (h2 : IsX 60 a.2) : JVx a (decide (qv a.1 ≤ qv a.2)) := by
  by_cases h : qv a.1 ≤ qv a.2
  · rw [decide_eq_true h]; exact jv_ok ⟨h1, h2, h⟩ (by omega)
  · rw [decide_eq_false h]
    intro W hW
    have := rv_valid3 a.1.1 a.1.2.1 a.1.2.2 a.2.1 a.2.2.1 a.2.2.2 _ W (yv_ok h1 (by omega)) (yv_ok h2 (by omega)) (yc_ok h1 h2 (by omega) (by omega)) hW
    rw [decide_eq_false (fun e => h (cmpQ_le.1 e))] at this
    exact this
theorem meet_alike (a c : Q3 × Q3) (ha : ShI a) (hc : ShI c) : ∃ (u : Q3 × Q3) (b : Bool), Same 17 18 #[iArg a, iArg c] (.tuple #[iArg u, .bool b]) := by
  rcases jj_cases a c ha hc with ⟨oa, oc⟩ | ⟨b1, b2⟩
  · have h1 := c_meet oa oc (by omega) (by omega) rfl rfl
    have va := jv_ok oa (by omega)
    have vc := jv_ok oc (by omega)
    have z1 := yc_ok oc.lo oa.lo (by omega) (by omega)
    have z2 := yc_ok oc.hi oa.hi (by omega) (by omega)
    by_cases l1 : qv a.1 < qv c.1 <;> by_cases l2 : qv c.2 < qv a.2
    · rw [if_pos l1, if_pos l2] at h1
      have f1 := decide_eq_true (cmpQ_pos.2 l1)
      have f2 := decide_eq_true (cmpQ_neg.2 l2)
      have jd := jv_dec (a := (c.1, c.2)) oc.lo oc.hi
      by_cases hle : qv c.1 ≤ qv c.2
      · rw [if_pos hle] at h1
        rw [decide_eq_true hle] at jd
        exact ⟨(c.1, c.2), true, h1, fun W hW => rv_meet3ttt _ _ _ _ _ _ _ _ _ _ _ _ _ _ W va vc z1 z2 f1 f2 jd hW⟩
      · rw [if_neg hle] at h1
        rw [decide_eq_false hle] at jd
        exact ⟨((false, ⟨#[]⟩, ⟨#[]⟩), (false, ⟨#[]⟩, ⟨#[]⟩)), false, h1, fun W hW => rv_meet3ttf _ _ _ _ _ _ _ _ _ _ _ _ _ _ W va vc z1 z2 f1 f2 jd hW⟩
    · rw [if_pos l1, if_neg l2] at h1
      have f1 := decide_eq_true (cmpQ_pos.2 l1)
      have f2 := decide_eq_false (fun e => l2 (cmpQ_neg.1 e))
      have jd := jv_dec (a := (c.1, a.2)) oc.lo oa.hi
      by_cases hle : qv c.1 ≤ qv a.2
      · rw [if_pos hle] at h1
        rw [decide_eq_true hle] at jd
        exact ⟨(c.1, a.2), true, h1, fun W hW => rv_meet3tft _ _ _ _ _ _ _ _ _ _ _ _ _ _ W va vc z1 z2 f1 f2 jd hW⟩
      · rw [if_neg hle] at h1
        rw [decide_eq_false hle] at jd
        exact ⟨((false, ⟨#[]⟩, ⟨#[]⟩), (false, ⟨#[]⟩, ⟨#[]⟩)), false, h1, fun W hW => rv_meet3tff _ _ _ _ _ _ _ _ _ _ _ _ _ _ W va vc z1 z2 f1 f2 jd hW⟩
    · rw [if_neg l1, if_pos l2] at h1
      have f1 := decide_eq_false (fun e => l1 (cmpQ_pos.1 e))
      have f2 := decide_eq_true (cmpQ_neg.2 l2)
      have jd := jv_dec (a := (a.1, c.2)) oa.lo oc.hi
      by_cases hle : qv a.1 ≤ qv c.2
      · rw [if_pos hle] at h1
        rw [decide_eq_true hle] at jd
        exact ⟨(a.1, c.2), true, h1, fun W hW => rv_meet3ftt _ _ _ _ _ _ _ _ _ _ _ _ _ _ W va vc z1 z2 f1 f2 jd hW⟩
      · rw [if_neg hle] at h1
        rw [decide_eq_false hle] at jd
        exact ⟨((false, ⟨#[]⟩, ⟨#[]⟩), (false, ⟨#[]⟩, ⟨#[]⟩)), false, h1, fun W hW => rv_meet3ftf _ _ _ _ _ _ _ _ _ _ _ _ _ _ W va vc z1 z2 f1 f2 jd hW⟩
    · rw [if_neg l1, if_neg l2] at h1
      have f1 := decide_eq_false (fun e => l1 (cmpQ_pos.1 e))
      have f2 := decide_eq_false (fun e => l2 (cmpQ_neg.1 e))
      have jd := jv_dec (a := (a.1, a.2)) oa.lo oa.hi
      by_cases hle : qv a.1 ≤ qv a.2
      · rw [if_pos hle] at h1
        rw [decide_eq_true hle] at jd
        exact ⟨(a.1, a.2), true, h1, fun W hW => rv_meet3fft _ _ _ _ _ _ _ _ _ _ _ _ _ _ W va vc z1 z2 f1 f2 jd hW⟩
      · rw [if_neg hle] at h1
        rw [decide_eq_false hle] at jd
        exact ⟨((false, ⟨#[]⟩, ⟨#[]⟩), (false, ⟨#[]⟩, ⟨#[]⟩)), false, h1, fun W hW => rv_meet3fff _ _ _ _ _ _ _ _ _ _ _ _ _ _ W va vc z1 z2 f1 f2 jd hW⟩
  · refine ⟨((false, ⟨#[]⟩, ⟨#[]⟩), (false, ⟨#[]⟩, ⟨#[]⟩)), false, c_meet_bad b1, fun W hW => ?_⟩
    rcases b2 with h | ⟨h, h'⟩
    · exact rv_meet1 _ _ _ _ _ _ _ _ _ _ _ _ W h hW
    · exact rv_meet2 _ _ _ _ _ _ _ _ _ _ _ _ W h h' hW
/-- What a call of a function of the list returns. -/
def RetH (W0 : World) (F : FuncId) (v u : Value) : Prop := ∀ W, Below W0.heap.size W0 W → LawW W → Calls Tryz.prog F #[v] W fun e w' => e = .returned u ∧ Below W.heap.size W w'
set_option maxRecDepth 100000 in
theorem hull_alike (l : List (Q3 × Q3)) (ao : Option Addr) (cp : Nat) (W0 : World) (hv : SliceOf vIv 6 W0 (.slice ao l.length cp) l) (h12 : l.length ≤ 12) (hsh : ∀ a ∈ l, ShI a) : ∃ (u : Q3 × Q3) (k : Int), RetH W0 15 (.slice ao l.length cp) (.tuple #[iArg u, .int .i64 k]) ∧ RetH W0 16 (.slice ao l.length cp) (.tuple #[iArg u, .int .i64 k]) := by
  by_cases hne : l = []
  · subst hne
    exact ⟨((false, ⟨#[]⟩, ⟨#[]⟩), (false, ⟨#[]⟩, ⟨#[]⟩)), 10, fun X hb hX => iv_hull_nil ao cp X (hv.below hb) hX, fun X _ hX => rv_hull_nil ao cp X hX⟩
  have h0 : 0 < l.length := List.length_pos_iff.2 hne
  have hcs : ∀ a ∈ l, IvOk 60 a ∨ (IVx a false ∧ JVx a false) := fun a ha => j_cases a (hsh a ha)
  by_cases hok : ∀ a ∈ l, IvOk 60 a
  case neg =>
    have dec : ∀ a, Decidable (IvOk 60 a) := fun a => Classical.propDecidable _
    have hvl : ∀ a ∈ l, IVx a (decide (IvOk 60 a)) ∧ JVx a (decide (IvOk 60 a)) := fun a ha => by
      by_cases h : IvOk 60 a
      · rw [decide_eq_true h]; exact ⟨ivx_ok h (by omega), jv_ok h (by omega)⟩
      · rw [decide_eq_false h]
        rcases hcs a ha with h' | h'
        · exact absurd h' h
        · exact h'
    have hb : (l.any fun x => !decide (IvOk 60 x)) = true := by
      simp only [Classical.not_forall] at hok
      obtain ⟨a, ha, hn⟩ := hok
      rw [List.any_eq_true]
      exact ⟨a, ha, by rw [decide_eq_false hn]; rfl⟩
    exact ⟨((false, ⟨#[]⟩, ⟨#[]⟩), (false, ⟨#[]⟩, ⟨#[]⟩)), 1, fun X hb' hX => iv_hull_bad l _ (fun a => decide (IvOk 60 a)) X (hv.below hb') (by omega) (fun a ha => (hvl a ha).1) hb hX,
      fun X hb' hX => rv_hull_bad l ao cp (fun a => decide (IvOk 60 a)) X (hv.below hb') (by omega) h0 (fun a ha => (hvl a ha).2) hb hX⟩
  have hall : ∀ z ∈ ends l, IsX 60 z := fun z hz => by
    obtain ⟨a, ha, e⟩ := ends_mem.1 hz
    rcases e with rfl | rfl
    · exact (hok a ha).lo
    · exact (hok a ha).hi
  have hen : ends l ≠ [] := by
    obtain ⟨a, ha⟩ := List.exists_mem_of_ne_nil l hne
    exact List.ne_nil_of_mem (ends_mem.2 ⟨a, ha, .inl rfl⟩)
  obtain ⟨x, hx⟩ := min_ex (ends l) hen
  obtain ⟨y, hy⟩ := max_ex (ends l) hen
  refine ⟨(x, y), 0, fun X hb hX => c_hull hok h0 (by omega) (by omega) hx hy X (hv.below hb) hX, fun X hb hX => ?_⟩
  have c1 : CmpAll (l.map Prod.fst) := cmpAll_of (k := 60) (fun z hz => by obtain ⟨a, ha, rfl⟩ := List.mem_map.1 hz; exact (hok a ha).lo) (by omega)
  have c2 : CmpAll (l.map Prod.snd) := cmpAll_of (k := 60) (fun z hz => by obtain ⟨a, ha, rfl⟩ := List.mem_map.1 hz; exact (hok a ha).hi) (by omega)
  refine (rv_hull_ok l ao cp X (hv.below hb) (by omega) h0 (fun a ha => jv_ok (hok a ha) (by omega)) c1 c2 hX).mono ?_
  rintro e w' ⟨lo, hi, rfl, ⟨h1, h2⟩, hb'⟩
  have m1 : MinX (ends l) lo := by
    obtain ⟨a, ha, e⟩ := List.mem_map.1 h1.1
    refine ⟨ends_mem.2 ⟨a, ha, .inl e.symm⟩, fun z hz => ?_⟩
    obtain ⟨d, hd, e2⟩ := ends_mem.1 hz
    have h3 := h1.2 d.1 (List.mem_map.2 ⟨d, hd, rfl⟩)
    have h4 := (hok d hd).le
    rcases e2 with rfl | rfl <;> grind
  have m2 : MaxX (ends l) hi := by
    obtain ⟨a, ha, e⟩ := List.mem_map.1 h2.1
    refine ⟨ends_mem.2 ⟨a, ha, .inr e.symm⟩, fun z hz => ?_⟩
    obtain ⟨d, hd, e2⟩ := ends_mem.1 hz
    have h3 := h2.2 d.2 (List.mem_map.2 ⟨d, hd, rfl⟩)
    have h4 := (hok d hd).le
    rcases e2 with rfl | rfl <;> grind
  have u1 := MinX.uniq hall hx m1
  have u2 := MaxX.uniq hall hy m2
  subst u1 u2
  exact ⟨rfl, hb'⟩
theorem intervalMatchesReference (a c : Q3 × Q3) (r : Q3) (l : List (Q3 × Q3)) (v : Value) (W : World) (hv : SliceOf vIv 6 W v l) (hW : LawW W) : Calls Tryz.prog 3 #[iArg a, iArg c, qArg r, v] W fun e w' => e = .returned (.bool true) ∧ Below W.heap.size W w' := by
  obtain ⟨ao, cp, rfl⟩ := hv.shape
  have hl : l.length ≤ maxLen := by
    rcases hv with ⟨_, _, rfl⟩ | ⟨_, _, c, _, _, h1, h2, _⟩
    · exact Nat.zero_le _
    · exact Nat.le_trans h1 h2
  obtain ⟨f, hf⟩ : ∃ f, (fewI [a, c] && fewQ 60 [r]) = f := ⟨_, rfl⟩
  cases f
  · exact imatch_0 l ao cp _ _ _ _ _ _ _ _ _ _ _ _ _ _ _ W hv hl hf hW
  obtain ⟨g, hg⟩ : ∃ f, (fewI l && fewQ 60 []) = f := ⟨_, rfl⟩
  cases g
  · exact imatch_1 l ao cp _ _ _ _ _ _ _ _ _ _ _ _ _ _ _ W hv hl hg hf hW
  have hf' := hf
  have hg' := hg
  rw [Bool.and_eq_true] at hf hg
  obtain ⟨sa, sc⟩ := fewI_two hf.1
  have sr := fewQ_sh hf.2 r (by simp)
  obtain ⟨h12, hsh⟩ := fewI_sh hg.1
  obtain ⟨u, k1, h1, h2⟩ := add_alike a c sa sc
  obtain ⟨m, k2, h3, h4⟩ := mul_alike a c sa sc
  obtain ⟨h, k3, h5, h6⟩ := hull_alike l ao cp W hv h12 hsh
  obtain ⟨t, b1, h7, h8⟩ := meet_alike a c sa sc
  obtain ⟨b2, h9, j1⟩ := valid_alike a sa
  obtain ⟨b3, j2, j3⟩ := contains_alike a r sa sr
  exact imatch_2 l ao cp _ _ _ _ _ _ _ _ _ _ _ _ _ _ _ u.1.1 u.1.2.1 u.1.2.2 u.2.1 u.2.2.1 u.2.2.2 m.1.1 m.1.2.1 m.1.2.2 m.2.1 m.2.2.1 m.2.2.2 h.1.1 h.1.2.1 h.1.2.2 h.2.1 h.2.2.1 h.2.2.2 t.1.1 t.1.2.1 t.1.2.2 t.2.1 t.2.2.1 t.2.2.2 k1 k2 k3 b1 b2 b3 W hv hl h1 h2 h3 h4 h5 h6 h7 h8 h9 j1 j2 j3 hg' hf' hW
end Go.Proofs.YtbojlmnajndleaaGreatDoor
