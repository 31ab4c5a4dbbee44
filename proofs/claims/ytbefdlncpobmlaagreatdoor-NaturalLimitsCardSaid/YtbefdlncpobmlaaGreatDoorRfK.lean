/- NaturalLimits: the walk. -/
import Derived.Test.YtbefdlncpobmlaaGreatDoorRfI
import Derived.BigGuard
namespace Go.Proofs.YtbefdlncpobmlaaGreatDoor
open Go.RowKit

theorem undef_boolK {b : Bool} (h : some undef = some (Value.bool b)) : False := by
  unfold undef at h; cases h
set_option maxHeartbeats 8000000 in
set_option maxRecDepth 100000 in
theorem limits03_out0 (a b : ByteArray) (w : World) (hw : LawW w) (hf : fewB [a] = false) :
    Calls Tryz.prog 4 #[.string a, .string b] w fun e w' => e = .returned (.bool true) ∧ Below w.heap.size w w' := by
  have HF := hide hf
  clear hf
  have HB0 : Hid (Below w.heap.size w w) := Below.refl _ _
  have HW := hide hw
  clear hw
  go_enter Tryz.func4, Tryz.ntmps4
  go_wp2_with fail
  refine (law03_head _ (HW.out.below HB0.out)).mono ?_
  rintro e w1 ⟨rfl, hb⟩
  have HB1 := hide (bStep HB0.out hb)
  clear hb
  go_wp2_with fail
  refine (law03_few [a] _ _ (few1_slice _ a _) (by simp)).mono ?_
  rintro e w2 ⟨rfl, rfl⟩
  rw [HF.out]
  have HB2 := hide (bAlloc HB1.out (.cells #[.string a] 22))
  go_wp2_with fail
  all_goals (try exact (undef_boolK ‹some undef = some (Value.bool _)›).elim)
  go_ret
  exact ⟨rfl, HB2.out⟩
set_option maxHeartbeats 8000000 in
set_option maxRecDepth 100000 in
theorem limits03_out1 (a b : ByteArray) (w : World) (hw : LawW w) (hf : fewB [a] = true) (hg : fewB [b] = false) (hs : b.size < 900) :
    Calls Tryz.prog 4 #[.string a, .string b] w fun e w' => e = .returned (.bool true) ∧ Below w.heap.size w w' := by
  have HF := hide hf
  have HG := hide hg
  have f1 : decide ((b.size : Int) < 900) = true := decide_eq_true (by omega)
  clear hf hg hs
  have HB0 : Hid (Below w.heap.size w w) := Below.refl _ _
  have HW := hide hw
  clear hw
  go_enter Tryz.func4, Tryz.ntmps4
  go_wp2_with fail
  refine (law03_head _ (HW.out.below HB0.out)).mono ?_
  rintro e w1 ⟨rfl, hb⟩
  have HB1 := hide (bStep HB0.out hb)
  clear hb
  go_wp2_with fail
  refine (law03_few [a] _ _ (few1_slice _ a _) (by simp)).mono ?_
  rintro e w2 ⟨rfl, rfl⟩
  rw [HF.out]
  have HB2 := hide (bAlloc HB1.out (.cells #[.string a] 22))
  go_wp2_with fail
  all_goals (try exact (undef_boolK ‹some undef = some (Value.bool _)›).elim)
  refine (law03_few [b] _ _ (few1_slice_at _ b _ (by simp)) (by simp)).mono ?_
  rintro e w3 ⟨rfl, rfl⟩
  rw [HG.out]
  have HB3 := hide (bAlloc HB2.out (.cells #[.string b] 22))
  go_wp2_with fail
  all_goals (try exact (undef_boolK ‹some undef = some (Value.bool _)›).elim)
  go_ret
  exact ⟨rfl, HB3.out⟩
set_option maxHeartbeats 8000000 in
set_option maxRecDepth 100000 in
theorem limits03_out2 (a b : ByteArray) (w : World) (hw : LawW w) (hf : fewB [a] = true) (hg : fewB [b] = false) (hs : 1010 < b.size) :
    Calls Tryz.prog 4 #[.string a, .string b] w fun e w' => e = .returned (.bool true) ∧ Below w.heap.size w w' := by
  have HF := hide hf
  have HG := hide hg
  have f1 : decide ((b.size : Int) < 900) = false := decide_eq_false (by omega)
  have f2 : decide ((1010 : Int) < (b.size : Int)) = true := decide_eq_true (by omega)
  clear hf hg hs
  have HB0 : Hid (Below w.heap.size w w) := Below.refl _ _
  have HW := hide hw
  clear hw
  go_enter Tryz.func4, Tryz.ntmps4
  go_wp2_with fail
  refine (law03_head _ (HW.out.below HB0.out)).mono ?_
  rintro e w1 ⟨rfl, hb⟩
  have HB1 := hide (bStep HB0.out hb)
  clear hb
  go_wp2_with fail
  refine (law03_few [a] _ _ (few1_slice _ a _) (by simp)).mono ?_
  rintro e w2 ⟨rfl, rfl⟩
  rw [HF.out]
  have HB2 := hide (bAlloc HB1.out (.cells #[.string a] 22))
  go_wp2_with fail
  all_goals (try exact (undef_boolK ‹some undef = some (Value.bool _)›).elim)
  refine (law03_few [b] _ _ (few1_slice_at _ b _ (by simp)) (by simp)).mono ?_
  rintro e w3 ⟨rfl, rfl⟩
  rw [HG.out]
  have HB3 := hide (bAlloc HB2.out (.cells #[.string b] 22))
  go_wp2_with fail
  all_goals (try exact (undef_boolK ‹some undef = some (Value.bool _)›).elim)
  go_ret
  exact ⟨rfl, HB3.out⟩
set_option maxHeartbeats 8000000 in
set_option maxRecDepth 100000 in
theorem limits03_in0 (a b : ByteArray) (w : World) (hw : LawW w) (m0 : a.size ≤ maxLen) (m1 : b.size ≤ maxLen) (hf : fewB [a] = true) (hg : fewB [b] = true) :
    Calls Tryz.prog 4 #[.string a, .string b] w fun e w' => e = .returned (.bool true) ∧ Below w.heap.size w w' := by
  obtain ⟨s1, z1, p1, r1⟩ := agree_Add a b m0 m1
  obtain ⟨s2, z2, p2, r2⟩ := agree_Sub b a m1 m0
  obtain ⟨s3, z3, p3, r3⟩ := agree_Mul a b m0 m1
  obtain ⟨s4, z4, p4, r4⟩ := agree_Add b b m1 m1
  obtain ⟨z5, p5, r5⟩ := agree_Compare a b m0 m1
  have P1 := hide p1
  have R1 := hide r1
  have P2 := hide p2
  have R2 := hide r2
  have P3 := hide p3
  have R3 := hide r3
  have P4 := hide p4
  have R4 := hide r4
  have P5 := hide p5
  have R5 := hide r5
  clear p1 r1 p2 r2 p3 r3 p4 r4 p5 r5 m0 m1
  have HF := hide hf
  have HG := hide hg
  clear hf hg
  have HB0 : Hid (Below w.heap.size w w) := Below.refl _ _
  have HW := hide hw
  clear hw
  go_enter Tryz.func4, Tryz.ntmps4
  go_wp2_with fail
  refine (law03_head _ (HW.out.below HB0.out)).mono ?_
  rintro e w1 ⟨rfl, hb⟩
  have HB1 := hide (bStep HB0.out hb)
  clear hb
  go_wp2_with fail
  refine (law03_few [a] _ _ (few1_slice _ a _) (by simp)).mono ?_
  rintro e w2 ⟨rfl, rfl⟩
  rw [HF.out]
  have HB2 := hide (bAlloc HB1.out (.cells #[.string a] 22))
  go_wp2_with fail
  all_goals (try exact (undef_boolK ‹some undef = some (Value.bool _)›).elim)
  refine (law03_few [b] _ _ (few1_slice_at _ b _ (by simp)) (by simp)).mono ?_
  rintro e w3 ⟨rfl, rfl⟩
  rw [HG.out]
  have HB3 := hide (bAlloc HB2.out (.cells #[.string b] 22))
  go_wp2_with fail
  all_goals (try exact (undef_boolK ‹some undef = some (Value.bool _)›).elim)
  refine (P1.out _ (HW.out.below HB3.out)).mono ?_
  rintro e w4 ⟨rfl, hb⟩
  have HB4 := hide (bStep HB3.out hb)
  clear hb
  go_wp2_with fail
  refine (R1.out _ (HW.out.below HB4.out)).mono ?_
  rintro e w5 ⟨rfl, hb⟩
  have HB5 := hide (bStep HB4.out hb)
  clear hb
  go_wp2_with fail
  refine (P2.out _ (HW.out.below HB5.out)).mono ?_
  rintro e w6 ⟨rfl, hb⟩
  have HB6 := hide (bStep HB5.out hb)
  clear hb
  go_wp2_with fail
  refine (R2.out _ (HW.out.below HB6.out)).mono ?_
  rintro e w7 ⟨rfl, hb⟩
  have HB7 := hide (bStep HB6.out hb)
  clear hb
  go_wp2_with fail
  refine (P3.out _ (HW.out.below HB7.out)).mono ?_
  rintro e w8 ⟨rfl, hb⟩
  have HB8 := hide (bStep HB7.out hb)
  clear hb
  go_wp2_with fail
  refine (R3.out _ (HW.out.below HB8.out)).mono ?_
  rintro e w9 ⟨rfl, hb⟩
  have HB9 := hide (bStep HB8.out hb)
  clear hb
  go_wp2_with fail
  refine (P4.out _ (HW.out.below HB9.out)).mono ?_
  rintro e w10 ⟨rfl, hb⟩
  have HB10 := hide (bStep HB9.out hb)
  clear hb
  go_wp2_with fail
  refine (R4.out _ (HW.out.below HB10.out)).mono ?_
  rintro e w11 ⟨rfl, hb⟩
  have HB11 := hide (bStep HB10.out hb)
  clear hb
  go_wp2_with fail
  refine (P5.out _).mono ?_
  rintro e w12 ⟨rfl, hb⟩
  have HB12 := hide (bStep HB11.out hb)
  clear hb
  go_wp2_with fail
  refine (R5.out _).mono ?_
  rintro e w13 ⟨rfl, hb⟩
  have HB13 := hide (bStep HB12.out hb)
  clear hb
  go_wp2_with fail
  go_ret
  exact ⟨rfl, HB13.out⟩
set_option maxHeartbeats 8000000 in
set_option maxRecDepth 100000 in
theorem limits03_in1 (a b : ByteArray) (w : World) (hw : LawW w) (m0 : a.size ≤ maxLen) (m1 : b.size ≤ maxLen) (hf : fewB [a] = true) (hg : fewB [b] = false) (h1 : 900 ≤ b.size) (h2 : b.size ≤ 1010) :
    Calls Tryz.prog 4 #[.string a, .string b] w fun e w' => e = .returned (.bool true) ∧ Below w.heap.size w w' := by
  obtain ⟨s1, z1, p1, r1⟩ := agree_Add a b m0 m1
  obtain ⟨s2, z2, p2, r2⟩ := agree_Sub b a m1 m0
  obtain ⟨s3, z3, p3, r3⟩ := agree_Mul a b m0 m1
  obtain ⟨s4, z4, p4, r4⟩ := agree_Add b b m1 m1
  obtain ⟨z5, p5, r5⟩ := agree_Compare a b m0 m1
  have P1 := hide p1
  have R1 := hide r1
  have P2 := hide p2
  have R2 := hide r2
  have P3 := hide p3
  have R3 := hide r3
  have P4 := hide p4
  have R4 := hide r4
  have P5 := hide p5
  have R5 := hide r5
  clear p1 r1 p2 r2 p3 r3 p4 r4 p5 r5 m0 m1
  have HF := hide hf
  have HG := hide hg
  have f1 : decide ((b.size : Int) < 900) = false := decide_eq_false (by omega)
  have f2 : decide ((1010 : Int) < (b.size : Int)) = false := decide_eq_false (by omega)
  clear hf hg h1 h2
  have HB0 : Hid (Below w.heap.size w w) := Below.refl _ _
  have HW := hide hw
  clear hw
  go_enter Tryz.func4, Tryz.ntmps4
  go_wp2_with fail
  refine (law03_head _ (HW.out.below HB0.out)).mono ?_
  rintro e w1 ⟨rfl, hb⟩
  have HB1 := hide (bStep HB0.out hb)
  clear hb
  go_wp2_with fail
  refine (law03_few [a] _ _ (few1_slice _ a _) (by simp)).mono ?_
  rintro e w2 ⟨rfl, rfl⟩
  rw [HF.out]
  have HB2 := hide (bAlloc HB1.out (.cells #[.string a] 22))
  go_wp2_with fail
  all_goals (try exact (undef_boolK ‹some undef = some (Value.bool _)›).elim)
  refine (law03_few [b] _ _ (few1_slice_at _ b _ (by simp)) (by simp)).mono ?_
  rintro e w3 ⟨rfl, rfl⟩
  rw [HG.out]
  have HB3 := hide (bAlloc HB2.out (.cells #[.string b] 22))
  go_wp2_with fail
  all_goals (try exact (undef_boolK ‹some undef = some (Value.bool _)›).elim)
  refine (P1.out _ (HW.out.below HB3.out)).mono ?_
  rintro e w4 ⟨rfl, hb⟩
  have HB4 := hide (bStep HB3.out hb)
  clear hb
  go_wp2_with fail
  refine (R1.out _ (HW.out.below HB4.out)).mono ?_
  rintro e w5 ⟨rfl, hb⟩
  have HB5 := hide (bStep HB4.out hb)
  clear hb
  go_wp2_with fail
  refine (P2.out _ (HW.out.below HB5.out)).mono ?_
  rintro e w6 ⟨rfl, hb⟩
  have HB6 := hide (bStep HB5.out hb)
  clear hb
  go_wp2_with fail
  refine (R2.out _ (HW.out.below HB6.out)).mono ?_
  rintro e w7 ⟨rfl, hb⟩
  have HB7 := hide (bStep HB6.out hb)
  clear hb
  go_wp2_with fail
  refine (P3.out _ (HW.out.below HB7.out)).mono ?_
  rintro e w8 ⟨rfl, hb⟩
  have HB8 := hide (bStep HB7.out hb)
  clear hb
  go_wp2_with fail
  refine (R3.out _ (HW.out.below HB8.out)).mono ?_
  rintro e w9 ⟨rfl, hb⟩
  have HB9 := hide (bStep HB8.out hb)
  clear hb
  go_wp2_with fail
  refine (P4.out _ (HW.out.below HB9.out)).mono ?_
  rintro e w10 ⟨rfl, hb⟩
  have HB10 := hide (bStep HB9.out hb)
  clear hb
  go_wp2_with fail
  refine (R4.out _ (HW.out.below HB10.out)).mono ?_
  rintro e w11 ⟨rfl, hb⟩
  have HB11 := hide (bStep HB10.out hb)
  clear hb
  go_wp2_with fail
  refine (P5.out _).mono ?_
  rintro e w12 ⟨rfl, hb⟩
  have HB12 := hide (bStep HB11.out hb)
  clear hb
  go_wp2_with fail
  refine (R5.out _).mono ?_
  rintro e w13 ⟨rfl, hb⟩
  have HB13 := hide (bStep HB12.out hb)
  clear hb
  go_wp2_with fail
  go_ret
  exact ⟨rfl, HB13.out⟩
theorem naturalLimits_walk (a b : ByteArray) (w : World) (m0 : a.size ≤ maxLen) (m1 : b.size ≤ maxLen) (hw : LawW w) :
    Calls Tryz.prog 4 #[.string a, .string b] w fun e w' => e = .returned (.bool true) ∧ Below w.heap.size w w' := by
  rcases Bool.eq_false_or_eq_true (fewB [a]) with h | h
  · rcases Bool.eq_false_or_eq_true (fewB [b]) with g | g
    · exact limits03_in0 a b w hw m0 m1 h g
    · by_cases h1 : b.size < 900
      · exact limits03_out1 a b w hw h g h1
      · by_cases h2 : 1010 < b.size
        · exact limits03_out2 a b w hw h g h2
        · exact limits03_in1 a b w hw m0 m1 h g (by omega) (by omega)
  · exact limits03_out0 a b w hw h
end Go.Proofs.YtbefdlncpobmlaaGreatDoor
