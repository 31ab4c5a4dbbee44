/- NaturalMatchesReference: the walk. -/
import Derived.Test.YtbefdlncpobmlaaGreatDoorRfI
namespace Go.Proofs.YtbefdlncpobmlaaGreatDoor
open Go.RowKit

set_option maxHeartbeats 4000000 in
set_option maxRecDepth 100000 in
theorem matches03_out (a b : ByteArray) (n : Int) (w : World) (hw : LawW w) (hf : fewB [a, b] = false) :
    Calls Tryz.prog 3 #[.string a, .string b, .int .i64 n] w fun e w' => e = .returned (.bool true) ∧ Below w.heap.size w w' := by
  have HF := hide hf
  clear hf
  have HB0 : Hid (Below w.heap.size w w) := Below.refl _ _
  have HW := hide hw
  clear hw
  go_enter Tryz.func3, Tryz.ntmps3
  go_wp2_with fail
  refine (law03_head _ (HW.out.below HB0.out)).mono ?_
  rintro e w1 ⟨rfl, hb⟩
  have HB1 := hide (bStep HB0.out hb)
  clear hb
  go_wp2_with fail
  refine (law03_few [a, b] _ _ (few2_slice _ a b _) (by simp)).mono ?_
  rintro e w2 ⟨rfl, rfl⟩
  rw [HF.out]
  have HB2 := hide (bAlloc HB1.out (.cells #[.string a, .string b] 22))
  go_wp2_with fail
  go_ret
  exact ⟨rfl, HB2.out⟩
set_option maxHeartbeats 8000000 in
set_option maxRecDepth 100000 in
theorem matches03_in (a b : ByteArray) (n : Int) (w : World) (hw : LawW w) (hf : fewB [a, b] = true) (hn : n ≤ 9223372036854775807) :
    Calls Tryz.prog 3 #[.string a, .string b, .int .i64 n] w fun e w' => e = .returned (.bool true) ∧ Below w.heap.size w w' := by
  have hsz : a.size ≤ 80 ∧ b.size ≤ 80 := by
    simp only [fewB, List.all_cons, List.all_nil, Bool.and_true, Bool.and_eq_true, decide_eq_true_eq] at hf
    exact hf
  have m0 : a.size ≤ maxLen := by unfold maxLen; omega
  have m1 : b.size ≤ maxLen := by unfold maxLen; omega
  obtain ⟨s1, z1, p1, r1⟩ := agree_Add a b m0 m1
  obtain ⟨s2, z2, p2, r2⟩ := agree_Sub a b m0 m1
  obtain ⟨s3, z3, p3, r3⟩ := agree_Mul a b m0 m1
  obtain ⟨s4, t4, z4, p4, r4⟩ := agree_Div a b m0 m1 hsz.2
  obtain ⟨s5, z5, p5, r5⟩ := agree_Gcd a b m0 m1 hsz.1 hsz.2
  obtain ⟨s6, z6, p6, r6⟩ := agree_Of n hn
  obtain ⟨m7, z7, p7, r7⟩ := agree_Int a m0
  obtain ⟨z8, p8, r8⟩ := agree_Valid a m0
  obtain ⟨z9, p9, r9⟩ := agree_Compare a b m0 m1
  have P1 := hide p1
  have R1 := hide r1
  have P2 := hide p2
  have R2 := hide r2
  have P3 := hide p3
  have R3 := hide r3
  have P4 := hide p4
  have R4 := hide r4
  have P5 := hide p5
  have R5 := hide r5
  have P6 := hide p6
  have R6 := hide r6
  have P7 := hide p7
  have R7 := hide r7
  have P8 := hide p8
  have R8 := hide r8
  have P9 := hide p9
  have R9 := hide r9
  clear p1 r1 p2 r2 p3 r3 p4 r4 p5 r5 p6 r6 p7 r7 p8 r8 p9 r9 m0 m1 hsz
  have HF := hide hf
  clear hf hn
  have HB0 : Hid (Below w.heap.size w w) := Below.refl _ _
  have HW := hide hw
  clear hw
  go_enter Tryz.func3, Tryz.ntmps3
  go_wp2_with fail
  refine (law03_head _ (HW.out.below HB0.out)).mono ?_
  rintro e w1 ⟨rfl, hb⟩
  have HB1 := hide (bStep HB0.out hb)
  clear hb
  go_wp2_with fail
  refine (law03_few [a, b] _ _ (few2_slice _ a b _) (by simp)).mono ?_
  rintro e w2 ⟨rfl, rfl⟩
  rw [HF.out]
  have HB2 := hide (bAlloc HB1.out (.cells #[.string a, .string b] 22))
  go_wp2_with fail
  refine (P1.out _ (HW.out.below HB2.out)).mono ?_
  rintro e w3 ⟨rfl, hb⟩
  have HB3 := hide (bStep HB2.out hb)
  clear hb
  go_wp2_with fail
  refine (R1.out _ (HW.out.below HB3.out)).mono ?_
  rintro e w4 ⟨rfl, hb⟩
  have HB4 := hide (bStep HB3.out hb)
  clear hb
  go_wp2_with fail
  refine (P2.out _ (HW.out.below HB4.out)).mono ?_
  rintro e w5 ⟨rfl, hb⟩
  have HB5 := hide (bStep HB4.out hb)
  clear hb
  go_wp2_with fail
  refine (R2.out _ (HW.out.below HB5.out)).mono ?_
  rintro e w6 ⟨rfl, hb⟩
  have HB6 := hide (bStep HB5.out hb)
  clear hb
  go_wp2_with fail
  refine (P3.out _ (HW.out.below HB6.out)).mono ?_
  rintro e w7 ⟨rfl, hb⟩
  have HB7 := hide (bStep HB6.out hb)
  clear hb
  go_wp2_with fail
  refine (R3.out _ (HW.out.below HB7.out)).mono ?_
  rintro e w8 ⟨rfl, hb⟩
  have HB8 := hide (bStep HB7.out hb)
  clear hb
  go_wp2_with fail
  refine (P4.out _ (HW.out.below HB8.out)).mono ?_
  rintro e w9 ⟨rfl, hb⟩
  have HB9 := hide (bStep HB8.out hb)
  clear hb
  go_wp2_with fail
  refine (R4.out _ (HW.out.below HB9.out)).mono ?_
  rintro e w10 ⟨rfl, hb⟩
  have HB10 := hide (bStep HB9.out hb)
  clear hb
  go_wp2_with fail
  refine (P5.out _ (HW.out.below HB10.out)).mono ?_
  rintro e w11 ⟨rfl, hb⟩
  have HB11 := hide (bStep HB10.out hb)
  clear hb
  go_wp2_with fail
  refine (R5.out _ (HW.out.below HB11.out)).mono ?_
  rintro e w12 ⟨rfl, hb⟩
  have HB12 := hide (bStep HB11.out hb)
  clear hb
  go_wp2_with fail
  refine (P6.out _ (HW.out.below HB12.out)).mono ?_
  rintro e w13 ⟨rfl, hb⟩
  have HB13 := hide (bStep HB12.out hb)
  clear hb
  go_wp2_with fail
  refine (R6.out _ (HW.out.below HB13.out)).mono ?_
  rintro e w14 ⟨rfl, hb⟩
  have HB14 := hide (bStep HB13.out hb)
  clear hb
  go_wp2_with fail
  refine (P7.out _ (HW.out.below HB14.out)).mono ?_
  rintro e w15 ⟨rfl, hb⟩
  have HB15 := hide (bStep HB14.out hb)
  clear hb
  go_wp2_with fail
  refine (R7.out _ (HW.out.below HB15.out)).mono ?_
  rintro e w16 ⟨rfl, hb⟩
  have HB16 := hide (bStep HB15.out hb)
  clear hb
  go_wp2_with fail
  refine (P8.out _).mono ?_
  rintro e w17 ⟨rfl, hb⟩
  have HB17 := hide (bStep HB16.out hb)
  clear hb
  go_wp2_with fail
  refine (R8.out _).mono ?_
  rintro e w18 ⟨rfl, hb⟩
  have HB18 := hide (bStep HB17.out hb)
  clear hb
  go_wp2_with fail
  refine (P9.out _).mono ?_
  rintro e w19 ⟨rfl, hb⟩
  have HB19 := hide (bStep HB18.out hb)
  clear hb
  go_wp2_with fail
  refine (R9.out _).mono ?_
  rintro e w20 ⟨rfl, hb⟩
  have HB20 := hide (bStep HB19.out hb)
  clear hb
  go_wp2_with fail
  go_ret
  exact ⟨rfl, HB20.out⟩
theorem naturalMatches_walk (a b : ByteArray) (n : Int) (w : World) (hn : n ≤ 9223372036854775807) (hw : LawW w) :
    Calls Tryz.prog 3 #[.string a, .string b, .int .i64 n] w fun e w' => e = .returned (.bool true) ∧ Below w.heap.size w w' := by
  rcases Bool.eq_false_or_eq_true (fewB [a, b]) with h | h
  · exact matches03_in a b n w hw h hn
  · exact matches03_out a b n w hw h
end Go.Proofs.YtbefdlncpobmlaaGreatDoor
