/- RationalLimit. -/
import Derived.Test.YtncocgfgbocnkaaGreatDoorRaW
import Derived.BigGuard
set_option linter.unusedVariables false
set_option linter.unusedSimpArgs false
namespace Go.Proofs.YtncocgfgbocnkaaGreatDoor
open Go.RowKit Go.Sort

theorem wf_inU16 {x : Int} (h : (Lit.int .u16 x).wf = true) : 0 ≤ x ∧ x < 65536 := by
  simp [Lit.wf, IntKind.min, IntKind.max, IntKind.signed, IntKind.bits] at h; omega
theorem tmod_nat (x : Int) (h : 0 ≤ x) : ∃ k : Nat, x.tmod 600 = (k : Int) ∧ k < 600 := by
  refine ⟨(x.tmod 600).toNat, ?_, ?_⟩
  · rw [Int.tmod_eq_emod_of_nonneg h]; omega
  · rw [Int.tmod_eq_emod_of_nonneg h]; omega
set_option maxHeartbeats 8000000 in
set_option maxRecDepth 100000 in
theorem limit_core (x y : Int) (i j : Nat) (w : World) (hx : 0 ≤ x ∧ x < 65536) (hy : 0 ≤ y ∧ y < 65536) (hi : x.tmod 600 = (i : Int)) (hj : y.tmod 600 = (j : Int)) (bi : i < 600) (bj : j < 600) (hw : LawW w) :
    Calls Tryz.prog 10 #[.int .u16 x, .int .u16 y] w fun e w' => e = .returned (.bool true) ∧ Below w.heap.size w w' := by
  obtain ⟨g1, s1, t1, k1, hm1, l1⟩ := lim_nines (m := i + 1) (n := j + 1) (by omega) (by omega) (by omega) (by omega)
  obtain ⟨g2, s2, t2, k2, hm2, l2⟩ := lim_tens (m := i + 1) (n := j + 1) (by omega) (by omega) (by omega) (by omega)
  have HC := hide (fun W hW => lim_cmp (m := i + 1) (n := j + 1) (by omega) (by omega) (by omega) W hW)
  have HR1 := hide (fun W => law04_repeated 57 (i + 1) W (by decide) (by omega))
  have HR2 := hide (fun W => law04_repeated 57 (j + 1) W (by decide) (by omega))
  have HR3 := hide (fun W => law04_repeated 48 i W (by decide) (by omega))
  have HR4 := hide (fun W => law04_repeated 48 j W (by decide) (by omega))
  have e57 : UInt8.ofNat 57 = 57 := rfl
  have e48 : UInt8.ofNat 48 = 48 := rfl
  rw [e57] at HR1 HR2
  rw [e48] at HR3 HR4
  have ha3 := add_bL [49] (List.replicate i 48) (by simp; omega)
  have ha4 := add_bL [49] (List.replicate j 48) (by simp; omega)
  have e49 : bL [49] = ⟨#[49]⟩ := rfl
  rw [e49] at ha3 ha4
  unfold RTM at hm1 hm2
  rw [Nat.add_sub_cancel, Nat.add_sub_cancel] at hm2
  rw [Nat.add_sub_cancel] at HC
  obtain ⟨A1, hA1⟩ : ∃ s, bL (List.replicate (i + 1) 57) = s := ⟨_, rfl⟩
  obtain ⟨A2, hA2⟩ : ∃ s, bL (List.replicate (j + 1) 57) = s := ⟨_, rfl⟩
  obtain ⟨A3, hA3⟩ : ∃ s, bL (List.replicate i 48) = s := ⟨_, rfl⟩
  obtain ⟨A4, hA4⟩ : ∃ s, bL (List.replicate j 48) = s := ⟨_, rfl⟩
  have f3 : bL ([49] ++ List.replicate i 48) = bL (49 :: List.replicate i 48) := rfl
  have f4 : bL ([49] ++ List.replicate j 48) = bL (49 :: List.replicate j 48) := rfl
  rw [f3] at ha3
  rw [f4] at ha4
  obtain ⟨B3, hB3⟩ : ∃ s, bL (49 :: List.replicate i 48) = s := ⟨_, rfl⟩
  obtain ⟨B4, hB4⟩ : ∃ s, bL (49 :: List.replicate j 48) = s := ⟨_, rfl⟩
  rw [hA1] at HR1 hm1 HC
  rw [hA2] at HR2 hm1
  rw [hA3] at HR3 ha3
  rw [hA4] at HR4 ha4
  rw [hB3] at ha3 hm2
  rw [hB4] at ha4 hm2 HC
  have HM1 := hide hm1
  have HM2 := hide hm2
  have HL1 := hide l1
  have HL2 := hide l2
  have HW := hide hw
  have q1 : IntKind.i64.wrap x = x := IntWalk.i64_in _ (by omega)
  have q2 : IntKind.i64.wrap y = y := IntWalk.i64_in _ (by omega)
  have q3 : IntKind.i64.wrap (i : Int) = (i : Int) := IntWalk.i64_in _ (by omega)
  have q4 : IntKind.i64.wrap (j : Int) = (j : Int) := IntWalk.i64_in _ (by omega)
  have q5 : IntKind.i64.wrap (1 + (i : Int)) = ((i + 1 : Nat) : Int) := by rw [show 1 + (i : Int) = ((i + 1 : Nat) : Int) by omega]; exact IntWalk.i64_in _ (by omega)
  have q6 : IntKind.i64.wrap (1 + (j : Int)) = ((j + 1 : Nat) : Int) := by rw [show 1 + (j : Int) = ((j + 1 : Nat) : Int) by omega]; exact IntWalk.i64_in _ (by omega)
  obtain ⟨M, hM⟩ : ∃ m, i + 1 = m := ⟨_, rfl⟩
  obtain ⟨N, hN⟩ : ∃ m, j + 1 = m := ⟨_, rfl⟩
  rw [hM] at HR1 HL1 HL2 q5
  rw [hN] at HR2 HL1 HL2 q6
  have q7 : IntKind.i64.wrap ((M : Int) - 1) = (i : Int) := by rw [show (M : Int) - 1 = (i : Int) by omega]; exact q3
  have q8 : IntKind.i64.wrap ((N : Int) - 1) = (j : Int) := by rw [show (N : Int) - 1 = (j : Int) by omega]; exact q4
  have q9 : IntKind.i64.wrap ((M : Int) + (N : Int)) = (M : Int) + (N : Int) := IntWalk.i64_in _ (by omega)
  have qa : IntKind.i64.wrap ((M : Int) + (N : Int) - 1) = (M : Int) + (N : Int) - 1 := IntWalk.i64_in _ (by omega)
  have HH := hide (fun W hW => law04_head W hW)
  have HB0 : Hid (Below w.heap.size w w) := Below.refl _ _
  have HV0 : Hid (VL w []) := VL.nil w
  have bM : 1 ≤ M := by omega
  have bN : 1 ≤ N := by omega
  clear hw hA1 hA2 hA3 hA4 hB3 hB4 f3 f4 e49 e57 e48 hm1 hm2 l1 l2 hM hN hx hy bi bj
  go_enter Tryz.func10, Tryz.ntmps10
  go_wp2_with fail
  refine (HH.out _ (HW.out.below HB0.out)).mono ?_
  rintro e w1 ⟨rfl, hb⟩
  have HB1 := hide (bStep HB0.out hb)
  have HV1 := hide (HV0.out.below hb)
  clear hb HB0 HV0
  go_wp2_with fail
  refine (HR1.out _).mono ?_
  rintro e w2 ⟨rfl, hb⟩
  have HB2 := hide (bStep HB1.out hb)
  have HV2 := hide (HV1.out.below hb)
  clear hb HB1 HV1
  go_wp2_with fail
  refine (law04_rat _ _ _ _).mono ?_
  rintro e w3 ⟨rfl, hb⟩
  have HB3 := hide (bStep HB2.out hb)
  have HV3 := hide (HV2.out.below hb)
  clear hb HB2 HV2
  go_wp2_with fail
  refine (HR2.out _).mono ?_
  rintro e w4 ⟨rfl, hb⟩
  have HB4 := hide (bStep HB3.out hb)
  have HV4 := hide (HV3.out.below hb)
  clear hb HB3 HV3
  go_wp2_with fail
  refine (law04_rat _ _ _ _).mono ?_
  rintro e w5 ⟨rfl, hb⟩
  have HB5 := hide (bStep HB4.out hb)
  have HV5 := hide (HV4.out.below hb)
  clear hb HB4 HV4
  have HV5_ := hide (HV5.out.pushAt (b := w5.heap.size) (by simp) false A1 ⟨#[49]⟩ 24)
  have HB5_ := hide (bAlloc HB5.out (.cells #[.bool false, .string A1, .string ⟨#[49]⟩] 24))
  clear HB5 HV5
  have HV5__ := hide (HV5_.out.pushAt (b := w5.heap.size + 1) (by simp) false A2 ⟨#[49]⟩ 24)
  have HB5__ := hide (bAlloc HB5_.out (.cells #[.bool false, .string A2, .string ⟨#[49]⟩] 24))
  clear HB5_ HV5_
  obtain ⟨c3, c4, c5⟩ := VL.cells3 (b := w5.heap.size) (g := false) (s := A1) (t := ⟨#[49]⟩) HV5__.out (by simp)
  obtain ⟨c6, c7, c8⟩ := VL.cells3 (b := w5.heap.size + 1) (g := false) (s := A2) (t := ⟨#[49]⟩) HV5__.out (by simp)
  go_wp2_with fail
  clear c3 c4 c5 c6 c7 c8
  refine (HM1.out _ (HW.out.below HB5__.out)).mono ?_
  rintro e w6 ⟨rfl, hb⟩
  have HB6 := hide (bStep HB5__.out hb)
  have HV6 := hide (HV5__.out.below hb)
  clear hb HB5__ HV5__
  rcases HL1.out with ⟨rfl, n1, rfl, rfl, rfl⟩ | ⟨rfl, n1, n2⟩
  · clear HL1
    have u1 : decide ((1000 : Int) < (M : Int) + (N : Int)) = true := decide_eq_true (by omega)
    clear n1
    have HV6_ := hide (HV6.out.pushAt (b := w6.heap.size) (by simp) false ⟨#[]⟩ ⟨#[]⟩ 24)
    have HB6_ := hide (bAlloc HB6.out (.cells #[.bool false, .string ⟨#[]⟩, .string ⟨#[]⟩] 24))
    clear HB6 HV6
    obtain ⟨c9, c10, c11⟩ := VL.cells3 (b := w6.heap.size) (g := false) (s := ⟨#[]⟩) (t := ⟨#[]⟩) HV6_.out (by simp)
    go_wp2_with fail
    clear c9 c10 c11
    refine (HR3.out _).mono ?_
    rintro e w7 ⟨rfl, hb⟩
    have HB7 := hide (bStep HB6_.out hb)
    have HV7 := hide (HV6_.out.below hb)
    clear hb HB6_ HV6_
    go_wp2_with fail
    refine (law04_rat _ _ _ _).mono ?_
    rintro e w8 ⟨rfl, hb⟩
    have HB8 := hide (bStep HB7.out hb)
    have HV8 := hide (HV7.out.below hb)
    clear hb HB7 HV7
    go_wp2_with fail
    refine (HR4.out _).mono ?_
    rintro e w9 ⟨rfl, hb⟩
    have HB9 := hide (bStep HB8.out hb)
    have HV9 := hide (HV8.out.below hb)
    clear hb HB8 HV8
    go_wp2_with fail
    refine (law04_rat _ _ _ _).mono ?_
    rintro e w10 ⟨rfl, hb⟩
    have HB10 := hide (bStep HB9.out hb)
    have HV10 := hide (HV9.out.below hb)
    clear hb HB9 HV9
    have HV10_ := hide (HV10.out.pushAt (b := w10.heap.size) (by simp) false B3 ⟨#[49]⟩ 24)
    have HB10_ := hide (bAlloc HB10.out (.cells #[.bool false, .string B3, .string ⟨#[49]⟩] 24))
    clear HB10 HV10
    have HV10__ := hide (HV10_.out.pushAt (b := w10.heap.size + 1) (by simp) true B4 ⟨#[49]⟩ 24)
    have HB10__ := hide (bAlloc HB10_.out (.cells #[.bool true, .string B4, .string ⟨#[49]⟩] 24))
    clear HB10_ HV10_
    obtain ⟨c12, c13, c14⟩ := VL.cells3 (b := w10.heap.size) (g := false) (s := B3) (t := ⟨#[49]⟩) HV10__.out (by simp)
    obtain ⟨c15, c16, c17⟩ := VL.cells3 (b := w10.heap.size + 1) (g := true) (s := B4) (t := ⟨#[49]⟩) HV10__.out (by simp)
    go_wp2_with fail
    clear c12 c13 c14 c15 c16 c17
    refine (HM2.out _ (HW.out.below HB10__.out)).mono ?_
    rintro e w11 ⟨rfl, hb⟩
    have HB11 := hide (bStep HB10__.out hb)
    have HV11 := hide (HV10__.out.below hb)
    clear hb HB10__ HV10__
    rcases HL2.out with ⟨rfl, n3, rfl, rfl, rfl⟩ | ⟨rfl, n3, rfl, n4⟩
    · clear HL2
      have u3 : decide ((1001 : Int) < (M : Int) + (N : Int)) = true := decide_eq_true (by omega)
      clear n3
      have HV11_ := hide (HV11.out.pushAt (b := w11.heap.size) (by simp) false ⟨#[]⟩ ⟨#[]⟩ 24)
      have HB11_ := hide (bAlloc HB11.out (.cells #[.bool false, .string ⟨#[]⟩, .string ⟨#[]⟩] 24))
      clear HB11 HV11
      obtain ⟨c18, c19, c20⟩ := VL.cells3 (b := w11.heap.size) (g := false) (s := ⟨#[]⟩) (t := ⟨#[]⟩) HV11_.out (by simp)
      obtain ⟨c21, c22, c23⟩ := VL.cells3 (b := w10.heap.size + 1) (g := true) (s := B4) (t := ⟨#[49]⟩) HV11_.out (by simp)
      obtain ⟨c24, c25, c26⟩ := VL.cells3 (b := w5.heap.size) (g := false) (s := A1) (t := ⟨#[49]⟩) HV11_.out (by simp)
      go_wp2_with fail
      clear c18 c19 c20 c21 c22 c23 c24 c25 c26
      refine (HC.out _ (HW.out.below HB11_.out)).mono ?_
      rintro e w12 ⟨rfl, hb⟩
      have HB12 := hide (bStep HB11_.out hb)
      have HV12 := hide (HV11_.out.below hb)
      clear hb HB11_ HV11_
      go_wp2_with fail
      go_ret
      exact ⟨rfl, HB12.out⟩
    · clear HL2
      have u3 : decide ((1001 : Int) < (M : Int) + (N : Int)) = false := decide_eq_false (by omega)
      have u4 : (s2.size : Int) = (M : Int) + (N : Int) - 1 := by omega
      clear n3 n4
      have HV11_ := hide (HV11.out.pushAt (b := w11.heap.size) (by simp) true s2 t2 24)
      have HB11_ := hide (bAlloc HB11.out (.cells #[.bool true, .string s2, .string t2] 24))
      clear HB11 HV11
      obtain ⟨c18, c19, c20⟩ := VL.cells3 (b := w11.heap.size) (g := true) (s := s2) (t := t2) HV11_.out (by simp)
      obtain ⟨c21, c22, c23⟩ := VL.cells3 (b := w10.heap.size + 1) (g := true) (s := B4) (t := ⟨#[49]⟩) HV11_.out (by simp)
      obtain ⟨c24, c25, c26⟩ := VL.cells3 (b := w5.heap.size) (g := false) (s := A1) (t := ⟨#[49]⟩) HV11_.out (by simp)
      go_wp2_with fail
      clear c18 c19 c20 c21 c22 c23 c24 c25 c26
      refine (HC.out _ (HW.out.below HB11_.out)).mono ?_
      rintro e w12 ⟨rfl, hb⟩
      have HB12 := hide (bStep HB11_.out hb)
      have HV12 := hide (HV11_.out.below hb)
      clear hb HB11_ HV11_
      go_wp2_with fail
      go_ret
      exact ⟨rfl, HB12.out⟩
  · clear HL1
    have u1 : decide ((1000 : Int) < (M : Int) + (N : Int)) = false := decide_eq_false (by omega)
    have u2 : (s1.size : Int) = (M : Int) + (N : Int) := by omega
    clear n1 n2
    have HV6_ := hide (HV6.out.pushAt (b := w6.heap.size) (by simp) g1 s1 t1 24)
    have HB6_ := hide (bAlloc HB6.out (.cells #[.bool g1, .string s1, .string t1] 24))
    clear HB6 HV6
    obtain ⟨c9, c10, c11⟩ := VL.cells3 (b := w6.heap.size) (g := g1) (s := s1) (t := t1) HV6_.out (by simp)
    go_wp2_with fail
    clear c9 c10 c11
    refine (HR3.out _).mono ?_
    rintro e w7 ⟨rfl, hb⟩
    have HB7 := hide (bStep HB6_.out hb)
    have HV7 := hide (HV6_.out.below hb)
    clear hb HB6_ HV6_
    go_wp2_with fail
    refine (law04_rat _ _ _ _).mono ?_
    rintro e w8 ⟨rfl, hb⟩
    have HB8 := hide (bStep HB7.out hb)
    have HV8 := hide (HV7.out.below hb)
    clear hb HB7 HV7
    go_wp2_with fail
    refine (HR4.out _).mono ?_
    rintro e w9 ⟨rfl, hb⟩
    have HB9 := hide (bStep HB8.out hb)
    have HV9 := hide (HV8.out.below hb)
    clear hb HB8 HV8
    go_wp2_with fail
    refine (law04_rat _ _ _ _).mono ?_
    rintro e w10 ⟨rfl, hb⟩
    have HB10 := hide (bStep HB9.out hb)
    have HV10 := hide (HV9.out.below hb)
    clear hb HB9 HV9
    have HV10_ := hide (HV10.out.pushAt (b := w10.heap.size) (by simp) false B3 ⟨#[49]⟩ 24)
    have HB10_ := hide (bAlloc HB10.out (.cells #[.bool false, .string B3, .string ⟨#[49]⟩] 24))
    clear HB10 HV10
    have HV10__ := hide (HV10_.out.pushAt (b := w10.heap.size + 1) (by simp) true B4 ⟨#[49]⟩ 24)
    have HB10__ := hide (bAlloc HB10_.out (.cells #[.bool true, .string B4, .string ⟨#[49]⟩] 24))
    clear HB10_ HV10_
    obtain ⟨c12, c13, c14⟩ := VL.cells3 (b := w10.heap.size) (g := false) (s := B3) (t := ⟨#[49]⟩) HV10__.out (by simp)
    obtain ⟨c15, c16, c17⟩ := VL.cells3 (b := w10.heap.size + 1) (g := true) (s := B4) (t := ⟨#[49]⟩) HV10__.out (by simp)
    go_wp2_with fail
    clear c12 c13 c14 c15 c16 c17
    refine (HM2.out _ (HW.out.below HB10__.out)).mono ?_
    rintro e w11 ⟨rfl, hb⟩
    have HB11 := hide (bStep HB10__.out hb)
    have HV11 := hide (HV10__.out.below hb)
    clear hb HB10__ HV10__
    rcases HL2.out with ⟨rfl, n3, rfl, rfl, rfl⟩ | ⟨rfl, n3, rfl, n4⟩
    · exfalso; clear HL2 HC; simp only [decide_eq_false_iff_not] at u1; omega
    · clear HL2
      have u3 : decide ((1001 : Int) < (M : Int) + (N : Int)) = false := decide_eq_false (by omega)
      have u4 : (s2.size : Int) = (M : Int) + (N : Int) - 1 := by omega
      clear n3 n4
      have HV11_ := hide (HV11.out.pushAt (b := w11.heap.size) (by simp) true s2 t2 24)
      have HB11_ := hide (bAlloc HB11.out (.cells #[.bool true, .string s2, .string t2] 24))
      clear HB11 HV11
      obtain ⟨c18, c19, c20⟩ := VL.cells3 (b := w11.heap.size) (g := true) (s := s2) (t := t2) HV11_.out (by simp)
      obtain ⟨c21, c22, c23⟩ := VL.cells3 (b := w10.heap.size + 1) (g := true) (s := B4) (t := ⟨#[49]⟩) HV11_.out (by simp)
      obtain ⟨c24, c25, c26⟩ := VL.cells3 (b := w5.heap.size) (g := false) (s := A1) (t := ⟨#[49]⟩) HV11_.out (by simp)
      go_wp2_with fail
      clear c18 c19 c20 c21 c22 c23 c24 c25 c26
      refine (HC.out _ (HW.out.below HB11_.out)).mono ?_
      rintro e w12 ⟨rfl, hb⟩
      have HB12 := hide (bStep HB11_.out hb)
      have HV12 := hide (HV11_.out.below hb)
      clear hb HB11_ HV11_
      go_wp2_with fail
      go_ret
      exact ⟨rfl, HB12.out⟩
theorem rationalLimit_walk (x y : Int) (w : World) (hx : 0 ≤ x ∧ x < 65536) (hy : 0 ≤ y ∧ y < 65536) (hw : LawW w) :
    Calls Tryz.prog 10 #[.int .u16 x, .int .u16 y] w fun e w' => e = .returned (.bool true) ∧ Below w.heap.size w w' := by
  obtain ⟨i, hi, bi⟩ := tmod_nat x hx.1
  obtain ⟨j, hj, bj⟩ := tmod_nat y hy.1
  exact limit_core x y i j w hx hy hi hj bi bj hw
end Go.Proofs.YtncocgfgbocnkaaGreatDoor
