/- MomentsSums: the walks. -/
import Derived.Test.YtblpnekjnaaeoaaGreatDoorMqP
set_option linter.unusedVariables false
set_option linter.unusedSimpArgs false
namespace Go.Proofs.YtblpnekjnaaeoaaGreatDoor
open Go.RowKit
set_option maxHeartbeats 8000000 in
set_option maxRecDepth 100000 in
theorem l46_sums_e0 (ao bo : Option Addr) (n c m d : Nat) (w : World) (hL : LawM w) (hFa : K1 w 10 (.slice ao n c) false) :
    Calls Tryz.prog 5 #[.slice ao n c, .slice bo m d] w fun e w' => e = .returned (.bool true) ∧ Below w.heap.size w w' := by
  have HL := hide hL
  have HHD := hide (law46_head w hL)
  have H0 := hide (LS0.start w)
  have HFa := hide hFa
  clear hL hFa
  go_enter Tryz.func5, Tryz.ntmps5
  go_wp2_with fail
  refine (HHD.out).mono ?_
  rintro e w1 ⟨rfl, hb⟩
  have H1 := hide (H0.out.below hb)
  clear H0 hb
  go_wp2_with fail
  refine (HFa.out _ H1.out.bel).mono ?_
  rintro e w2 ⟨rfl, hb⟩
  have H2 := hide (H1.out.below hb)
  clear H1 hb
  go_wp2_with fail
  go_ret
  exact ⟨by first | rfl | simp, H2.out.bel⟩
set_option maxHeartbeats 8000000 in
set_option maxRecDepth 100000 in
theorem l46_sums_e1 (ao bo : Option Addr) (n c m d : Nat) (w : World) (hL : LawM w) (hFa : K1 w 10 (.slice ao n c) true) (hFb : K1 w 10 (.slice bo m d) false) :
    Calls Tryz.prog 5 #[.slice ao n c, .slice bo m d] w fun e w' => e = .returned (.bool true) ∧ Below w.heap.size w w' := by
  have HL := hide hL
  have HHD := hide (law46_head w hL)
  have H0 := hide (LS0.start w)
  have HFa := hide hFa
  have HFb := hide hFb
  clear hL hFa hFb
  go_enter Tryz.func5, Tryz.ntmps5
  go_wp2_with fail
  refine (HHD.out).mono ?_
  rintro e w1 ⟨rfl, hb⟩
  have H1 := hide (H0.out.below hb)
  clear H0 hb
  go_wp2_with fail
  refine (HFa.out _ H1.out.bel).mono ?_
  rintro e w2 ⟨rfl, hb⟩
  have H2 := hide (H1.out.below hb)
  clear H1 hb
  go_wp2_with fail
  refine (HFb.out _ H2.out.bel).mono ?_
  rintro e w3 ⟨rfl, hb⟩
  have H3 := hide (H2.out.below hb)
  clear H2 hb
  go_wp2_with fail
  go_ret
  exact ⟨by first | rfl | simp, H3.out.bel⟩
set_option maxHeartbeats 8000000 in
set_option maxRecDepth 100000 in
theorem l46_sums_e2 (ao bo : Option Addr) (n c m d : Nat) (w : World) (hL : LawM w) (hFa : K1 w 10 (.slice ao n c) true) (hFb : K1 w 10 (.slice bo m d) true) (hVa : K1 w 20 (.slice ao n c) false) :
    Calls Tryz.prog 5 #[.slice ao n c, .slice bo m d] w fun e w' => e = .returned (.bool true) ∧ Below w.heap.size w w' := by
  have HL := hide hL
  have HHD := hide (law46_head w hL)
  have H0 := hide (LS0.start w)
  have HFa := hide hFa
  have HFb := hide hFb
  have HVa := hide hVa
  clear hL hFa hFb hVa
  go_enter Tryz.func5, Tryz.ntmps5
  go_wp2_with fail
  refine (HHD.out).mono ?_
  rintro e w1 ⟨rfl, hb⟩
  have H1 := hide (H0.out.below hb)
  clear H0 hb
  go_wp2_with fail
  refine (HFa.out _ H1.out.bel).mono ?_
  rintro e w2 ⟨rfl, hb⟩
  have H2 := hide (H1.out.below hb)
  clear H1 hb
  go_wp2_with fail
  refine (HFb.out _ H2.out.bel).mono ?_
  rintro e w3 ⟨rfl, hb⟩
  have H3 := hide (H2.out.below hb)
  clear H2 hb
  go_wp2_with fail
  refine (HVa.out _ H3.out.bel).mono ?_
  rintro e w4 ⟨rfl, hb⟩
  have H4 := hide (H3.out.below hb)
  clear H3 hb
  go_wp2_with fail
  go_ret
  exact ⟨by first | rfl | simp, H4.out.bel⟩
set_option maxHeartbeats 8000000 in
set_option maxRecDepth 100000 in
theorem l46_sums_e3 (ao bo : Option Addr) (n c m d : Nat) (w : World) (hL : LawM w) (hFa : K1 w 10 (.slice ao n c) true) (hFb : K1 w 10 (.slice bo m d) true) (hVa : K1 w 20 (.slice ao n c) true) (hVb : K1 w 20 (.slice bo m d) false) :
    Calls Tryz.prog 5 #[.slice ao n c, .slice bo m d] w fun e w' => e = .returned (.bool true) ∧ Below w.heap.size w w' := by
  have HL := hide hL
  have HHD := hide (law46_head w hL)
  have H0 := hide (LS0.start w)
  have HFa := hide hFa
  have HFb := hide hFb
  have HVa := hide hVa
  have HVb := hide hVb
  clear hL hFa hFb hVa hVb
  go_enter Tryz.func5, Tryz.ntmps5
  go_wp2_with fail
  refine (HHD.out).mono ?_
  rintro e w1 ⟨rfl, hb⟩
  have H1 := hide (H0.out.below hb)
  clear H0 hb
  go_wp2_with fail
  refine (HFa.out _ H1.out.bel).mono ?_
  rintro e w2 ⟨rfl, hb⟩
  have H2 := hide (H1.out.below hb)
  clear H1 hb
  go_wp2_with fail
  refine (HFb.out _ H2.out.bel).mono ?_
  rintro e w3 ⟨rfl, hb⟩
  have H3 := hide (H2.out.below hb)
  clear H2 hb
  go_wp2_with fail
  refine (HVa.out _ H3.out.bel).mono ?_
  rintro e w4 ⟨rfl, hb⟩
  have H4 := hide (H3.out.below hb)
  clear H3 hb
  go_wp2_with fail
  refine (HVb.out _ H4.out.bel).mono ?_
  rintro e w5 ⟨rfl, hb⟩
  have H5 := hide (H4.out.below hb)
  clear H4 hb
  go_wp2_with fail
  go_ret
  exact ⟨by first | rfl | simp, H5.out.bel⟩
set_option maxHeartbeats 8000000 in
set_option maxRecDepth 100000 in
theorem l46_sums_main (ao bo : Option Addr) (n c m d : Nat) (s : List PQ) (ma mb ms va vb vs : T3) (i j k l : Int) (pa pb qa qb : Rat) (w : World) (hL : LawM w) (hFa : K1 w 10 (.slice ao n c) true) (hFb : K1 w 10 (.slice bo m d) true) (hVa : K1 w 20 (.slice ao n c) true) (hVb : K1 w 20 (.slice bo m d) true)
    (hS1 : KSum w (.slice ao n c) (.slice bo m d) s) (hS2 : KSum w (.slice bo m d) (.slice ao n c) s) (hVs : KL1 w 20 s true) (hSm : KSame w s)
    (hMa : KR w 12 (.slice ao n c) ma 0) (hMb : KR w 12 (.slice bo m d) mb 0) (hMs : KLR w 12 s ms i)
    (hRa : KR w 14 (.slice ao n c) va j) (hRb : KR w 14 (.slice bo m d) vb k) (hRs : KLR w 14 s vs l)
    (hcase : i = 2 ∨ (i = 0 ∧ j = 2) ∨ (i = 0 ∧ j = 0 ∧ k = 2) ∨ (i = 0 ∧ j = 0 ∧ k = 0 ∧ l = 2) ∨ (i = 0 ∧ j = 0 ∧ k = 0 ∧ l = 0 ∧ TO (some pa) ma ∧ TO (some pb) mb ∧ TO (some qa) va ∧ TO (some qb) vb ∧ (∀ r, TO (add2 (some pa) (some pb)) r → (add2 (some pa) (some pb)).isNone = false → r = ms) ∧ (∀ r, TO (add2 (some qa) (some qb)) r → (add2 (some qa) (some qb)).isNone = false → r = vs))) :
    Calls Tryz.prog 5 #[.slice ao n c, .slice bo m d] w fun e w' => e = .returned (.bool true) ∧ Below w.heap.size w w' := by
  have HL := hide hL
  have HHD := hide (law46_head w hL)
  have H0 := hide (LS0.start w)
  have HFa := hide hFa
  have HFb := hide hFb
  have HVa := hide hVa
  have HVb := hide hVb
  clear hL hFa hFb hVa hVb
  have HS1 := hide hS1
  have HS2 := hide hS2
  have HVs := hide hVs
  have HSm := hide hSm
  have HMa := hide hMa
  have HMb := hide hMb
  have HMs := hide hMs
  have HRa := hide hRa
  have HRb := hide hRb
  have HRs := hide hRs
  have Hcase := hide hcase
  clear hS1 hS2 hVs hSm hMa hMb hMs hRa hRb hRs hcase
  go_enter Tryz.func5, Tryz.ntmps5
  go_wp2_with fail
  refine (HHD.out).mono ?_
  rintro e w1 ⟨rfl, hb⟩
  have H1 := hide (H0.out.below hb)
  clear H0 hb
  go_wp2_with fail
  refine (HFa.out _ H1.out.bel).mono ?_
  rintro e w2 ⟨rfl, hb⟩
  have H2 := hide (H1.out.below hb)
  clear H1 hb
  go_wp2_with fail
  refine (HFb.out _ H2.out.bel).mono ?_
  rintro e w3 ⟨rfl, hb⟩
  have H3 := hide (H2.out.below hb)
  clear H2 hb
  go_wp2_with fail
  refine (HVa.out _ H3.out.bel).mono ?_
  rintro e w4 ⟨rfl, hb⟩
  have H4 := hide (H3.out.below hb)
  clear H3 hb
  go_wp2_with fail
  refine (HVb.out _ H4.out.bel).mono ?_
  rintro e w5 ⟨rfl, hb⟩
  have H5 := hide (H4.out.below hb)
  clear H4 hb
  go_wp2_with fail
  refine (HS1.out _ H5.out.bel).mono ?_
  rintro e w6 ⟨so, sc, rfl, hs, hb⟩
  have H6 := hide (H5.out.below hb)
  clear H5 hb
  have HSA6 := hide hs
  clear hs
  go_wp2_with fail
  refine (HS2.out _ H6.out.bel).mono ?_
  rintro e w7 ⟨tt, tc, rfl, hs, hb⟩
  have H7 := hide (H6.out.below hb)
  have HSA7 := hide (HSA6.out.below hb)
  clear H6 HSA6 hb
  have HSB7 := hide hs
  clear hs
  go_wp2_with fail
  refine (HVs.out _ _ H7.out.bel HSA7.out).mono ?_
  rintro e w8 ⟨rfl, hb⟩
  have H8 := hide (H7.out.below hb)
  have HSA8 := hide (HSA7.out.below hb)
  have HSB8 := hide (HSB7.out.below hb)
  clear H7 HSA7 HSB7 hb
  go_wp2_with fail
  refine (HSm.out _ _ _ H8.out.bel HSA8.out HSB8.out).mono ?_
  rintro e w9 ⟨rfl, hb⟩
  have H9 := hide (H8.out.below hb)
  have HSA9 := hide (HSA8.out.below hb)
  have HSB9 := hide (HSB8.out.below hb)
  clear H8 HSA8 HSB8 hb
  clear HSB9
  go_wp2_with fail
  refine (HMa.out _ H9.out.bel).mono ?_
  rintro e w10 ⟨rfl, hb⟩
  have H10 := hide (H9.out.below hb)
  have HSA10 := hide (HSA9.out.below hb)
  clear H9 HSA9 hb
  have hba := bAlloc (Below.refl w10.heap.size w10) (.cells #[.bool ma.1, .string ma.2.1, .string ma.2.2] 29)
  have H11 := hide (H10.out.box ma 29)
  have HSA11 := hide (HSA10.out.below hba)
  clear H10 hba HSA10
  go_upto_region 9 with fail
  obtain ⟨w11, hw⟩ : ∃ W, w10.alloc (.cells #[.bool ma.1, .string ma.2.1, .string ma.2.2] 29) = W := ⟨_, rfl⟩
  obtain ⟨X10, hX⟩ : ∃ A, w10.heap.size = A := ⟨_, rfl⟩
  rw [hw] at HSA11
  rw [hw, hX] at H11
  rw [hw, hX]
  clear hw hX
  go_wp2_with fail
  refine (HMb.out _ H11.out.bel).mono ?_
  rintro e w12 ⟨rfl, hb⟩
  have H12 := hide (H11.out.below hb)
  have HSA12 := hide (HSA11.out.below hb)
  clear H11 HSA11 hb
  have hba := bAlloc (Below.refl w12.heap.size w12) (.cells #[.bool mb.1, .string mb.2.1, .string mb.2.2] 29)
  have H13 := hide (H12.out.box mb 29)
  have HSA13 := hide (HSA12.out.below hba)
  clear H12 hba HSA12
  go_upto_region 10 with fail
  obtain ⟨w13, hw⟩ : ∃ W, w12.alloc (.cells #[.bool mb.1, .string mb.2.1, .string mb.2.2] 29) = W := ⟨_, rfl⟩
  obtain ⟨X12, hX⟩ : ∃ A, w12.heap.size = A := ⟨_, rfl⟩
  rw [hw] at HSA13
  rw [hw, hX] at H13
  rw [hw, hX]
  clear hw hX
  go_wp2_with fail
  refine (HMs.out _ _ H13.out.bel HSA13.out).mono ?_
  rintro e w14 ⟨rfl, hb⟩
  have H14 := hide (H13.out.below hb)
  have HSA14 := hide (HSA13.out.below hb)
  clear H13 HSA13 hb
  have hba := bAlloc (Below.refl w14.heap.size w14) (.cells #[.bool ms.1, .string ms.2.1, .string ms.2.2] 29)
  have H15 := hide (H14.out.box ms 29)
  have HSA15 := hide (HSA14.out.below hba)
  clear H14 hba HSA14
  go_upto_region 11 with fail
  obtain ⟨w15, hw⟩ : ∃ W, w14.alloc (.cells #[.bool ms.1, .string ms.2.1, .string ms.2.2] 29) = W := ⟨_, rfl⟩
  obtain ⟨X14, hX⟩ : ∃ A, w14.heap.size = A := ⟨_, rfl⟩
  rw [hw] at HSA15
  rw [hw, hX] at H15
  rw [hw, hX]
  clear hw hX
  go_wp2_with fail
  refine (HRa.out _ H15.out.bel).mono ?_
  rintro e w16 ⟨rfl, hb⟩
  have H16 := hide (H15.out.below hb)
  have HSA16 := hide (HSA15.out.below hb)
  clear H15 HSA15 hb
  have hba := bAlloc (Below.refl w16.heap.size w16) (.cells #[.bool va.1, .string va.2.1, .string va.2.2] 29)
  have H17 := hide (H16.out.box va 29)
  have HSA17 := hide (HSA16.out.below hba)
  clear H16 hba HSA16
  go_upto_region 12 with fail
  obtain ⟨w17, hw⟩ : ∃ W, w16.alloc (.cells #[.bool va.1, .string va.2.1, .string va.2.2] 29) = W := ⟨_, rfl⟩
  obtain ⟨X16, hX⟩ : ∃ A, w16.heap.size = A := ⟨_, rfl⟩
  rw [hw] at HSA17
  rw [hw, hX] at H17
  rw [hw, hX]
  clear hw hX
  go_wp2_with fail
  refine (HRb.out _ H17.out.bel).mono ?_
  rintro e w18 ⟨rfl, hb⟩
  have H18 := hide (H17.out.below hb)
  have HSA18 := hide (HSA17.out.below hb)
  clear H17 HSA17 hb
  have hba := bAlloc (Below.refl w18.heap.size w18) (.cells #[.bool vb.1, .string vb.2.1, .string vb.2.2] 29)
  have H19 := hide (H18.out.box vb 29)
  have HSA19 := hide (HSA18.out.below hba)
  clear H18 hba HSA18
  go_upto_region 13 with fail
  obtain ⟨w19, hw⟩ : ∃ W, w18.alloc (.cells #[.bool vb.1, .string vb.2.1, .string vb.2.2] 29) = W := ⟨_, rfl⟩
  obtain ⟨X18, hX⟩ : ∃ A, w18.heap.size = A := ⟨_, rfl⟩
  rw [hw] at HSA19
  rw [hw, hX] at H19
  rw [hw, hX]
  clear hw hX
  go_wp2_with fail
  refine (HRs.out _ _ H19.out.bel HSA19.out).mono ?_
  rintro e w20 ⟨rfl, hb⟩
  have H20 := hide (H19.out.below hb)
  have HSA20 := hide (HSA19.out.below hb)
  clear H19 HSA19 hb
  have hba := bAlloc (Below.refl w20.heap.size w20) (.cells #[.bool vs.1, .string vs.2.1, .string vs.2.2] 29)
  have H21 := hide (H20.out.box vs 29)
  have HSA21 := hide (HSA20.out.below hba)
  clear H20 hba HSA20
  go_upto_region 14 with fail
  obtain ⟨w21, hw⟩ : ∃ W, w20.alloc (.cells #[.bool vs.1, .string vs.2.1, .string vs.2.2] 29) = W := ⟨_, rfl⟩
  obtain ⟨X20, hX⟩ : ∃ A, w20.heap.size = A := ⟨_, rfl⟩
  rw [hw] at HSA21
  rw [hw, hX] at H21
  rw [hw, hX]
  clear hw hX
  clear HSA21
  rcases Hcase.out with rfl | ⟨rfl, rfl⟩ | ⟨rfl, rfl, rfl⟩ | ⟨rfl, rfl, rfl, rfl⟩ | ⟨rfl, rfl, rfl, rfl, t1, t2, t3, t4, e1, e2⟩
  · go_wp2_with fail
    go_ret
    exact ⟨by first | rfl | simp, H21.out.bel⟩
  · go_wp2_with fail
    go_ret
    exact ⟨by first | rfl | simp, H21.out.bel⟩
  · go_wp2_with fail
    go_ret
    exact ⟨by first | rfl | simp, H21.out.bel⟩
  · go_wp2_with fail
    go_ret
    exact ⟨by first | rfl | simp, H21.out.bel⟩
  have HT1 := hide t1
  have HT2 := hide t2
  have HT3 := hide t3
  have HT4 := hide t4
  have HE1 := hide e1
  have HE2 := hide e2
  clear t1 t2 t3 t4 e1 e2 Hcase
  have hba := bAlloc (Below.refl w21.heap.size w21) (.cells #[.bool false] 45)
  have H22 := hide (H21.out.calc 45)
  clear H21 hba 
  go_upto_region 17 with fail
  obtain ⟨w22, hw⟩ : ∃ W, w21.alloc (.cells #[.bool false] 45) = W := ⟨_, rfl⟩
  obtain ⟨C, hX⟩ : ∃ A, w21.heap.size = A := ⟨_, rfl⟩
  rw [hw, hX] at H22
  rw [hw, hX]
  clear hw hX
  go_cut [23, 24] (fun z23 z24 wx => ∃ X23 X24 : Nat, ∃ r1 r2 : T3, ∃ f : Bool, z23 = .pointer (some ⟨X23, 0, none⟩) ∧ z24 = .pointer (some ⟨X24, 0, none⟩) ∧ TO (add2 (some pa) (some pb)) r1 ∧ TO (add2 (some qa) (some qb)) r2 ∧ (f = false → false = false ∧ (add2 (some pa) (some pb)).isNone = false ∧ (add2 (some qa) (some qb)).isNone = false) ∧ LS w wx C f [(X24, r2), (X23, r1), (X20, vs), (X18, vb), (X16, va), (X14, ms), (X12, mb), (X10, ma)])
  case first =>
    as_aux_lemma =>
      have HSS : Hid (∀ W f l, [(X10, ma), (X12, mb), (X16, va), (X18, vb)] ⊆ l → LS w W C f l → (W.cell? ⟨X10, 0, none⟩ = some (.bool ma.1) ∧ W.cell? ⟨X10, 1, none⟩ = some (.string ma.2.1) ∧ W.cell? ⟨X10, 2, none⟩ = some (.string ma.2.2)) ∧ (W.cell? ⟨X12, 0, none⟩ = some (.bool mb.1) ∧ W.cell? ⟨X12, 1, none⟩ = some (.string mb.2.1) ∧ W.cell? ⟨X12, 2, none⟩ = some (.string mb.2.2)) ∧ (W.cell? ⟨X16, 0, none⟩ = some (.bool va.1) ∧ W.cell? ⟨X16, 1, none⟩ = some (.string va.2.1) ∧ W.cell? ⟨X16, 2, none⟩ = some (.string va.2.2)) ∧ (W.cell? ⟨X18, 0, none⟩ = some (.bool vb.1) ∧ W.cell? ⟨X18, 1, none⟩ = some (.string vb.2.1) ∧ W.cell? ⟨X18, 2, none⟩ = some (.string vb.2.2))) := fun W f l hsub hls => by
        have h := fun p hp => hls.rc p (hsub hp)
        have hB := hls.bel
        exact ⟨⟨(h (X10, ma) (by simp)).1.c0, (h (X10, ma) (by simp)).1.c1, (h (X10, ma) (by simp)).1.c2⟩, ⟨(h (X12, mb) (by simp)).1.c0, (h (X12, mb) (by simp)).1.c1, (h (X12, mb) (by simp)).1.c2⟩, ⟨(h (X16, va) (by simp)).1.c0, (h (X16, va) (by simp)).1.c1, (h (X16, va) (by simp)).1.c2⟩, ⟨(h (X18, vb) (by simp)).1.c0, (h (X18, vb) (by simp)).1.c1, (h (X18, vb) (by simp)).1.c2⟩⟩
      have hbd : Below w22.heap.size w22 w22.drew := bDraw (Below.refl _ w22)
      obtain ⟨w23, hwd⟩ : ∃ W, w22.drew = W := ⟨_, rfl⟩
      rw [hwd] at hbd
      have H23 := hide (H22.out.below hbd)
      clear H22 hbd
      have hE0 := HSS.out _ _ _ (by simp) H23.out
      refine wp_region_noPanic ?_
      refine wp_region_held_drew (S := fun w' => (w'.cell? ⟨X10, 0, none⟩ = some (.bool ma.1) ∧ w'.cell? ⟨X10, 1, none⟩ = some (.string ma.2.1) ∧ w'.cell? ⟨X10, 2, none⟩ = some (.string ma.2.2)) ∧ (w'.cell? ⟨X12, 0, none⟩ = some (.bool mb.1) ∧ w'.cell? ⟨X12, 1, none⟩ = some (.string mb.2.1) ∧ w'.cell? ⟨X12, 2, none⟩ = some (.string mb.2.2)) ∧ (w'.cell? ⟨X16, 0, none⟩ = some (.bool va.1) ∧ w'.cell? ⟨X16, 1, none⟩ = some (.string va.2.1) ∧ w'.cell? ⟨X16, 2, none⟩ = some (.string va.2.2)) ∧ (w'.cell? ⟨X18, 0, none⟩ = some (.bool vb.1) ∧ w'.cell? ⟨X18, 1, none⟩ = some (.string vb.2.1) ∧ w'.cell? ⟨X18, 2, none⟩ = some (.string vb.2.2))) (by kernel_rfl) (by rw [hwd]; exact hE0) (fun hHeld => ?_)
      rw [hwd] at hHeld ⊢
      clear hwd hE0
      change wpAnyH _ _ _ _ _ 12 #[false, false, false, false, false, false, false, false, false, false, false, false] _ _
      refine wpAnyH_take (i := 0) (oi := _) (v := ?_) rfl (by kernel_rfl) (by kernel_rfl) (by kernel_rfl) (fun _ _ _ h => h) (Or.inl ⟨by rfl, ?_⟩) (by assumption) ?_
      rotate_left
      · intro w hSw
        (try dsimp only at hSw)
        go_simp
        try with_reducible rfl
      try simp only [List.getElem_toArray, List.getElem_cons_zero, List.getElem_cons_succ, List.get, Act.put, List.setIfInBounds_toArray, List.set_cons_zero, List.set_cons_succ]
      refine wpAnyH_take (i := 1) (oi := _) (v := ?_) rfl (by kernel_rfl) (by kernel_rfl) (by kernel_rfl) (fun _ _ _ h => h) (Or.inl ⟨by rfl, ?_⟩) (by assumption) ?_
      rotate_left
      · intro w hSw
        (try dsimp only at hSw)
        go_simp
        try with_reducible rfl
      try simp only [List.getElem_toArray, List.getElem_cons_zero, List.getElem_cons_succ, List.get, Act.put, List.setIfInBounds_toArray, List.set_cons_zero, List.set_cons_succ]
      refine wpAnyH_take (i := 2) (oi := _) (v := ?_) rfl (by kernel_rfl) (by kernel_rfl) (by kernel_rfl) (fun _ _ _ h => h) (Or.inl ⟨by rfl, ?_⟩) (by assumption) ?_
      rotate_left
      · intro w hSw
        (try dsimp only at hSw)
        go_simp
        try with_reducible rfl
      try simp only [List.getElem_toArray, List.getElem_cons_zero, List.getElem_cons_succ, List.get, Act.put, List.setIfInBounds_toArray, List.set_cons_zero, List.set_cons_succ]
      refine wpAnyH_take (i := 4) (oi := _) (v := ?_) rfl (by kernel_rfl) (by kernel_rfl) (by kernel_rfl) (fun _ _ _ h => h) (Or.inl ⟨by rfl, ?_⟩) (by assumption) ?_
      rotate_left
      · intro w hSw
        (try dsimp only at hSw)
        go_simp
        try with_reducible rfl
      try simp only [List.getElem_toArray, List.getElem_cons_zero, List.getElem_cons_succ, List.get, Act.put, List.setIfInBounds_toArray, List.set_cons_zero, List.set_cons_succ]
      refine wpAnyH_take (i := 5) (oi := _) (v := ?_) rfl (by kernel_rfl) (by kernel_rfl) (by kernel_rfl) (fun _ _ _ h => h) (Or.inl ⟨by rfl, ?_⟩) (by assumption) ?_
      rotate_left
      · intro w hSw
        (try dsimp only at hSw)
        go_simp
        try with_reducible rfl
      try simp only [List.getElem_toArray, List.getElem_cons_zero, List.getElem_cons_succ, List.get, Act.put, List.setIfInBounds_toArray, List.set_cons_zero, List.set_cons_succ]
      refine wpAnyH_take (i := 6) (oi := _) (v := ?_) rfl (by kernel_rfl) (by kernel_rfl) (by kernel_rfl) (fun _ _ _ h => h) (Or.inl ⟨by rfl, ?_⟩) (by assumption) ?_
      rotate_left
      · intro w hSw
        (try dsimp only at hSw)
        go_simp
        try with_reducible rfl
      try simp only [List.getElem_toArray, List.getElem_cons_zero, List.getElem_cons_succ, List.get, Act.put, List.setIfInBounds_toArray, List.set_cons_zero, List.set_cons_succ]
      refine wpAnyH_ready (rs := [3, 8, 9]) (by kernel_rfl) (by simp) ?_
      refine AllReadyH.cons (o := _) rfl (fun K hK => ?_) (AllReadyH.cons (o := _) rfl (fun K hK => ?_) (AllReadyH.cons (o := _) rfl (fun K hK => ?_) AllReadyH.nil))
      · as_aux_lemma =>
          go_simp
          refine (l46_add C HT1.out HT2.out _ _ (HL.out.below H23.out.bel) H23.out.cf).mono ?_
          rintro e w24 ⟨r1, rfl, ht, hc, hg⟩
          have T_r1 := hide ht
          clear ht
          have H24 := hide (H23.out.grown hg hc)
          clear H23 hg hc
          refine hK.out _ _ (HSS.out _ _ _ (by simp) H24.out) (fun hHeld => ?_)
          clear hK K
          try simp only [List.getElem_toArray, List.getElem_cons_zero, List.getElem_cons_succ, List.get, Act.put, List.setIfInBounds_toArray, List.set_cons_zero, List.set_cons_succ]
          refine wpAnyH_ready (rs := [7, 8, 9]) (by kernel_rfl) (by simp) ?_
          refine AllReadyH.cons (o := _) rfl (fun K hK => ?_) (AllReadyH.cons (o := _) rfl (fun K hK => ?_) (AllReadyH.cons (o := _) rfl (fun K hK => ?_) AllReadyH.nil))
          · as_aux_lemma =>
              go_simp
              refine (l46_add C HT3.out HT4.out _ _ (HL.out.below H24.out.bel) H24.out.cf).mono ?_
              rintro e w25 ⟨r2, rfl, ht, hc, hg⟩
              have T_r2 := hide ht
              clear ht
              have H25 := hide (H24.out.grown hg hc)
              clear H24 hg hc
              refine hK.out _ _ (HSS.out _ _ _ (by simp) H25.out) (fun hHeld => ?_)
              clear hK K
              try simp only [List.getElem_toArray, List.getElem_cons_zero, List.getElem_cons_succ, List.get, Act.put, List.setIfInBounds_toArray, List.set_cons_zero, List.set_cons_succ]
              refine wpAnyH_ready (rs := [8, 9]) (by kernel_rfl) (by simp) ?_
              refine AllReadyH.cons (o := _) rfl (fun K hK => ?_) (AllReadyH.cons (o := _) rfl (fun K hK => ?_) AllReadyH.nil)
              · skip
                have H26 := hide (H25.out.box (false, ⟨#[]⟩, ⟨#[]⟩) 29)
                clear H25
                go_simp
                change Hid (LS w (w25.alloc (.cells #[.bool false, .string ⟨#[]⟩, .string ⟨#[]⟩] 29)) _ _ _) at H26
                obtain ⟨w26, hw⟩ : ∃ W, w25.alloc (.cells #[.bool false, .string ⟨#[]⟩, .string ⟨#[]⟩] 29) = W := ⟨_, rfl⟩
                obtain ⟨X23, hX⟩ : ∃ A, w25.heap.size = A := ⟨_, rfl⟩
                rw [hw, hX] at H26
                rw [hw, hX]
                clear hw hX
                refine hK.out _ _ (HSS.out _ _ _ (by simp) H26.out) (fun hHeld => ?_)
                clear hK K
                try simp only [List.getElem_toArray, List.getElem_cons_zero, List.getElem_cons_succ, List.get, Act.put, List.setIfInBounds_toArray, List.set_cons_zero, List.set_cons_succ]
                refine wpAnyH_ready (rs := [9]) (by kernel_rfl) (by simp) ?_
                refine AllReadyH.cons (o := _) rfl (fun K hK => ?_) AllReadyH.nil
                have H27 := hide (H26.out.box (false, ⟨#[]⟩, ⟨#[]⟩) 29)
                clear H26
                go_simp
                change Hid (LS w (w26.alloc (.cells #[.bool false, .string ⟨#[]⟩, .string ⟨#[]⟩] 29)) _ _ _) at H27
                obtain ⟨w27, hw⟩ : ∃ W, w26.alloc (.cells #[.bool false, .string ⟨#[]⟩, .string ⟨#[]⟩] 29) = W := ⟨_, rfl⟩
                obtain ⟨X24, hX⟩ : ∃ A, w26.heap.size = A := ⟨_, rfl⟩
                rw [hw, hX] at H27
                rw [hw, hX]
                clear hw hX
                refine hK.out _ _ (HSS.out _ _ _ (by simp) H27.out) (fun hHeld => ?_)
                clear hK K
                try simp only [List.getElem_toArray, List.getElem_cons_zero, List.getElem_cons_succ, List.get, Act.put, List.setIfInBounds_toArray, List.set_cons_zero, List.set_cons_succ]
                have H27s := hide H27.out.swap
                clear H27
                have H27 := H27s
                clear H27s
                obtain ⟨l0, l1, l2, f0, f1, f2⟩ := (H27.out.rc (X23, (false, ⟨#[]⟩, ⟨#[]⟩)) (by simp)).1
                dsimp only at l0 l1 l2 f0 f1 f2
                have H28 := hide (H27.out.store r1)
                clear H27
                refine wpAnyH_ready (rs := [10]) (by kernel_rfl) (by simp) ?_
                refine AllReadyH.cons (o := _) rfl (fun K hK => ?_) AllReadyH.nil
                go_simp
                clear l0 l1 l2 f0 f1 f2
                obtain ⟨w28, hw⟩ : ∃ W, (((w27.setCell ⟨X23, 0, none⟩ (.bool r1.1)).setCell ⟨X23, 1, none⟩ (.string r1.2.1)).setCell ⟨X23, 2, none⟩ (.string r1.2.2)) = W := ⟨_, rfl⟩
                rw [hw] at H28
                rw [hw]
                clear hw
                refine hK.out _ _ (HSS.out _ _ _ (by simp) H28.out) (fun hHeld => ?_)
                clear hK K
                try simp only [List.getElem_toArray, List.getElem_cons_zero, List.getElem_cons_succ, List.get, Act.put, List.setIfInBounds_toArray, List.set_cons_zero, List.set_cons_succ]
                have H28s := hide H28.out.swap
                clear H28
                have H28 := H28s
                clear H28s
                obtain ⟨l0, l1, l2, f0, f1, f2⟩ := (H28.out.rc (X24, (false, ⟨#[]⟩, ⟨#[]⟩)) (by simp)).1
                dsimp only at l0 l1 l2 f0 f1 f2
                have H29 := hide (H28.out.store r2)
                clear H28
                refine wpAnyH_ready (rs := [11]) (by kernel_rfl) (by simp) ?_
                refine AllReadyH.cons (o := _) rfl (fun K hK => ?_) AllReadyH.nil
                go_simp
                clear l0 l1 l2 f0 f1 f2
                obtain ⟨w29, hw⟩ : ∃ W, (((w28.setCell ⟨X24, 0, none⟩ (.bool r2.1)).setCell ⟨X24, 1, none⟩ (.string r2.2.1)).setCell ⟨X24, 2, none⟩ (.string r2.2.2)) = W := ⟨_, rfl⟩
                rw [hw] at H29
                rw [hw]
                clear hw
                refine hK.out _ _ (HSS.out _ _ _ (by simp) H29.out) (fun hHeld => ?_)
                clear hK K
                try simp only [List.getElem_toArray, List.getElem_cons_zero, List.getElem_cons_succ, List.get, Act.put, List.setIfInBounds_toArray, List.set_cons_zero, List.set_cons_succ]
                refine wpAnyH_done (by kernel_rfl) ?_ _
                refine NoPanic.normal ?_
                go_wp2_with fail
                go_meet
                exact ⟨X23, X24, r1, r2, _, rfl, rfl, T_r1.out, T_r2.out, (fun h => by simp only [Bool.or_eq_false_iff] at h ⊢; simp [h]), H29.out⟩
              · skip
                have H30 := hide (H25.out.box (false, ⟨#[]⟩, ⟨#[]⟩) 29)
                clear H25
                go_simp
                change Hid (LS w (w25.alloc (.cells #[.bool false, .string ⟨#[]⟩, .string ⟨#[]⟩] 29)) _ _ _) at H30
                obtain ⟨w30, hw⟩ : ∃ W, w25.alloc (.cells #[.bool false, .string ⟨#[]⟩, .string ⟨#[]⟩] 29) = W := ⟨_, rfl⟩
                obtain ⟨X24, hX⟩ : ∃ A, w25.heap.size = A := ⟨_, rfl⟩
                rw [hw, hX] at H30
                rw [hw, hX]
                clear hw hX
                refine hK.out _ _ (HSS.out _ _ _ (by simp) H30.out) (fun hHeld => ?_)
                clear hK K
                try simp only [List.getElem_toArray, List.getElem_cons_zero, List.getElem_cons_succ, List.get, Act.put, List.setIfInBounds_toArray, List.set_cons_zero, List.set_cons_succ]
                refine wpAnyH_ready (rs := [8]) (by kernel_rfl) (by simp) ?_
                refine AllReadyH.cons (o := _) rfl (fun K hK => ?_) AllReadyH.nil
                have H31 := hide (H30.out.box (false, ⟨#[]⟩, ⟨#[]⟩) 29)
                clear H30
                go_simp
                change Hid (LS w (w30.alloc (.cells #[.bool false, .string ⟨#[]⟩, .string ⟨#[]⟩] 29)) _ _ _) at H31
                obtain ⟨w31, hw⟩ : ∃ W, w30.alloc (.cells #[.bool false, .string ⟨#[]⟩, .string ⟨#[]⟩] 29) = W := ⟨_, rfl⟩
                obtain ⟨X23, hX⟩ : ∃ A, w30.heap.size = A := ⟨_, rfl⟩
                rw [hw, hX] at H31
                rw [hw, hX]
                clear hw hX
                refine hK.out _ _ (HSS.out _ _ _ (by simp) H31.out) (fun hHeld => ?_)
                clear hK K
                try simp only [List.getElem_toArray, List.getElem_cons_zero, List.getElem_cons_succ, List.get, Act.put, List.setIfInBounds_toArray, List.set_cons_zero, List.set_cons_succ]
                obtain ⟨l0, l1, l2, f0, f1, f2⟩ := (H31.out.rc (X23, (false, ⟨#[]⟩, ⟨#[]⟩)) (by simp)).1
                dsimp only at l0 l1 l2 f0 f1 f2
                have H32 := hide (H31.out.store r1)
                clear H31
                refine wpAnyH_ready (rs := [10]) (by kernel_rfl) (by simp) ?_
                refine AllReadyH.cons (o := _) rfl (fun K hK => ?_) AllReadyH.nil
                go_simp
                clear l0 l1 l2 f0 f1 f2
                obtain ⟨w32, hw⟩ : ∃ W, (((w31.setCell ⟨X23, 0, none⟩ (.bool r1.1)).setCell ⟨X23, 1, none⟩ (.string r1.2.1)).setCell ⟨X23, 2, none⟩ (.string r1.2.2)) = W := ⟨_, rfl⟩
                rw [hw] at H32
                rw [hw]
                clear hw
                refine hK.out _ _ (HSS.out _ _ _ (by simp) H32.out) (fun hHeld => ?_)
                clear hK K
                try simp only [List.getElem_toArray, List.getElem_cons_zero, List.getElem_cons_succ, List.get, Act.put, List.setIfInBounds_toArray, List.set_cons_zero, List.set_cons_succ]
                have H32s := hide H32.out.swap
                clear H32
                have H32 := H32s
                clear H32s
                obtain ⟨l0, l1, l2, f0, f1, f2⟩ := (H32.out.rc (X24, (false, ⟨#[]⟩, ⟨#[]⟩)) (by simp)).1
                dsimp only at l0 l1 l2 f0 f1 f2
                have H33 := hide (H32.out.store r2)
                clear H32
                refine wpAnyH_ready (rs := [11]) (by kernel_rfl) (by simp) ?_
                refine AllReadyH.cons (o := _) rfl (fun K hK => ?_) AllReadyH.nil
                go_simp
                clear l0 l1 l2 f0 f1 f2
                obtain ⟨w33, hw⟩ : ∃ W, (((w32.setCell ⟨X24, 0, none⟩ (.bool r2.1)).setCell ⟨X24, 1, none⟩ (.string r2.2.1)).setCell ⟨X24, 2, none⟩ (.string r2.2.2)) = W := ⟨_, rfl⟩
                rw [hw] at H33
                rw [hw]
                clear hw
                refine hK.out _ _ (HSS.out _ _ _ (by simp) H33.out) (fun hHeld => ?_)
                clear hK K
                try simp only [List.getElem_toArray, List.getElem_cons_zero, List.getElem_cons_succ, List.get, Act.put, List.setIfInBounds_toArray, List.set_cons_zero, List.set_cons_succ]
                refine wpAnyH_done (by kernel_rfl) ?_ _
                refine NoPanic.normal ?_
                go_wp2_with fail
                go_meet
                exact ⟨X23, X24, r1, r2, _, rfl, rfl, T_r1.out, T_r2.out, (fun h => by simp only [Bool.or_eq_false_iff] at h ⊢; simp [h]), H33.out⟩
          · as_aux_lemma =>
              have H34 := hide (H24.out.box (false, ⟨#[]⟩, ⟨#[]⟩) 29)
              clear H24
              go_simp
              change Hid (LS w (w24.alloc (.cells #[.bool false, .string ⟨#[]⟩, .string ⟨#[]⟩] 29)) _ _ _) at H34
              obtain ⟨w34, hw⟩ : ∃ W, w24.alloc (.cells #[.bool false, .string ⟨#[]⟩, .string ⟨#[]⟩] 29) = W := ⟨_, rfl⟩
              obtain ⟨X23, hX⟩ : ∃ A, w24.heap.size = A := ⟨_, rfl⟩
              rw [hw, hX] at H34
              rw [hw, hX]
              clear hw hX
              refine hK.out _ _ (HSS.out _ _ _ (by simp) H34.out) (fun hHeld => ?_)
              clear hK K
              try simp only [List.getElem_toArray, List.getElem_cons_zero, List.getElem_cons_succ, List.get, Act.put, List.setIfInBounds_toArray, List.set_cons_zero, List.set_cons_succ]
              refine wpAnyH_ready (rs := [7, 9]) (by kernel_rfl) (by simp) ?_
              refine AllReadyH.cons (o := _) rfl (fun K hK => ?_) (AllReadyH.cons (o := _) rfl (fun K hK => ?_) AllReadyH.nil)
              · skip
                go_simp
                refine (l46_add C HT3.out HT4.out _ _ (HL.out.below H34.out.bel) H34.out.cf).mono ?_
                rintro e w35 ⟨r2, rfl, ht, hc, hg⟩
                have T_r2 := hide ht
                clear ht
                have H35 := hide (H34.out.grown hg hc)
                clear H34 hg hc
                refine hK.out _ _ (HSS.out _ _ _ (by simp) H35.out) (fun hHeld => ?_)
                clear hK K
                try simp only [List.getElem_toArray, List.getElem_cons_zero, List.getElem_cons_succ, List.get, Act.put, List.setIfInBounds_toArray, List.set_cons_zero, List.set_cons_succ]
                refine wpAnyH_ready (rs := [9]) (by kernel_rfl) (by simp) ?_
                refine AllReadyH.cons (o := _) rfl (fun K hK => ?_) AllReadyH.nil
                have H36 := hide (H35.out.box (false, ⟨#[]⟩, ⟨#[]⟩) 29)
                clear H35
                go_simp
                change Hid (LS w (w35.alloc (.cells #[.bool false, .string ⟨#[]⟩, .string ⟨#[]⟩] 29)) _ _ _) at H36
                obtain ⟨w36, hw⟩ : ∃ W, w35.alloc (.cells #[.bool false, .string ⟨#[]⟩, .string ⟨#[]⟩] 29) = W := ⟨_, rfl⟩
                obtain ⟨X24, hX⟩ : ∃ A, w35.heap.size = A := ⟨_, rfl⟩
                rw [hw, hX] at H36
                rw [hw, hX]
                clear hw hX
                refine hK.out _ _ (HSS.out _ _ _ (by simp) H36.out) (fun hHeld => ?_)
                clear hK K
                try simp only [List.getElem_toArray, List.getElem_cons_zero, List.getElem_cons_succ, List.get, Act.put, List.setIfInBounds_toArray, List.set_cons_zero, List.set_cons_succ]
                have H36s := hide H36.out.swap
                clear H36
                have H36 := H36s
                clear H36s
                obtain ⟨l0, l1, l2, f0, f1, f2⟩ := (H36.out.rc (X23, (false, ⟨#[]⟩, ⟨#[]⟩)) (by simp)).1
                dsimp only at l0 l1 l2 f0 f1 f2
                have H37 := hide (H36.out.store r1)
                clear H36
                refine wpAnyH_ready (rs := [10]) (by kernel_rfl) (by simp) ?_
                refine AllReadyH.cons (o := _) rfl (fun K hK => ?_) AllReadyH.nil
                go_simp
                clear l0 l1 l2 f0 f1 f2
                obtain ⟨w37, hw⟩ : ∃ W, (((w36.setCell ⟨X23, 0, none⟩ (.bool r1.1)).setCell ⟨X23, 1, none⟩ (.string r1.2.1)).setCell ⟨X23, 2, none⟩ (.string r1.2.2)) = W := ⟨_, rfl⟩
                rw [hw] at H37
                rw [hw]
                clear hw
                refine hK.out _ _ (HSS.out _ _ _ (by simp) H37.out) (fun hHeld => ?_)
                clear hK K
                try simp only [List.getElem_toArray, List.getElem_cons_zero, List.getElem_cons_succ, List.get, Act.put, List.setIfInBounds_toArray, List.set_cons_zero, List.set_cons_succ]
                have H37s := hide H37.out.swap
                clear H37
                have H37 := H37s
                clear H37s
                obtain ⟨l0, l1, l2, f0, f1, f2⟩ := (H37.out.rc (X24, (false, ⟨#[]⟩, ⟨#[]⟩)) (by simp)).1
                dsimp only at l0 l1 l2 f0 f1 f2
                have H38 := hide (H37.out.store r2)
                clear H37
                refine wpAnyH_ready (rs := [11]) (by kernel_rfl) (by simp) ?_
                refine AllReadyH.cons (o := _) rfl (fun K hK => ?_) AllReadyH.nil
                go_simp
                clear l0 l1 l2 f0 f1 f2
                obtain ⟨w38, hw⟩ : ∃ W, (((w37.setCell ⟨X24, 0, none⟩ (.bool r2.1)).setCell ⟨X24, 1, none⟩ (.string r2.2.1)).setCell ⟨X24, 2, none⟩ (.string r2.2.2)) = W := ⟨_, rfl⟩
                rw [hw] at H38
                rw [hw]
                clear hw
                refine hK.out _ _ (HSS.out _ _ _ (by simp) H38.out) (fun hHeld => ?_)
                clear hK K
                try simp only [List.getElem_toArray, List.getElem_cons_zero, List.getElem_cons_succ, List.get, Act.put, List.setIfInBounds_toArray, List.set_cons_zero, List.set_cons_succ]
                refine wpAnyH_done (by kernel_rfl) ?_ _
                refine NoPanic.normal ?_
                go_wp2_with fail
                go_meet
                exact ⟨X23, X24, r1, r2, _, rfl, rfl, T_r1.out, T_r2.out, (fun h => by simp only [Bool.or_eq_false_iff] at h ⊢; simp [h]), H38.out⟩
              · skip
                have H39 := hide (H34.out.box (false, ⟨#[]⟩, ⟨#[]⟩) 29)
                clear H34
                go_simp
                change Hid (LS w (w34.alloc (.cells #[.bool false, .string ⟨#[]⟩, .string ⟨#[]⟩] 29)) _ _ _) at H39
                obtain ⟨w39, hw⟩ : ∃ W, w34.alloc (.cells #[.bool false, .string ⟨#[]⟩, .string ⟨#[]⟩] 29) = W := ⟨_, rfl⟩
                obtain ⟨X24, hX⟩ : ∃ A, w34.heap.size = A := ⟨_, rfl⟩
                rw [hw, hX] at H39
                rw [hw, hX]
                clear hw hX
                refine hK.out _ _ (HSS.out _ _ _ (by simp) H39.out) (fun hHeld => ?_)
                clear hK K
                try simp only [List.getElem_toArray, List.getElem_cons_zero, List.getElem_cons_succ, List.get, Act.put, List.setIfInBounds_toArray, List.set_cons_zero, List.set_cons_succ]
                refine wpAnyH_ready (rs := [7]) (by kernel_rfl) (by simp) ?_
                refine AllReadyH.cons (o := _) rfl (fun K hK => ?_) AllReadyH.nil
                go_simp
                refine (l46_add C HT3.out HT4.out _ _ (HL.out.below H39.out.bel) H39.out.cf).mono ?_
                rintro e w40 ⟨r2, rfl, ht, hc, hg⟩
                have T_r2 := hide ht
                clear ht
                have H40 := hide (H39.out.grown hg hc)
                clear H39 hg hc
                refine hK.out _ _ (HSS.out _ _ _ (by simp) H40.out) (fun hHeld => ?_)
                clear hK K
                try simp only [List.getElem_toArray, List.getElem_cons_zero, List.getElem_cons_succ, List.get, Act.put, List.setIfInBounds_toArray, List.set_cons_zero, List.set_cons_succ]
                have H40s := hide H40.out.swap
                clear H40
                have H40 := H40s
                clear H40s
                obtain ⟨l0, l1, l2, f0, f1, f2⟩ := (H40.out.rc (X23, (false, ⟨#[]⟩, ⟨#[]⟩)) (by simp)).1
                dsimp only at l0 l1 l2 f0 f1 f2
                have H41 := hide (H40.out.store r1)
                clear H40
                refine wpAnyH_ready (rs := [10]) (by kernel_rfl) (by simp) ?_
                refine AllReadyH.cons (o := _) rfl (fun K hK => ?_) AllReadyH.nil
                go_simp
                clear l0 l1 l2 f0 f1 f2
                obtain ⟨w41, hw⟩ : ∃ W, (((w40.setCell ⟨X23, 0, none⟩ (.bool r1.1)).setCell ⟨X23, 1, none⟩ (.string r1.2.1)).setCell ⟨X23, 2, none⟩ (.string r1.2.2)) = W := ⟨_, rfl⟩
                rw [hw] at H41
                rw [hw]
                clear hw
                refine hK.out _ _ (HSS.out _ _ _ (by simp) H41.out) (fun hHeld => ?_)
                clear hK K
                try simp only [List.getElem_toArray, List.getElem_cons_zero, List.getElem_cons_succ, List.get, Act.put, List.setIfInBounds_toArray, List.set_cons_zero, List.set_cons_succ]
                have H41s := hide H41.out.swap
                clear H41
                have H41 := H41s
                clear H41s
                obtain ⟨l0, l1, l2, f0, f1, f2⟩ := (H41.out.rc (X24, (false, ⟨#[]⟩, ⟨#[]⟩)) (by simp)).1
                dsimp only at l0 l1 l2 f0 f1 f2
                have H42 := hide (H41.out.store r2)
                clear H41
                refine wpAnyH_ready (rs := [11]) (by kernel_rfl) (by simp) ?_
                refine AllReadyH.cons (o := _) rfl (fun K hK => ?_) AllReadyH.nil
                go_simp
                clear l0 l1 l2 f0 f1 f2
                obtain ⟨w42, hw⟩ : ∃ W, (((w41.setCell ⟨X24, 0, none⟩ (.bool r2.1)).setCell ⟨X24, 1, none⟩ (.string r2.2.1)).setCell ⟨X24, 2, none⟩ (.string r2.2.2)) = W := ⟨_, rfl⟩
                rw [hw] at H42
                rw [hw]
                clear hw
                refine hK.out _ _ (HSS.out _ _ _ (by simp) H42.out) (fun hHeld => ?_)
                clear hK K
                try simp only [List.getElem_toArray, List.getElem_cons_zero, List.getElem_cons_succ, List.get, Act.put, List.setIfInBounds_toArray, List.set_cons_zero, List.set_cons_succ]
                refine wpAnyH_done (by kernel_rfl) ?_ _
                refine NoPanic.normal ?_
                go_wp2_with fail
                go_meet
                exact ⟨X23, X24, r1, r2, _, rfl, rfl, T_r1.out, T_r2.out, (fun h => by simp only [Bool.or_eq_false_iff] at h ⊢; simp [h]), H42.out⟩
          · as_aux_lemma =>
              have H43 := hide (H24.out.box (false, ⟨#[]⟩, ⟨#[]⟩) 29)
              clear H24
              go_simp
              change Hid (LS w (w24.alloc (.cells #[.bool false, .string ⟨#[]⟩, .string ⟨#[]⟩] 29)) _ _ _) at H43
              obtain ⟨w43, hw⟩ : ∃ W, w24.alloc (.cells #[.bool false, .string ⟨#[]⟩, .string ⟨#[]⟩] 29) = W := ⟨_, rfl⟩
              obtain ⟨X24, hX⟩ : ∃ A, w24.heap.size = A := ⟨_, rfl⟩
              rw [hw, hX] at H43
              rw [hw, hX]
              clear hw hX
              refine hK.out _ _ (HSS.out _ _ _ (by simp) H43.out) (fun hHeld => ?_)
              clear hK K
              try simp only [List.getElem_toArray, List.getElem_cons_zero, List.getElem_cons_succ, List.get, Act.put, List.setIfInBounds_toArray, List.set_cons_zero, List.set_cons_succ]
              refine wpAnyH_ready (rs := [7, 8]) (by kernel_rfl) (by simp) ?_
              refine AllReadyH.cons (o := _) rfl (fun K hK => ?_) (AllReadyH.cons (o := _) rfl (fun K hK => ?_) AllReadyH.nil)
              · skip
                go_simp
                refine (l46_add C HT3.out HT4.out _ _ (HL.out.below H43.out.bel) H43.out.cf).mono ?_
                rintro e w44 ⟨r2, rfl, ht, hc, hg⟩
                have T_r2 := hide ht
                clear ht
                have H44 := hide (H43.out.grown hg hc)
                clear H43 hg hc
                refine hK.out _ _ (HSS.out _ _ _ (by simp) H44.out) (fun hHeld => ?_)
                clear hK K
                try simp only [List.getElem_toArray, List.getElem_cons_zero, List.getElem_cons_succ, List.get, Act.put, List.setIfInBounds_toArray, List.set_cons_zero, List.set_cons_succ]
                refine wpAnyH_ready (rs := [8]) (by kernel_rfl) (by simp) ?_
                refine AllReadyH.cons (o := _) rfl (fun K hK => ?_) AllReadyH.nil
                have H45 := hide (H44.out.box (false, ⟨#[]⟩, ⟨#[]⟩) 29)
                clear H44
                go_simp
                change Hid (LS w (w44.alloc (.cells #[.bool false, .string ⟨#[]⟩, .string ⟨#[]⟩] 29)) _ _ _) at H45
                obtain ⟨w45, hw⟩ : ∃ W, w44.alloc (.cells #[.bool false, .string ⟨#[]⟩, .string ⟨#[]⟩] 29) = W := ⟨_, rfl⟩
                obtain ⟨X23, hX⟩ : ∃ A, w44.heap.size = A := ⟨_, rfl⟩
                rw [hw, hX] at H45
                rw [hw, hX]
                clear hw hX
                refine hK.out _ _ (HSS.out _ _ _ (by simp) H45.out) (fun hHeld => ?_)
                clear hK K
                try simp only [List.getElem_toArray, List.getElem_cons_zero, List.getElem_cons_succ, List.get, Act.put, List.setIfInBounds_toArray, List.set_cons_zero, List.set_cons_succ]
                obtain ⟨l0, l1, l2, f0, f1, f2⟩ := (H45.out.rc (X23, (false, ⟨#[]⟩, ⟨#[]⟩)) (by simp)).1
                dsimp only at l0 l1 l2 f0 f1 f2
                have H46 := hide (H45.out.store r1)
                clear H45
                refine wpAnyH_ready (rs := [10]) (by kernel_rfl) (by simp) ?_
                refine AllReadyH.cons (o := _) rfl (fun K hK => ?_) AllReadyH.nil
                go_simp
                clear l0 l1 l2 f0 f1 f2
                obtain ⟨w46, hw⟩ : ∃ W, (((w45.setCell ⟨X23, 0, none⟩ (.bool r1.1)).setCell ⟨X23, 1, none⟩ (.string r1.2.1)).setCell ⟨X23, 2, none⟩ (.string r1.2.2)) = W := ⟨_, rfl⟩
                rw [hw] at H46
                rw [hw]
                clear hw
                refine hK.out _ _ (HSS.out _ _ _ (by simp) H46.out) (fun hHeld => ?_)
                clear hK K
                try simp only [List.getElem_toArray, List.getElem_cons_zero, List.getElem_cons_succ, List.get, Act.put, List.setIfInBounds_toArray, List.set_cons_zero, List.set_cons_succ]
                have H46s := hide H46.out.swap
                clear H46
                have H46 := H46s
                clear H46s
                obtain ⟨l0, l1, l2, f0, f1, f2⟩ := (H46.out.rc (X24, (false, ⟨#[]⟩, ⟨#[]⟩)) (by simp)).1
                dsimp only at l0 l1 l2 f0 f1 f2
                have H47 := hide (H46.out.store r2)
                clear H46
                refine wpAnyH_ready (rs := [11]) (by kernel_rfl) (by simp) ?_
                refine AllReadyH.cons (o := _) rfl (fun K hK => ?_) AllReadyH.nil
                go_simp
                clear l0 l1 l2 f0 f1 f2
                obtain ⟨w47, hw⟩ : ∃ W, (((w46.setCell ⟨X24, 0, none⟩ (.bool r2.1)).setCell ⟨X24, 1, none⟩ (.string r2.2.1)).setCell ⟨X24, 2, none⟩ (.string r2.2.2)) = W := ⟨_, rfl⟩
                rw [hw] at H47
                rw [hw]
                clear hw
                refine hK.out _ _ (HSS.out _ _ _ (by simp) H47.out) (fun hHeld => ?_)
                clear hK K
                try simp only [List.getElem_toArray, List.getElem_cons_zero, List.getElem_cons_succ, List.get, Act.put, List.setIfInBounds_toArray, List.set_cons_zero, List.set_cons_succ]
                refine wpAnyH_done (by kernel_rfl) ?_ _
                refine NoPanic.normal ?_
                go_wp2_with fail
                go_meet
                exact ⟨X23, X24, r1, r2, _, rfl, rfl, T_r1.out, T_r2.out, (fun h => by simp only [Bool.or_eq_false_iff] at h ⊢; simp [h]), H47.out⟩
              · skip
                have H48 := hide (H43.out.box (false, ⟨#[]⟩, ⟨#[]⟩) 29)
                clear H43
                go_simp
                change Hid (LS w (w43.alloc (.cells #[.bool false, .string ⟨#[]⟩, .string ⟨#[]⟩] 29)) _ _ _) at H48
                obtain ⟨w48, hw⟩ : ∃ W, w43.alloc (.cells #[.bool false, .string ⟨#[]⟩, .string ⟨#[]⟩] 29) = W := ⟨_, rfl⟩
                obtain ⟨X23, hX⟩ : ∃ A, w43.heap.size = A := ⟨_, rfl⟩
                rw [hw, hX] at H48
                rw [hw, hX]
                clear hw hX
                refine hK.out _ _ (HSS.out _ _ _ (by simp) H48.out) (fun hHeld => ?_)
                clear hK K
                try simp only [List.getElem_toArray, List.getElem_cons_zero, List.getElem_cons_succ, List.get, Act.put, List.setIfInBounds_toArray, List.set_cons_zero, List.set_cons_succ]
                refine wpAnyH_ready (rs := [7]) (by kernel_rfl) (by simp) ?_
                refine AllReadyH.cons (o := _) rfl (fun K hK => ?_) AllReadyH.nil
                go_simp
                refine (l46_add C HT3.out HT4.out _ _ (HL.out.below H48.out.bel) H48.out.cf).mono ?_
                rintro e w49 ⟨r2, rfl, ht, hc, hg⟩
                have T_r2 := hide ht
                clear ht
                have H49 := hide (H48.out.grown hg hc)
                clear H48 hg hc
                refine hK.out _ _ (HSS.out _ _ _ (by simp) H49.out) (fun hHeld => ?_)
                clear hK K
                try simp only [List.getElem_toArray, List.getElem_cons_zero, List.getElem_cons_succ, List.get, Act.put, List.setIfInBounds_toArray, List.set_cons_zero, List.set_cons_succ]
                obtain ⟨l0, l1, l2, f0, f1, f2⟩ := (H49.out.rc (X23, (false, ⟨#[]⟩, ⟨#[]⟩)) (by simp)).1
                dsimp only at l0 l1 l2 f0 f1 f2
                have H50 := hide (H49.out.store r1)
                clear H49
                refine wpAnyH_ready (rs := [10]) (by kernel_rfl) (by simp) ?_
                refine AllReadyH.cons (o := _) rfl (fun K hK => ?_) AllReadyH.nil
                go_simp
                clear l0 l1 l2 f0 f1 f2
                obtain ⟨w50, hw⟩ : ∃ W, (((w49.setCell ⟨X23, 0, none⟩ (.bool r1.1)).setCell ⟨X23, 1, none⟩ (.string r1.2.1)).setCell ⟨X23, 2, none⟩ (.string r1.2.2)) = W := ⟨_, rfl⟩
                rw [hw] at H50
                rw [hw]
                clear hw
                refine hK.out _ _ (HSS.out _ _ _ (by simp) H50.out) (fun hHeld => ?_)
                clear hK K
                try simp only [List.getElem_toArray, List.getElem_cons_zero, List.getElem_cons_succ, List.get, Act.put, List.setIfInBounds_toArray, List.set_cons_zero, List.set_cons_succ]
                have H50s := hide H50.out.swap
                clear H50
                have H50 := H50s
                clear H50s
                obtain ⟨l0, l1, l2, f0, f1, f2⟩ := (H50.out.rc (X24, (false, ⟨#[]⟩, ⟨#[]⟩)) (by simp)).1
                dsimp only at l0 l1 l2 f0 f1 f2
                have H51 := hide (H50.out.store r2)
                clear H50
                refine wpAnyH_ready (rs := [11]) (by kernel_rfl) (by simp) ?_
                refine AllReadyH.cons (o := _) rfl (fun K hK => ?_) AllReadyH.nil
                go_simp
                clear l0 l1 l2 f0 f1 f2
                obtain ⟨w51, hw⟩ : ∃ W, (((w50.setCell ⟨X24, 0, none⟩ (.bool r2.1)).setCell ⟨X24, 1, none⟩ (.string r2.2.1)).setCell ⟨X24, 2, none⟩ (.string r2.2.2)) = W := ⟨_, rfl⟩
                rw [hw] at H51
                rw [hw]
                clear hw
                refine hK.out _ _ (HSS.out _ _ _ (by simp) H51.out) (fun hHeld => ?_)
                clear hK K
                try simp only [List.getElem_toArray, List.getElem_cons_zero, List.getElem_cons_succ, List.get, Act.put, List.setIfInBounds_toArray, List.set_cons_zero, List.set_cons_succ]
                refine wpAnyH_done (by kernel_rfl) ?_ _
                refine NoPanic.normal ?_
                go_wp2_with fail
                go_meet
                exact ⟨X23, X24, r1, r2, _, rfl, rfl, T_r1.out, T_r2.out, (fun h => by simp only [Bool.or_eq_false_iff] at h ⊢; simp [h]), H51.out⟩
      · as_aux_lemma =>
          have H52 := hide (H23.out.box (false, ⟨#[]⟩, ⟨#[]⟩) 29)
          clear H23
          go_simp
          change Hid (LS w (w23.alloc (.cells #[.bool false, .string ⟨#[]⟩, .string ⟨#[]⟩] 29)) _ _ _) at H52
          obtain ⟨w52, hw⟩ : ∃ W, w23.alloc (.cells #[.bool false, .string ⟨#[]⟩, .string ⟨#[]⟩] 29) = W := ⟨_, rfl⟩
          obtain ⟨X23, hX⟩ : ∃ A, w23.heap.size = A := ⟨_, rfl⟩
          rw [hw, hX] at H52
          rw [hw, hX]
          clear hw hX
          refine hK.out _ _ (HSS.out _ _ _ (by simp) H52.out) (fun hHeld => ?_)
          clear hK K
          try simp only [List.getElem_toArray, List.getElem_cons_zero, List.getElem_cons_succ, List.get, Act.put, List.setIfInBounds_toArray, List.set_cons_zero, List.set_cons_succ]
          refine wpAnyH_ready (rs := [3, 9]) (by kernel_rfl) (by simp) ?_
          refine AllReadyH.cons (o := _) rfl (fun K hK => ?_) (AllReadyH.cons (o := _) rfl (fun K hK => ?_) AllReadyH.nil)
          · as_aux_lemma =>
              go_simp
              refine (l46_add C HT1.out HT2.out _ _ (HL.out.below H52.out.bel) H52.out.cf).mono ?_
              rintro e w53 ⟨r1, rfl, ht, hc, hg⟩
              have T_r1 := hide ht
              clear ht
              have H53 := hide (H52.out.grown hg hc)
              clear H52 hg hc
              refine hK.out _ _ (HSS.out _ _ _ (by simp) H53.out) (fun hHeld => ?_)
              clear hK K
              try simp only [List.getElem_toArray, List.getElem_cons_zero, List.getElem_cons_succ, List.get, Act.put, List.setIfInBounds_toArray, List.set_cons_zero, List.set_cons_succ]
              refine wpAnyH_ready (rs := [7, 9]) (by kernel_rfl) (by simp) ?_
              refine AllReadyH.cons (o := _) rfl (fun K hK => ?_) (AllReadyH.cons (o := _) rfl (fun K hK => ?_) AllReadyH.nil)
              · skip
                go_simp
                refine (l46_add C HT3.out HT4.out _ _ (HL.out.below H53.out.bel) H53.out.cf).mono ?_
                rintro e w54 ⟨r2, rfl, ht, hc, hg⟩
                have T_r2 := hide ht
                clear ht
                have H54 := hide (H53.out.grown hg hc)
                clear H53 hg hc
                refine hK.out _ _ (HSS.out _ _ _ (by simp) H54.out) (fun hHeld => ?_)
                clear hK K
                try simp only [List.getElem_toArray, List.getElem_cons_zero, List.getElem_cons_succ, List.get, Act.put, List.setIfInBounds_toArray, List.set_cons_zero, List.set_cons_succ]
                refine wpAnyH_ready (rs := [9]) (by kernel_rfl) (by simp) ?_
                refine AllReadyH.cons (o := _) rfl (fun K hK => ?_) AllReadyH.nil
                have H55 := hide (H54.out.box (false, ⟨#[]⟩, ⟨#[]⟩) 29)
                clear H54
                go_simp
                change Hid (LS w (w54.alloc (.cells #[.bool false, .string ⟨#[]⟩, .string ⟨#[]⟩] 29)) _ _ _) at H55
                obtain ⟨w55, hw⟩ : ∃ W, w54.alloc (.cells #[.bool false, .string ⟨#[]⟩, .string ⟨#[]⟩] 29) = W := ⟨_, rfl⟩
                obtain ⟨X24, hX⟩ : ∃ A, w54.heap.size = A := ⟨_, rfl⟩
                rw [hw, hX] at H55
                rw [hw, hX]
                clear hw hX
                refine hK.out _ _ (HSS.out _ _ _ (by simp) H55.out) (fun hHeld => ?_)
                clear hK K
                try simp only [List.getElem_toArray, List.getElem_cons_zero, List.getElem_cons_succ, List.get, Act.put, List.setIfInBounds_toArray, List.set_cons_zero, List.set_cons_succ]
                have H55s := hide H55.out.swap
                clear H55
                have H55 := H55s
                clear H55s
                obtain ⟨l0, l1, l2, f0, f1, f2⟩ := (H55.out.rc (X23, (false, ⟨#[]⟩, ⟨#[]⟩)) (by simp)).1
                dsimp only at l0 l1 l2 f0 f1 f2
                have H56 := hide (H55.out.store r1)
                clear H55
                refine wpAnyH_ready (rs := [10]) (by kernel_rfl) (by simp) ?_
                refine AllReadyH.cons (o := _) rfl (fun K hK => ?_) AllReadyH.nil
                go_simp
                clear l0 l1 l2 f0 f1 f2
                obtain ⟨w56, hw⟩ : ∃ W, (((w55.setCell ⟨X23, 0, none⟩ (.bool r1.1)).setCell ⟨X23, 1, none⟩ (.string r1.2.1)).setCell ⟨X23, 2, none⟩ (.string r1.2.2)) = W := ⟨_, rfl⟩
                rw [hw] at H56
                rw [hw]
                clear hw
                refine hK.out _ _ (HSS.out _ _ _ (by simp) H56.out) (fun hHeld => ?_)
                clear hK K
                try simp only [List.getElem_toArray, List.getElem_cons_zero, List.getElem_cons_succ, List.get, Act.put, List.setIfInBounds_toArray, List.set_cons_zero, List.set_cons_succ]
                have H56s := hide H56.out.swap
                clear H56
                have H56 := H56s
                clear H56s
                obtain ⟨l0, l1, l2, f0, f1, f2⟩ := (H56.out.rc (X24, (false, ⟨#[]⟩, ⟨#[]⟩)) (by simp)).1
                dsimp only at l0 l1 l2 f0 f1 f2
                have H57 := hide (H56.out.store r2)
                clear H56
                refine wpAnyH_ready (rs := [11]) (by kernel_rfl) (by simp) ?_
                refine AllReadyH.cons (o := _) rfl (fun K hK => ?_) AllReadyH.nil
                go_simp
                clear l0 l1 l2 f0 f1 f2
                obtain ⟨w57, hw⟩ : ∃ W, (((w56.setCell ⟨X24, 0, none⟩ (.bool r2.1)).setCell ⟨X24, 1, none⟩ (.string r2.2.1)).setCell ⟨X24, 2, none⟩ (.string r2.2.2)) = W := ⟨_, rfl⟩
                rw [hw] at H57
                rw [hw]
                clear hw
                refine hK.out _ _ (HSS.out _ _ _ (by simp) H57.out) (fun hHeld => ?_)
                clear hK K
                try simp only [List.getElem_toArray, List.getElem_cons_zero, List.getElem_cons_succ, List.get, Act.put, List.setIfInBounds_toArray, List.set_cons_zero, List.set_cons_succ]
                refine wpAnyH_done (by kernel_rfl) ?_ _
                refine NoPanic.normal ?_
                go_wp2_with fail
                go_meet
                exact ⟨X23, X24, r1, r2, _, rfl, rfl, T_r1.out, T_r2.out, (fun h => by simp only [Bool.or_eq_false_iff] at h ⊢; simp [h]), H57.out⟩
              · skip
                have H58 := hide (H53.out.box (false, ⟨#[]⟩, ⟨#[]⟩) 29)
                clear H53
                go_simp
                change Hid (LS w (w53.alloc (.cells #[.bool false, .string ⟨#[]⟩, .string ⟨#[]⟩] 29)) _ _ _) at H58
                obtain ⟨w58, hw⟩ : ∃ W, w53.alloc (.cells #[.bool false, .string ⟨#[]⟩, .string ⟨#[]⟩] 29) = W := ⟨_, rfl⟩
                obtain ⟨X24, hX⟩ : ∃ A, w53.heap.size = A := ⟨_, rfl⟩
                rw [hw, hX] at H58
                rw [hw, hX]
                clear hw hX
                refine hK.out _ _ (HSS.out _ _ _ (by simp) H58.out) (fun hHeld => ?_)
                clear hK K
                try simp only [List.getElem_toArray, List.getElem_cons_zero, List.getElem_cons_succ, List.get, Act.put, List.setIfInBounds_toArray, List.set_cons_zero, List.set_cons_succ]
                refine wpAnyH_ready (rs := [7]) (by kernel_rfl) (by simp) ?_
                refine AllReadyH.cons (o := _) rfl (fun K hK => ?_) AllReadyH.nil
                go_simp
                refine (l46_add C HT3.out HT4.out _ _ (HL.out.below H58.out.bel) H58.out.cf).mono ?_
                rintro e w59 ⟨r2, rfl, ht, hc, hg⟩
                have T_r2 := hide ht
                clear ht
                have H59 := hide (H58.out.grown hg hc)
                clear H58 hg hc
                refine hK.out _ _ (HSS.out _ _ _ (by simp) H59.out) (fun hHeld => ?_)
                clear hK K
                try simp only [List.getElem_toArray, List.getElem_cons_zero, List.getElem_cons_succ, List.get, Act.put, List.setIfInBounds_toArray, List.set_cons_zero, List.set_cons_succ]
                have H59s := hide H59.out.swap
                clear H59
                have H59 := H59s
                clear H59s
                obtain ⟨l0, l1, l2, f0, f1, f2⟩ := (H59.out.rc (X23, (false, ⟨#[]⟩, ⟨#[]⟩)) (by simp)).1
                dsimp only at l0 l1 l2 f0 f1 f2
                have H60 := hide (H59.out.store r1)
                clear H59
                refine wpAnyH_ready (rs := [10]) (by kernel_rfl) (by simp) ?_
                refine AllReadyH.cons (o := _) rfl (fun K hK => ?_) AllReadyH.nil
                go_simp
                clear l0 l1 l2 f0 f1 f2
                obtain ⟨w60, hw⟩ : ∃ W, (((w59.setCell ⟨X23, 0, none⟩ (.bool r1.1)).setCell ⟨X23, 1, none⟩ (.string r1.2.1)).setCell ⟨X23, 2, none⟩ (.string r1.2.2)) = W := ⟨_, rfl⟩
                rw [hw] at H60
                rw [hw]
                clear hw
                refine hK.out _ _ (HSS.out _ _ _ (by simp) H60.out) (fun hHeld => ?_)
                clear hK K
                try simp only [List.getElem_toArray, List.getElem_cons_zero, List.getElem_cons_succ, List.get, Act.put, List.setIfInBounds_toArray, List.set_cons_zero, List.set_cons_succ]
                have H60s := hide H60.out.swap
                clear H60
                have H60 := H60s
                clear H60s
                obtain ⟨l0, l1, l2, f0, f1, f2⟩ := (H60.out.rc (X24, (false, ⟨#[]⟩, ⟨#[]⟩)) (by simp)).1
                dsimp only at l0 l1 l2 f0 f1 f2
                have H61 := hide (H60.out.store r2)
                clear H60
                refine wpAnyH_ready (rs := [11]) (by kernel_rfl) (by simp) ?_
                refine AllReadyH.cons (o := _) rfl (fun K hK => ?_) AllReadyH.nil
                go_simp
                clear l0 l1 l2 f0 f1 f2
                obtain ⟨w61, hw⟩ : ∃ W, (((w60.setCell ⟨X24, 0, none⟩ (.bool r2.1)).setCell ⟨X24, 1, none⟩ (.string r2.2.1)).setCell ⟨X24, 2, none⟩ (.string r2.2.2)) = W := ⟨_, rfl⟩
                rw [hw] at H61
                rw [hw]
                clear hw
                refine hK.out _ _ (HSS.out _ _ _ (by simp) H61.out) (fun hHeld => ?_)
                clear hK K
                try simp only [List.getElem_toArray, List.getElem_cons_zero, List.getElem_cons_succ, List.get, Act.put, List.setIfInBounds_toArray, List.set_cons_zero, List.set_cons_succ]
                refine wpAnyH_done (by kernel_rfl) ?_ _
                refine NoPanic.normal ?_
                go_wp2_with fail
                go_meet
                exact ⟨X23, X24, r1, r2, _, rfl, rfl, T_r1.out, T_r2.out, (fun h => by simp only [Bool.or_eq_false_iff] at h ⊢; simp [h]), H61.out⟩
          · as_aux_lemma =>
              have H62 := hide (H52.out.box (false, ⟨#[]⟩, ⟨#[]⟩) 29)
              clear H52
              go_simp
              change Hid (LS w (w52.alloc (.cells #[.bool false, .string ⟨#[]⟩, .string ⟨#[]⟩] 29)) _ _ _) at H62
              obtain ⟨w62, hw⟩ : ∃ W, w52.alloc (.cells #[.bool false, .string ⟨#[]⟩, .string ⟨#[]⟩] 29) = W := ⟨_, rfl⟩
              obtain ⟨X24, hX⟩ : ∃ A, w52.heap.size = A := ⟨_, rfl⟩
              rw [hw, hX] at H62
              rw [hw, hX]
              clear hw hX
              refine hK.out _ _ (HSS.out _ _ _ (by simp) H62.out) (fun hHeld => ?_)
              clear hK K
              try simp only [List.getElem_toArray, List.getElem_cons_zero, List.getElem_cons_succ, List.get, Act.put, List.setIfInBounds_toArray, List.set_cons_zero, List.set_cons_succ]
              refine wpAnyH_ready (rs := [3]) (by kernel_rfl) (by simp) ?_
              refine AllReadyH.cons (o := _) rfl (fun K hK => ?_) AllReadyH.nil
              go_simp
              refine (l46_add C HT1.out HT2.out _ _ (HL.out.below H62.out.bel) H62.out.cf).mono ?_
              rintro e w63 ⟨r1, rfl, ht, hc, hg⟩
              have T_r1 := hide ht
              clear ht
              have H63 := hide (H62.out.grown hg hc)
              clear H62 hg hc
              refine hK.out _ _ (HSS.out _ _ _ (by simp) H63.out) (fun hHeld => ?_)
              clear hK K
              try simp only [List.getElem_toArray, List.getElem_cons_zero, List.getElem_cons_succ, List.get, Act.put, List.setIfInBounds_toArray, List.set_cons_zero, List.set_cons_succ]
              refine wpAnyH_ready (rs := [7]) (by kernel_rfl) (by simp) ?_
              refine AllReadyH.cons (o := _) rfl (fun K hK => ?_) AllReadyH.nil
              go_simp
              refine (l46_add C HT3.out HT4.out _ _ (HL.out.below H63.out.bel) H63.out.cf).mono ?_
              rintro e w64 ⟨r2, rfl, ht, hc, hg⟩
              have T_r2 := hide ht
              clear ht
              have H64 := hide (H63.out.grown hg hc)
              clear H63 hg hc
              refine hK.out _ _ (HSS.out _ _ _ (by simp) H64.out) (fun hHeld => ?_)
              clear hK K
              try simp only [List.getElem_toArray, List.getElem_cons_zero, List.getElem_cons_succ, List.get, Act.put, List.setIfInBounds_toArray, List.set_cons_zero, List.set_cons_succ]
              have H64s := hide H64.out.swap
              clear H64
              have H64 := H64s
              clear H64s
              obtain ⟨l0, l1, l2, f0, f1, f2⟩ := (H64.out.rc (X23, (false, ⟨#[]⟩, ⟨#[]⟩)) (by simp)).1
              dsimp only at l0 l1 l2 f0 f1 f2
              have H65 := hide (H64.out.store r1)
              clear H64
              refine wpAnyH_ready (rs := [10]) (by kernel_rfl) (by simp) ?_
              refine AllReadyH.cons (o := _) rfl (fun K hK => ?_) AllReadyH.nil
              go_simp
              clear l0 l1 l2 f0 f1 f2
              obtain ⟨w65, hw⟩ : ∃ W, (((w64.setCell ⟨X23, 0, none⟩ (.bool r1.1)).setCell ⟨X23, 1, none⟩ (.string r1.2.1)).setCell ⟨X23, 2, none⟩ (.string r1.2.2)) = W := ⟨_, rfl⟩
              rw [hw] at H65
              rw [hw]
              clear hw
              refine hK.out _ _ (HSS.out _ _ _ (by simp) H65.out) (fun hHeld => ?_)
              clear hK K
              try simp only [List.getElem_toArray, List.getElem_cons_zero, List.getElem_cons_succ, List.get, Act.put, List.setIfInBounds_toArray, List.set_cons_zero, List.set_cons_succ]
              have H65s := hide H65.out.swap
              clear H65
              have H65 := H65s
              clear H65s
              obtain ⟨l0, l1, l2, f0, f1, f2⟩ := (H65.out.rc (X24, (false, ⟨#[]⟩, ⟨#[]⟩)) (by simp)).1
              dsimp only at l0 l1 l2 f0 f1 f2
              have H66 := hide (H65.out.store r2)
              clear H65
              refine wpAnyH_ready (rs := [11]) (by kernel_rfl) (by simp) ?_
              refine AllReadyH.cons (o := _) rfl (fun K hK => ?_) AllReadyH.nil
              go_simp
              clear l0 l1 l2 f0 f1 f2
              obtain ⟨w66, hw⟩ : ∃ W, (((w65.setCell ⟨X24, 0, none⟩ (.bool r2.1)).setCell ⟨X24, 1, none⟩ (.string r2.2.1)).setCell ⟨X24, 2, none⟩ (.string r2.2.2)) = W := ⟨_, rfl⟩
              rw [hw] at H66
              rw [hw]
              clear hw
              refine hK.out _ _ (HSS.out _ _ _ (by simp) H66.out) (fun hHeld => ?_)
              clear hK K
              try simp only [List.getElem_toArray, List.getElem_cons_zero, List.getElem_cons_succ, List.get, Act.put, List.setIfInBounds_toArray, List.set_cons_zero, List.set_cons_succ]
              refine wpAnyH_done (by kernel_rfl) ?_ _
              refine NoPanic.normal ?_
              go_wp2_with fail
              go_meet
              exact ⟨X23, X24, r1, r2, _, rfl, rfl, T_r1.out, T_r2.out, (fun h => by simp only [Bool.or_eq_false_iff] at h ⊢; simp [h]), H66.out⟩
      · as_aux_lemma =>
          have H67 := hide (H23.out.box (false, ⟨#[]⟩, ⟨#[]⟩) 29)
          clear H23
          go_simp
          change Hid (LS w (w23.alloc (.cells #[.bool false, .string ⟨#[]⟩, .string ⟨#[]⟩] 29)) _ _ _) at H67
          obtain ⟨w67, hw⟩ : ∃ W, w23.alloc (.cells #[.bool false, .string ⟨#[]⟩, .string ⟨#[]⟩] 29) = W := ⟨_, rfl⟩
          obtain ⟨X24, hX⟩ : ∃ A, w23.heap.size = A := ⟨_, rfl⟩
          rw [hw, hX] at H67
          rw [hw, hX]
          clear hw hX
          refine hK.out _ _ (HSS.out _ _ _ (by simp) H67.out) (fun hHeld => ?_)
          clear hK K
          try simp only [List.getElem_toArray, List.getElem_cons_zero, List.getElem_cons_succ, List.get, Act.put, List.setIfInBounds_toArray, List.set_cons_zero, List.set_cons_succ]
          refine wpAnyH_ready (rs := [3, 8]) (by kernel_rfl) (by simp) ?_
          refine AllReadyH.cons (o := _) rfl (fun K hK => ?_) (AllReadyH.cons (o := _) rfl (fun K hK => ?_) AllReadyH.nil)
          · as_aux_lemma =>
              go_simp
              refine (l46_add C HT1.out HT2.out _ _ (HL.out.below H67.out.bel) H67.out.cf).mono ?_
              rintro e w68 ⟨r1, rfl, ht, hc, hg⟩
              have T_r1 := hide ht
              clear ht
              have H68 := hide (H67.out.grown hg hc)
              clear H67 hg hc
              refine hK.out _ _ (HSS.out _ _ _ (by simp) H68.out) (fun hHeld => ?_)
              clear hK K
              try simp only [List.getElem_toArray, List.getElem_cons_zero, List.getElem_cons_succ, List.get, Act.put, List.setIfInBounds_toArray, List.set_cons_zero, List.set_cons_succ]
              refine wpAnyH_ready (rs := [7, 8]) (by kernel_rfl) (by simp) ?_
              refine AllReadyH.cons (o := _) rfl (fun K hK => ?_) (AllReadyH.cons (o := _) rfl (fun K hK => ?_) AllReadyH.nil)
              · skip
                go_simp
                refine (l46_add C HT3.out HT4.out _ _ (HL.out.below H68.out.bel) H68.out.cf).mono ?_
                rintro e w69 ⟨r2, rfl, ht, hc, hg⟩
                have T_r2 := hide ht
                clear ht
                have H69 := hide (H68.out.grown hg hc)
                clear H68 hg hc
                refine hK.out _ _ (HSS.out _ _ _ (by simp) H69.out) (fun hHeld => ?_)
                clear hK K
                try simp only [List.getElem_toArray, List.getElem_cons_zero, List.getElem_cons_succ, List.get, Act.put, List.setIfInBounds_toArray, List.set_cons_zero, List.set_cons_succ]
                refine wpAnyH_ready (rs := [8]) (by kernel_rfl) (by simp) ?_
                refine AllReadyH.cons (o := _) rfl (fun K hK => ?_) AllReadyH.nil
                have H70 := hide (H69.out.box (false, ⟨#[]⟩, ⟨#[]⟩) 29)
                clear H69
                go_simp
                change Hid (LS w (w69.alloc (.cells #[.bool false, .string ⟨#[]⟩, .string ⟨#[]⟩] 29)) _ _ _) at H70
                obtain ⟨w70, hw⟩ : ∃ W, w69.alloc (.cells #[.bool false, .string ⟨#[]⟩, .string ⟨#[]⟩] 29) = W := ⟨_, rfl⟩
                obtain ⟨X23, hX⟩ : ∃ A, w69.heap.size = A := ⟨_, rfl⟩
                rw [hw, hX] at H70
                rw [hw, hX]
                clear hw hX
                refine hK.out _ _ (HSS.out _ _ _ (by simp) H70.out) (fun hHeld => ?_)
                clear hK K
                try simp only [List.getElem_toArray, List.getElem_cons_zero, List.getElem_cons_succ, List.get, Act.put, List.setIfInBounds_toArray, List.set_cons_zero, List.set_cons_succ]
                obtain ⟨l0, l1, l2, f0, f1, f2⟩ := (H70.out.rc (X23, (false, ⟨#[]⟩, ⟨#[]⟩)) (by simp)).1
                dsimp only at l0 l1 l2 f0 f1 f2
                have H71 := hide (H70.out.store r1)
                clear H70
                refine wpAnyH_ready (rs := [10]) (by kernel_rfl) (by simp) ?_
                refine AllReadyH.cons (o := _) rfl (fun K hK => ?_) AllReadyH.nil
                go_simp
                clear l0 l1 l2 f0 f1 f2
                obtain ⟨w71, hw⟩ : ∃ W, (((w70.setCell ⟨X23, 0, none⟩ (.bool r1.1)).setCell ⟨X23, 1, none⟩ (.string r1.2.1)).setCell ⟨X23, 2, none⟩ (.string r1.2.2)) = W := ⟨_, rfl⟩
                rw [hw] at H71
                rw [hw]
                clear hw
                refine hK.out _ _ (HSS.out _ _ _ (by simp) H71.out) (fun hHeld => ?_)
                clear hK K
                try simp only [List.getElem_toArray, List.getElem_cons_zero, List.getElem_cons_succ, List.get, Act.put, List.setIfInBounds_toArray, List.set_cons_zero, List.set_cons_succ]
                have H71s := hide H71.out.swap
                clear H71
                have H71 := H71s
                clear H71s
                obtain ⟨l0, l1, l2, f0, f1, f2⟩ := (H71.out.rc (X24, (false, ⟨#[]⟩, ⟨#[]⟩)) (by simp)).1
                dsimp only at l0 l1 l2 f0 f1 f2
                have H72 := hide (H71.out.store r2)
                clear H71
                refine wpAnyH_ready (rs := [11]) (by kernel_rfl) (by simp) ?_
                refine AllReadyH.cons (o := _) rfl (fun K hK => ?_) AllReadyH.nil
                go_simp
                clear l0 l1 l2 f0 f1 f2
                obtain ⟨w72, hw⟩ : ∃ W, (((w71.setCell ⟨X24, 0, none⟩ (.bool r2.1)).setCell ⟨X24, 1, none⟩ (.string r2.2.1)).setCell ⟨X24, 2, none⟩ (.string r2.2.2)) = W := ⟨_, rfl⟩
                rw [hw] at H72
                rw [hw]
                clear hw
                refine hK.out _ _ (HSS.out _ _ _ (by simp) H72.out) (fun hHeld => ?_)
                clear hK K
                try simp only [List.getElem_toArray, List.getElem_cons_zero, List.getElem_cons_succ, List.get, Act.put, List.setIfInBounds_toArray, List.set_cons_zero, List.set_cons_succ]
                refine wpAnyH_done (by kernel_rfl) ?_ _
                refine NoPanic.normal ?_
                go_wp2_with fail
                go_meet
                exact ⟨X23, X24, r1, r2, _, rfl, rfl, T_r1.out, T_r2.out, (fun h => by simp only [Bool.or_eq_false_iff] at h ⊢; simp [h]), H72.out⟩
              · skip
                have H73 := hide (H68.out.box (false, ⟨#[]⟩, ⟨#[]⟩) 29)
                clear H68
                go_simp
                change Hid (LS w (w68.alloc (.cells #[.bool false, .string ⟨#[]⟩, .string ⟨#[]⟩] 29)) _ _ _) at H73
                obtain ⟨w73, hw⟩ : ∃ W, w68.alloc (.cells #[.bool false, .string ⟨#[]⟩, .string ⟨#[]⟩] 29) = W := ⟨_, rfl⟩
                obtain ⟨X23, hX⟩ : ∃ A, w68.heap.size = A := ⟨_, rfl⟩
                rw [hw, hX] at H73
                rw [hw, hX]
                clear hw hX
                refine hK.out _ _ (HSS.out _ _ _ (by simp) H73.out) (fun hHeld => ?_)
                clear hK K
                try simp only [List.getElem_toArray, List.getElem_cons_zero, List.getElem_cons_succ, List.get, Act.put, List.setIfInBounds_toArray, List.set_cons_zero, List.set_cons_succ]
                refine wpAnyH_ready (rs := [7]) (by kernel_rfl) (by simp) ?_
                refine AllReadyH.cons (o := _) rfl (fun K hK => ?_) AllReadyH.nil
                go_simp
                refine (l46_add C HT3.out HT4.out _ _ (HL.out.below H73.out.bel) H73.out.cf).mono ?_
                rintro e w74 ⟨r2, rfl, ht, hc, hg⟩
                have T_r2 := hide ht
                clear ht
                have H74 := hide (H73.out.grown hg hc)
                clear H73 hg hc
                refine hK.out _ _ (HSS.out _ _ _ (by simp) H74.out) (fun hHeld => ?_)
                clear hK K
                try simp only [List.getElem_toArray, List.getElem_cons_zero, List.getElem_cons_succ, List.get, Act.put, List.setIfInBounds_toArray, List.set_cons_zero, List.set_cons_succ]
                obtain ⟨l0, l1, l2, f0, f1, f2⟩ := (H74.out.rc (X23, (false, ⟨#[]⟩, ⟨#[]⟩)) (by simp)).1
                dsimp only at l0 l1 l2 f0 f1 f2
                have H75 := hide (H74.out.store r1)
                clear H74
                refine wpAnyH_ready (rs := [10]) (by kernel_rfl) (by simp) ?_
                refine AllReadyH.cons (o := _) rfl (fun K hK => ?_) AllReadyH.nil
                go_simp
                clear l0 l1 l2 f0 f1 f2
                obtain ⟨w75, hw⟩ : ∃ W, (((w74.setCell ⟨X23, 0, none⟩ (.bool r1.1)).setCell ⟨X23, 1, none⟩ (.string r1.2.1)).setCell ⟨X23, 2, none⟩ (.string r1.2.2)) = W := ⟨_, rfl⟩
                rw [hw] at H75
                rw [hw]
                clear hw
                refine hK.out _ _ (HSS.out _ _ _ (by simp) H75.out) (fun hHeld => ?_)
                clear hK K
                try simp only [List.getElem_toArray, List.getElem_cons_zero, List.getElem_cons_succ, List.get, Act.put, List.setIfInBounds_toArray, List.set_cons_zero, List.set_cons_succ]
                have H75s := hide H75.out.swap
                clear H75
                have H75 := H75s
                clear H75s
                obtain ⟨l0, l1, l2, f0, f1, f2⟩ := (H75.out.rc (X24, (false, ⟨#[]⟩, ⟨#[]⟩)) (by simp)).1
                dsimp only at l0 l1 l2 f0 f1 f2
                have H76 := hide (H75.out.store r2)
                clear H75
                refine wpAnyH_ready (rs := [11]) (by kernel_rfl) (by simp) ?_
                refine AllReadyH.cons (o := _) rfl (fun K hK => ?_) AllReadyH.nil
                go_simp
                clear l0 l1 l2 f0 f1 f2
                obtain ⟨w76, hw⟩ : ∃ W, (((w75.setCell ⟨X24, 0, none⟩ (.bool r2.1)).setCell ⟨X24, 1, none⟩ (.string r2.2.1)).setCell ⟨X24, 2, none⟩ (.string r2.2.2)) = W := ⟨_, rfl⟩
                rw [hw] at H76
                rw [hw]
                clear hw
                refine hK.out _ _ (HSS.out _ _ _ (by simp) H76.out) (fun hHeld => ?_)
                clear hK K
                try simp only [List.getElem_toArray, List.getElem_cons_zero, List.getElem_cons_succ, List.get, Act.put, List.setIfInBounds_toArray, List.set_cons_zero, List.set_cons_succ]
                refine wpAnyH_done (by kernel_rfl) ?_ _
                refine NoPanic.normal ?_
                go_wp2_with fail
                go_meet
                exact ⟨X23, X24, r1, r2, _, rfl, rfl, T_r1.out, T_r2.out, (fun h => by simp only [Bool.or_eq_false_iff] at h ⊢; simp [h]), H76.out⟩
          · as_aux_lemma =>
              have H77 := hide (H67.out.box (false, ⟨#[]⟩, ⟨#[]⟩) 29)
              clear H67
              go_simp
              change Hid (LS w (w67.alloc (.cells #[.bool false, .string ⟨#[]⟩, .string ⟨#[]⟩] 29)) _ _ _) at H77
              obtain ⟨w77, hw⟩ : ∃ W, w67.alloc (.cells #[.bool false, .string ⟨#[]⟩, .string ⟨#[]⟩] 29) = W := ⟨_, rfl⟩
              obtain ⟨X23, hX⟩ : ∃ A, w67.heap.size = A := ⟨_, rfl⟩
              rw [hw, hX] at H77
              rw [hw, hX]
              clear hw hX
              refine hK.out _ _ (HSS.out _ _ _ (by simp) H77.out) (fun hHeld => ?_)
              clear hK K
              try simp only [List.getElem_toArray, List.getElem_cons_zero, List.getElem_cons_succ, List.get, Act.put, List.setIfInBounds_toArray, List.set_cons_zero, List.set_cons_succ]
              refine wpAnyH_ready (rs := [3]) (by kernel_rfl) (by simp) ?_
              refine AllReadyH.cons (o := _) rfl (fun K hK => ?_) AllReadyH.nil
              go_simp
              refine (l46_add C HT1.out HT2.out _ _ (HL.out.below H77.out.bel) H77.out.cf).mono ?_
              rintro e w78 ⟨r1, rfl, ht, hc, hg⟩
              have T_r1 := hide ht
              clear ht
              have H78 := hide (H77.out.grown hg hc)
              clear H77 hg hc
              refine hK.out _ _ (HSS.out _ _ _ (by simp) H78.out) (fun hHeld => ?_)
              clear hK K
              try simp only [List.getElem_toArray, List.getElem_cons_zero, List.getElem_cons_succ, List.get, Act.put, List.setIfInBounds_toArray, List.set_cons_zero, List.set_cons_succ]
              refine wpAnyH_ready (rs := [7]) (by kernel_rfl) (by simp) ?_
              refine AllReadyH.cons (o := _) rfl (fun K hK => ?_) AllReadyH.nil
              go_simp
              refine (l46_add C HT3.out HT4.out _ _ (HL.out.below H78.out.bel) H78.out.cf).mono ?_
              rintro e w79 ⟨r2, rfl, ht, hc, hg⟩
              have T_r2 := hide ht
              clear ht
              have H79 := hide (H78.out.grown hg hc)
              clear H78 hg hc
              refine hK.out _ _ (HSS.out _ _ _ (by simp) H79.out) (fun hHeld => ?_)
              clear hK K
              try simp only [List.getElem_toArray, List.getElem_cons_zero, List.getElem_cons_succ, List.get, Act.put, List.setIfInBounds_toArray, List.set_cons_zero, List.set_cons_succ]
              obtain ⟨l0, l1, l2, f0, f1, f2⟩ := (H79.out.rc (X23, (false, ⟨#[]⟩, ⟨#[]⟩)) (by simp)).1
              dsimp only at l0 l1 l2 f0 f1 f2
              have H80 := hide (H79.out.store r1)
              clear H79
              refine wpAnyH_ready (rs := [10]) (by kernel_rfl) (by simp) ?_
              refine AllReadyH.cons (o := _) rfl (fun K hK => ?_) AllReadyH.nil
              go_simp
              clear l0 l1 l2 f0 f1 f2
              obtain ⟨w80, hw⟩ : ∃ W, (((w79.setCell ⟨X23, 0, none⟩ (.bool r1.1)).setCell ⟨X23, 1, none⟩ (.string r1.2.1)).setCell ⟨X23, 2, none⟩ (.string r1.2.2)) = W := ⟨_, rfl⟩
              rw [hw] at H80
              rw [hw]
              clear hw
              refine hK.out _ _ (HSS.out _ _ _ (by simp) H80.out) (fun hHeld => ?_)
              clear hK K
              try simp only [List.getElem_toArray, List.getElem_cons_zero, List.getElem_cons_succ, List.get, Act.put, List.setIfInBounds_toArray, List.set_cons_zero, List.set_cons_succ]
              have H80s := hide H80.out.swap
              clear H80
              have H80 := H80s
              clear H80s
              obtain ⟨l0, l1, l2, f0, f1, f2⟩ := (H80.out.rc (X24, (false, ⟨#[]⟩, ⟨#[]⟩)) (by simp)).1
              dsimp only at l0 l1 l2 f0 f1 f2
              have H81 := hide (H80.out.store r2)
              clear H80
              refine wpAnyH_ready (rs := [11]) (by kernel_rfl) (by simp) ?_
              refine AllReadyH.cons (o := _) rfl (fun K hK => ?_) AllReadyH.nil
              go_simp
              clear l0 l1 l2 f0 f1 f2
              obtain ⟨w81, hw⟩ : ∃ W, (((w80.setCell ⟨X24, 0, none⟩ (.bool r2.1)).setCell ⟨X24, 1, none⟩ (.string r2.2.1)).setCell ⟨X24, 2, none⟩ (.string r2.2.2)) = W := ⟨_, rfl⟩
              rw [hw] at H81
              rw [hw]
              clear hw
              refine hK.out _ _ (HSS.out _ _ _ (by simp) H81.out) (fun hHeld => ?_)
              clear hK K
              try simp only [List.getElem_toArray, List.getElem_cons_zero, List.getElem_cons_succ, List.get, Act.put, List.setIfInBounds_toArray, List.set_cons_zero, List.set_cons_succ]
              refine wpAnyH_done (by kernel_rfl) ?_ _
              refine NoPanic.normal ?_
              go_wp2_with fail
              go_meet
              exact ⟨X23, X24, r1, r2, _, rfl, rfl, T_r1.out, T_r2.out, (fun h => by simp only [Bool.or_eq_false_iff] at h ⊢; simp [h]), H81.out⟩
  obtain ⟨X23, X24, r1, r2, f17, rfl, rfl, t_r1, t_r2, hf, hls⟩ := hcut
  have T_r1 := hide t_r1
  have T_r2 := hide t_r2
  have HF17 := hide hf
  have H82 := hide hls
  clear hf hls H22 t_r1 t_r2
  obtain ⟨w82, hwc⟩ : ∃ W, W = wc := ⟨_, rfl⟩
  subst hwc
  have hcf := H82.out.cf.c
  by_cases hfl : f17 = true
  · rw [hfl] at hcf
    go_wp2_with fail
    go_ret
    exact ⟨by first | rfl | simp, H82.out.bel⟩
  · have hfl2 := Bool.eq_false_iff.2 hfl
    rw [hfl2] at hcf
    obtain ⟨_, hfl3, hfl4⟩ := HF17.out hfl2
    have e1 := HE1.out _ T_r1.out hfl3
    have e2 := HE2.out _ T_r2.out hfl4
    subst e1 e2
    clear hfl hfl2 hfl3 hfl4
    obtain ⟨q0_0, q0_1, q0_2, _, _, _⟩ := (H82.out.rc (X14, r1) (by simp)).1
    obtain ⟨q1_0, q1_1, q1_2, _, _, _⟩ := (H82.out.rc (X23, r1) (by simp)).1
    obtain ⟨q2_0, q2_1, q2_2, _, _, _⟩ := (H82.out.rc (X20, r2) (by simp)).1
    obtain ⟨q3_0, q3_1, q3_2, _, _, _⟩ := (H82.out.rc (X24, r2) (by simp)).1
    go_wp2_with fail
    go_ret
    exact ⟨by first | rfl | simp, H82.out.bel⟩
end Go.Proofs.YtblpnekjnaaeoaaGreatDoor
