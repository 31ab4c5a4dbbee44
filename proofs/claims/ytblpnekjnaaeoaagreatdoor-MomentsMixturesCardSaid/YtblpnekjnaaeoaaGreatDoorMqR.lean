/- MomentsMixtures: the walks. -/
import Derived.Test.YtblpnekjnaaeoaaGreatDoorMqRa
set_option linter.unusedVariables false
set_option linter.unusedSimpArgs false
namespace Go.Proofs.YtblpnekjnaaeoaaGreatDoor
open Go.RowKit
set_option maxHeartbeats 8000000 in
set_option maxRecDepth 100000 in
theorem l46_mix_e0 (ao bo : Option Addr) (n c m d : Nat) (xx yy : Int) (w : World) (hL : LawM w) (hFa : K1 w 10 (.slice ao n c) false) :
    Calls Tryz.prog 6 #[.slice ao n c, .slice bo m d, .int .u8 xx, .int .u8 yy] w fun e w' => e = .returned (.bool true) ∧ Below w.heap.size w w' := by
  have HL := hide hL
  have HHD := hide (law46_head w hL)
  have H0 := hide (LS0.start w)
  have HFa := hide hFa
  clear hL hFa
  go_enter Tryz.func6, Tryz.ntmps6
  go_wp2_with fail
  refine (HHD.out).mono ?_
  rintro e w1 ⟨rfl, hb⟩
  have H1 := hide (H0.out.below hb)
  clear H0 hb
  go_wp2_with fail
  refine (HFa.out _ H1.out.bel).mono ?_
  rintro e w2 ⟨rfl, hb⟩
  have H2 := hide (H1.out.below hb)
  clear H1 hb
  go_wp2_with fail
  go_ret
  exact ⟨by first | rfl | simp, H2.out.bel⟩
set_option maxHeartbeats 8000000 in
set_option maxRecDepth 100000 in
theorem l46_mix_e1 (ao bo : Option Addr) (n c m d : Nat) (xx yy : Int) (w : World) (hL : LawM w) (hFa : K1 w 10 (.slice ao n c) true) (hFb : K1 w 10 (.slice bo m d) false) :
    Calls Tryz.prog 6 #[.slice ao n c, .slice bo m d, .int .u8 xx, .int .u8 yy] w fun e w' => e = .returned (.bool true) ∧ Below w.heap.size w w' := by
  have HL := hide hL
  have HHD := hide (law46_head w hL)
  have H0 := hide (LS0.start w)
  have HFa := hide hFa
  have HFb := hide hFb
  clear hL hFa hFb
  go_enter Tryz.func6, Tryz.ntmps6
  go_wp2_with fail
  refine (HHD.out).mono ?_
  rintro e w1 ⟨rfl, hb⟩
  have H1 := hide (H0.out.below hb)
  clear H0 hb
  go_wp2_with fail
  refine (HFa.out _ H1.out.bel).mono ?_
  rintro e w2 ⟨rfl, hb⟩
  have H2 := hide (H1.out.below hb)
  clear H1 hb
  go_wp2_with fail
  refine (HFb.out _ H2.out.bel).mono ?_
  rintro e w3 ⟨rfl, hb⟩
  have H3 := hide (H2.out.below hb)
  clear H2 hb
  go_wp2_with fail
  go_ret
  exact ⟨by first | rfl | simp, H3.out.bel⟩
set_option maxHeartbeats 8000000 in
set_option maxRecDepth 100000 in
theorem l46_mix_e2 (ao bo : Option Addr) (n c m d : Nat) (xx yy : Int) (w : World) (hL : LawM w) (hFa : K1 w 10 (.slice ao n c) true) (hFb : K1 w 10 (.slice bo m d) true) (hVa : K1 w 20 (.slice ao n c) false) :
    Calls Tryz.prog 6 #[.slice ao n c, .slice bo m d, .int .u8 xx, .int .u8 yy] w fun e w' => e = .returned (.bool true) ∧ Below w.heap.size w w' := by
  have HL := hide hL
  have HHD := hide (law46_head w hL)
  have H0 := hide (LS0.start w)
  have HFa := hide hFa
  have HFb := hide hFb
  have HVa := hide hVa
  clear hL hFa hFb hVa
  go_enter Tryz.func6, Tryz.ntmps6
  go_wp2_with fail
  refine (HHD.out).mono ?_
  rintro e w1 ⟨rfl, hb⟩
  have H1 := hide (H0.out.below hb)
  clear H0 hb
  go_wp2_with fail
  refine (HFa.out _ H1.out.bel).mono ?_
  rintro e w2 ⟨rfl, hb⟩
  have H2 := hide (H1.out.below hb)
  clear H1 hb
  go_wp2_with fail
  refine (HFb.out _ H2.out.bel).mono ?_
  rintro e w3 ⟨rfl, hb⟩
  have H3 := hide (H2.out.below hb)
  clear H2 hb
  go_wp2_with fail
  refine (HVa.out _ H3.out.bel).mono ?_
  rintro e w4 ⟨rfl, hb⟩
  have H4 := hide (H3.out.below hb)
  clear H3 hb
  go_wp2_with fail
  go_ret
  exact ⟨by first | rfl | simp, H4.out.bel⟩
set_option maxHeartbeats 8000000 in
set_option maxRecDepth 100000 in
theorem l46_mix_e3 (ao bo : Option Addr) (n c m d : Nat) (xx yy : Int) (w : World) (hL : LawM w) (hFa : K1 w 10 (.slice ao n c) true) (hFb : K1 w 10 (.slice bo m d) true) (hVa : K1 w 20 (.slice ao n c) true) (hVb : K1 w 20 (.slice bo m d) false) :
    Calls Tryz.prog 6 #[.slice ao n c, .slice bo m d, .int .u8 xx, .int .u8 yy] w fun e w' => e = .returned (.bool true) ∧ Below w.heap.size w w' := by
  have HL := hide hL
  have HHD := hide (law46_head w hL)
  have H0 := hide (LS0.start w)
  have HFa := hide hFa
  have HFb := hide hFb
  have HVa := hide hVa
  have HVb := hide hVb
  clear hL hFa hFb hVa hVb
  go_enter Tryz.func6, Tryz.ntmps6
  go_wp2_with fail
  refine (HHD.out).mono ?_
  rintro e w1 ⟨rfl, hb⟩
  have H1 := hide (H0.out.below hb)
  clear H0 hb
  go_wp2_with fail
  refine (HFa.out _ H1.out.bel).mono ?_
  rintro e w2 ⟨rfl, hb⟩
  have H2 := hide (H1.out.below hb)
  clear H1 hb
  go_wp2_with fail
  refine (HFb.out _ H2.out.bel).mono ?_
  rintro e w3 ⟨rfl, hb⟩
  have H3 := hide (H2.out.below hb)
  clear H2 hb
  go_wp2_with fail
  refine (HVa.out _ H3.out.bel).mono ?_
  rintro e w4 ⟨rfl, hb⟩
  have H4 := hide (H3.out.below hb)
  clear H3 hb
  go_wp2_with fail
  refine (HVb.out _ H4.out.bel).mono ?_
  rintro e w5 ⟨rfl, hb⟩
  have H5 := hide (H4.out.below hb)
  clear H4 hb
  go_wp2_with fail
  go_ret
  exact ⟨by first | rfl | simp, H5.out.bel⟩
set_option maxHeartbeats 8000000 in
set_option maxRecDepth 100000 in
theorem l46_mix_main (ao bo : Option Addr) (n c m d : Nat) (xx yy : Int) (u v : T3) (s : List PQ) (ma mb ms va vb vs : T3) (i j k l : Int) (p q pa pb qa qb : Rat) (w : World) (hL : LawM w) (hFa : K1 w 10 (.slice ao n c) true) (hFb : K1 w 10 (.slice bo m d) true) (hVa : K1 w 20 (.slice ao n c) true) (hVb : K1 w 20 (.slice bo m d) true)
    (hSh : KShr w xx yy u v) (hS1 : KMix w u v (.slice ao n c) (.slice bo m d) s) (hS2 : KMix w v u (.slice bo m d) (.slice ao n c) s) (hVs : KL1 w 20 s true) (hSm : KSame w s)
    (hMa : KR w 12 (.slice ao n c) ma 0) (hMb : KR w 12 (.slice bo m d) mb 0) (hMs : KLR w 12 s ms i)
    (hRa : KR w 14 (.slice ao n c) va j) (hRb : KR w 14 (.slice bo m d) vb k) (hRs : KLR w 14 s vs l)
    (hcase : i = 2 ∨ (i = 0 ∧ j = 2) ∨ (i = 0 ∧ j = 0 ∧ k = 2) ∨ (i = 0 ∧ j = 0 ∧ k = 0 ∧ l = 2) ∨ (i = 0 ∧ j = 0 ∧ k = 0 ∧ l = 0 ∧ TO (some p) u ∧ TO (some q) v ∧ TO (some pa) ma ∧ TO (some pb) mb ∧ TO (some qa) va ∧ TO (some qb) vb ∧ (∀ r, TO (add2 (mul2 (some p) (some pa)) (mul2 (some q) (some pb))) r → (add2 (mul2 (some p) (some pa)) (mul2 (some q) (some pb))).isNone = false → r = ms) ∧ (∀ r, TO (add2 (add2 (mul2 (some p) (some qa)) (mul2 (some q) (some qb))) (mul2 (mul2 (some p) (some q)) (mul2 (add2 (some pa) (negO (some pb))) (add2 (some pa) (negO (some pb)))))) r → (add2 (add2 (mul2 (some p) (some qa)) (mul2 (some q) (some qb))) (mul2 (mul2 (some p) (some q)) (mul2 (add2 (some pa) (negO (some pb))) (add2 (some pa) (negO (some pb)))))).isNone = false → r = vs))) :
    Calls Tryz.prog 6 #[.slice ao n c, .slice bo m d, .int .u8 xx, .int .u8 yy] w fun e w' => e = .returned (.bool true) ∧ Below w.heap.size w w' := by
  have HL := hide hL
  have HHD := hide (law46_head w hL)
  have H0 := hide (LS0.start w)
  have HFa := hide hFa
  have HFb := hide hFb
  have HVa := hide hVa
  have HVb := hide hVb
  clear hL hFa hFb hVa hVb
  have HSh := hide hSh
  have HS1 := hide hS1
  have HS2 := hide hS2
  have HVs := hide hVs
  have HSm := hide hSm
  have HMa := hide hMa
  have HMb := hide hMb
  have HMs := hide hMs
  have HRa := hide hRa
  have HRb := hide hRb
  have HRs := hide hRs
  have Hcase := hide hcase
  clear hSh hS1 hS2 hVs hSm hMa hMb hMs hRa hRb hRs hcase
  go_enter Tryz.func6, Tryz.ntmps6
  go_wp2_with fail
  refine (HHD.out).mono ?_
  rintro e w1 ⟨rfl, hb⟩
  have H1 := hide (H0.out.below hb)
  clear H0 hb
  go_wp2_with fail
  refine (HFa.out _ H1.out.bel).mono ?_
  rintro e w2 ⟨rfl, hb⟩
  have H2 := hide (H1.out.below hb)
  clear H1 hb
  go_wp2_with fail
  refine (HFb.out _ H2.out.bel).mono ?_
  rintro e w3 ⟨rfl, hb⟩
  have H3 := hide (H2.out.below hb)
  clear H2 hb
  go_wp2_with fail
  refine (HVa.out _ H3.out.bel).mono ?_
  rintro e w4 ⟨rfl, hb⟩
  have H4 := hide (H3.out.below hb)
  clear H3 hb
  go_wp2_with fail
  refine (HVb.out _ H4.out.bel).mono ?_
  rintro e w5 ⟨rfl, hb⟩
  have H5 := hide (H4.out.below hb)
  clear H4 hb
  go_wp2_with fail
  refine (HSh.out _ H5.out.bel).mono ?_
  rintro e w6 ⟨rfl, hb⟩
  have H6 := hide (H5.out.below hb)
  clear H5 hb
  have hba := bAlloc (bAlloc (Below.refl w6.heap.size w6) (.cells #[.bool u.1, .string u.2.1, .string u.2.2] 29)) (.cells #[.bool v.1, .string v.2.1, .string v.2.2] 29)
  have H8 := hide ((H6.out.box u 29).box v 29)
  clear H6 hba 
  go_upto_region 5 with fail
  obtain ⟨w8, hw⟩ : ∃ W, (w6.alloc (.cells #[.bool u.1, .string u.2.1, .string u.2.2] 29)).alloc (.cells #[.bool v.1, .string v.2.1, .string v.2.2] 29) = W := ⟨_, rfl⟩
  obtain ⟨X11, hY⟩ : ∃ A, (w6.alloc (.cells #[.bool u.1, .string u.2.1, .string u.2.2] 29)).heap.size = A := ⟨_, rfl⟩
  have hY2 : w6.heap.size + 1 = X11 := by rw [← hY, World.size_alloc]
  rw [hw, hY] at H8
  rw [hw, hY2]
  obtain ⟨X10, hX⟩ : ∃ A, w6.heap.size = A := ⟨_, rfl⟩
  rw [hX] at H8
  rw [hX]
  clear hw hX hY hY2
  obtain ⟨q0_0, q0_1, q0_2, _, _, _⟩ := (H8.out.rc (X10, u) (by simp)).1
  obtain ⟨q1_0, q1_1, q1_2, _, _, _⟩ := (H8.out.rc (X11, v) (by simp)).1
  go_wp2_with fail
  refine (HS1.out _ H8.out.bel).mono ?_
  rintro e w9 ⟨so, sc, rfl, hs, hb⟩
  clear q0_0 q0_1 q0_2 q1_0 q1_1 q1_2
  have H9 := hide (H8.out.below hb)
  clear H8 hb
  have HSA9 := hide hs
  clear hs
  obtain ⟨q0_0, q0_1, q0_2, _, _, _⟩ := (H9.out.rc (X10, u) (by simp)).1
  obtain ⟨q1_0, q1_1, q1_2, _, _, _⟩ := (H9.out.rc (X11, v) (by simp)).1
  go_wp2_with fail
  refine (HS2.out _ H9.out.bel).mono ?_
  rintro e w10 ⟨tt, tc, rfl, hs, hb⟩
  clear q0_0 q0_1 q0_2 q1_0 q1_1 q1_2
  have H10 := hide (H9.out.below hb)
  have HSA10 := hide (HSA9.out.below hb)
  clear H9 HSA9 hb
  have HSB10 := hide hs
  clear hs
  go_wp2_with fail
  refine (HVs.out _ _ H10.out.bel HSA10.out).mono ?_
  rintro e w11 ⟨rfl, hb⟩
  have H11 := hide (H10.out.below hb)
  have HSA11 := hide (HSA10.out.below hb)
  have HSB11 := hide (HSB10.out.below hb)
  clear H10 HSA10 HSB10 hb
  go_wp2_with fail
  refine (HSm.out _ _ _ H11.out.bel HSA11.out HSB11.out).mono ?_
  rintro e w12 ⟨rfl, hb⟩
  have H12 := hide (H11.out.below hb)
  have HSA12 := hide (HSA11.out.below hb)
  have HSB12 := hide (HSB11.out.below hb)
  clear H11 HSA11 HSB11 hb
  clear HSB12
  go_wp2_with fail
  refine (HMa.out _ H12.out.bel).mono ?_
  rintro e w13 ⟨rfl, hb⟩
  have H13 := hide (H12.out.below hb)
  have HSA13 := hide (HSA12.out.below hb)
  clear H12 HSA12 hb
  have hba := bAlloc (Below.refl w13.heap.size w13) (.cells #[.bool ma.1, .string ma.2.1, .string ma.2.2] 29)
  have H14 := hide (H13.out.box ma 29)
  have HSA14 := hide (HSA13.out.below hba)
  clear H13 hba HSA13
  go_upto_region 10 with fail
  obtain ⟨w14, hw⟩ : ∃ W, w13.alloc (.cells #[.bool ma.1, .string ma.2.1, .string ma.2.2] 29) = W := ⟨_, rfl⟩
  obtain ⟨X16, hX⟩ : ∃ A, w13.heap.size = A := ⟨_, rfl⟩
  rw [hw] at HSA14
  rw [hw, hX] at H14
  rw [hw, hX]
  clear hw hX
  go_wp2_with fail
  refine (HMb.out _ H14.out.bel).mono ?_
  rintro e w15 ⟨rfl, hb⟩
  have H15 := hide (H14.out.below hb)
  have HSA15 := hide (HSA14.out.below hb)
  clear H14 HSA14 hb
  have hba := bAlloc (Below.refl w15.heap.size w15) (.cells #[.bool mb.1, .string mb.2.1, .string mb.2.2] 29)
  have H16 := hide (H15.out.box mb 29)
  have HSA16 := hide (HSA15.out.below hba)
  clear H15 hba HSA15
  go_upto_region 11 with fail
  obtain ⟨w16, hw⟩ : ∃ W, w15.alloc (.cells #[.bool mb.1, .string mb.2.1, .string mb.2.2] 29) = W := ⟨_, rfl⟩
  obtain ⟨X18, hX⟩ : ∃ A, w15.heap.size = A := ⟨_, rfl⟩
  rw [hw] at HSA16
  rw [hw, hX] at H16
  rw [hw, hX]
  clear hw hX
  go_wp2_with fail
  refine (HMs.out _ _ H16.out.bel HSA16.out).mono ?_
  rintro e w17 ⟨rfl, hb⟩
  have H17 := hide (H16.out.below hb)
  have HSA17 := hide (HSA16.out.below hb)
  clear H16 HSA16 hb
  have hba := bAlloc (Below.refl w17.heap.size w17) (.cells #[.bool ms.1, .string ms.2.1, .string ms.2.2] 29)
  have H18 := hide (H17.out.box ms 29)
  have HSA18 := hide (HSA17.out.below hba)
  clear H17 hba HSA17
  go_upto_region 12 with fail
  obtain ⟨w18, hw⟩ : ∃ W, w17.alloc (.cells #[.bool ms.1, .string ms.2.1, .string ms.2.2] 29) = W := ⟨_, rfl⟩
  obtain ⟨X20, hX⟩ : ∃ A, w17.heap.size = A := ⟨_, rfl⟩
  rw [hw] at HSA18
  rw [hw, hX] at H18
  rw [hw, hX]
  clear hw hX
  go_wp2_with fail
  refine (HRa.out _ H18.out.bel).mono ?_
  rintro e w19 ⟨rfl, hb⟩
  have H19 := hide (H18.out.below hb)
  have HSA19 := hide (HSA18.out.below hb)
  clear H18 HSA18 hb
  have hba := bAlloc (Below.refl w19.heap.size w19) (.cells #[.bool va.1, .string va.2.1, .string va.2.2] 29)
  have H20 := hide (H19.out.box va 29)
  have HSA20 := hide (HSA19.out.below hba)
  clear H19 hba HSA19
  go_upto_region 13 with fail
  obtain ⟨w20, hw⟩ : ∃ W, w19.alloc (.cells #[.bool va.1, .string va.2.1, .string va.2.2] 29) = W := ⟨_, rfl⟩
  obtain ⟨X22, hX⟩ : ∃ A, w19.heap.size = A := ⟨_, rfl⟩
  rw [hw] at HSA20
  rw [hw, hX] at H20
  rw [hw, hX]
  clear hw hX
  go_wp2_with fail
  refine (HRb.out _ H20.out.bel).mono ?_
  rintro e w21 ⟨rfl, hb⟩
  have H21 := hide (H20.out.below hb)
  have HSA21 := hide (HSA20.out.below hb)
  clear H20 HSA20 hb
  have hba := bAlloc (Below.refl w21.heap.size w21) (.cells #[.bool vb.1, .string vb.2.1, .string vb.2.2] 29)
  have H22 := hide (H21.out.box vb 29)
  have HSA22 := hide (HSA21.out.below hba)
  clear H21 hba HSA21
  go_upto_region 14 with fail
  obtain ⟨w22, hw⟩ : ∃ W, w21.alloc (.cells #[.bool vb.1, .string vb.2.1, .string vb.2.2] 29) = W := ⟨_, rfl⟩
  obtain ⟨X24, hX⟩ : ∃ A, w21.heap.size = A := ⟨_, rfl⟩
  rw [hw] at HSA22
  rw [hw, hX] at H22
  rw [hw, hX]
  clear hw hX
  go_wp2_with fail
  refine (HRs.out _ _ H22.out.bel HSA22.out).mono ?_
  rintro e w23 ⟨rfl, hb⟩
  have H23 := hide (H22.out.below hb)
  have HSA23 := hide (HSA22.out.below hb)
  clear H22 HSA22 hb
  have hba := bAlloc (Below.refl w23.heap.size w23) (.cells #[.bool vs.1, .string vs.2.1, .string vs.2.2] 29)
  have H24 := hide (H23.out.box vs 29)
  have HSA24 := hide (HSA23.out.below hba)
  clear H23 hba HSA23
  go_upto_region 15 with fail
  obtain ⟨w24, hw⟩ : ∃ W, w23.alloc (.cells #[.bool vs.1, .string vs.2.1, .string vs.2.2] 29) = W := ⟨_, rfl⟩
  obtain ⟨X26, hX⟩ : ∃ A, w23.heap.size = A := ⟨_, rfl⟩
  rw [hw] at HSA24
  rw [hw, hX] at H24
  rw [hw, hX]
  clear hw hX
  clear HSA24
  rcases Hcase.out with rfl | ⟨rfl, rfl⟩ | ⟨rfl, rfl, rfl⟩ | ⟨rfl, rfl, rfl, rfl⟩ | ⟨rfl, rfl, rfl, rfl, t1, t2, t3, t4, t5, t6, e1, e2⟩
  · go_wp2_with fail
    go_ret
    exact ⟨by first | rfl | simp, H24.out.bel⟩
  · go_wp2_with fail
    go_ret
    exact ⟨by first | rfl | simp, H24.out.bel⟩
  · go_wp2_with fail
    go_ret
    exact ⟨by first | rfl | simp, H24.out.bel⟩
  · go_wp2_with fail
    go_ret
    exact ⟨by first | rfl | simp, H24.out.bel⟩
  have HT1 := hide t1
  have HT2 := hide t2
  have HT3 := hide t3
  have HT4 := hide t4
  have HT5 := hide t5
  have HT6 := hide t6
  have HE1 := hide e1
  have HE2 := hide e2
  clear t1 t2 t3 t4 t5 t6 e1 e2 Hcase
  have hba := bAlloc (Below.refl w24.heap.size w24) (.cells #[.bool false] 45)
  have H25 := hide (H24.out.calc 45)
  clear H24 hba 
  go_upto_region 18 with fail
  obtain ⟨w25, hw⟩ : ∃ W, w24.alloc (.cells #[.bool false] 45) = W := ⟨_, rfl⟩
  obtain ⟨C, hX⟩ : ∃ A, w24.heap.size = A := ⟨_, rfl⟩
  rw [hw, hX] at H25
  rw [hw, hX]
  clear hw hX
  go_cut [29] (fun z29 wx => ∃ X29 : Nat, ∃ rm : T3, ∃ f : Bool, z29 = .pointer (some ⟨X29, 0, none⟩) ∧ TO (add2 (mul2 (some p) (some pa)) (mul2 (some q) (some pb))) rm ∧ (f = false → false = false ∧ (add2 (mul2 (some p) (some pa)) (mul2 (some q) (some pb))).isNone = false) ∧ LS w wx C f [(X29, rm), (X26, vs), (X24, vb), (X22, va), (X20, ms), (X18, mb), (X16, ma), (X11, v), (X10, u)])
  case first =>
    as_aux_lemma =>
      have HSS : Hid (∀ W f l, [(X10, u), (X16, ma), (X11, v), (X18, mb)] ⊆ l → LS w W C f l → (W.cell? ⟨X10, 0, none⟩ = some (.bool u.1) ∧ W.cell? ⟨X10, 1, none⟩ = some (.string u.2.1) ∧ W.cell? ⟨X10, 2, none⟩ = some (.string u.2.2)) ∧ (W.cell? ⟨X16, 0, none⟩ = some (.bool ma.1) ∧ W.cell? ⟨X16, 1, none⟩ = some (.string ma.2.1) ∧ W.cell? ⟨X16, 2, none⟩ = some (.string ma.2.2)) ∧ (W.cell? ⟨X11, 0, none⟩ = some (.bool v.1) ∧ W.cell? ⟨X11, 1, none⟩ = some (.string v.2.1) ∧ W.cell? ⟨X11, 2, none⟩ = some (.string v.2.2)) ∧ (W.cell? ⟨X18, 0, none⟩ = some (.bool mb.1) ∧ W.cell? ⟨X18, 1, none⟩ = some (.string mb.2.1) ∧ W.cell? ⟨X18, 2, none⟩ = some (.string mb.2.2))) := fun W f l hsub hls => by
        have h := fun p hp => hls.rc p (hsub hp)
        have hB := hls.bel
        exact ⟨⟨(h (X10, u) (by simp)).1.c0, (h (X10, u) (by simp)).1.c1, (h (X10, u) (by simp)).1.c2⟩, ⟨(h (X16, ma) (by simp)).1.c0, (h (X16, ma) (by simp)).1.c1, (h (X16, ma) (by simp)).1.c2⟩, ⟨(h (X11, v) (by simp)).1.c0, (h (X11, v) (by simp)).1.c1, (h (X11, v) (by simp)).1.c2⟩, ⟨(h (X18, mb) (by simp)).1.c0, (h (X18, mb) (by simp)).1.c1, (h (X18, mb) (by simp)).1.c2⟩⟩
      have hbd : Below w25.heap.size w25 w25.drew := bDraw (Below.refl _ w25)
      obtain ⟨w26, hwd⟩ : ∃ W, w25.drew = W := ⟨_, rfl⟩
      rw [hwd] at hbd
      have H26 := hide (H25.out.below hbd)
      clear H25 hbd
      have hE0 := HSS.out _ _ _ (by simp) H26.out
      refine wp_region_noPanic ?_
      refine wp_region_held_drew (S := fun w' => (w'.cell? ⟨X10, 0, none⟩ = some (.bool u.1) ∧ w'.cell? ⟨X10, 1, none⟩ = some (.string u.2.1) ∧ w'.cell? ⟨X10, 2, none⟩ = some (.string u.2.2)) ∧ (w'.cell? ⟨X16, 0, none⟩ = some (.bool ma.1) ∧ w'.cell? ⟨X16, 1, none⟩ = some (.string ma.2.1) ∧ w'.cell? ⟨X16, 2, none⟩ = some (.string ma.2.2)) ∧ (w'.cell? ⟨X11, 0, none⟩ = some (.bool v.1) ∧ w'.cell? ⟨X11, 1, none⟩ = some (.string v.2.1) ∧ w'.cell? ⟨X11, 2, none⟩ = some (.string v.2.2)) ∧ (w'.cell? ⟨X18, 0, none⟩ = some (.bool mb.1) ∧ w'.cell? ⟨X18, 1, none⟩ = some (.string mb.2.1) ∧ w'.cell? ⟨X18, 2, none⟩ = some (.string mb.2.2))) (by kernel_rfl) (by rw [hwd]; exact hE0) (fun hHeld => ?_)
      rw [hwd] at hHeld ⊢
      clear hwd hE0
      change wpAnyH _ _ _ _ _ 12 #[false, false, false, false, false, false, false, false, false, false, false, false] _ _
      refine wpAnyH_take (i := 0) (oi := _) (v := ?_) rfl (by kernel_rfl) (by kernel_rfl) (by kernel_rfl) (fun _ _ _ h => h) (Or.inl ⟨by rfl, ?_⟩) (by assumption) ?_
      rotate_left
      · intro w hSw
        (try dsimp only at hSw)
        go_simp
        try with_reducible rfl
      try simp only [List.getElem_toArray, List.getElem_cons_zero, List.getElem_cons_succ, List.get, Act.put, List.setIfInBounds_toArray, List.set_cons_zero, List.set_cons_succ]
      refine wpAnyH_take (i := 1) (oi := _) (v := ?_) rfl (by kernel_rfl) (by kernel_rfl) (by kernel_rfl) (fun _ _ _ h => h) (Or.inl ⟨by rfl, ?_⟩) (by assumption) ?_
      rotate_left
      · intro w hSw
        (try dsimp only at hSw)
        go_simp
        try with_reducible rfl
      try simp only [List.getElem_toArray, List.getElem_cons_zero, List.getElem_cons_succ, List.get, Act.put, List.setIfInBounds_toArray, List.set_cons_zero, List.set_cons_succ]
      refine wpAnyH_take (i := 2) (oi := _) (v := ?_) rfl (by kernel_rfl) (by kernel_rfl) (by kernel_rfl) (fun _ _ _ h => h) (Or.inl ⟨by rfl, ?_⟩) (by assumption) ?_
      rotate_left
      · intro w hSw
        (try dsimp only at hSw)
        go_simp
        try with_reducible rfl
      try simp only [List.getElem_toArray, List.getElem_cons_zero, List.getElem_cons_succ, List.get, Act.put, List.setIfInBounds_toArray, List.set_cons_zero, List.set_cons_succ]
      refine wpAnyH_take (i := 3) (oi := _) (v := ?_) rfl (by kernel_rfl) (by kernel_rfl) (by kernel_rfl) (fun _ _ _ h => h) (Or.inl ⟨by rfl, ?_⟩) (by assumption) ?_
      rotate_left
      · intro w hSw
        (try dsimp only at hSw)
        go_simp
        try with_reducible rfl
      try simp only [List.getElem_toArray, List.getElem_cons_zero, List.getElem_cons_succ, List.get, Act.put, List.setIfInBounds_toArray, List.set_cons_zero, List.set_cons_succ]
      refine wpAnyH_take (i := 5) (oi := _) (v := ?_) rfl (by kernel_rfl) (by kernel_rfl) (by kernel_rfl) (fun _ _ _ h => h) (Or.inl ⟨by rfl, ?_⟩) (by assumption) ?_
      rotate_left
      · intro w hSw
        (try dsimp only at hSw)
        go_simp
        try with_reducible rfl
      try simp only [List.getElem_toArray, List.getElem_cons_zero, List.getElem_cons_succ, List.get, Act.put, List.setIfInBounds_toArray, List.set_cons_zero, List.set_cons_succ]
      refine wpAnyH_take (i := 6) (oi := _) (v := ?_) rfl (by kernel_rfl) (by kernel_rfl) (by kernel_rfl) (fun _ _ _ h => h) (Or.inl ⟨by rfl, ?_⟩) (by assumption) ?_
      rotate_left
      · intro w hSw
        (try dsimp only at hSw)
        go_simp
        try with_reducible rfl
      try simp only [List.getElem_toArray, List.getElem_cons_zero, List.getElem_cons_succ, List.get, Act.put, List.setIfInBounds_toArray, List.set_cons_zero, List.set_cons_succ]
      refine wpAnyH_take (i := 7) (oi := _) (v := ?_) rfl (by kernel_rfl) (by kernel_rfl) (by kernel_rfl) (fun _ _ _ h => h) (Or.inl ⟨by rfl, ?_⟩) (by assumption) ?_
      rotate_left
      · intro w hSw
        (try dsimp only at hSw)
        go_simp
        try with_reducible rfl
      try simp only [List.getElem_toArray, List.getElem_cons_zero, List.getElem_cons_succ, List.get, Act.put, List.setIfInBounds_toArray, List.set_cons_zero, List.set_cons_succ]
      refine wpAnyH_ready (rs := [4, 10]) (by kernel_rfl) (by simp) ?_
      refine AllReadyH.cons (o := _) rfl (fun K hK => ?_) (AllReadyH.cons (o := _) rfl (fun K hK => ?_) AllReadyH.nil)
      · as_aux_lemma =>
          go_simp
          refine (l46_mul C HT1.out HT3.out _ _ (HL.out.below H26.out.bel) H26.out.cf).mono ?_
          rintro e w27 ⟨m1, rfl, ht, hc, hg⟩
          have T_m1 := hide ht
          clear ht
          have H27 := hide (H26.out.grown hg hc)
          clear H26 hg hc
          refine hK.out _ _ (HSS.out _ _ _ (by simp) H27.out) (fun hHeld => ?_)
          clear hK K
          try simp only [List.getElem_toArray, List.getElem_cons_zero, List.getElem_cons_succ, List.get, Act.put, List.setIfInBounds_toArray, List.set_cons_zero, List.set_cons_succ]
          refine wpAnyH_ready (rs := [8, 10]) (by kernel_rfl) (by simp) ?_
          refine AllReadyH.cons (o := _) rfl (fun K hK => ?_) (AllReadyH.cons (o := _) rfl (fun K hK => ?_) AllReadyH.nil)
          · as_aux_lemma =>
              go_simp
              refine (l46_mul C HT2.out HT4.out _ _ (HL.out.below H27.out.bel) H27.out.cf).mono ?_
              rintro e w28 ⟨m2, rfl, ht, hc, hg⟩
              have T_m2 := hide ht
              clear ht
              have H28 := hide (H27.out.grown hg hc)
              clear H27 hg hc
              refine hK.out _ _ (HSS.out _ _ _ (by simp) H28.out) (fun hHeld => ?_)
              clear hK K
              try simp only [List.getElem_toArray, List.getElem_cons_zero, List.getElem_cons_succ, List.get, Act.put, List.setIfInBounds_toArray, List.set_cons_zero, List.set_cons_succ]
              refine wpAnyH_ready (rs := [9, 10]) (by kernel_rfl) (by simp) ?_
              refine AllReadyH.cons (o := _) rfl (fun K hK => ?_) (AllReadyH.cons (o := _) rfl (fun K hK => ?_) AllReadyH.nil)
              · skip
                go_simp
                refine (l46_add C T_m1.out T_m2.out _ _ (HL.out.below H28.out.bel) H28.out.cf).mono ?_
                rintro e w29 ⟨rm, rfl, ht, hc, hg⟩
                have T_rm := hide ht
                clear ht
                have H29 := hide (H28.out.grown hg hc)
                clear H28 hg hc
                refine hK.out _ _ (HSS.out _ _ _ (by simp) H29.out) (fun hHeld => ?_)
                clear hK K
                try simp only [List.getElem_toArray, List.getElem_cons_zero, List.getElem_cons_succ, List.get, Act.put, List.setIfInBounds_toArray, List.set_cons_zero, List.set_cons_succ]
                refine wpAnyH_ready (rs := [10]) (by kernel_rfl) (by simp) ?_
                refine AllReadyH.cons (o := _) rfl (fun K hK => ?_) AllReadyH.nil
                have H30 := hide (H29.out.box (false, ⟨#[]⟩, ⟨#[]⟩) 29)
                clear H29
                go_simp
                change Hid (LS w (w29.alloc (.cells #[.bool false, .string ⟨#[]⟩, .string ⟨#[]⟩] 29)) _ _ _) at H30
                obtain ⟨w30, hw⟩ : ∃ W, w29.alloc (.cells #[.bool false, .string ⟨#[]⟩, .string ⟨#[]⟩] 29) = W := ⟨_, rfl⟩
                obtain ⟨X29, hX⟩ : ∃ A, w29.heap.size = A := ⟨_, rfl⟩
                rw [hw, hX] at H30
                rw [hw, hX]
                clear hw hX
                refine hK.out _ _ (HSS.out _ _ _ (by simp) H30.out) (fun hHeld => ?_)
                clear hK K
                try simp only [List.getElem_toArray, List.getElem_cons_zero, List.getElem_cons_succ, List.get, Act.put, List.setIfInBounds_toArray, List.set_cons_zero, List.set_cons_succ]
                obtain ⟨l0, l1, l2, f0, f1, f2⟩ := (H30.out.rc (X29, (false, ⟨#[]⟩, ⟨#[]⟩)) (by simp)).1
                dsimp only at l0 l1 l2 f0 f1 f2
                have H31 := hide (H30.out.store rm)
                clear H30
                refine wpAnyH_ready (rs := [11]) (by kernel_rfl) (by simp) ?_
                refine AllReadyH.cons (o := _) rfl (fun K hK => ?_) AllReadyH.nil
                go_simp
                clear l0 l1 l2 f0 f1 f2
                obtain ⟨w31, hw⟩ : ∃ W, (((w30.setCell ⟨X29, 0, none⟩ (.bool rm.1)).setCell ⟨X29, 1, none⟩ (.string rm.2.1)).setCell ⟨X29, 2, none⟩ (.string rm.2.2)) = W := ⟨_, rfl⟩
                rw [hw] at H31
                rw [hw]
                clear hw
                refine hK.out _ _ (HSS.out _ _ _ (by simp) H31.out) (fun hHeld => ?_)
                clear hK K
                try simp only [List.getElem_toArray, List.getElem_cons_zero, List.getElem_cons_succ, List.get, Act.put, List.setIfInBounds_toArray, List.set_cons_zero, List.set_cons_succ]
                refine wpAnyH_done (by kernel_rfl) ?_ _
                refine NoPanic.normal ?_
                go_wp2_with fail
                go_meet
                exact ⟨X29, rm, _, rfl, T_rm.out, (fun h => by simp only [Bool.or_eq_false_iff] at h ⊢; simp [h]), H31.out⟩
              · skip
                have H32 := hide (H28.out.box (false, ⟨#[]⟩, ⟨#[]⟩) 29)
                clear H28
                go_simp
                change Hid (LS w (w28.alloc (.cells #[.bool false, .string ⟨#[]⟩, .string ⟨#[]⟩] 29)) _ _ _) at H32
                obtain ⟨w32, hw⟩ : ∃ W, w28.alloc (.cells #[.bool false, .string ⟨#[]⟩, .string ⟨#[]⟩] 29) = W := ⟨_, rfl⟩
                obtain ⟨X29, hX⟩ : ∃ A, w28.heap.size = A := ⟨_, rfl⟩
                rw [hw, hX] at H32
                rw [hw, hX]
                clear hw hX
                refine hK.out _ _ (HSS.out _ _ _ (by simp) H32.out) (fun hHeld => ?_)
                clear hK K
                try simp only [List.getElem_toArray, List.getElem_cons_zero, List.getElem_cons_succ, List.get, Act.put, List.setIfInBounds_toArray, List.set_cons_zero, List.set_cons_succ]
                refine wpAnyH_ready (rs := [9]) (by kernel_rfl) (by simp) ?_
                refine AllReadyH.cons (o := _) rfl (fun K hK => ?_) AllReadyH.nil
                go_simp
                refine (l46_add C T_m1.out T_m2.out _ _ (HL.out.below H32.out.bel) H32.out.cf).mono ?_
                rintro e w33 ⟨rm, rfl, ht, hc, hg⟩
                have T_rm := hide ht
                clear ht
                have H33 := hide (H32.out.grown hg hc)
                clear H32 hg hc
                refine hK.out _ _ (HSS.out _ _ _ (by simp) H33.out) (fun hHeld => ?_)
                clear hK K
                try simp only [List.getElem_toArray, List.getElem_cons_zero, List.getElem_cons_succ, List.get, Act.put, List.setIfInBounds_toArray, List.set_cons_zero, List.set_cons_succ]
                obtain ⟨l0, l1, l2, f0, f1, f2⟩ := (H33.out.rc (X29, (false, ⟨#[]⟩, ⟨#[]⟩)) (by simp)).1
                dsimp only at l0 l1 l2 f0 f1 f2
                have H34 := hide (H33.out.store rm)
                clear H33
                refine wpAnyH_ready (rs := [11]) (by kernel_rfl) (by simp) ?_
                refine AllReadyH.cons (o := _) rfl (fun K hK => ?_) AllReadyH.nil
                go_simp
                clear l0 l1 l2 f0 f1 f2
                obtain ⟨w34, hw⟩ : ∃ W, (((w33.setCell ⟨X29, 0, none⟩ (.bool rm.1)).setCell ⟨X29, 1, none⟩ (.string rm.2.1)).setCell ⟨X29, 2, none⟩ (.string rm.2.2)) = W := ⟨_, rfl⟩
                rw [hw] at H34
                rw [hw]
                clear hw
                refine hK.out _ _ (HSS.out _ _ _ (by simp) H34.out) (fun hHeld => ?_)
                clear hK K
                try simp only [List.getElem_toArray, List.getElem_cons_zero, List.getElem_cons_succ, List.get, Act.put, List.setIfInBounds_toArray, List.set_cons_zero, List.set_cons_succ]
                refine wpAnyH_done (by kernel_rfl) ?_ _
                refine NoPanic.normal ?_
                go_wp2_with fail
                go_meet
                exact ⟨X29, rm, _, rfl, T_rm.out, (fun h => by simp only [Bool.or_eq_false_iff] at h ⊢; simp [h]), H34.out⟩
          · as_aux_lemma =>
              have H35 := hide (H27.out.box (false, ⟨#[]⟩, ⟨#[]⟩) 29)
              clear H27
              go_simp
              change Hid (LS w (w27.alloc (.cells #[.bool false, .string ⟨#[]⟩, .string ⟨#[]⟩] 29)) _ _ _) at H35
              obtain ⟨w35, hw⟩ : ∃ W, w27.alloc (.cells #[.bool false, .string ⟨#[]⟩, .string ⟨#[]⟩] 29) = W := ⟨_, rfl⟩
              obtain ⟨X29, hX⟩ : ∃ A, w27.heap.size = A := ⟨_, rfl⟩
              rw [hw, hX] at H35
              rw [hw, hX]
              clear hw hX
              refine hK.out _ _ (HSS.out _ _ _ (by simp) H35.out) (fun hHeld => ?_)
              clear hK K
              try simp only [List.getElem_toArray, List.getElem_cons_zero, List.getElem_cons_succ, List.get, Act.put, List.setIfInBounds_toArray, List.set_cons_zero, List.set_cons_succ]
              refine wpAnyH_ready (rs := [8]) (by kernel_rfl) (by simp) ?_
              refine AllReadyH.cons (o := _) rfl (fun K hK => ?_) AllReadyH.nil
              go_simp
              refine (l46_mul C HT2.out HT4.out _ _ (HL.out.below H35.out.bel) H35.out.cf).mono ?_
              rintro e w36 ⟨m2, rfl, ht, hc, hg⟩
              have T_m2 := hide ht
              clear ht
              have H36 := hide (H35.out.grown hg hc)
              clear H35 hg hc
              refine hK.out _ _ (HSS.out _ _ _ (by simp) H36.out) (fun hHeld => ?_)
              clear hK K
              try simp only [List.getElem_toArray, List.getElem_cons_zero, List.getElem_cons_succ, List.get, Act.put, List.setIfInBounds_toArray, List.set_cons_zero, List.set_cons_succ]
              refine wpAnyH_ready (rs := [9]) (by kernel_rfl) (by simp) ?_
              refine AllReadyH.cons (o := _) rfl (fun K hK => ?_) AllReadyH.nil
              go_simp
              refine (l46_add C T_m1.out T_m2.out _ _ (HL.out.below H36.out.bel) H36.out.cf).mono ?_
              rintro e w37 ⟨rm, rfl, ht, hc, hg⟩
              have T_rm := hide ht
              clear ht
              have H37 := hide (H36.out.grown hg hc)
              clear H36 hg hc
              refine hK.out _ _ (HSS.out _ _ _ (by simp) H37.out) (fun hHeld => ?_)
              clear hK K
              try simp only [List.getElem_toArray, List.getElem_cons_zero, List.getElem_cons_succ, List.get, Act.put, List.setIfInBounds_toArray, List.set_cons_zero, List.set_cons_succ]
              obtain ⟨l0, l1, l2, f0, f1, f2⟩ := (H37.out.rc (X29, (false, ⟨#[]⟩, ⟨#[]⟩)) (by simp)).1
              dsimp only at l0 l1 l2 f0 f1 f2
              have H38 := hide (H37.out.store rm)
              clear H37
              refine wpAnyH_ready (rs := [11]) (by kernel_rfl) (by simp) ?_
              refine AllReadyH.cons (o := _) rfl (fun K hK => ?_) AllReadyH.nil
              go_simp
              clear l0 l1 l2 f0 f1 f2
              obtain ⟨w38, hw⟩ : ∃ W, (((w37.setCell ⟨X29, 0, none⟩ (.bool rm.1)).setCell ⟨X29, 1, none⟩ (.string rm.2.1)).setCell ⟨X29, 2, none⟩ (.string rm.2.2)) = W := ⟨_, rfl⟩
              rw [hw] at H38
              rw [hw]
              clear hw
              refine hK.out _ _ (HSS.out _ _ _ (by simp) H38.out) (fun hHeld => ?_)
              clear hK K
              try simp only [List.getElem_toArray, List.getElem_cons_zero, List.getElem_cons_succ, List.get, Act.put, List.setIfInBounds_toArray, List.set_cons_zero, List.set_cons_succ]
              refine wpAnyH_done (by kernel_rfl) ?_ _
              refine NoPanic.normal ?_
              go_wp2_with fail
              go_meet
              exact ⟨X29, rm, _, rfl, T_rm.out, (fun h => by simp only [Bool.or_eq_false_iff] at h ⊢; simp [h]), H38.out⟩
      · as_aux_lemma =>
          have H39 := hide (H26.out.box (false, ⟨#[]⟩, ⟨#[]⟩) 29)
          clear H26
          go_simp
          change Hid (LS w (w26.alloc (.cells #[.bool false, .string ⟨#[]⟩, .string ⟨#[]⟩] 29)) _ _ _) at H39
          obtain ⟨w39, hw⟩ : ∃ W, w26.alloc (.cells #[.bool false, .string ⟨#[]⟩, .string ⟨#[]⟩] 29) = W := ⟨_, rfl⟩
          obtain ⟨X29, hX⟩ : ∃ A, w26.heap.size = A := ⟨_, rfl⟩
          rw [hw, hX] at H39
          rw [hw, hX]
          clear hw hX
          refine hK.out _ _ (HSS.out _ _ _ (by simp) H39.out) (fun hHeld => ?_)
          clear hK K
          try simp only [List.getElem_toArray, List.getElem_cons_zero, List.getElem_cons_succ, List.get, Act.put, List.setIfInBounds_toArray, List.set_cons_zero, List.set_cons_succ]
          refine wpAnyH_ready (rs := [4]) (by kernel_rfl) (by simp) ?_
          refine AllReadyH.cons (o := _) rfl (fun K hK => ?_) AllReadyH.nil
          go_simp
          refine (l46_mul C HT1.out HT3.out _ _ (HL.out.below H39.out.bel) H39.out.cf).mono ?_
          rintro e w40 ⟨m1, rfl, ht, hc, hg⟩
          have T_m1 := hide ht
          clear ht
          have H40 := hide (H39.out.grown hg hc)
          clear H39 hg hc
          refine hK.out _ _ (HSS.out _ _ _ (by simp) H40.out) (fun hHeld => ?_)
          clear hK K
          try simp only [List.getElem_toArray, List.getElem_cons_zero, List.getElem_cons_succ, List.get, Act.put, List.setIfInBounds_toArray, List.set_cons_zero, List.set_cons_succ]
          refine wpAnyH_ready (rs := [8]) (by kernel_rfl) (by simp) ?_
          refine AllReadyH.cons (o := _) rfl (fun K hK => ?_) AllReadyH.nil
          go_simp
          refine (l46_mul C HT2.out HT4.out _ _ (HL.out.below H40.out.bel) H40.out.cf).mono ?_
          rintro e w41 ⟨m2, rfl, ht, hc, hg⟩
          have T_m2 := hide ht
          clear ht
          have H41 := hide (H40.out.grown hg hc)
          clear H40 hg hc
          refine hK.out _ _ (HSS.out _ _ _ (by simp) H41.out) (fun hHeld => ?_)
          clear hK K
          try simp only [List.getElem_toArray, List.getElem_cons_zero, List.getElem_cons_succ, List.get, Act.put, List.setIfInBounds_toArray, List.set_cons_zero, List.set_cons_succ]
          refine wpAnyH_ready (rs := [9]) (by kernel_rfl) (by simp) ?_
          refine AllReadyH.cons (o := _) rfl (fun K hK => ?_) AllReadyH.nil
          go_simp
          refine (l46_add C T_m1.out T_m2.out _ _ (HL.out.below H41.out.bel) H41.out.cf).mono ?_
          rintro e w42 ⟨rm, rfl, ht, hc, hg⟩
          have T_rm := hide ht
          clear ht
          have H42 := hide (H41.out.grown hg hc)
          clear H41 hg hc
          refine hK.out _ _ (HSS.out _ _ _ (by simp) H42.out) (fun hHeld => ?_)
          clear hK K
          try simp only [List.getElem_toArray, List.getElem_cons_zero, List.getElem_cons_succ, List.get, Act.put, List.setIfInBounds_toArray, List.set_cons_zero, List.set_cons_succ]
          obtain ⟨l0, l1, l2, f0, f1, f2⟩ := (H42.out.rc (X29, (false, ⟨#[]⟩, ⟨#[]⟩)) (by simp)).1
          dsimp only at l0 l1 l2 f0 f1 f2
          have H43 := hide (H42.out.store rm)
          clear H42
          refine wpAnyH_ready (rs := [11]) (by kernel_rfl) (by simp) ?_
          refine AllReadyH.cons (o := _) rfl (fun K hK => ?_) AllReadyH.nil
          go_simp
          clear l0 l1 l2 f0 f1 f2
          obtain ⟨w43, hw⟩ : ∃ W, (((w42.setCell ⟨X29, 0, none⟩ (.bool rm.1)).setCell ⟨X29, 1, none⟩ (.string rm.2.1)).setCell ⟨X29, 2, none⟩ (.string rm.2.2)) = W := ⟨_, rfl⟩
          rw [hw] at H43
          rw [hw]
          clear hw
          refine hK.out _ _ (HSS.out _ _ _ (by simp) H43.out) (fun hHeld => ?_)
          clear hK K
          try simp only [List.getElem_toArray, List.getElem_cons_zero, List.getElem_cons_succ, List.get, Act.put, List.setIfInBounds_toArray, List.set_cons_zero, List.set_cons_succ]
          refine wpAnyH_done (by kernel_rfl) ?_ _
          refine NoPanic.normal ?_
          go_wp2_with fail
          go_meet
          exact ⟨X29, rm, _, rfl, T_rm.out, (fun h => by simp only [Bool.or_eq_false_iff] at h ⊢; simp [h]), H43.out⟩
  obtain ⟨X29, rm, f18, rfl, t_rm, hf, hls⟩ := hcut
  have T_rm := hide t_rm
  have HF18 := hide hf
  have H44 := hide hls
  clear hf hls H25 t_rm
  obtain ⟨w44, hwc⟩ : ∃ W, W = wc := ⟨_, rfl⟩
  subst hwc
  go_upto_region 19 with fail
  go_cut [30] (fun z30 wx => ∃ X30 : Nat, ∃ dd : T3, ∃ f : Bool, z30 = .pointer (some ⟨X30, 0, none⟩) ∧ TO (add2 (some pa) (negO (some pb))) dd ∧ (f = false → f18 = false ∧ (add2 (some pa) (negO (some pb))).isNone = false) ∧ LS w wx C f [(X30, dd), (X29, rm), (X26, vs), (X24, vb), (X22, va), (X20, ms), (X18, mb), (X16, ma), (X11, v), (X10, u)])
  case first =>
    as_aux_lemma =>
      have HSS : Hid (∀ W f l, [(X16, ma), (X18, mb)] ⊆ l → LS w W C f l → (W.cell? ⟨X16, 0, none⟩ = some (.bool ma.1) ∧ W.cell? ⟨X16, 1, none⟩ = some (.string ma.2.1) ∧ W.cell? ⟨X16, 2, none⟩ = some (.string ma.2.2)) ∧ (W.cell? ⟨X18, 0, none⟩ = some (.bool mb.1) ∧ W.cell? ⟨X18, 1, none⟩ = some (.string mb.2.1) ∧ W.cell? ⟨X18, 2, none⟩ = some (.string mb.2.2))) := fun W f l hsub hls => by
        have h := fun p hp => hls.rc p (hsub hp)
        have hB := hls.bel
        exact ⟨⟨(h (X16, ma) (by simp)).1.c0, (h (X16, ma) (by simp)).1.c1, (h (X16, ma) (by simp)).1.c2⟩, ⟨(h (X18, mb) (by simp)).1.c0, (h (X18, mb) (by simp)).1.c1, (h (X18, mb) (by simp)).1.c2⟩⟩
      have hbd : Below w44.heap.size w44 w44.drew := bDraw (Below.refl _ w44)
      obtain ⟨w45, hwd⟩ : ∃ W, w44.drew = W := ⟨_, rfl⟩
      rw [hwd] at hbd
      have H45 := hide (H44.out.below hbd)
      clear H44 hbd
      have hE0 := HSS.out _ _ _ (by simp) H45.out
      refine wp_region_noPanic ?_
      refine wp_region_held_drew (S := fun w' => (w'.cell? ⟨X16, 0, none⟩ = some (.bool ma.1) ∧ w'.cell? ⟨X16, 1, none⟩ = some (.string ma.2.1) ∧ w'.cell? ⟨X16, 2, none⟩ = some (.string ma.2.2)) ∧ (w'.cell? ⟨X18, 0, none⟩ = some (.bool mb.1) ∧ w'.cell? ⟨X18, 1, none⟩ = some (.string mb.2.1) ∧ w'.cell? ⟨X18, 2, none⟩ = some (.string mb.2.2))) (by kernel_rfl) (by rw [hwd]; exact hE0) (fun hHeld => ?_)
      rw [hwd] at hHeld ⊢
      clear hwd hE0
      change wpAnyH _ _ _ _ _ 7 #[false, false, false, false, false, false, false] _ _
      refine wpAnyH_take (i := 0) (oi := _) (v := ?_) rfl (by kernel_rfl) (by kernel_rfl) (by kernel_rfl) (fun _ _ _ h => h) (Or.inl ⟨by rfl, ?_⟩) (by assumption) ?_
      rotate_left
      · intro w hSw
        (try dsimp only at hSw)
        go_simp
        try with_reducible rfl
      try simp only [List.getElem_toArray, List.getElem_cons_zero, List.getElem_cons_succ, List.get, Act.put, List.setIfInBounds_toArray, List.set_cons_zero, List.set_cons_succ]
      refine wpAnyH_take (i := 1) (oi := _) (v := ?_) rfl (by kernel_rfl) (by kernel_rfl) (by kernel_rfl) (fun _ _ _ h => h) (Or.inl ⟨by rfl, ?_⟩) (by assumption) ?_
      rotate_left
      · intro w hSw
        (try dsimp only at hSw)
        go_simp
        try with_reducible rfl
      try simp only [List.getElem_toArray, List.getElem_cons_zero, List.getElem_cons_succ, List.get, Act.put, List.setIfInBounds_toArray, List.set_cons_zero, List.set_cons_succ]
      refine wpAnyH_take (i := 2) (oi := _) (v := ?_) rfl (by kernel_rfl) (by kernel_rfl) (by kernel_rfl) (fun _ _ _ h => h) (Or.inl ⟨by rfl, ?_⟩) (by assumption) ?_
      rotate_left
      · intro w hSw
        (try dsimp only at hSw)
        go_simp
        try with_reducible rfl
      try simp only [List.getElem_toArray, List.getElem_cons_zero, List.getElem_cons_succ, List.get, Act.put, List.setIfInBounds_toArray, List.set_cons_zero, List.set_cons_succ]
      refine wpAnyH_ready (rs := [3, 5]) (by kernel_rfl) (by simp) ?_
      refine AllReadyH.cons (o := _) rfl (fun K hK => ?_) (AllReadyH.cons (o := _) rfl (fun K hK => ?_) AllReadyH.nil)
      · as_aux_lemma =>
          go_simp
          refine (l46_minus HT4.out _).mono ?_
          rintro e w46 ⟨nb, rfl, ht, hb⟩
          have T_nb := hide ht
          clear ht
          have H46 := hide (H45.out.below hb)
          clear H45 hb
          refine hK.out _ _ (HSS.out _ _ _ (by simp) H46.out) (fun hHeld => ?_)
          clear hK K
          try simp only [List.getElem_toArray, List.getElem_cons_zero, List.getElem_cons_succ, List.get, Act.put, List.setIfInBounds_toArray, List.set_cons_zero, List.set_cons_succ]
          refine wpAnyH_ready (rs := [4, 5]) (by kernel_rfl) (by simp) ?_
          refine AllReadyH.cons (o := _) rfl (fun K hK => ?_) (AllReadyH.cons (o := _) rfl (fun K hK => ?_) AllReadyH.nil)
          · as_aux_lemma =>
              go_simp
              refine (l46_add C HT3.out T_nb.out _ _ (HL.out.below H46.out.bel) H46.out.cf).mono ?_
              rintro e w47 ⟨dd, rfl, ht, hc, hg⟩
              have T_dd := hide ht
              clear ht
              have H47 := hide (H46.out.grown hg hc)
              clear H46 hg hc
              refine hK.out _ _ (HSS.out _ _ _ (by simp) H47.out) (fun hHeld => ?_)
              clear hK K
              try simp only [List.getElem_toArray, List.getElem_cons_zero, List.getElem_cons_succ, List.get, Act.put, List.setIfInBounds_toArray, List.set_cons_zero, List.set_cons_succ]
              refine wpAnyH_ready (rs := [5]) (by kernel_rfl) (by simp) ?_
              refine AllReadyH.cons (o := _) rfl (fun K hK => ?_) AllReadyH.nil
              have H48 := hide (H47.out.box (false, ⟨#[]⟩, ⟨#[]⟩) 29)
              clear H47
              go_simp
              change Hid (LS w (w47.alloc (.cells #[.bool false, .string ⟨#[]⟩, .string ⟨#[]⟩] 29)) _ _ _) at H48
              obtain ⟨w48, hw⟩ : ∃ W, w47.alloc (.cells #[.bool false, .string ⟨#[]⟩, .string ⟨#[]⟩] 29) = W := ⟨_, rfl⟩
              obtain ⟨X30, hX⟩ : ∃ A, w47.heap.size = A := ⟨_, rfl⟩
              rw [hw, hX] at H48
              rw [hw, hX]
              clear hw hX
              refine hK.out _ _ (HSS.out _ _ _ (by simp) H48.out) (fun hHeld => ?_)
              clear hK K
              try simp only [List.getElem_toArray, List.getElem_cons_zero, List.getElem_cons_succ, List.get, Act.put, List.setIfInBounds_toArray, List.set_cons_zero, List.set_cons_succ]
              obtain ⟨l0, l1, l2, f0, f1, f2⟩ := (H48.out.rc (X30, (false, ⟨#[]⟩, ⟨#[]⟩)) (by simp)).1
              dsimp only at l0 l1 l2 f0 f1 f2
              have H49 := hide (H48.out.store dd)
              clear H48
              refine wpAnyH_ready (rs := [6]) (by kernel_rfl) (by simp) ?_
              refine AllReadyH.cons (o := _) rfl (fun K hK => ?_) AllReadyH.nil
              go_simp
              clear l0 l1 l2 f0 f1 f2
              obtain ⟨w49, hw⟩ : ∃ W, (((w48.setCell ⟨X30, 0, none⟩ (.bool dd.1)).setCell ⟨X30, 1, none⟩ (.string dd.2.1)).setCell ⟨X30, 2, none⟩ (.string dd.2.2)) = W := ⟨_, rfl⟩
              rw [hw] at H49
              rw [hw]
              clear hw
              refine hK.out _ _ (HSS.out _ _ _ (by simp) H49.out) (fun hHeld => ?_)
              clear hK K
              try simp only [List.getElem_toArray, List.getElem_cons_zero, List.getElem_cons_succ, List.get, Act.put, List.setIfInBounds_toArray, List.set_cons_zero, List.set_cons_succ]
              refine wpAnyH_done (by kernel_rfl) ?_ _
              refine NoPanic.normal ?_
              go_wp2_with fail
              go_meet
              exact ⟨X30, dd, _, rfl, T_dd.out, (fun h => by simp only [Bool.or_eq_false_iff] at h ⊢; simp [h]), H49.out⟩
          · as_aux_lemma =>
              have H50 := hide (H46.out.box (false, ⟨#[]⟩, ⟨#[]⟩) 29)
              clear H46
              go_simp
              change Hid (LS w (w46.alloc (.cells #[.bool false, .string ⟨#[]⟩, .string ⟨#[]⟩] 29)) _ _ _) at H50
              obtain ⟨w50, hw⟩ : ∃ W, w46.alloc (.cells #[.bool false, .string ⟨#[]⟩, .string ⟨#[]⟩] 29) = W := ⟨_, rfl⟩
              obtain ⟨X30, hX⟩ : ∃ A, w46.heap.size = A := ⟨_, rfl⟩
              rw [hw, hX] at H50
              rw [hw, hX]
              clear hw hX
              refine hK.out _ _ (HSS.out _ _ _ (by simp) H50.out) (fun hHeld => ?_)
              clear hK K
              try simp only [List.getElem_toArray, List.getElem_cons_zero, List.getElem_cons_succ, List.get, Act.put, List.setIfInBounds_toArray, List.set_cons_zero, List.set_cons_succ]
              refine wpAnyH_ready (rs := [4]) (by kernel_rfl) (by simp) ?_
              refine AllReadyH.cons (o := _) rfl (fun K hK => ?_) AllReadyH.nil
              go_simp
              refine (l46_add C HT3.out T_nb.out _ _ (HL.out.below H50.out.bel) H50.out.cf).mono ?_
              rintro e w51 ⟨dd, rfl, ht, hc, hg⟩
              have T_dd := hide ht
              clear ht
              have H51 := hide (H50.out.grown hg hc)
              clear H50 hg hc
              refine hK.out _ _ (HSS.out _ _ _ (by simp) H51.out) (fun hHeld => ?_)
              clear hK K
              try simp only [List.getElem_toArray, List.getElem_cons_zero, List.getElem_cons_succ, List.get, Act.put, List.setIfInBounds_toArray, List.set_cons_zero, List.set_cons_succ]
              obtain ⟨l0, l1, l2, f0, f1, f2⟩ := (H51.out.rc (X30, (false, ⟨#[]⟩, ⟨#[]⟩)) (by simp)).1
              dsimp only at l0 l1 l2 f0 f1 f2
              have H52 := hide (H51.out.store dd)
              clear H51
              refine wpAnyH_ready (rs := [6]) (by kernel_rfl) (by simp) ?_
              refine AllReadyH.cons (o := _) rfl (fun K hK => ?_) AllReadyH.nil
              go_simp
              clear l0 l1 l2 f0 f1 f2
              obtain ⟨w52, hw⟩ : ∃ W, (((w51.setCell ⟨X30, 0, none⟩ (.bool dd.1)).setCell ⟨X30, 1, none⟩ (.string dd.2.1)).setCell ⟨X30, 2, none⟩ (.string dd.2.2)) = W := ⟨_, rfl⟩
              rw [hw] at H52
              rw [hw]
              clear hw
              refine hK.out _ _ (HSS.out _ _ _ (by simp) H52.out) (fun hHeld => ?_)
              clear hK K
              try simp only [List.getElem_toArray, List.getElem_cons_zero, List.getElem_cons_succ, List.get, Act.put, List.setIfInBounds_toArray, List.set_cons_zero, List.set_cons_succ]
              refine wpAnyH_done (by kernel_rfl) ?_ _
              refine NoPanic.normal ?_
              go_wp2_with fail
              go_meet
              exact ⟨X30, dd, _, rfl, T_dd.out, (fun h => by simp only [Bool.or_eq_false_iff] at h ⊢; simp [h]), H52.out⟩
      · as_aux_lemma =>
          have H53 := hide (H45.out.box (false, ⟨#[]⟩, ⟨#[]⟩) 29)
          clear H45
          go_simp
          change Hid (LS w (w45.alloc (.cells #[.bool false, .string ⟨#[]⟩, .string ⟨#[]⟩] 29)) _ _ _) at H53
          obtain ⟨w53, hw⟩ : ∃ W, w45.alloc (.cells #[.bool false, .string ⟨#[]⟩, .string ⟨#[]⟩] 29) = W := ⟨_, rfl⟩
          obtain ⟨X30, hX⟩ : ∃ A, w45.heap.size = A := ⟨_, rfl⟩
          rw [hw, hX] at H53
          rw [hw, hX]
          clear hw hX
          refine hK.out _ _ (HSS.out _ _ _ (by simp) H53.out) (fun hHeld => ?_)
          clear hK K
          try simp only [List.getElem_toArray, List.getElem_cons_zero, List.getElem_cons_succ, List.get, Act.put, List.setIfInBounds_toArray, List.set_cons_zero, List.set_cons_succ]
          refine wpAnyH_ready (rs := [3]) (by kernel_rfl) (by simp) ?_
          refine AllReadyH.cons (o := _) rfl (fun K hK => ?_) AllReadyH.nil
          go_simp
          refine (l46_minus HT4.out _).mono ?_
          rintro e w54 ⟨nb, rfl, ht, hb⟩
          have T_nb := hide ht
          clear ht
          have H54 := hide (H53.out.below hb)
          clear H53 hb
          refine hK.out _ _ (HSS.out _ _ _ (by simp) H54.out) (fun hHeld => ?_)
          clear hK K
          try simp only [List.getElem_toArray, List.getElem_cons_zero, List.getElem_cons_succ, List.get, Act.put, List.setIfInBounds_toArray, List.set_cons_zero, List.set_cons_succ]
          refine wpAnyH_ready (rs := [4]) (by kernel_rfl) (by simp) ?_
          refine AllReadyH.cons (o := _) rfl (fun K hK => ?_) AllReadyH.nil
          go_simp
          refine (l46_add C HT3.out T_nb.out _ _ (HL.out.below H54.out.bel) H54.out.cf).mono ?_
          rintro e w55 ⟨dd, rfl, ht, hc, hg⟩
          have T_dd := hide ht
          clear ht
          have H55 := hide (H54.out.grown hg hc)
          clear H54 hg hc
          refine hK.out _ _ (HSS.out _ _ _ (by simp) H55.out) (fun hHeld => ?_)
          clear hK K
          try simp only [List.getElem_toArray, List.getElem_cons_zero, List.getElem_cons_succ, List.get, Act.put, List.setIfInBounds_toArray, List.set_cons_zero, List.set_cons_succ]
          obtain ⟨l0, l1, l2, f0, f1, f2⟩ := (H55.out.rc (X30, (false, ⟨#[]⟩, ⟨#[]⟩)) (by simp)).1
          dsimp only at l0 l1 l2 f0 f1 f2
          have H56 := hide (H55.out.store dd)
          clear H55
          refine wpAnyH_ready (rs := [6]) (by kernel_rfl) (by simp) ?_
          refine AllReadyH.cons (o := _) rfl (fun K hK => ?_) AllReadyH.nil
          go_simp
          clear l0 l1 l2 f0 f1 f2
          obtain ⟨w56, hw⟩ : ∃ W, (((w55.setCell ⟨X30, 0, none⟩ (.bool dd.1)).setCell ⟨X30, 1, none⟩ (.string dd.2.1)).setCell ⟨X30, 2, none⟩ (.string dd.2.2)) = W := ⟨_, rfl⟩
          rw [hw] at H56
          rw [hw]
          clear hw
          refine hK.out _ _ (HSS.out _ _ _ (by simp) H56.out) (fun hHeld => ?_)
          clear hK K
          try simp only [List.getElem_toArray, List.getElem_cons_zero, List.getElem_cons_succ, List.get, Act.put, List.setIfInBounds_toArray, List.set_cons_zero, List.set_cons_succ]
          refine wpAnyH_done (by kernel_rfl) ?_ _
          refine NoPanic.normal ?_
          go_wp2_with fail
          go_meet
          exact ⟨X30, dd, _, rfl, T_dd.out, (fun h => by simp only [Bool.or_eq_false_iff] at h ⊢; simp [h]), H56.out⟩
  obtain ⟨X30, dd, f19, rfl, t_dd, hf, hls⟩ := hcut
  have T_dd := hide t_dd
  have HF19 := hide hf
  have H57 := hide hls
  clear hf hls H44 t_dd
  obtain ⟨w57, hwc⟩ : ∃ W, W = wc := ⟨_, rfl⟩
  subst hwc
  go_upto_region 20 with fail
  go_cut [31] (fun z31 wx => ∃ X31 : Nat, ∃ rv : T3, ∃ f : Bool, z31 = .pointer (some ⟨X31, 0, none⟩) ∧ TO (add2 (mul2 (some p) (some qa)) (mul2 (some q) (some qb))) rv ∧ (f = false → f19 = false ∧ (add2 (mul2 (some p) (some qa)) (mul2 (some q) (some qb))).isNone = false) ∧ LS w wx C f [(X31, rv), (X30, dd), (X29, rm), (X26, vs), (X24, vb), (X22, va), (X20, ms), (X18, mb), (X16, ma), (X11, v), (X10, u)])
  case first =>
    as_aux_lemma =>
      have HSS : Hid (∀ W f l, [(X10, u), (X22, va), (X11, v), (X24, vb)] ⊆ l → LS w W C f l → (W.cell? ⟨X10, 0, none⟩ = some (.bool u.1) ∧ W.cell? ⟨X10, 1, none⟩ = some (.string u.2.1) ∧ W.cell? ⟨X10, 2, none⟩ = some (.string u.2.2)) ∧ (W.cell? ⟨X22, 0, none⟩ = some (.bool va.1) ∧ W.cell? ⟨X22, 1, none⟩ = some (.string va.2.1) ∧ W.cell? ⟨X22, 2, none⟩ = some (.string va.2.2)) ∧ (W.cell? ⟨X11, 0, none⟩ = some (.bool v.1) ∧ W.cell? ⟨X11, 1, none⟩ = some (.string v.2.1) ∧ W.cell? ⟨X11, 2, none⟩ = some (.string v.2.2)) ∧ (W.cell? ⟨X24, 0, none⟩ = some (.bool vb.1) ∧ W.cell? ⟨X24, 1, none⟩ = some (.string vb.2.1) ∧ W.cell? ⟨X24, 2, none⟩ = some (.string vb.2.2))) := fun W f l hsub hls => by
        have h := fun p hp => hls.rc p (hsub hp)
        have hB := hls.bel
        exact ⟨⟨(h (X10, u) (by simp)).1.c0, (h (X10, u) (by simp)).1.c1, (h (X10, u) (by simp)).1.c2⟩, ⟨(h (X22, va) (by simp)).1.c0, (h (X22, va) (by simp)).1.c1, (h (X22, va) (by simp)).1.c2⟩, ⟨(h (X11, v) (by simp)).1.c0, (h (X11, v) (by simp)).1.c1, (h (X11, v) (by simp)).1.c2⟩, ⟨(h (X24, vb) (by simp)).1.c0, (h (X24, vb) (by simp)).1.c1, (h (X24, vb) (by simp)).1.c2⟩⟩
      have hbd : Below w57.heap.size w57 w57.drew := bDraw (Below.refl _ w57)
      obtain ⟨w58, hwd⟩ : ∃ W, w57.drew = W := ⟨_, rfl⟩
      rw [hwd] at hbd
      have H58 := hide (H57.out.below hbd)
      clear H57 hbd
      have hE0 := HSS.out _ _ _ (by simp) H58.out
      refine wp_region_noPanic ?_
      refine wp_region_held_drew (S := fun w' => (w'.cell? ⟨X10, 0, none⟩ = some (.bool u.1) ∧ w'.cell? ⟨X10, 1, none⟩ = some (.string u.2.1) ∧ w'.cell? ⟨X10, 2, none⟩ = some (.string u.2.2)) ∧ (w'.cell? ⟨X22, 0, none⟩ = some (.bool va.1) ∧ w'.cell? ⟨X22, 1, none⟩ = some (.string va.2.1) ∧ w'.cell? ⟨X22, 2, none⟩ = some (.string va.2.2)) ∧ (w'.cell? ⟨X11, 0, none⟩ = some (.bool v.1) ∧ w'.cell? ⟨X11, 1, none⟩ = some (.string v.2.1) ∧ w'.cell? ⟨X11, 2, none⟩ = some (.string v.2.2)) ∧ (w'.cell? ⟨X24, 0, none⟩ = some (.bool vb.1) ∧ w'.cell? ⟨X24, 1, none⟩ = some (.string vb.2.1) ∧ w'.cell? ⟨X24, 2, none⟩ = some (.string vb.2.2))) (by kernel_rfl) (by rw [hwd]; exact hE0) (fun hHeld => ?_)
      rw [hwd] at hHeld ⊢
      clear hwd hE0
      change wpAnyH _ _ _ _ _ 12 #[false, false, false, false, false, false, false, false, false, false, false, false] _ _
      refine wpAnyH_take (i := 0) (oi := _) (v := ?_) rfl (by kernel_rfl) (by kernel_rfl) (by kernel_rfl) (fun _ _ _ h => h) (Or.inl ⟨by rfl, ?_⟩) (by assumption) ?_
      rotate_left
      · intro w hSw
        (try dsimp only at hSw)
        go_simp
        try with_reducible rfl
      try simp only [List.getElem_toArray, List.getElem_cons_zero, List.getElem_cons_succ, List.get, Act.put, List.setIfInBounds_toArray, List.set_cons_zero, List.set_cons_succ]
      refine wpAnyH_take (i := 1) (oi := _) (v := ?_) rfl (by kernel_rfl) (by kernel_rfl) (by kernel_rfl) (fun _ _ _ h => h) (Or.inl ⟨by rfl, ?_⟩) (by assumption) ?_
      rotate_left
      · intro w hSw
        (try dsimp only at hSw)
        go_simp
        try with_reducible rfl
      try simp only [List.getElem_toArray, List.getElem_cons_zero, List.getElem_cons_succ, List.get, Act.put, List.setIfInBounds_toArray, List.set_cons_zero, List.set_cons_succ]
      refine wpAnyH_take (i := 2) (oi := _) (v := ?_) rfl (by kernel_rfl) (by kernel_rfl) (by kernel_rfl) (fun _ _ _ h => h) (Or.inl ⟨by rfl, ?_⟩) (by assumption) ?_
      rotate_left
      · intro w hSw
        (try dsimp only at hSw)
        go_simp
        try with_reducible rfl
      try simp only [List.getElem_toArray, List.getElem_cons_zero, List.getElem_cons_succ, List.get, Act.put, List.setIfInBounds_toArray, List.set_cons_zero, List.set_cons_succ]
      refine wpAnyH_take (i := 3) (oi := _) (v := ?_) rfl (by kernel_rfl) (by kernel_rfl) (by kernel_rfl) (fun _ _ _ h => h) (Or.inl ⟨by rfl, ?_⟩) (by assumption) ?_
      rotate_left
      · intro w hSw
        (try dsimp only at hSw)
        go_simp
        try with_reducible rfl
      try simp only [List.getElem_toArray, List.getElem_cons_zero, List.getElem_cons_succ, List.get, Act.put, List.setIfInBounds_toArray, List.set_cons_zero, List.set_cons_succ]
      refine wpAnyH_take (i := 5) (oi := _) (v := ?_) rfl (by kernel_rfl) (by kernel_rfl) (by kernel_rfl) (fun _ _ _ h => h) (Or.inl ⟨by rfl, ?_⟩) (by assumption) ?_
      rotate_left
      · intro w hSw
        (try dsimp only at hSw)
        go_simp
        try with_reducible rfl
      try simp only [List.getElem_toArray, List.getElem_cons_zero, List.getElem_cons_succ, List.get, Act.put, List.setIfInBounds_toArray, List.set_cons_zero, List.set_cons_succ]
      refine wpAnyH_take (i := 6) (oi := _) (v := ?_) rfl (by kernel_rfl) (by kernel_rfl) (by kernel_rfl) (fun _ _ _ h => h) (Or.inl ⟨by rfl, ?_⟩) (by assumption) ?_
      rotate_left
      · intro w hSw
        (try dsimp only at hSw)
        go_simp
        try with_reducible rfl
      try simp only [List.getElem_toArray, List.getElem_cons_zero, List.getElem_cons_succ, List.get, Act.put, List.setIfInBounds_toArray, List.set_cons_zero, List.set_cons_succ]
      refine wpAnyH_take (i := 7) (oi := _) (v := ?_) rfl (by kernel_rfl) (by kernel_rfl) (by kernel_rfl) (fun _ _ _ h => h) (Or.inl ⟨by rfl, ?_⟩) (by assumption) ?_
      rotate_left
      · intro w hSw
        (try dsimp only at hSw)
        go_simp
        try with_reducible rfl
      try simp only [List.getElem_toArray, List.getElem_cons_zero, List.getElem_cons_succ, List.get, Act.put, List.setIfInBounds_toArray, List.set_cons_zero, List.set_cons_succ]
      refine wpAnyH_ready (rs := [4, 10]) (by kernel_rfl) (by simp) ?_
      refine AllReadyH.cons (o := _) rfl (fun K hK => ?_) (AllReadyH.cons (o := _) rfl (fun K hK => ?_) AllReadyH.nil)
      · as_aux_lemma =>
          go_simp
          refine (l46_mul C HT1.out HT5.out _ _ (HL.out.below H58.out.bel) H58.out.cf).mono ?_
          rintro e w59 ⟨v1, rfl, ht, hc, hg⟩
          have T_v1 := hide ht
          clear ht
          have H59 := hide (H58.out.grown hg hc)
          clear H58 hg hc
          refine hK.out _ _ (HSS.out _ _ _ (by simp) H59.out) (fun hHeld => ?_)
          clear hK K
          try simp only [List.getElem_toArray, List.getElem_cons_zero, List.getElem_cons_succ, List.get, Act.put, List.setIfInBounds_toArray, List.set_cons_zero, List.set_cons_succ]
          refine wpAnyH_ready (rs := [8, 10]) (by kernel_rfl) (by simp) ?_
          refine AllReadyH.cons (o := _) rfl (fun K hK => ?_) (AllReadyH.cons (o := _) rfl (fun K hK => ?_) AllReadyH.nil)
          · as_aux_lemma =>
              go_simp
              refine (l46_mul C HT2.out HT6.out _ _ (HL.out.below H59.out.bel) H59.out.cf).mono ?_
              rintro e w60 ⟨v2, rfl, ht, hc, hg⟩
              have T_v2 := hide ht
              clear ht
              have H60 := hide (H59.out.grown hg hc)
              clear H59 hg hc
              refine hK.out _ _ (HSS.out _ _ _ (by simp) H60.out) (fun hHeld => ?_)
              clear hK K
              try simp only [List.getElem_toArray, List.getElem_cons_zero, List.getElem_cons_succ, List.get, Act.put, List.setIfInBounds_toArray, List.set_cons_zero, List.set_cons_succ]
              refine wpAnyH_ready (rs := [9, 10]) (by kernel_rfl) (by simp) ?_
              refine AllReadyH.cons (o := _) rfl (fun K hK => ?_) (AllReadyH.cons (o := _) rfl (fun K hK => ?_) AllReadyH.nil)
              · skip
                go_simp
                refine (l46_add C T_v1.out T_v2.out _ _ (HL.out.below H60.out.bel) H60.out.cf).mono ?_
                rintro e w61 ⟨rv, rfl, ht, hc, hg⟩
                have T_rv := hide ht
                clear ht
                have H61 := hide (H60.out.grown hg hc)
                clear H60 hg hc
                refine hK.out _ _ (HSS.out _ _ _ (by simp) H61.out) (fun hHeld => ?_)
                clear hK K
                try simp only [List.getElem_toArray, List.getElem_cons_zero, List.getElem_cons_succ, List.get, Act.put, List.setIfInBounds_toArray, List.set_cons_zero, List.set_cons_succ]
                refine wpAnyH_ready (rs := [10]) (by kernel_rfl) (by simp) ?_
                refine AllReadyH.cons (o := _) rfl (fun K hK => ?_) AllReadyH.nil
                have H62 := hide (H61.out.box (false, ⟨#[]⟩, ⟨#[]⟩) 29)
                clear H61
                go_simp
                change Hid (LS w (w61.alloc (.cells #[.bool false, .string ⟨#[]⟩, .string ⟨#[]⟩] 29)) _ _ _) at H62
                obtain ⟨w62, hw⟩ : ∃ W, w61.alloc (.cells #[.bool false, .string ⟨#[]⟩, .string ⟨#[]⟩] 29) = W := ⟨_, rfl⟩
                obtain ⟨X31, hX⟩ : ∃ A, w61.heap.size = A := ⟨_, rfl⟩
                rw [hw, hX] at H62
                rw [hw, hX]
                clear hw hX
                refine hK.out _ _ (HSS.out _ _ _ (by simp) H62.out) (fun hHeld => ?_)
                clear hK K
                try simp only [List.getElem_toArray, List.getElem_cons_zero, List.getElem_cons_succ, List.get, Act.put, List.setIfInBounds_toArray, List.set_cons_zero, List.set_cons_succ]
                obtain ⟨l0, l1, l2, f0, f1, f2⟩ := (H62.out.rc (X31, (false, ⟨#[]⟩, ⟨#[]⟩)) (by simp)).1
                dsimp only at l0 l1 l2 f0 f1 f2
                have H63 := hide (H62.out.store rv)
                clear H62
                refine wpAnyH_ready (rs := [11]) (by kernel_rfl) (by simp) ?_
                refine AllReadyH.cons (o := _) rfl (fun K hK => ?_) AllReadyH.nil
                go_simp
                clear l0 l1 l2 f0 f1 f2
                obtain ⟨w63, hw⟩ : ∃ W, (((w62.setCell ⟨X31, 0, none⟩ (.bool rv.1)).setCell ⟨X31, 1, none⟩ (.string rv.2.1)).setCell ⟨X31, 2, none⟩ (.string rv.2.2)) = W := ⟨_, rfl⟩
                rw [hw] at H63
                rw [hw]
                clear hw
                refine hK.out _ _ (HSS.out _ _ _ (by simp) H63.out) (fun hHeld => ?_)
                clear hK K
                try simp only [List.getElem_toArray, List.getElem_cons_zero, List.getElem_cons_succ, List.get, Act.put, List.setIfInBounds_toArray, List.set_cons_zero, List.set_cons_succ]
                refine wpAnyH_done (by kernel_rfl) ?_ _
                refine NoPanic.normal ?_
                go_wp2_with fail
                go_meet
                exact ⟨X31, rv, _, rfl, T_rv.out, (fun h => by simp only [Bool.or_eq_false_iff] at h ⊢; simp [h]), H63.out⟩
              · skip
                have H64 := hide (H60.out.box (false, ⟨#[]⟩, ⟨#[]⟩) 29)
                clear H60
                go_simp
                change Hid (LS w (w60.alloc (.cells #[.bool false, .string ⟨#[]⟩, .string ⟨#[]⟩] 29)) _ _ _) at H64
                obtain ⟨w64, hw⟩ : ∃ W, w60.alloc (.cells #[.bool false, .string ⟨#[]⟩, .string ⟨#[]⟩] 29) = W := ⟨_, rfl⟩
                obtain ⟨X31, hX⟩ : ∃ A, w60.heap.size = A := ⟨_, rfl⟩
                rw [hw, hX] at H64
                rw [hw, hX]
                clear hw hX
                refine hK.out _ _ (HSS.out _ _ _ (by simp) H64.out) (fun hHeld => ?_)
                clear hK K
                try simp only [List.getElem_toArray, List.getElem_cons_zero, List.getElem_cons_succ, List.get, Act.put, List.setIfInBounds_toArray, List.set_cons_zero, List.set_cons_succ]
                refine wpAnyH_ready (rs := [9]) (by kernel_rfl) (by simp) ?_
                refine AllReadyH.cons (o := _) rfl (fun K hK => ?_) AllReadyH.nil
                go_simp
                refine (l46_add C T_v1.out T_v2.out _ _ (HL.out.below H64.out.bel) H64.out.cf).mono ?_
                rintro e w65 ⟨rv, rfl, ht, hc, hg⟩
                have T_rv := hide ht
                clear ht
                have H65 := hide (H64.out.grown hg hc)
                clear H64 hg hc
                refine hK.out _ _ (HSS.out _ _ _ (by simp) H65.out) (fun hHeld => ?_)
                clear hK K
                try simp only [List.getElem_toArray, List.getElem_cons_zero, List.getElem_cons_succ, List.get, Act.put, List.setIfInBounds_toArray, List.set_cons_zero, List.set_cons_succ]
                obtain ⟨l0, l1, l2, f0, f1, f2⟩ := (H65.out.rc (X31, (false, ⟨#[]⟩, ⟨#[]⟩)) (by simp)).1
                dsimp only at l0 l1 l2 f0 f1 f2
                have H66 := hide (H65.out.store rv)
                clear H65
                refine wpAnyH_ready (rs := [11]) (by kernel_rfl) (by simp) ?_
                refine AllReadyH.cons (o := _) rfl (fun K hK => ?_) AllReadyH.nil
                go_simp
                clear l0 l1 l2 f0 f1 f2
                obtain ⟨w66, hw⟩ : ∃ W, (((w65.setCell ⟨X31, 0, none⟩ (.bool rv.1)).setCell ⟨X31, 1, none⟩ (.string rv.2.1)).setCell ⟨X31, 2, none⟩ (.string rv.2.2)) = W := ⟨_, rfl⟩
                rw [hw] at H66
                rw [hw]
                clear hw
                refine hK.out _ _ (HSS.out _ _ _ (by simp) H66.out) (fun hHeld => ?_)
                clear hK K
                try simp only [List.getElem_toArray, List.getElem_cons_zero, List.getElem_cons_succ, List.get, Act.put, List.setIfInBounds_toArray, List.set_cons_zero, List.set_cons_succ]
                refine wpAnyH_done (by kernel_rfl) ?_ _
                refine NoPanic.normal ?_
                go_wp2_with fail
                go_meet
                exact ⟨X31, rv, _, rfl, T_rv.out, (fun h => by simp only [Bool.or_eq_false_iff] at h ⊢; simp [h]), H66.out⟩
          · as_aux_lemma =>
              have H67 := hide (H59.out.box (false, ⟨#[]⟩, ⟨#[]⟩) 29)
              clear H59
              go_simp
              change Hid (LS w (w59.alloc (.cells #[.bool false, .string ⟨#[]⟩, .string ⟨#[]⟩] 29)) _ _ _) at H67
              obtain ⟨w67, hw⟩ : ∃ W, w59.alloc (.cells #[.bool false, .string ⟨#[]⟩, .string ⟨#[]⟩] 29) = W := ⟨_, rfl⟩
              obtain ⟨X31, hX⟩ : ∃ A, w59.heap.size = A := ⟨_, rfl⟩
              rw [hw, hX] at H67
              rw [hw, hX]
              clear hw hX
              refine hK.out _ _ (HSS.out _ _ _ (by simp) H67.out) (fun hHeld => ?_)
              clear hK K
              try simp only [List.getElem_toArray, List.getElem_cons_zero, List.getElem_cons_succ, List.get, Act.put, List.setIfInBounds_toArray, List.set_cons_zero, List.set_cons_succ]
              refine wpAnyH_ready (rs := [8]) (by kernel_rfl) (by simp) ?_
              refine AllReadyH.cons (o := _) rfl (fun K hK => ?_) AllReadyH.nil
              go_simp
              refine (l46_mul C HT2.out HT6.out _ _ (HL.out.below H67.out.bel) H67.out.cf).mono ?_
              rintro e w68 ⟨v2, rfl, ht, hc, hg⟩
              have T_v2 := hide ht
              clear ht
              have H68 := hide (H67.out.grown hg hc)
              clear H67 hg hc
              refine hK.out _ _ (HSS.out _ _ _ (by simp) H68.out) (fun hHeld => ?_)
              clear hK K
              try simp only [List.getElem_toArray, List.getElem_cons_zero, List.getElem_cons_succ, List.get, Act.put, List.setIfInBounds_toArray, List.set_cons_zero, List.set_cons_succ]
              refine wpAnyH_ready (rs := [9]) (by kernel_rfl) (by simp) ?_
              refine AllReadyH.cons (o := _) rfl (fun K hK => ?_) AllReadyH.nil
              go_simp
              refine (l46_add C T_v1.out T_v2.out _ _ (HL.out.below H68.out.bel) H68.out.cf).mono ?_
              rintro e w69 ⟨rv, rfl, ht, hc, hg⟩
              have T_rv := hide ht
              clear ht
              have H69 := hide (H68.out.grown hg hc)
              clear H68 hg hc
              refine hK.out _ _ (HSS.out _ _ _ (by simp) H69.out) (fun hHeld => ?_)
              clear hK K
              try simp only [List.getElem_toArray, List.getElem_cons_zero, List.getElem_cons_succ, List.get, Act.put, List.setIfInBounds_toArray, List.set_cons_zero, List.set_cons_succ]
              obtain ⟨l0, l1, l2, f0, f1, f2⟩ := (H69.out.rc (X31, (false, ⟨#[]⟩, ⟨#[]⟩)) (by simp)).1
              dsimp only at l0 l1 l2 f0 f1 f2
              have H70 := hide (H69.out.store rv)
              clear H69
              refine wpAnyH_ready (rs := [11]) (by kernel_rfl) (by simp) ?_
              refine AllReadyH.cons (o := _) rfl (fun K hK => ?_) AllReadyH.nil
              go_simp
              clear l0 l1 l2 f0 f1 f2
              obtain ⟨w70, hw⟩ : ∃ W, (((w69.setCell ⟨X31, 0, none⟩ (.bool rv.1)).setCell ⟨X31, 1, none⟩ (.string rv.2.1)).setCell ⟨X31, 2, none⟩ (.string rv.2.2)) = W := ⟨_, rfl⟩
              rw [hw] at H70
              rw [hw]
              clear hw
              refine hK.out _ _ (HSS.out _ _ _ (by simp) H70.out) (fun hHeld => ?_)
              clear hK K
              try simp only [List.getElem_toArray, List.getElem_cons_zero, List.getElem_cons_succ, List.get, Act.put, List.setIfInBounds_toArray, List.set_cons_zero, List.set_cons_succ]
              refine wpAnyH_done (by kernel_rfl) ?_ _
              refine NoPanic.normal ?_
              go_wp2_with fail
              go_meet
              exact ⟨X31, rv, _, rfl, T_rv.out, (fun h => by simp only [Bool.or_eq_false_iff] at h ⊢; simp [h]), H70.out⟩
      · as_aux_lemma =>
          have H71 := hide (H58.out.box (false, ⟨#[]⟩, ⟨#[]⟩) 29)
          clear H58
          go_simp
          change Hid (LS w (w58.alloc (.cells #[.bool false, .string ⟨#[]⟩, .string ⟨#[]⟩] 29)) _ _ _) at H71
          obtain ⟨w71, hw⟩ : ∃ W, w58.alloc (.cells #[.bool false, .string ⟨#[]⟩, .string ⟨#[]⟩] 29) = W := ⟨_, rfl⟩
          obtain ⟨X31, hX⟩ : ∃ A, w58.heap.size = A := ⟨_, rfl⟩
          rw [hw, hX] at H71
          rw [hw, hX]
          clear hw hX
          refine hK.out _ _ (HSS.out _ _ _ (by simp) H71.out) (fun hHeld => ?_)
          clear hK K
          try simp only [List.getElem_toArray, List.getElem_cons_zero, List.getElem_cons_succ, List.get, Act.put, List.setIfInBounds_toArray, List.set_cons_zero, List.set_cons_succ]
          refine wpAnyH_ready (rs := [4]) (by kernel_rfl) (by simp) ?_
          refine AllReadyH.cons (o := _) rfl (fun K hK => ?_) AllReadyH.nil
          go_simp
          refine (l46_mul C HT1.out HT5.out _ _ (HL.out.below H71.out.bel) H71.out.cf).mono ?_
          rintro e w72 ⟨v1, rfl, ht, hc, hg⟩
          have T_v1 := hide ht
          clear ht
          have H72 := hide (H71.out.grown hg hc)
          clear H71 hg hc
          refine hK.out _ _ (HSS.out _ _ _ (by simp) H72.out) (fun hHeld => ?_)
          clear hK K
          try simp only [List.getElem_toArray, List.getElem_cons_zero, List.getElem_cons_succ, List.get, Act.put, List.setIfInBounds_toArray, List.set_cons_zero, List.set_cons_succ]
          refine wpAnyH_ready (rs := [8]) (by kernel_rfl) (by simp) ?_
          refine AllReadyH.cons (o := _) rfl (fun K hK => ?_) AllReadyH.nil
          go_simp
          refine (l46_mul C HT2.out HT6.out _ _ (HL.out.below H72.out.bel) H72.out.cf).mono ?_
          rintro e w73 ⟨v2, rfl, ht, hc, hg⟩
          have T_v2 := hide ht
          clear ht
          have H73 := hide (H72.out.grown hg hc)
          clear H72 hg hc
          refine hK.out _ _ (HSS.out _ _ _ (by simp) H73.out) (fun hHeld => ?_)
          clear hK K
          try simp only [List.getElem_toArray, List.getElem_cons_zero, List.getElem_cons_succ, List.get, Act.put, List.setIfInBounds_toArray, List.set_cons_zero, List.set_cons_succ]
          refine wpAnyH_ready (rs := [9]) (by kernel_rfl) (by simp) ?_
          refine AllReadyH.cons (o := _) rfl (fun K hK => ?_) AllReadyH.nil
          go_simp
          refine (l46_add C T_v1.out T_v2.out _ _ (HL.out.below H73.out.bel) H73.out.cf).mono ?_
          rintro e w74 ⟨rv, rfl, ht, hc, hg⟩
          have T_rv := hide ht
          clear ht
          have H74 := hide (H73.out.grown hg hc)
          clear H73 hg hc
          refine hK.out _ _ (HSS.out _ _ _ (by simp) H74.out) (fun hHeld => ?_)
          clear hK K
          try simp only [List.getElem_toArray, List.getElem_cons_zero, List.getElem_cons_succ, List.get, Act.put, List.setIfInBounds_toArray, List.set_cons_zero, List.set_cons_succ]
          obtain ⟨l0, l1, l2, f0, f1, f2⟩ := (H74.out.rc (X31, (false, ⟨#[]⟩, ⟨#[]⟩)) (by simp)).1
          dsimp only at l0 l1 l2 f0 f1 f2
          have H75 := hide (H74.out.store rv)
          clear H74
          refine wpAnyH_ready (rs := [11]) (by kernel_rfl) (by simp) ?_
          refine AllReadyH.cons (o := _) rfl (fun K hK => ?_) AllReadyH.nil
          go_simp
          clear l0 l1 l2 f0 f1 f2
          obtain ⟨w75, hw⟩ : ∃ W, (((w74.setCell ⟨X31, 0, none⟩ (.bool rv.1)).setCell ⟨X31, 1, none⟩ (.string rv.2.1)).setCell ⟨X31, 2, none⟩ (.string rv.2.2)) = W := ⟨_, rfl⟩
          rw [hw] at H75
          rw [hw]
          clear hw
          refine hK.out _ _ (HSS.out _ _ _ (by simp) H75.out) (fun hHeld => ?_)
          clear hK K
          try simp only [List.getElem_toArray, List.getElem_cons_zero, List.getElem_cons_succ, List.get, Act.put, List.setIfInBounds_toArray, List.set_cons_zero, List.set_cons_succ]
          refine wpAnyH_done (by kernel_rfl) ?_ _
          refine NoPanic.normal ?_
          go_wp2_with fail
          go_meet
          exact ⟨X31, rv, _, rfl, T_rv.out, (fun h => by simp only [Bool.or_eq_false_iff] at h ⊢; simp [h]), H75.out⟩
  obtain ⟨X31, rv, f20, rfl, t_rv, hf, hls⟩ := hcut
  have T_rv := hide t_rv
  have HF20 := hide hf
  have H76 := hide hls
  clear hf hls H57 t_rv
  obtain ⟨w76, hwc⟩ : ∃ W, W = wc := ⟨_, rfl⟩
  subst hwc
  go_upto_region 21 with fail
  go_cut [32] (fun z32 wx => ∃ X32 : Nat, ∃ rb : T3, ∃ f : Bool, z32 = .pointer (some ⟨X32, 0, none⟩) ∧ TO (mul2 (mul2 (some p) (some q)) (mul2 (add2 (some pa) (negO (some pb))) (add2 (some pa) (negO (some pb))))) rb ∧ (f = false → f20 = false ∧ (mul2 (mul2 (some p) (some q)) (mul2 (add2 (some pa) (negO (some pb))) (add2 (some pa) (negO (some pb))))).isNone = false) ∧ LS w wx C f [(X32, rb), (X31, rv), (X30, dd), (X29, rm), (X26, vs), (X24, vb), (X22, va), (X20, ms), (X18, mb), (X16, ma), (X11, v), (X10, u)])
  case first =>
    as_aux_lemma =>
      have HSS : Hid (∀ W f l, [(X10, u), (X11, v), (X30, dd)] ⊆ l → LS w W C f l → (W.cell? ⟨X10, 0, none⟩ = some (.bool u.1) ∧ W.cell? ⟨X10, 1, none⟩ = some (.string u.2.1) ∧ W.cell? ⟨X10, 2, none⟩ = some (.string u.2.2)) ∧ (W.cell? ⟨X11, 0, none⟩ = some (.bool v.1) ∧ W.cell? ⟨X11, 1, none⟩ = some (.string v.2.1) ∧ W.cell? ⟨X11, 2, none⟩ = some (.string v.2.2)) ∧ (W.cell? ⟨X30, 0, none⟩ = some (.bool dd.1) ∧ W.cell? ⟨X30, 1, none⟩ = some (.string dd.2.1) ∧ W.cell? ⟨X30, 2, none⟩ = some (.string dd.2.2))) := fun W f l hsub hls => by
        have h := fun p hp => hls.rc p (hsub hp)
        have hB := hls.bel
        exact ⟨⟨(h (X10, u) (by simp)).1.c0, (h (X10, u) (by simp)).1.c1, (h (X10, u) (by simp)).1.c2⟩, ⟨(h (X11, v) (by simp)).1.c0, (h (X11, v) (by simp)).1.c1, (h (X11, v) (by simp)).1.c2⟩, ⟨(h (X30, dd) (by simp)).1.c0, (h (X30, dd) (by simp)).1.c1, (h (X30, dd) (by simp)).1.c2⟩⟩
      have hbd : Below w76.heap.size w76 w76.drew := bDraw (Below.refl _ w76)
      obtain ⟨w77, hwd⟩ : ∃ W, w76.drew = W := ⟨_, rfl⟩
      rw [hwd] at hbd
      have H77 := hide (H76.out.below hbd)
      clear H76 hbd
      have hE0 := HSS.out _ _ _ (by simp) H77.out
      refine wp_region_noPanic ?_
      refine wp_region_held_drew (S := fun w' => (w'.cell? ⟨X10, 0, none⟩ = some (.bool u.1) ∧ w'.cell? ⟨X10, 1, none⟩ = some (.string u.2.1) ∧ w'.cell? ⟨X10, 2, none⟩ = some (.string u.2.2)) ∧ (w'.cell? ⟨X11, 0, none⟩ = some (.bool v.1) ∧ w'.cell? ⟨X11, 1, none⟩ = some (.string v.2.1) ∧ w'.cell? ⟨X11, 2, none⟩ = some (.string v.2.2)) ∧ (w'.cell? ⟨X30, 0, none⟩ = some (.bool dd.1) ∧ w'.cell? ⟨X30, 1, none⟩ = some (.string dd.2.1) ∧ w'.cell? ⟨X30, 2, none⟩ = some (.string dd.2.2))) (by kernel_rfl) (by rw [hwd]; exact hE0) (fun hHeld => ?_)
      rw [hwd] at hHeld ⊢
      clear hwd hE0
      change wpAnyH _ _ _ _ _ 12 #[false, false, false, false, false, false, false, false, false, false, false, false] _ _
      refine wpAnyH_take (i := 0) (oi := _) (v := ?_) rfl (by kernel_rfl) (by kernel_rfl) (by kernel_rfl) (fun _ _ _ h => h) (Or.inl ⟨by rfl, ?_⟩) (by assumption) ?_
      rotate_left
      · intro w hSw
        (try dsimp only at hSw)
        go_simp
        try with_reducible rfl
      try simp only [List.getElem_toArray, List.getElem_cons_zero, List.getElem_cons_succ, List.get, Act.put, List.setIfInBounds_toArray, List.set_cons_zero, List.set_cons_succ]
      refine wpAnyH_take (i := 1) (oi := _) (v := ?_) rfl (by kernel_rfl) (by kernel_rfl) (by kernel_rfl) (fun _ _ _ h => h) (Or.inl ⟨by rfl, ?_⟩) (by assumption) ?_
      rotate_left
      · intro w hSw
        (try dsimp only at hSw)
        go_simp
        try with_reducible rfl
      try simp only [List.getElem_toArray, List.getElem_cons_zero, List.getElem_cons_succ, List.get, Act.put, List.setIfInBounds_toArray, List.set_cons_zero, List.set_cons_succ]
      refine wpAnyH_take (i := 2) (oi := _) (v := ?_) rfl (by kernel_rfl) (by kernel_rfl) (by kernel_rfl) (fun _ _ _ h => h) (Or.inl ⟨by rfl, ?_⟩) (by assumption) ?_
      rotate_left
      · intro w hSw
        (try dsimp only at hSw)
        go_simp
        try with_reducible rfl
      try simp only [List.getElem_toArray, List.getElem_cons_zero, List.getElem_cons_succ, List.get, Act.put, List.setIfInBounds_toArray, List.set_cons_zero, List.set_cons_succ]
      refine wpAnyH_take (i := 3) (oi := _) (v := ?_) rfl (by kernel_rfl) (by kernel_rfl) (by kernel_rfl) (fun _ _ _ h => h) (Or.inl ⟨by rfl, ?_⟩) (by assumption) ?_
      rotate_left
      · intro w hSw
        (try dsimp only at hSw)
        go_simp
        try with_reducible rfl
      try simp only [List.getElem_toArray, List.getElem_cons_zero, List.getElem_cons_succ, List.get, Act.put, List.setIfInBounds_toArray, List.set_cons_zero, List.set_cons_succ]
      refine wpAnyH_take (i := 5) (oi := _) (v := ?_) rfl (by kernel_rfl) (by kernel_rfl) (by kernel_rfl) (fun _ _ _ h => h) (Or.inl ⟨by rfl, ?_⟩) (by assumption) ?_
      rotate_left
      · intro w hSw
        (try dsimp only at hSw)
        go_simp
        try with_reducible rfl
      try simp only [List.getElem_toArray, List.getElem_cons_zero, List.getElem_cons_succ, List.get, Act.put, List.setIfInBounds_toArray, List.set_cons_zero, List.set_cons_succ]
      refine wpAnyH_take (i := 6) (oi := _) (v := ?_) rfl (by kernel_rfl) (by kernel_rfl) (by kernel_rfl) (fun _ _ _ h => h) (Or.inl ⟨by rfl, ?_⟩) (by assumption) ?_
      rotate_left
      · intro w hSw
        (try dsimp only at hSw)
        go_simp
        try with_reducible rfl
      try simp only [List.getElem_toArray, List.getElem_cons_zero, List.getElem_cons_succ, List.get, Act.put, List.setIfInBounds_toArray, List.set_cons_zero, List.set_cons_succ]
      refine wpAnyH_take (i := 7) (oi := _) (v := ?_) rfl (by kernel_rfl) (by kernel_rfl) (by kernel_rfl) (fun _ _ _ h => h) (Or.inl ⟨by rfl, ?_⟩) (by assumption) ?_
      rotate_left
      · intro w hSw
        (try dsimp only at hSw)
        go_simp
        try with_reducible rfl
      try simp only [List.getElem_toArray, List.getElem_cons_zero, List.getElem_cons_succ, List.get, Act.put, List.setIfInBounds_toArray, List.set_cons_zero, List.set_cons_succ]
      refine wpAnyH_ready (rs := [4, 10]) (by kernel_rfl) (by simp) ?_
      refine AllReadyH.cons (o := _) rfl (fun K hK => ?_) (AllReadyH.cons (o := _) rfl (fun K hK => ?_) AllReadyH.nil)
      · as_aux_lemma =>
          go_simp
          refine (l46_mul C HT1.out HT2.out _ _ (HL.out.below H77.out.bel) H77.out.cf).mono ?_
          rintro e w78 ⟨b1, rfl, ht, hc, hg⟩
          have T_b1 := hide ht
          clear ht
          have H78 := hide (H77.out.grown hg hc)
          clear H77 hg hc
          refine hK.out _ _ (HSS.out _ _ _ (by simp) H78.out) (fun hHeld => ?_)
          clear hK K
          try simp only [List.getElem_toArray, List.getElem_cons_zero, List.getElem_cons_succ, List.get, Act.put, List.setIfInBounds_toArray, List.set_cons_zero, List.set_cons_succ]
          refine wpAnyH_ready (rs := [8, 10]) (by kernel_rfl) (by simp) ?_
          refine AllReadyH.cons (o := _) rfl (fun K hK => ?_) (AllReadyH.cons (o := _) rfl (fun K hK => ?_) AllReadyH.nil)
          · as_aux_lemma =>
              go_simp
              refine (l46_mul C T_dd.out T_dd.out _ _ (HL.out.below H78.out.bel) H78.out.cf).mono ?_
              rintro e w79 ⟨b2, rfl, ht, hc, hg⟩
              have T_b2 := hide ht
              clear ht
              have H79 := hide (H78.out.grown hg hc)
              clear H78 hg hc
              refine hK.out _ _ (HSS.out _ _ _ (by simp) H79.out) (fun hHeld => ?_)
              clear hK K
              try simp only [List.getElem_toArray, List.getElem_cons_zero, List.getElem_cons_succ, List.get, Act.put, List.setIfInBounds_toArray, List.set_cons_zero, List.set_cons_succ]
              refine wpAnyH_ready (rs := [9, 10]) (by kernel_rfl) (by simp) ?_
              refine AllReadyH.cons (o := _) rfl (fun K hK => ?_) (AllReadyH.cons (o := _) rfl (fun K hK => ?_) AllReadyH.nil)
              · skip
                go_simp
                refine (l46_mul C T_b1.out T_b2.out _ _ (HL.out.below H79.out.bel) H79.out.cf).mono ?_
                rintro e w80 ⟨rb, rfl, ht, hc, hg⟩
                have T_rb := hide ht
                clear ht
                have H80 := hide (H79.out.grown hg hc)
                clear H79 hg hc
                refine hK.out _ _ (HSS.out _ _ _ (by simp) H80.out) (fun hHeld => ?_)
                clear hK K
                try simp only [List.getElem_toArray, List.getElem_cons_zero, List.getElem_cons_succ, List.get, Act.put, List.setIfInBounds_toArray, List.set_cons_zero, List.set_cons_succ]
                refine wpAnyH_ready (rs := [10]) (by kernel_rfl) (by simp) ?_
                refine AllReadyH.cons (o := _) rfl (fun K hK => ?_) AllReadyH.nil
                have H81 := hide (H80.out.box (false, ⟨#[]⟩, ⟨#[]⟩) 29)
                clear H80
                go_simp
                change Hid (LS w (w80.alloc (.cells #[.bool false, .string ⟨#[]⟩, .string ⟨#[]⟩] 29)) _ _ _) at H81
                obtain ⟨w81, hw⟩ : ∃ W, w80.alloc (.cells #[.bool false, .string ⟨#[]⟩, .string ⟨#[]⟩] 29) = W := ⟨_, rfl⟩
                obtain ⟨X32, hX⟩ : ∃ A, w80.heap.size = A := ⟨_, rfl⟩
                rw [hw, hX] at H81
                rw [hw, hX]
                clear hw hX
                refine hK.out _ _ (HSS.out _ _ _ (by simp) H81.out) (fun hHeld => ?_)
                clear hK K
                try simp only [List.getElem_toArray, List.getElem_cons_zero, List.getElem_cons_succ, List.get, Act.put, List.setIfInBounds_toArray, List.set_cons_zero, List.set_cons_succ]
                obtain ⟨l0, l1, l2, f0, f1, f2⟩ := (H81.out.rc (X32, (false, ⟨#[]⟩, ⟨#[]⟩)) (by simp)).1
                dsimp only at l0 l1 l2 f0 f1 f2
                have H82 := hide (H81.out.store rb)
                clear H81
                refine wpAnyH_ready (rs := [11]) (by kernel_rfl) (by simp) ?_
                refine AllReadyH.cons (o := _) rfl (fun K hK => ?_) AllReadyH.nil
                go_simp
                clear l0 l1 l2 f0 f1 f2
                obtain ⟨w82, hw⟩ : ∃ W, (((w81.setCell ⟨X32, 0, none⟩ (.bool rb.1)).setCell ⟨X32, 1, none⟩ (.string rb.2.1)).setCell ⟨X32, 2, none⟩ (.string rb.2.2)) = W := ⟨_, rfl⟩
                rw [hw] at H82
                rw [hw]
                clear hw
                refine hK.out _ _ (HSS.out _ _ _ (by simp) H82.out) (fun hHeld => ?_)
                clear hK K
                try simp only [List.getElem_toArray, List.getElem_cons_zero, List.getElem_cons_succ, List.get, Act.put, List.setIfInBounds_toArray, List.set_cons_zero, List.set_cons_succ]
                refine wpAnyH_done (by kernel_rfl) ?_ _
                refine NoPanic.normal ?_
                go_wp2_with fail
                go_meet
                exact ⟨X32, rb, _, rfl, T_rb.out, (fun h => by simp only [Bool.or_eq_false_iff] at h ⊢; simp [h]), H82.out⟩
              · skip
                have H83 := hide (H79.out.box (false, ⟨#[]⟩, ⟨#[]⟩) 29)
                clear H79
                go_simp
                change Hid (LS w (w79.alloc (.cells #[.bool false, .string ⟨#[]⟩, .string ⟨#[]⟩] 29)) _ _ _) at H83
                obtain ⟨w83, hw⟩ : ∃ W, w79.alloc (.cells #[.bool false, .string ⟨#[]⟩, .string ⟨#[]⟩] 29) = W := ⟨_, rfl⟩
                obtain ⟨X32, hX⟩ : ∃ A, w79.heap.size = A := ⟨_, rfl⟩
                rw [hw, hX] at H83
                rw [hw, hX]
                clear hw hX
                refine hK.out _ _ (HSS.out _ _ _ (by simp) H83.out) (fun hHeld => ?_)
                clear hK K
                try simp only [List.getElem_toArray, List.getElem_cons_zero, List.getElem_cons_succ, List.get, Act.put, List.setIfInBounds_toArray, List.set_cons_zero, List.set_cons_succ]
                refine wpAnyH_ready (rs := [9]) (by kernel_rfl) (by simp) ?_
                refine AllReadyH.cons (o := _) rfl (fun K hK => ?_) AllReadyH.nil
                go_simp
                refine (l46_mul C T_b1.out T_b2.out _ _ (HL.out.below H83.out.bel) H83.out.cf).mono ?_
                rintro e w84 ⟨rb, rfl, ht, hc, hg⟩
                have T_rb := hide ht
                clear ht
                have H84 := hide (H83.out.grown hg hc)
                clear H83 hg hc
                refine hK.out _ _ (HSS.out _ _ _ (by simp) H84.out) (fun hHeld => ?_)
                clear hK K
                try simp only [List.getElem_toArray, List.getElem_cons_zero, List.getElem_cons_succ, List.get, Act.put, List.setIfInBounds_toArray, List.set_cons_zero, List.set_cons_succ]
                obtain ⟨l0, l1, l2, f0, f1, f2⟩ := (H84.out.rc (X32, (false, ⟨#[]⟩, ⟨#[]⟩)) (by simp)).1
                dsimp only at l0 l1 l2 f0 f1 f2
                have H85 := hide (H84.out.store rb)
                clear H84
                refine wpAnyH_ready (rs := [11]) (by kernel_rfl) (by simp) ?_
                refine AllReadyH.cons (o := _) rfl (fun K hK => ?_) AllReadyH.nil
                go_simp
                clear l0 l1 l2 f0 f1 f2
                obtain ⟨w85, hw⟩ : ∃ W, (((w84.setCell ⟨X32, 0, none⟩ (.bool rb.1)).setCell ⟨X32, 1, none⟩ (.string rb.2.1)).setCell ⟨X32, 2, none⟩ (.string rb.2.2)) = W := ⟨_, rfl⟩
                rw [hw] at H85
                rw [hw]
                clear hw
                refine hK.out _ _ (HSS.out _ _ _ (by simp) H85.out) (fun hHeld => ?_)
                clear hK K
                try simp only [List.getElem_toArray, List.getElem_cons_zero, List.getElem_cons_succ, List.get, Act.put, List.setIfInBounds_toArray, List.set_cons_zero, List.set_cons_succ]
                refine wpAnyH_done (by kernel_rfl) ?_ _
                refine NoPanic.normal ?_
                go_wp2_with fail
                go_meet
                exact ⟨X32, rb, _, rfl, T_rb.out, (fun h => by simp only [Bool.or_eq_false_iff] at h ⊢; simp [h]), H85.out⟩
          · as_aux_lemma =>
              have H86 := hide (H78.out.box (false, ⟨#[]⟩, ⟨#[]⟩) 29)
              clear H78
              go_simp
              change Hid (LS w (w78.alloc (.cells #[.bool false, .string ⟨#[]⟩, .string ⟨#[]⟩] 29)) _ _ _) at H86
              obtain ⟨w86, hw⟩ : ∃ W, w78.alloc (.cells #[.bool false, .string ⟨#[]⟩, .string ⟨#[]⟩] 29) = W := ⟨_, rfl⟩
              obtain ⟨X32, hX⟩ : ∃ A, w78.heap.size = A := ⟨_, rfl⟩
              rw [hw, hX] at H86
              rw [hw, hX]
              clear hw hX
              refine hK.out _ _ (HSS.out _ _ _ (by simp) H86.out) (fun hHeld => ?_)
              clear hK K
              try simp only [List.getElem_toArray, List.getElem_cons_zero, List.getElem_cons_succ, List.get, Act.put, List.setIfInBounds_toArray, List.set_cons_zero, List.set_cons_succ]
              refine wpAnyH_ready (rs := [8]) (by kernel_rfl) (by simp) ?_
              refine AllReadyH.cons (o := _) rfl (fun K hK => ?_) AllReadyH.nil
              go_simp
              refine (l46_mul C T_dd.out T_dd.out _ _ (HL.out.below H86.out.bel) H86.out.cf).mono ?_
              rintro e w87 ⟨b2, rfl, ht, hc, hg⟩
              have T_b2 := hide ht
              clear ht
              have H87 := hide (H86.out.grown hg hc)
              clear H86 hg hc
              refine hK.out _ _ (HSS.out _ _ _ (by simp) H87.out) (fun hHeld => ?_)
              clear hK K
              try simp only [List.getElem_toArray, List.getElem_cons_zero, List.getElem_cons_succ, List.get, Act.put, List.setIfInBounds_toArray, List.set_cons_zero, List.set_cons_succ]
              refine wpAnyH_ready (rs := [9]) (by kernel_rfl) (by simp) ?_
              refine AllReadyH.cons (o := _) rfl (fun K hK => ?_) AllReadyH.nil
              go_simp
              refine (l46_mul C T_b1.out T_b2.out _ _ (HL.out.below H87.out.bel) H87.out.cf).mono ?_
              rintro e w88 ⟨rb, rfl, ht, hc, hg⟩
              have T_rb := hide ht
              clear ht
              have H88 := hide (H87.out.grown hg hc)
              clear H87 hg hc
              refine hK.out _ _ (HSS.out _ _ _ (by simp) H88.out) (fun hHeld => ?_)
              clear hK K
              try simp only [List.getElem_toArray, List.getElem_cons_zero, List.getElem_cons_succ, List.get, Act.put, List.setIfInBounds_toArray, List.set_cons_zero, List.set_cons_succ]
              obtain ⟨l0, l1, l2, f0, f1, f2⟩ := (H88.out.rc (X32, (false, ⟨#[]⟩, ⟨#[]⟩)) (by simp)).1
              dsimp only at l0 l1 l2 f0 f1 f2
              have H89 := hide (H88.out.store rb)
              clear H88
              refine wpAnyH_ready (rs := [11]) (by kernel_rfl) (by simp) ?_
              refine AllReadyH.cons (o := _) rfl (fun K hK => ?_) AllReadyH.nil
              go_simp
              clear l0 l1 l2 f0 f1 f2
              obtain ⟨w89, hw⟩ : ∃ W, (((w88.setCell ⟨X32, 0, none⟩ (.bool rb.1)).setCell ⟨X32, 1, none⟩ (.string rb.2.1)).setCell ⟨X32, 2, none⟩ (.string rb.2.2)) = W := ⟨_, rfl⟩
              rw [hw] at H89
              rw [hw]
              clear hw
              refine hK.out _ _ (HSS.out _ _ _ (by simp) H89.out) (fun hHeld => ?_)
              clear hK K
              try simp only [List.getElem_toArray, List.getElem_cons_zero, List.getElem_cons_succ, List.get, Act.put, List.setIfInBounds_toArray, List.set_cons_zero, List.set_cons_succ]
              refine wpAnyH_done (by kernel_rfl) ?_ _
              refine NoPanic.normal ?_
              go_wp2_with fail
              go_meet
              exact ⟨X32, rb, _, rfl, T_rb.out, (fun h => by simp only [Bool.or_eq_false_iff] at h ⊢; simp [h]), H89.out⟩
      · as_aux_lemma =>
          have H90 := hide (H77.out.box (false, ⟨#[]⟩, ⟨#[]⟩) 29)
          clear H77
          go_simp
          change Hid (LS w (w77.alloc (.cells #[.bool false, .string ⟨#[]⟩, .string ⟨#[]⟩] 29)) _ _ _) at H90
          obtain ⟨w90, hw⟩ : ∃ W, w77.alloc (.cells #[.bool false, .string ⟨#[]⟩, .string ⟨#[]⟩] 29) = W := ⟨_, rfl⟩
          obtain ⟨X32, hX⟩ : ∃ A, w77.heap.size = A := ⟨_, rfl⟩
          rw [hw, hX] at H90
          rw [hw, hX]
          clear hw hX
          refine hK.out _ _ (HSS.out _ _ _ (by simp) H90.out) (fun hHeld => ?_)
          clear hK K
          try simp only [List.getElem_toArray, List.getElem_cons_zero, List.getElem_cons_succ, List.get, Act.put, List.setIfInBounds_toArray, List.set_cons_zero, List.set_cons_succ]
          refine wpAnyH_ready (rs := [4]) (by kernel_rfl) (by simp) ?_
          refine AllReadyH.cons (o := _) rfl (fun K hK => ?_) AllReadyH.nil
          go_simp
          refine (l46_mul C HT1.out HT2.out _ _ (HL.out.below H90.out.bel) H90.out.cf).mono ?_
          rintro e w91 ⟨b1, rfl, ht, hc, hg⟩
          have T_b1 := hide ht
          clear ht
          have H91 := hide (H90.out.grown hg hc)
          clear H90 hg hc
          refine hK.out _ _ (HSS.out _ _ _ (by simp) H91.out) (fun hHeld => ?_)
          clear hK K
          try simp only [List.getElem_toArray, List.getElem_cons_zero, List.getElem_cons_succ, List.get, Act.put, List.setIfInBounds_toArray, List.set_cons_zero, List.set_cons_succ]
          refine wpAnyH_ready (rs := [8]) (by kernel_rfl) (by simp) ?_
          refine AllReadyH.cons (o := _) rfl (fun K hK => ?_) AllReadyH.nil
          go_simp
          refine (l46_mul C T_dd.out T_dd.out _ _ (HL.out.below H91.out.bel) H91.out.cf).mono ?_
          rintro e w92 ⟨b2, rfl, ht, hc, hg⟩
          have T_b2 := hide ht
          clear ht
          have H92 := hide (H91.out.grown hg hc)
          clear H91 hg hc
          refine hK.out _ _ (HSS.out _ _ _ (by simp) H92.out) (fun hHeld => ?_)
          clear hK K
          try simp only [List.getElem_toArray, List.getElem_cons_zero, List.getElem_cons_succ, List.get, Act.put, List.setIfInBounds_toArray, List.set_cons_zero, List.set_cons_succ]
          refine wpAnyH_ready (rs := [9]) (by kernel_rfl) (by simp) ?_
          refine AllReadyH.cons (o := _) rfl (fun K hK => ?_) AllReadyH.nil
          go_simp
          refine (l46_mul C T_b1.out T_b2.out _ _ (HL.out.below H92.out.bel) H92.out.cf).mono ?_
          rintro e w93 ⟨rb, rfl, ht, hc, hg⟩
          have T_rb := hide ht
          clear ht
          have H93 := hide (H92.out.grown hg hc)
          clear H92 hg hc
          refine hK.out _ _ (HSS.out _ _ _ (by simp) H93.out) (fun hHeld => ?_)
          clear hK K
          try simp only [List.getElem_toArray, List.getElem_cons_zero, List.getElem_cons_succ, List.get, Act.put, List.setIfInBounds_toArray, List.set_cons_zero, List.set_cons_succ]
          obtain ⟨l0, l1, l2, f0, f1, f2⟩ := (H93.out.rc (X32, (false, ⟨#[]⟩, ⟨#[]⟩)) (by simp)).1
          dsimp only at l0 l1 l2 f0 f1 f2
          have H94 := hide (H93.out.store rb)
          clear H93
          refine wpAnyH_ready (rs := [11]) (by kernel_rfl) (by simp) ?_
          refine AllReadyH.cons (o := _) rfl (fun K hK => ?_) AllReadyH.nil
          go_simp
          clear l0 l1 l2 f0 f1 f2
          obtain ⟨w94, hw⟩ : ∃ W, (((w93.setCell ⟨X32, 0, none⟩ (.bool rb.1)).setCell ⟨X32, 1, none⟩ (.string rb.2.1)).setCell ⟨X32, 2, none⟩ (.string rb.2.2)) = W := ⟨_, rfl⟩
          rw [hw] at H94
          rw [hw]
          clear hw
          refine hK.out _ _ (HSS.out _ _ _ (by simp) H94.out) (fun hHeld => ?_)
          clear hK K
          try simp only [List.getElem_toArray, List.getElem_cons_zero, List.getElem_cons_succ, List.get, Act.put, List.setIfInBounds_toArray, List.set_cons_zero, List.set_cons_succ]
          refine wpAnyH_done (by kernel_rfl) ?_ _
          refine NoPanic.normal ?_
          go_wp2_with fail
          go_meet
          exact ⟨X32, rb, _, rfl, T_rb.out, (fun h => by simp only [Bool.or_eq_false_iff] at h ⊢; simp [h]), H94.out⟩
  obtain ⟨X32, rb, f21, rfl, t_rb, hf, hls⟩ := hcut
  have T_rb := hide t_rb
  have HF21 := hide hf
  have H95 := hide hls
  clear hf hls H76 t_rb
  obtain ⟨w95, hwc⟩ : ∃ W, W = wc := ⟨_, rfl⟩
  subst hwc
  go_upto_region 22 with fail
  obtain ⟨q0_0, q0_1, q0_2, _, _, _⟩ := (H95.out.rc (X31, rv) (by simp)).1
  obtain ⟨q1_0, q1_1, q1_2, _, _, _⟩ := (H95.out.rc (X32, rb) (by simp)).1
  go_wp2_with fail
  refine (l46_add C T_rv.out T_rb.out _ _ (HL.out.below H95.out.bel) H95.out.cf).mono ?_
  rintro e w96 ⟨ra, rfl, ht, hc, hg⟩
  have T_ra := hide ht
  clear ht
  have H96 := hide (H95.out.grown hg hc)
  clear H95 hg hc
  clear q0_0 q0_1 q0_2 q1_0 q1_1 q1_2
  have hba := bAlloc (Below.refl w96.heap.size w96) (.cells #[.bool ra.1, .string ra.2.1, .string ra.2.2] 29)
  have H97 := hide (H96.out.box ra 29)
  clear H96 hba 
  go_upto_region 23 with fail
  obtain ⟨w97, hw⟩ : ∃ W, w96.alloc (.cells #[.bool ra.1, .string ra.2.1, .string ra.2.2] 29) = W := ⟨_, rfl⟩
  obtain ⟨X33, hX⟩ : ∃ A, w96.heap.size = A := ⟨_, rfl⟩
  rw [hw, hX] at H97
  rw [hw, hX]
  clear hw hX
  have hcf := H97.out.cf.c
  obtain ⟨fl, hff⟩ : ∃ f, (f21 || (add2 (add2 (mul2 (some p) (some qa)) (mul2 (some q) (some qb))) (mul2 (mul2 (some p) (some q)) (mul2 (add2 (some pa) (negO (some pb))) (add2 (some pa) (negO (some pb)))))).isNone) = f := ⟨_, rfl⟩
  rw [hff] at hcf
  cases fl with
  | true =>
    go_wp2_with fail
    go_ret
    exact ⟨by first | rfl | simp, H97.out.bel⟩
  | false =>
    obtain ⟨g1, g2⟩ := or_parts hff
    obtain ⟨g3, g4⟩ := HF21.out g1
    obtain ⟨g5, g6⟩ := HF20.out g3
    obtain ⟨g7, g8⟩ := HF19.out g5
    obtain ⟨_, g9⟩ := HF18.out g7
    have e1 := HE1.out _ T_rm.out g9
    have e2 := HE2.out _ T_ra.out g2
    subst e1 e2
    clear hff g1 g2 g3 g4 g5 g6 g7 g8 g9
    obtain ⟨q0_0, q0_1, q0_2, _, _, _⟩ := (H97.out.rc (X20, rm) (by simp)).1
    obtain ⟨q1_0, q1_1, q1_2, _, _, _⟩ := (H97.out.rc (X29, rm) (by simp)).1
    obtain ⟨q2_0, q2_1, q2_2, _, _, _⟩ := (H97.out.rc (X26, ra) (by simp)).1
    obtain ⟨q3_0, q3_1, q3_2, _, _, _⟩ := (H97.out.rc (X33, ra) (by simp)).1
    go_wp2_with fail
    go_ret
    exact ⟨by first | rfl | simp, H97.out.bel⟩
end Go.Proofs.YtblpnekjnaaeoaaGreatDoor
