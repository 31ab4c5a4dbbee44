/- MomentsSingle: the walks. -/
import Derived.Test.YtblpnekjnaaeoaaGreatDoorMqRa
set_option linter.unusedVariables false
set_option linter.unusedSimpArgs false
namespace Go.Proofs.YtblpnekjnaaeoaaGreatDoor
open Go.RowKit

def KPts (w : World) (z0 z1 z2 : Int) (l : List PQ) : Prop := ∀ W, Below w.heap.size w W → Calls Tryz.prog 29 #[.slice (some ⟨W.heap.size, 0, none⟩) 3 3] (W.alloc (.cells #[.int .i64 z0, .int .i64 z1, .int .i64 z2] 3)) fun e w' => ∃ po cp, e = .returned (.slice po 1 cp) ∧ SliceOf vPr 6 w' (.slice po 1 cp) (l.map encP) ∧ Below W.heap.size W w'
def KSumL (w : World) (va : Value) (l s : List PQ) : Prop := ∀ W v, Below w.heap.size w W → SliceOf vPr 6 W v (l.map encP) → Calls Tryz.prog 16 #[va, v] W fun e w' => ∃ so cp, e = .returned (.tuple #[.slice so s.length cp, .int .i64 0]) ∧ SliceOf vPr 6 w' (.slice so s.length cp) (s.map encP) ∧ Below W.heap.size W w'
def KMix1 (w : World) (x : T3) (va : Value) (s : List PQ) : Prop := ∀ W, Below w.heap.size w W → Calls Tryz.prog 18 #[.slice (some ⟨W.heap.size, 0, none⟩) 1 1, .slice (some ⟨W.heap.size + 1, 0, none⟩) 1 1] ((W.alloc (.cells #[.bool x.1, .string x.2.1, .string x.2.2] 29)).alloc (.cells #[va] 22)) fun e w' => ∃ so cp, e = .returned (.tuple #[.slice so s.length cp, .int .i64 0]) ∧ SliceOf vPr 6 w' (.slice so s.length cp) (s.map encP) ∧ Below W.heap.size W w'
def KRt (w : World) (n d : Int) (x : T3) : Prop := ∀ W, Below w.heap.size w W → Calls Tryz.prog 23 #[.int .i64 n, .int .i64 d] W fun e w' => e = .returned (.agg #[.bool x.1, .string x.2.1, .string x.2.2]) ∧ Below W.heap.size W w'
theorem sumL_later {a b s : List PQ} {va : Value} {w : World} (ha : VD (a.map encP) a) (hb : VD (b.map encP) b) (hL : LawM w) (hsa : SliceOf vPr 6 w va (a.map encP)) (hr : resO (itS a b) = some s) : KSumL w va b s := fun W v hW hs => by
  have h := c_Sum ha hb (hL.below hW) (hsa.below hW) hs
  rw [hr] at h
  exact h
theorem mix1_later {p : Rat} {a s : List PQ} {va : Value} {w : World} (hL : LawM w) (hsa : SliceOf vPr 6 w va (a.map encP)) (hx : XD [rqM p] [a.map encP] [p] [a]) (hr : resO (itM [p] [a]) = some s) : KMix1 w (rqM p) va s := fun W hW => by
  have hb1 := bAlloc hW (.cells #[.bool (rqM p).1, .string (rqM p).2.1, .string (rqM p).2.2] 29)
  have hb2 := bAlloc hb1 (.cells #[va] 22)
  have hbW := bAlloc (bAlloc (Below.refl W.heap.size W) (.cells #[.bool (rqM p).1, .string (rqM p).2.1, .string (rqM p).2.2] 29)) (.cells #[va] 22)
  have h1 := lls_one 22 (hsa.below hb1)
  rw [World.size_alloc] at h1
  refine (mo_Mix [rqM p] [a.map encP] (show 1 ≤ 2000 by decide) (fun x hx' => ?_) (fun M hM => ?_) _ _ _ (hL.below hb2) ((one_rat W (rqM p) _).below (bAlloc (Below.refl _ _) _)) h1).mono ?_
  · rw [List.mem_singleton.1 hx']
    exact rqM_size (hx.fw _ (List.mem_cons_self ..)).1
  · rw [List.mem_singleton.1 hM]
    exact encP_size (hx.vl a (List.mem_cons_self ..)).vl.fit
  rintro e w' hp
  have hp := mix_ok hx hp
  rw [hr] at hp
  obtain ⟨so, cp, h1, h2, h3⟩ := hp
  exact ⟨so, cp, h1, h2, bStepM hbW h3⟩
theorem pts_later {z0 z1 z2 : Int} {w : World} (hL : LawM w) (h : ptOk (z0, z1, z2)) : KPts w z0 z1 z2 [ptQ (z0, z1, z2)] := fun W hW => by
  refine (law46_points [(z0, z1, z2)] (fun t ht => by rw [List.mem_singleton.1 ht]; exact h) (show 1 ≤ 1000 by decide) _ _ ((hL.below hW).below (bAlloc (Below.refl _ _) _)) (int_lit W [z0, z1, z2] 3 (show 3 ≤ maxLen by decide))).mono ?_
  rintro e w' ⟨ao, cp, h1, h2, h3⟩
  exact ⟨ao, cp, h1, h2, bStepM (bAlloc (Below.refl _ _) _) h3⟩
set_option maxHeartbeats 8000000 in
set_option maxRecDepth 100000 in
theorem l46_one_e0 (ao : Option Addr) (n c : Nat) (bb xx yy : Int) (w : World) (hL : LawM w) (hFa : K1 w 10 (.slice ao n c) false) :
    Calls Tryz.prog 8 #[.slice ao n c, .int .i16 bb, .int .u8 xx, .int .u8 yy] w fun e w' => e = .returned (.bool true) ∧ Below w.heap.size w w' := by
  have HL := hide hL
  have HHD := hide (law46_head w hL)
  have H0 := hide (LS0.start w)
  have HFa := hide hFa
  clear hL hFa
  go_enter Tryz.func8, Tryz.ntmps8
  go_wp2_with fail
  refine (HHD.out).mono ?_
  rintro e w1 ⟨rfl, hb⟩
  have H1 := hide (H0.out.below hb)
  clear H0 hb
  go_wp2_with fail
  refine (HFa.out _ H1.out.bel).mono ?_
  rintro e w2 ⟨rfl, hb⟩
  have H2 := hide (H1.out.below hb)
  clear H1 hb
  go_wp2_with fail
  go_ret
  exact ⟨by first | rfl | simp, H2.out.bel⟩
set_option maxHeartbeats 8000000 in
set_option maxRecDepth 100000 in
theorem l46_one_e1 (ao : Option Addr) (n c : Nat) (bb xx yy : Int) (w : World) (hL : LawM w) (hFa : K1 w 10 (.slice ao n c) true) (hVa : K1 w 20 (.slice ao n c) false) :
    Calls Tryz.prog 8 #[.slice ao n c, .int .i16 bb, .int .u8 xx, .int .u8 yy] w fun e w' => e = .returned (.bool true) ∧ Below w.heap.size w w' := by
  have HL := hide hL
  have HHD := hide (law46_head w hL)
  have H0 := hide (LS0.start w)
  have HFa := hide hFa
  have HVa := hide hVa
  clear hL hFa hVa
  go_enter Tryz.func8, Tryz.ntmps8
  go_wp2_with fail
  refine (HHD.out).mono ?_
  rintro e w1 ⟨rfl, hb⟩
  have H1 := hide (H0.out.below hb)
  clear H0 hb
  go_wp2_with fail
  refine (HFa.out _ H1.out.bel).mono ?_
  rintro e w2 ⟨rfl, hb⟩
  have H2 := hide (H1.out.below hb)
  clear H1 hb
  go_wp2_with fail
  refine (HVa.out _ H2.out.bel).mono ?_
  rintro e w3 ⟨rfl, hb⟩
  have H3 := hide (H2.out.below hb)
  clear H2 hb
  go_wp2_with fail
  go_ret
  exact ⟨by first | rfl | simp, H3.out.bel⟩
set_option maxHeartbeats 8000000 in
set_option maxRecDepth 100000 in
theorem l46_one_main (ao : Option Addr) (n c : Nat) (bb xx yy : Int) (u v x1 : T3) (La : List PQ) (lz lb sm : List PQ) (va vm : T3) (i j : Int) (w : World) (hL : LawM w) (hFa : K1 w 10 (.slice ao n c) true) (hVa : K1 w 20 (.slice ao n c) true)
(hbb : -32768 ≤ bb ∧ bb ≤ 32767) (hSA : SliceOf vPr 6 w (.slice ao n c) (La.map encP)) (hSh : KShr w xx yy u v) (hPz : KPts w 0 1 1 lz) (hPb : KPts w bb 1 1 lb) (hS1 : KSumL w (.slice ao n c) lz La) (hS2 : KSumL w (.slice ao n c) lb sm) (hRt : KRt w 1 1 x1) (hM1 : KMix1 w x1 (.slice ao n c) La) (hM2 : KMix w u v (.slice ao n c) (.slice ao n c) La) (hSm : KSame w La)
(hRa : KR w 14 (.slice ao n c) va i) (hRm : KLR w 14 sm vm j) (hcase : i = 2 ∨ (i = 0 ∧ j = 2) ∨ (i = 0 ∧ j = 0 ∧ vm = va)) :
    Calls Tryz.prog 8 #[.slice ao n c, .int .i16 bb, .int .u8 xx, .int .u8 yy] w fun e w' => e = .returned (.bool true) ∧ Below w.heap.size w w' := by
  have HL := hide hL
  have HHD := hide (law46_head w hL)
  have H0 := hide (LS0.start w)
  have HFa := hide hFa
  have HVa := hide hVa
  clear hL hFa hVa
  have HSh := hide hSh
  have HPz := hide hPz
  have HPb := hide hPb
  have HS1 := hide hS1
  have HS2 := hide hS2
  have HRt := hide hRt
  have HM1 := hide hM1
  have HM2 := hide hM2
  have HSm := hide hSm
  have HRa := hide hRa
  have HRm := hide hRm
  have Hcase := hide hcase
  have HSA0 := hide hSA
  have hbw : IntKind.i64.wrap bb = bb := IntWalk.i64_in _ (by omega)
  clear hSA hSh hPz hPb hS1 hS2 hRt hM1 hM2 hSm hRa hRm hcase
  go_enter Tryz.func8, Tryz.ntmps8
  go_wp2_with fail
  refine (HHD.out).mono ?_
  rintro e w1 ⟨rfl, hb⟩
  have H1 := hide (H0.out.below hb)
  clear H0 hb
  go_wp2_with fail
  refine (HFa.out _ H1.out.bel).mono ?_
  rintro e w2 ⟨rfl, hb⟩
  have H2 := hide (H1.out.below hb)
  clear H1 hb
  go_wp2_with fail
  refine (HVa.out _ H2.out.bel).mono ?_
  rintro e w3 ⟨rfl, hb⟩
  have H3 := hide (H2.out.below hb)
  clear H2 hb
  have HSA3 := hide (HSA0.out.below H3.out.bel)
  clear HSA0
  go_wp2_with fail
  refine (HSh.out _ H3.out.bel).mono ?_
  rintro e w4 ⟨rfl, hb⟩
  have H4 := hide (H3.out.below hb)
  have HSA4 := hide (HSA3.out.below hb)
  clear H3 HSA3 hb
  have hba := bAlloc (bAlloc (Below.refl w4.heap.size w4) (.cells #[.bool u.1, .string u.2.1, .string u.2.2] 29)) (.cells #[.bool v.1, .string v.2.1, .string v.2.2] 29)
  have H6 := hide ((H4.out.box u 29).box v 29)
  have HSA6 := hide (HSA4.out.below hba)
  clear H4 hba HSA4
  go_upto_region 5 with fail
  obtain ⟨w6, hw⟩ : ∃ W, (w4.alloc (.cells #[.bool u.1, .string u.2.1, .string u.2.2] 29)).alloc (.cells #[.bool v.1, .string v.2.1, .string v.2.2] 29) = W := ⟨_, rfl⟩
  obtain ⟨X11, hY⟩ : ∃ A, (w4.alloc (.cells #[.bool u.1, .string u.2.1, .string u.2.2] 29)).heap.size = A := ⟨_, rfl⟩
  have hY2 : w4.heap.size + 1 = X11 := by rw [← hY, World.size_alloc]
  rw [hw, hY] at H6
  rw [hw] at HSA6
  rw [hw, hY2]
  obtain ⟨X10, hX⟩ : ∃ A, w4.heap.size = A := ⟨_, rfl⟩
  rw [hX] at H6
  rw [hX]
  clear hw hX hY hY2
  go_wp2_with fail
  refine (HPz.out _ H6.out.bel).mono ?_
  rintro e w7 ⟨po, pc, rfl, hs, hb⟩
  have H7 := hide (H6.out.below hb)
  have HSA7 := hide (HSA6.out.below hb)
  clear H6 HSA6 hb
  have HPP7 := hide hs
  clear hs
  go_wp2_with fail
  refine (HS1.out _ _ H7.out.bel HPP7.out).mono ?_
  rintro e w8 ⟨so, sc, rfl, hs, hb⟩
  have H8 := hide (H7.out.below hb)
  have HSA8 := hide (HSA7.out.below hb)
  have HPP8 := hide (HPP7.out.below hb)
  clear H7 HSA7 HPP7 hb
  have HSS1_8 := hide hs
  clear hs HPP8
  go_wp2_with fail
  refine (HRt.out _ H8.out.bel).mono ?_
  rintro e w9 ⟨rfl, hb⟩
  have H9 := hide (H8.out.below hb)
  have HSA9 := hide (HSA8.out.below hb)
  have HSS1_9 := hide (HSS1_8.out.below hb)
  clear H8 HSA8 HSS1_8 hb
  go_wp2_with fail
  refine (HM1.out _ H9.out.bel).mono ?_
  rintro e w10 ⟨tt, tc, rfl, hs, hb⟩
  have H10 := hide (H9.out.below hb)
  have HSA10 := hide (HSA9.out.below hb)
  have HSS1_10 := hide (HSS1_9.out.below hb)
  clear H9 HSA9 HSS1_9 hb
  have HST10 := hide hs
  clear hs
  obtain ⟨q0_0, q0_1, q0_2, _, _, _⟩ := (H10.out.rc (X10, u) (by simp)).1
  obtain ⟨q1_0, q1_1, q1_2, _, _, _⟩ := (H10.out.rc (X11, v) (by simp)).1
  go_wp2_with fail
  refine (HM2.out _ H10.out.bel).mono ?_
  rintro e w11 ⟨uo, uc, rfl, hs, hb⟩
  have H11 := hide (H10.out.below hb)
  have HSA11 := hide (HSA10.out.below hb)
  have HSS1_11 := hide (HSS1_10.out.below hb)
  have HST11 := hide (HST10.out.below hb)
  clear H10 HSA10 HSS1_10 HST10 hb
  have HSU11 := hide hs
  clear hs
  clear q0_0 q0_1 q0_2 q1_0 q1_1 q1_2
  go_wp2_with fail
  refine (HPb.out _ H11.out.bel).mono ?_
  rintro e w12 ⟨qo, qc, rfl, hs, hb⟩
  have H12 := hide (H11.out.below hb)
  have HSA12 := hide (HSA11.out.below hb)
  have HSS1_12 := hide (HSS1_11.out.below hb)
  have HST12 := hide (HST11.out.below hb)
  have HSU12 := hide (HSU11.out.below hb)
  clear H11 HSA11 HSS1_11 HST11 HSU11 hb
  have HPQ12 := hide hs
  clear hs
  go_wp2_with fail
  refine (HS2.out _ _ H12.out.bel HPQ12.out).mono ?_
  rintro e w13 ⟨mo, mc, rfl, hs, hb⟩
  have H13 := hide (H12.out.below hb)
  have HSA13 := hide (HSA12.out.below hb)
  have HSS1_13 := hide (HSS1_12.out.below hb)
  have HST13 := hide (HST12.out.below hb)
  have HSU13 := hide (HSU12.out.below hb)
  have HPQ13 := hide (HPQ12.out.below hb)
  clear H12 HSA12 HSS1_12 HST12 HSU12 HPQ12 hb
  have HSM13 := hide hs
  clear hs HPQ13
  go_wp2_with fail
  refine (HSm.out _ _ _ H13.out.bel HSS1_13.out HSA13.out).mono ?_
  rintro e w14 ⟨rfl, hb⟩
  have H14 := hide (H13.out.below hb)
  have HSA14 := hide (HSA13.out.below hb)
  have HSS1_14 := hide (HSS1_13.out.below hb)
  have HST14 := hide (HST13.out.below hb)
  have HSU14 := hide (HSU13.out.below hb)
  have HSM14 := hide (HSM13.out.below hb)
  clear H13 HSA13 HSS1_13 HST13 HSU13 HSM13 hb
  clear HSS1_14
  go_wp2_with fail
  refine (HSm.out _ _ _ H14.out.bel HST14.out HSA14.out).mono ?_
  rintro e w15 ⟨rfl, hb⟩
  have H15 := hide (H14.out.below hb)
  have HSA15 := hide (HSA14.out.below hb)
  have HST15 := hide (HST14.out.below hb)
  have HSU15 := hide (HSU14.out.below hb)
  have HSM15 := hide (HSM14.out.below hb)
  clear H14 HSA14 HST14 HSU14 HSM14 hb
  clear HST15
  go_wp2_with fail
  refine (HSm.out _ _ _ H15.out.bel HSU15.out HSA15.out).mono ?_
  rintro e w16 ⟨rfl, hb⟩
  have H16 := hide (H15.out.below hb)
  have HSA16 := hide (HSA15.out.below hb)
  have HSU16 := hide (HSU15.out.below hb)
  have HSM16 := hide (HSM15.out.below hb)
  clear H15 HSA15 HSU15 HSM15 hb
  clear HSU16
  go_wp2_with fail
  refine (HRa.out _ H16.out.bel).mono ?_
  rintro e w17 ⟨rfl, hb⟩
  have H17 := hide (H16.out.below hb)
  have HSA17 := hide (HSA16.out.below hb)
  have HSM17 := hide (HSM16.out.below hb)
  clear H16 HSA16 HSM16 hb
  have hba := bAlloc (Below.refl w17.heap.size w17) (.cells #[.bool va.1, .string va.2.1, .string va.2.2] 29)
  have H18 := hide (H17.out.box va 29)
  have HSA18 := hide (HSA17.out.below hba)
  have HSM18 := hide (HSM17.out.below hba)
  clear H17 hba HSA17 HSM17
  go_upto_region 12 with fail
  obtain ⟨w18, hw⟩ : ∃ W, w17.alloc (.cells #[.bool va.1, .string va.2.1, .string va.2.2] 29) = W := ⟨_, rfl⟩
  obtain ⟨X20, hX⟩ : ∃ A, w17.heap.size = A := ⟨_, rfl⟩
  rw [hw] at HSA18 HSM18
  rw [hw, hX] at H18
  rw [hw, hX]
  clear hw hX
  go_wp2_with fail
  refine (HRm.out _ _ H18.out.bel HSM18.out).mono ?_
  rintro e w19 ⟨rfl, hb⟩
  have H19 := hide (H18.out.below hb)
  have HSA19 := hide (HSA18.out.below hb)
  have HSM19 := hide (HSM18.out.below hb)
  clear H18 HSA18 HSM18 hb
  have hba := bAlloc (Below.refl w19.heap.size w19) (.cells #[.bool vm.1, .string vm.2.1, .string vm.2.2] 29)
  have H20 := hide (H19.out.box vm 29)
  have HSA20 := hide (HSA19.out.below hba)
  have HSM20 := hide (HSM19.out.below hba)
  clear H19 hba HSA19 HSM19
  go_upto_region 13 with fail
  obtain ⟨w20, hw⟩ : ∃ W, w19.alloc (.cells #[.bool vm.1, .string vm.2.1, .string vm.2.2] 29) = W := ⟨_, rfl⟩
  obtain ⟨X22, hX⟩ : ∃ A, w19.heap.size = A := ⟨_, rfl⟩
  rw [hw] at HSA20 HSM20
  rw [hw, hX] at H20
  rw [hw, hX]
  clear hw hX
  clear HSA20 HSM20
  obtain ⟨q0_0, q0_1, q0_2, _, _, _⟩ := (H20.out.rc (X20, va) (by simp)).1
  obtain ⟨q1_0, q1_1, q1_2, _, _, _⟩ := (H20.out.rc (X22, vm) (by simp)).1
  rcases Hcase.out with rfl | ⟨rfl, rfl⟩ | ⟨rfl, rfl, rfl⟩
  · go_wp2_with fail
    go_ret
    exact ⟨by first | rfl | simp, H20.out.bel⟩
  · go_wp2_with fail
    go_ret
    exact ⟨by first | rfl | simp, H20.out.bel⟩
  · go_wp2_with fail
    go_ret
    exact ⟨by first | rfl | simp, H20.out.bel⟩
end Go.Proofs.YtblpnekjnaaeoaaGreatDoor
