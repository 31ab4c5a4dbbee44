/- law 18: head. -/
import Derived.Test.YtlagoiaiodjmhaaGreatDoorDeM
import Derived.ArgAppend
set_option linter.unusedVariables false
set_option linter.unusedSimpArgs false
namespace Go.Proofs.YtlagoiaiodjmhaaGreatDoor
open Go.RowKit Go.Maps

def hdF : Fr := ⟨100, 1, 2, 0, 3, 0, 0, 0, 0⟩
def hdW : List Db := [⟨1, 1, -1, 4, 196, 2⟩, ⟨2, 1, 3, -188, 388, 2⟩, ⟨3, 1, 3, 100, 148, 2⟩]
def hdM : List Db := hdW ++ [⟨1, 1, -1, 0, 196, 0⟩]
theorem hd_owe : oweB hdF = true := by decide +kernel
theorem hd_owl : oweL hdF = hdW := rfl
theorem hd_st1 : vlD hdW paysL 200 = true ∧ setL hdW paysL 200 = [3, -1, 2] := by decide +kernel
theorem hd_st2 : vlD hdW paysL 388 = true ∧ setL hdW paysL 388 = [3, 1, 2] := by decide +kernel
theorem hd_pd : paidB hdF paysL 388 = true ∧ paidE hdF paysL 388 = 0 := by decide +kernel
theorem hd_sp : splB hdM paysL 388 3 = true ∧ setL hdM paysL 388 = [3, 1, 2, 3] := by decide +kernel
theorem hd_c0 : cosQ (cstN hdM [3, 1, 2, 3] 5 0) = ofQ 1 2 := by decide +kernel
theorem hd_c1 : cosQ (cstN hdM [3, 1, 2, 3] 5 1) = ofQ 0 1 := by decide +kernel
theorem hd_c2 : cosQ (cstN hdM [3, 1, 2, 3] 5 2) = ofQ 5 2 := by decide +kernel
theorem hd_spl : splL hdM paysL 388 3 = [rqT (ofQ 1 2), rqT (ofQ 0 1), rqT (ofQ 5 2)] := by
  unfold splL
  rw [if_pos hd_sp.1, hd_sp.2]
  show [cosT hdM [3, 1, 2, 3] 5 0, cosT hdM [3, 1, 2, 3] 5 1, cosT hdM [3, 1, 2, 3] 5 2] = _
  unfold cosT
  rw [hd_c0, hd_c1, hd_c2]
theorem hd_E : stE hdW paysL 200 = 0 ∧ stE hdW paysL 388 = 0 ∧ splE hdM paysL 388 3 = 0 := by decide +kernel
theorem hd_L1 : stL hdW paysL 200 = [3, -1, 2] := by decide +kernel
theorem hd_L2 : stL hdW paysL 388 = [3, 1, 2] := by decide +kernel
theorem Tryz.infoDb : (Tryz.prog.info? 47).map (fun i => (i.zero, i.size, i.bytes)) = some (some (.agg #[.int .i64 0, .int .i64 0, .int .i64 0, .int .i64 0, .int .i64 0, .int .i64 0]), 6, 48) := by kernel_rfl
/-- A slice literal belongs to the call. -/
theorem own_lit {α : Type} {f : α → List Value} {size : Nat} (hf : ∀ a, (f a).length = size) (w : World) (l : List α) (T : TypeId) (h : l.length ≤ maxLen) : OwnS (w.alloc (.cells (flatV f l).toArray T)) w.heap.size size (.slice (some ⟨w.heap.size, 0, none⟩) l.length l.length) l.length (flatV f l) := by
  refine ⟨flatV_length hf l, .inr ⟨w.heap.size, 0, l.length, rfl, Nat.le_refl _, by simp, Nat.le_refl _, h, fun j hj => ⟨?_, ?_⟩, fun j u hu => ?_⟩⟩
  · rw [World.cell?_alloc_at _ _ _ _ rfl]
    have : j < (flatV f l).length := by rw [flatV_length hf]; exact hj
    simp [this]
  · simp [go_sem]
  · rw [World.cell?_alloc_at _ _ _ _ rfl]
    simpa using hu
def FrC (w : World) (b : Nat) : Prop := w.cell? ⟨b, 0, none⟩ = some (.int .i64 100) ∧ w.cell? ⟨b, 1, none⟩ = some (.int .i64 1) ∧ w.cell? ⟨b, 2, none⟩ = some (.int .i64 2) ∧ w.cell? ⟨b, 3, none⟩ = some (.int .i64 0) ∧ w.cell? ⟨b, 4, none⟩ = some (.int .i64 3) ∧ w.cell? ⟨b, 5, none⟩ = some (.int .i64 0) ∧ w.cell? ⟨b, 6, none⟩ = some (.int .i64 0) ∧ w.cell? ⟨b, 7, none⟩ = some (.int .i64 0) ∧ w.cell? ⟨b, 8, none⟩ = some (.int .i64 0)
theorem FrC.keep {W W' : World} {b : Nat} (h : FrC W b) (hb : Below W.heap.size W W') : FrC W' b :=
  ⟨keep_cell hb h.1, keep_cell hb h.2.1, keep_cell hb h.2.2.1, keep_cell hb h.2.2.2.1, keep_cell hb h.2.2.2.2.1, keep_cell hb h.2.2.2.2.2.1, keep_cell hb h.2.2.2.2.2.2.1, keep_cell hb h.2.2.2.2.2.2.2.1, keep_cell hb h.2.2.2.2.2.2.2.2⟩
theorem FrC.new (w : World) (T : TypeId) : FrC (w.alloc (.cells #[.int .i64 100, .int .i64 1, .int .i64 2, .int .i64 0, .int .i64 3, .int .i64 0, .int .i64 0, .int .i64 0, .int .i64 0] T)) w.heap.size := by
  refine ⟨?_, ?_, ?_, ?_, ?_, ?_, ?_, ?_, ?_⟩ <;> simp [go_sem]
set_option maxHeartbeats 8000000 in
set_option maxRecDepth 100000 in
theorem law18_head (w : World) (hW : LawW w) : Calls Tryz.prog 9 #[] w fun e w' => e = .returned (.bool true) ∧ Below w.heap.size w w' := by
  have HW := hide hW
  have HOW : Hid (∀ W, Calls Tryz.prog 11 #[.agg #[.int .i64 100, .int .i64 1, .int .i64 2, .int .i64 0, .int .i64 3, .int .i64 0, .int .i64 0, .int .i64 0, .int .i64 0]] W fun e w' => ∃ u, e = .returned (.tuple #[u, .int .i64 0]) ∧ SliceOf vDb 6 w' u hdW ∧ Below W.heap.size W w') := fun W => de_owe hdF W true hd_owe
  have HPD : Hid (∀ W v2, SliceOf vPy 4 W v2 paysL → Calls Tryz.prog 15 #[.agg #[.int .i64 100, .int .i64 1, .int .i64 2, .int .i64 0, .int .i64 3, .int .i64 0, .int .i64 0, .int .i64 0, .int .i64 0], v2, .int .i64 388] W fun e w' => e = .returned (.tuple #[.bool true, .int .i64 0]) ∧ Below W.heap.size W w') := fun W v2 h => by
    have h := de_paid hdF paysL 388 v2 W h
    rw [hd_pd.1, hd_pd.2] at h
    exact h
  have HST1 := hide (fun v1 v2 W (h1 : SliceOf vDb 6 W v1 hdW) (h2 : SliceOf vPy 4 W v2 paysL) => de_settle hdW paysL 200 v1 v2 W h1 h2)
  have HST2 := hide (fun v1 v2 W (h1 : SliceOf vDb 6 W v1 hdW) (h2 : SliceOf vPy 4 W v2 paysL) => de_settle hdW paysL 388 v1 v2 W h1 h2)
  rw [hd_E.1, hd_L1] at HST1
  rw [hd_E.2.1, hd_L2] at HST2
  have HSP := hide (fun v1 v2 W (h1 : SliceOf vDb 6 W v1 hdM) (h2 : SliceOf vPy 4 W v2 paysL) (hX : LawW W) => de_split hdM paysL 388 3 v1 v2 W h1 h2 hX)
  rw [hd_spl, hd_E.2.2] at HSP
  have HPY := hide l18_payments
  have HOF := hide (fun (n d : Int) (h1 : inI64 n) (h2 : inI64 d) (h0 : d ≠ 0) W hX => of_ok h1 h2 h0 rfl (rqT_is (ofQ n d)) W hX)
  have HF0 := hide (FrC.new w 25)
  have HB0 := hide (bAlloc (Below.refl w.heap.size w) (.cells #[.int .i64 100, .int .i64 1, .int .i64 2, .int .i64 0, .int .i64 3, .int .i64 0, .int .i64 0, .int .i64 0, .int .i64 0] 25))
  clear hW
  go_enter Tryz.func9, Tryz.ntmps9
  obtain ⟨c0, c1, c2, c3, c4, c5, c6, c7, c8⟩ := HF0.out
  go_wp2_with fail
  clear c0 c1 c2 c3 c4 c5 c6 c7 c8
  obtain ⟨A, hA⟩ : ∃ A, w.heap.size = A := ⟨_, rfl⟩
  have HAE := hide hA
  refine (HOW.out _).mono ?_
  rintro e w1 ⟨u1, rfl, hs, hb⟩
  have HU1 := hide hs
  have HB1 := hide (bStepD HB0.out hb)
  have HF1 := hide (HF0.out.keep hb)
  clear hs hb HB0 HF0 hA
  go_upto_region 4 with fail
  have hb := bAlloc (Below.refl w1.heap.size w1) (.cells #[.int .i64 1, .int .i64 1, .int .i64 (-1), .int .i64 4, .int .i64 196, .int .i64 2, .int .i64 2, .int .i64 1, .int .i64 3, .int .i64 (-188), .int .i64 388, .int .i64 2, .int .i64 3, .int .i64 1, .int .i64 3, .int .i64 100, .int .i64 148, .int .i64 2] 47)
  have HB_1 := hide (bStepD HB1.out hb)
  have U1_1 := hide (HU1.out.below hb)
  have FR_1 := hide (HF1.out.keep hb)
  have WS : Hid (SliceOf vDb 6 (w1.alloc (.cells #[.int .i64 1, .int .i64 1, .int .i64 (-1), .int .i64 4, .int .i64 196, .int .i64 2, .int .i64 2, .int .i64 1, .int .i64 3, .int .i64 (-188), .int .i64 388, .int .i64 2, .int .i64 3, .int .i64 1, .int .i64 3, .int .i64 100, .int .i64 148, .int .i64 2] 47)) (.slice (some ⟨w1.heap.size, 0, none⟩) 3 3) hdW) := slice_lit vDb_len w1 hdW 47 (by show 3 ≤ maxLen; decide)
  have OW : Hid (OwnS (w1.alloc (.cells #[.int .i64 1, .int .i64 1, .int .i64 (-1), .int .i64 4, .int .i64 196, .int .i64 2, .int .i64 2, .int .i64 1, .int .i64 3, .int .i64 (-188), .int .i64 388, .int .i64 2, .int .i64 3, .int .i64 1, .int .i64 3, .int .i64 100, .int .i64 148, .int .i64 2] 47)) w1.heap.size 6 (.slice (some ⟨w1.heap.size, 0, none⟩) 3 3) 3 (flatV vDb hdW)) := own_lit vDb_len w1 hdW 47 (by show 3 ≤ maxLen; decide)
  have HWZ : Hid (w.heap.size ≤ w1.heap.size) := HB1.out.size
  obtain ⟨Z, hZ⟩ : ∃ Z, w1.heap.size = Z := ⟨_, rfl⟩
  obtain ⟨w2, hw2⟩ : ∃ W, w1.alloc (.cells #[.int .i64 1, .int .i64 1, .int .i64 (-1), .int .i64 4, .int .i64 196, .int .i64 2, .int .i64 2, .int .i64 1, .int .i64 3, .int .i64 (-188), .int .i64 388, .int .i64 2, .int .i64 3, .int .i64 1, .int .i64 3, .int .i64 100, .int .i64 148, .int .i64 2] 47) = W := ⟨_, rfl⟩
  rw [hw2] at HB_1 U1_1 FR_1 WS OW
  rw [hZ] at WS OW HWZ
  rw [hw2, hZ]
  clear hw2 hZ hb HB1 HU1 HF1
  go_wp2_with fail
  refine (HPY.out _).mono ?_
  rintro e w3 ⟨p1, rfl, hs, hb⟩
  have HB_2 := hide (bStepD HB_1.out hb)
  have U1_2 := hide (U1_1.out.below hb)
  have FR_2 := hide (FR_1.out.keep hb)
  have WS_2 := hide (WS.out.below hb)
  have OW_2 := hide (OW.out.below hb)
  have P1 := hide hs
  clear hs hb HB_1 U1_1 FR_1 WS OW
  go_wp2_with fail
  refine (HST1.out _ _ _ WS_2.out P1.out).mono ?_
  rintro e w4 ⟨a, rfl, hs, hb⟩
  have HB_3 := hide (bStepD HB_2.out hb)
  have U1_3 := hide (U1_2.out.below hb)
  have FR_3 := hide (FR_2.out.keep hb)
  have WS_3 := hide (WS_2.out.below hb)
  have OW_3 := hide (OW_2.out.below hb)
  have P1_3 := hide (P1.out.below hb)
  have LA := hide hs
  clear hs hb HB_2 U1_2 FR_2 WS_2 OW_2 P1
  go_wp2_with fail
  refine (HPY.out _).mono ?_
  rintro e w5 ⟨p2, rfl, hs, hb⟩
  have HB_4 := hide (bStepD HB_3.out hb)
  have U1_4 := hide (U1_3.out.below hb)
  have FR_4 := hide (FR_3.out.keep hb)
  have WS_4 := hide (WS_3.out.below hb)
  have OW_4 := hide (OW_3.out.below hb)
  have LA_4 := hide (LA.out.below hb)
  have P2 := hide hs
  clear hs hb HB_3 U1_3 FR_3 WS_3 OW_3 LA
  go_wp2_with fail
  refine (HST2.out _ _ _ WS_4.out P2.out).mono ?_
  rintro e w6 ⟨b, rfl, hs, hb⟩
  have HB_5 := hide (bStepD HB_4.out hb)
  have U1_5 := hide (U1_4.out.below hb)
  have FR_5 := hide (FR_4.out.keep hb)
  have WS_5 := hide (WS_4.out.below hb)
  have OW_5 := hide (OW_4.out.below hb)
  have LA_5 := hide (LA_4.out.below hb)
  have P2_5 := hide (P2.out.below hb)
  have LB := hide hs
  clear hs hb HB_4 U1_4 FR_4 WS_4 OW_4 LA_4 P2
  have HZ6 : Hid (Below w6.heap.size w6 w6) := Below.refl _ _
  have HFQ : Hid (∀ W, Below w6.heap.size w6 W → FrC W w.heap.size) := fun W hW => FR_5.out.keep hW
  go_wp2_with fail
  go_region_held3 (fun w' => w'.cell? ⟨w.heap.size, 0, none⟩ = some (.int .i64 100) ∧ w'.cell? ⟨w.heap.size, 1, none⟩ = some (.int .i64 1) ∧ w'.cell? ⟨w.heap.size, 2, none⟩ = some (.int .i64 2) ∧ w'.cell? ⟨w.heap.size, 3, none⟩ = some (.int .i64 0) ∧ w'.cell? ⟨w.heap.size, 4, none⟩ = some (.int .i64 3) ∧ w'.cell? ⟨w.heap.size, 5, none⟩ = some (.int .i64 0) ∧ w'.cell? ⟨w.heap.size, 6, none⟩ = some (.int .i64 0) ∧ w'.cell? ⟨w.heap.size, 7, none⟩ = some (.int .i64 0) ∧ w'.cell? ⟨w.heap.size, 8, none⟩ = some (.int .i64 0))
    (first | exact HFQ.out _ HQ8.out | exact HFQ.out _ HQ7.out | exact HFQ.out _ (bDraw HZ6.out))
    (first
      | (go_at_call 15; refine (HPD.out _ _ HP7.out).mono ?_; rintro e w8 ⟨rfl, hb⟩; have HQ8 := hide (bStepD HQ7.out hb); clear hb)
      | (go_at_call 26; refine (HPY.out _).mono ?_; rintro e w7 ⟨p3, rfl, hs, hb⟩; have HQ7 := hide (bStepD (bDraw HZ6.out) hb); have HP7 := hide hs; clear hs hb))
  have hb := HQ8.out
  have HB_6 := hide (bStepD HB_5.out hb)
  have U1_6 := hide (U1_5.out.below hb)
  have WS_6 := hide (WS_5.out.below hb)
  have OW_6 := hide (OW_5.out.below hb)
  have LA_6 := hide (LA_5.out.below hb)
  have LB_6 := hide (LB.out.below hb)
  clear hb HB_5 U1_5 WS_5 OW_5 LA_5 LB
  have H1 : Hid (∀ u ∈ [Value.int .i64 1, .int .i64 1, .int .i64 (-1), .int .i64 0, .int .i64 196, .int .i64 0], u.oneCell' = true) := by
    intro u hu
    simp at hu
    rcases hu with rfl | rfl | rfl | rfl | rfl | rfl <;> rfl
  obtain ⟨i0, hi, hz0, hz1, hz2⟩ := info_parts Tryz.infoDb
  have hb := bAlloc (Below.refl w8.heap.size w8) (.cells #[.int .i64 1, .int .i64 1, .int .i64 (-1), .int .i64 0, .int .i64 196, .int .i64 0] 47)
  have HB_7 := hide (bStepD HB_6.out hb)
  have U1_7 := hide (U1_6.out.below hb)
  have WS_7 := hide (WS_6.out.below hb)
  have LA_7 := hide (LA_6.out.below hb)
  have LB_7 := hide (LB_6.out.below hb)
  clear hb HB_6 U1_6 WS_6 LA_6 LB_6
  have HOLD : Hid (∀ b, (some (⟨Z, 0, none⟩ : Addr)) = some b → ∀ j u, (flatV vDb hdW)[j]? = some u → (w8.alloc (.cells #[.int .i64 1, .int .i64 1, .int .i64 (-1), .int .i64 0, .int .i64 196, .int .i64 0] 47)).cell? (b.add j) = some u) := fun b hb j u hu => by
    injection hb with hb
    subst hb
    obtain ⟨b, off, cap, e, _, _, _, hc⟩ := WS_7.out.some_of_pos (by decide)
    simp only [Value.slice.injEq, Option.some.injEq, Addr.mk.injEq, and_true] at e
    obtain ⟨⟨rfl, rfl⟩, _, _⟩ := e
    rw [addr_add]
    have hj : j < 18 := (List.getElem?_eq_some_iff.1 hu).1
    have e2 := flatV_get vDb_len hdW (j / 6) (by show j / 6 < 3; omega) (j % 6) (by omega)
    rw [show j / 6 * 6 + j % 6 = j by omega, hu] at e2
    have h2 := hc (j / 6) (by show j / 6 < 3; omega) (j % 6) u e2.symm
    rwa [show 0 + j / 6 * 6 + j % 6 = 0 + j by omega] at h2
  have HNW : Hid (∀ j u, [Value.int .i64 1, .int .i64 1, .int .i64 (-1), .int .i64 0, .int .i64 196, .int .i64 0][j]? = some u → (w8.alloc (.cells #[.int .i64 1, .int .i64 1, .int .i64 (-1), .int .i64 0, .int .i64 196, .int .i64 0] 47)).cell? ((⟨w8.heap.size, 0, none⟩ : Addr).add j) = some u) := news_block (new_block w8 (.cells #[.int .i64 1, .int .i64 1, .int .i64 (-1), .int .i64 0, .int .i64 196, .int .i64 0] 47))
  go_wp2_with (at_builtin; refine wpList_append_grows _ rfl _ _ 26 rfl 47 i0 (.agg #[.int .i64 0, .int .i64 0, .int .i64 0, .int .i64 0, .int .i64 0, .int .i64 0]) 6 48 Tryz.underlying26 hi hz0 hz1 hz2 rfl (by decide) (some ⟨Z, 0, none⟩) 3 3 (flatV vDb hdW) rfl (fun h => by cases h) rfl HOLD.out ⟨w8.heap.size, 0, none⟩ 1 1 [.int .i64 1, .int .i64 1, .int .i64 (-1), .int .i64 0, .int .i64 196, .int .i64 0] rfl rfl HNW.out H1.out (by decide) (by unfold maxLen; decide) (by decide) ?_; intro vm w9 hown hg9)
  have hb := below_of_none hg9
  have HMO : Hid (SliceOf vDb 6 w9 vm hdM) := OwnS.slice vDb_len (OwnS.of_owns hown)
  clear hown hg9 H1 HOLD HNW hi hz0 hz1 hz2
  have HB_8 := hide (bStepD HB_7.out hb)
  have U1_8 := hide (U1_7.out.below hb)
  have WS_8 := hide (WS_7.out.below hb)
  have LA_8 := hide (LA_7.out.below hb)
  have LB_8 := hide (LB_7.out.below hb)
  clear hb HB_7 U1_7 WS_7 LA_7 LB_7
  refine (HPY.out _).mono ?_
  rintro e w10 ⟨p4, rfl, hs, hb⟩
  have HB_9 := hide (bStepD HB_8.out hb)
  have U1_9 := hide (U1_8.out.below hb)
  have WS_9 := hide (WS_8.out.below hb)
  have LA_9 := hide (LA_8.out.below hb)
  have LB_9 := hide (LB_8.out.below hb)
  have MO_9 := hide (HMO.out.below hb)
  have P4 := hide hs
  clear hs hb HB_8 U1_8 WS_8 LA_8 LB_8 HMO
  have HLX := hide (HW.out.below HB_9.out)
  go_wp2_with fail
  refine (HSP.out _ _ _ MO_9.out P4.out HLX.out).mono ?_
  rintro e w11 ⟨c, rfl, hs, hb⟩
  have HB_10 := hide (bStepD HB_9.out hb)
  have U1_10 := hide (U1_9.out.below hb)
  have WS_10 := hide (WS_9.out.below hb)
  have LA_10 := hide (LA_9.out.below hb)
  have LB_10 := hide (LB_9.out.below hb)
  have MO_10 := hide (MO_9.out.below hb)
  have P4_10 := hide (P4.out.below hb)
  have LC := hide hs
  clear hs hb HB_9 U1_9 WS_9 LA_9 LB_9 MO_9 P4
  go_wp2_with fail
  have HLXRA := hide (HW.out.below HB_10.out)
  refine (HOF.out 1 2 (by unfold inI64; omega) (by unfold inI64; omega) (by omega) _ HLXRA.out).mono ?_
  rintro e w12 ⟨rfl, hb⟩
  have HB_11 := hide (bStepD HB_10.out hb)
  have U1_11 := hide (U1_10.out.below hb)
  have WS_11 := hide (WS_10.out.below hb)
  have LA_11 := hide (LA_10.out.below hb)
  have LB_11 := hide (LB_10.out.below hb)
  have LC_11 := hide (LC.out.below hb)
  clear hb HB_10 U1_10 WS_10 LA_10 LB_10 LC
  have hb := bAlloc (Below.refl w12.heap.size w12) (.cells #[.bool (rqT (ofQ 1 2)).1, .string (rqT (ofQ 1 2)).2.1, .string (rqT (ofQ 1 2)).2.2] 57)
  have HB_12 := hide (bStepD HB_11.out hb)
  have U1_12 := hide (U1_11.out.below hb)
  have WS_12 := hide (WS_11.out.below hb)
  have LA_12 := hide (LA_11.out.below hb)
  have LB_12 := hide (LB_11.out.below hb)
  have LC_12 := hide (LC_11.out.below hb)
  clear hb HB_11 U1_11 WS_11 LA_11 LB_11 LC_11
  have RA : Hid (RC (w12.alloc (.cells #[.bool (rqT (ofQ 1 2)).1, .string (rqT (ofQ 1 2)).2.1, .string (rqT (ofQ 1 2)).2.2] 57)) w12.heap.size _ _ _) := RC.new _ _ _ _ _
  go_wp2_with fail
  have HLXRB_ := hide (HW.out.below HB_12.out)
  refine (HOF.out 0 1 (by unfold inI64; omega) (by unfold inI64; omega) (by omega) _ HLXRB_.out).mono ?_
  rintro e w13 ⟨rfl, hb⟩
  have HB_13 := hide (bStepD HB_12.out hb)
  have U1_13 := hide (U1_12.out.below hb)
  have WS_13 := hide (WS_12.out.below hb)
  have LA_13 := hide (LA_12.out.below hb)
  have LB_13 := hide (LB_12.out.below hb)
  have LC_13 := hide (LC_12.out.below hb)
  have RA_13 := hide (RA.out.below hb)
  clear hb HB_12 U1_12 WS_12 LA_12 LB_12 LC_12 RA
  have hb := bAlloc (Below.refl w13.heap.size w13) (.cells #[.bool (rqT (ofQ 0 1)).1, .string (rqT (ofQ 0 1)).2.1, .string (rqT (ofQ 0 1)).2.2] 57)
  have HB_14 := hide (bStepD HB_13.out hb)
  have U1_14 := hide (U1_13.out.below hb)
  have WS_14 := hide (WS_13.out.below hb)
  have LA_14 := hide (LA_13.out.below hb)
  have LB_14 := hide (LB_13.out.below hb)
  have LC_14 := hide (LC_13.out.below hb)
  have RA_14 := hide (RA_13.out.below hb)
  clear hb HB_13 U1_13 WS_13 LA_13 LB_13 LC_13 RA_13
  have RB_ : Hid (RC (w13.alloc (.cells #[.bool (rqT (ofQ 0 1)).1, .string (rqT (ofQ 0 1)).2.1, .string (rqT (ofQ 0 1)).2.2] 57)) w13.heap.size _ _ _) := RC.new _ _ _ _ _
  go_wp2_with fail
  have HLXRD := hide (HW.out.below HB_14.out)
  refine (HOF.out 5 2 (by unfold inI64; omega) (by unfold inI64; omega) (by omega) _ HLXRD.out).mono ?_
  rintro e w14 ⟨rfl, hb⟩
  have HB_15 := hide (bStepD HB_14.out hb)
  have U1_15 := hide (U1_14.out.below hb)
  have WS_15 := hide (WS_14.out.below hb)
  have LA_15 := hide (LA_14.out.below hb)
  have LB_15 := hide (LB_14.out.below hb)
  have LC_15 := hide (LC_14.out.below hb)
  have RA_15 := hide (RA_14.out.below hb)
  have RB__15 := hide (RB_.out.below hb)
  clear hb HB_14 U1_14 WS_14 LA_14 LB_14 LC_14 RA_14 RB_
  have hb := bAlloc (Below.refl w14.heap.size w14) (.cells #[.bool (rqT (ofQ 5 2)).1, .string (rqT (ofQ 5 2)).2.1, .string (rqT (ofQ 5 2)).2.2] 57)
  have HB_16 := hide (bStepD HB_15.out hb)
  have U1_16 := hide (U1_15.out.below hb)
  have WS_16 := hide (WS_15.out.below hb)
  have LA_16 := hide (LA_15.out.below hb)
  have LB_16 := hide (LB_15.out.below hb)
  have LC_16 := hide (LC_15.out.below hb)
  have RA_16 := hide (RA_15.out.below hb)
  have RB__16 := hide (RB__15.out.below hb)
  clear hb HB_15 U1_15 WS_15 LA_15 LB_15 LC_15 RA_15 RB__15
  have RD : Hid (RC (w14.alloc (.cells #[.bool (rqT (ofQ 5 2)).1, .string (rqT (ofQ 5 2)).2.1, .string (rqT (ofQ 5 2)).2.2] 57)) w14.heap.size _ _ _) := RC.new _ _ _ _ _
  go_wp2_with fail
  refine (l18_debts hdW _ _ _ U1_16.out WS_16.out (by decide)).mono ?_
  rintro e w15 ⟨rfl, hb⟩
  have HB_17 := hide (bStepD HB_16.out hb)
  have LA_17 := hide (LA_16.out.below hb)
  have LB_17 := hide (LB_16.out.below hb)
  have LC_17 := hide (LC_16.out.below hb)
  have RA_17 := hide (RA_16.out.below hb)
  have RB__17 := hide (RB__16.out.below hb)
  have RD_17 := hide (RD.out.below hb)
  clear hb HB_16 LA_16 LB_16 LC_16 RA_16 RB__16 RD
  go_wp2_with fail
  have hb := bAlloc (Below.refl w15.heap.size w15) (.cells #[.int .i64 3, .int .i64 (-1), .int .i64 2] 3)
  have HB_18 := hide (bStepD HB_17.out hb)
  have LA_18 := hide (LA_17.out.below hb)
  have LB_18 := hide (LB_17.out.below hb)
  have LC_18 := hide (LC_17.out.below hb)
  have RA_18 := hide (RA_17.out.below hb)
  have RB__18 := hide (RB__17.out.below hb)
  have RD_18 := hide (RD_17.out.below hb)
  clear hb HB_17 LA_17 LB_17 LC_17 RA_17 RB__17 RD_17
  have SL : Hid (SliceOf vI 1 (w15.alloc (.cells #[.int .i64 3, .int .i64 (-1), .int .i64 2] 3)) (.slice (some ⟨w15.heap.size, 0, none⟩) 3 3) [3, (-1), 2]) := slice_lit vI_len w15 [3, (-1), 2] 3 (by show 3 ≤ maxLen; decide)
  refine (l18_equal [3, (-1), 2] _ _ _ LA_18.out SL.out (by simp)).mono ?_
  rintro e w16 ⟨rfl, hb⟩
  have HB_19 := hide (bStepD HB_18.out hb)
  have LB_19 := hide (LB_18.out.below hb)
  have LC_19 := hide (LC_18.out.below hb)
  have RA_19 := hide (RA_18.out.below hb)
  have RB__19 := hide (RB__18.out.below hb)
  have RD_19 := hide (RD_18.out.below hb)
  clear hb SL HB_18 LB_18 LC_18 RA_18 RB__18 RD_18
  go_wp2_with fail
  have hb := bAlloc (Below.refl w16.heap.size w16) (.cells #[.int .i64 3, .int .i64 1, .int .i64 2] 3)
  have HB_20 := hide (bStepD HB_19.out hb)
  have LB_20 := hide (LB_19.out.below hb)
  have LC_20 := hide (LC_19.out.below hb)
  have RA_20 := hide (RA_19.out.below hb)
  have RB__20 := hide (RB__19.out.below hb)
  have RD_20 := hide (RD_19.out.below hb)
  clear hb HB_19 LB_19 LC_19 RA_19 RB__19 RD_19
  have SL : Hid (SliceOf vI 1 (w16.alloc (.cells #[.int .i64 3, .int .i64 1, .int .i64 2] 3)) (.slice (some ⟨w16.heap.size, 0, none⟩) 3 3) [3, 1, 2]) := slice_lit vI_len w16 [3, 1, 2] 3 (by show 3 ≤ maxLen; decide)
  refine (l18_equal [3, 1, 2] _ _ _ LB_20.out SL.out (by simp)).mono ?_
  rintro e w17 ⟨rfl, hb⟩
  have HB_21 := hide (bStepD HB_20.out hb)
  have LC_21 := hide (LC_20.out.below hb)
  have RA_21 := hide (RA_20.out.below hb)
  have RB__21 := hide (RB__20.out.below hb)
  have RD_21 := hide (RD_20.out.below hb)
  clear hb SL HB_20 LC_20 RA_20 RB__20 RD_20
  obtain ⟨ca0, ca1, ca2⟩ := (id RA_21.out : RC _ _ _ _ _)
  obtain ⟨cb0, cb1, cb2⟩ := (id RB__21.out : RC _ _ _ _ _)
  obtain ⟨cd0, cd1, cd2⟩ := (id RD_21.out : RC _ _ _ _ _)
  go_wp2_with fail
  have hb := bAlloc (Below.refl w17.heap.size w17) (.cells (flatV vRt [rqT (ofQ 1 2), rqT (ofQ 0 1), rqT (ofQ 5 2)]).toArray 57)
  have HB_22 := hide (bStepD HB_21.out hb)
  have LC_22 := hide (LC_21.out.below hb)
  clear hb HB_21 LC_21
  have SL : Hid (SliceOf vRt 3 (w17.alloc (.cells (flatV vRt [rqT (ofQ 1 2), rqT (ofQ 0 1), rqT (ofQ 5 2)]).toArray 57)) (.slice (some ⟨w17.heap.size, 0, none⟩) 3 3) [rqT (ofQ 1 2), rqT (ofQ 0 1), rqT (ofQ 5 2)]) := slice_lit vRt_len w17 [rqT (ofQ 1 2), rqT (ofQ 0 1), rqT (ofQ 5 2)] 57 (by show 3 ≤ maxLen; decide)
  refine (l18_rats [rqT (ofQ 1 2), rqT (ofQ 0 1), rqT (ofQ 5 2)] _ _ _ LC_22.out SL.out (by simp)).mono ?_
  rintro e w18 ⟨rfl, hb⟩
  have HE := hide (bStepD HB_22.out hb)
  clear hb
  go_wp2_with fail
  go_ret
  exact ⟨rfl, HE.out⟩
end Go.Proofs.YtlagoiaiodjmhaaGreatDoor
