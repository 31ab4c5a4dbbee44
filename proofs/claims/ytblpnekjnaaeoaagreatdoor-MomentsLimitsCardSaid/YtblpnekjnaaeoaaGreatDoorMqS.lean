/- MomentsLimits. -/
import Derived.Test.YtblpnekjnaaeoaaGreatDoorMqP
set_option linter.unusedVariables false
set_option linter.unusedSimpArgs false
namespace Go.Proofs.YtblpnekjnaaeoaaGreatDoor
open Go.RowKit
set_option maxHeartbeats 8000000 in
set_option maxRecDepth 100000 in
theorem l46_lim_nf (ao : Option Addr) (n c : Nat) (w : World) (hL : LawM w) (hF : K1 w 10 (.slice ao n c) false) :
    Calls Tryz.prog 7 #[.slice ao n c] w fun e w' => e = .returned (.bool true) ∧ Below w.heap.size w w' := by
  have HL := hide hL
  have HHD := hide (law46_head w hL)
  have H0 := hide (LS0.start w)
  have HFa := hide hF
  clear hL hF
  go_enter Tryz.func7, Tryz.ntmps7
  go_wp2_with fail
  refine (HHD.out).mono ?_
  rintro e w1 ⟨rfl, hb⟩
  have H1 := hide (H0.out.below hb)
  clear H0 hb
  go_wp2_with fail
  refine (HFa.out _ H1.out.bel).mono ?_
  rintro e w2 ⟨rfl, hb⟩
  have H2 := hide (H1.out.below hb)
  clear H1 hb
  go_wp2_with fail
  go_ret
  exact ⟨by first | rfl | simp, H2.out.bel⟩
set_option maxHeartbeats 8000000 in
set_option maxRecDepth 100000 in
theorem l46_lim_nv (ao : Option Addr) (n c : Nat) (w : World) (hL : LawM w) (hF : K1 w 10 (.slice ao n c) true) (hV : K1 w 20 (.slice ao n c) false) :
    Calls Tryz.prog 7 #[.slice ao n c] w fun e w' => e = .returned (.bool true) ∧ Below w.heap.size w w' := by
  have HL := hide hL
  have HHD := hide (law46_head w hL)
  have H0 := hide (LS0.start w)
  have HFa := hide hF
  have HVa := hide hV
  clear hL hF hV
  go_enter Tryz.func7, Tryz.ntmps7
  go_wp2_with fail
  refine (HHD.out).mono ?_
  rintro e w1 ⟨rfl, hb⟩
  have H1 := hide (H0.out.below hb)
  clear H0 hb
  go_wp2_with fail
  refine (HFa.out _ H1.out.bel).mono ?_
  rintro e w2 ⟨rfl, hb⟩
  have H2 := hide (H1.out.below hb)
  clear H1 hb
  go_wp2_with fail
  refine (HVa.out _ H2.out.bel).mono ?_
  rintro e w3 ⟨rfl, hb⟩
  have H3 := hide (H2.out.below hb)
  clear H2 hb
  go_wp2_with fail
  go_ret
  exact ⟨by first | rfl | simp, H3.out.bel⟩
set_option maxHeartbeats 8000000 in
set_option maxRecDepth 100000 in
theorem l46_lim_no (ao : Option Addr) (n c : Nat) (m v : T3) (w : World) (hL : LawM w) (hn : ((n : Int) == 0) = false) (hF : K1 w 10 (.slice ao n c) true) (hV : K1 w 20 (.slice ao n c) true)
    (hM : KR w 12 (.slice ao n c) m 0) (hR : KR w 14 (.slice ao n c) v 2) :
    Calls Tryz.prog 7 #[.slice ao n c] w fun e w' => e = .returned (.bool true) ∧ Below w.heap.size w w' := by
  have HL := hide hL
  have HHD := hide (law46_head w hL)
  have H0 := hide (LS0.start w)
  have HFa := hide hF
  have HVa := hide hV
  have HM := hide hM
  have HR := hide hR
  clear hL hF hV hM hR
  go_enter Tryz.func7, Tryz.ntmps7
  go_wp2_with fail
  refine (HHD.out).mono ?_
  rintro e w1 ⟨rfl, hb⟩
  have H1 := hide (H0.out.below hb)
  clear H0 hb
  go_wp2_with fail
  refine (HFa.out _ H1.out.bel).mono ?_
  rintro e w2 ⟨rfl, hb⟩
  have H2 := hide (H1.out.below hb)
  clear H1 hb
  go_wp2_with fail
  refine (HVa.out _ H2.out.bel).mono ?_
  rintro e w3 ⟨rfl, hb⟩
  have H3 := hide (H2.out.below hb)
  clear H2 hb
  go_wp2_with fail
  refine (HM.out _ H3.out.bel).mono ?_
  rintro e w4 ⟨rfl, hb⟩
  have H4 := hide (H3.out.below hb)
  clear H3 hb
  have hba := bAlloc (Below.refl w4.heap.size w4) (.cells #[.bool m.1, .string m.2.1, .string m.2.2] 29)
  have H5 := hide (H4.out.box m 29)
  clear H4 hba 
  go_upto_region 5 with fail
  obtain ⟨w5, hw⟩ : ∃ W, w4.alloc (.cells #[.bool m.1, .string m.2.1, .string m.2.2] 29) = W := ⟨_, rfl⟩
  obtain ⟨X4, hX⟩ : ∃ A, w4.heap.size = A := ⟨_, rfl⟩
  rw [hw, hX] at H5
  rw [hw, hX]
  clear hw hX
  go_wp2_with fail
  refine (HR.out _ H5.out.bel).mono ?_
  rintro e w6 ⟨rfl, hb⟩
  have H6 := hide (H5.out.below hb)
  clear H5 hb
  have hba := bAlloc (Below.refl w6.heap.size w6) (.cells #[.bool v.1, .string v.2.1, .string v.2.2] 29)
  have H7 := hide (H6.out.box v 29)
  clear H6 hba 
  go_upto_region 6 with fail
  obtain ⟨w7, hw⟩ : ∃ W, w6.alloc (.cells #[.bool v.1, .string v.2.1, .string v.2.2] 29) = W := ⟨_, rfl⟩
  obtain ⟨X6, hX⟩ : ∃ A, w6.heap.size = A := ⟨_, rfl⟩
  rw [hw, hX] at H7
  rw [hw, hX]
  clear hw hX
  go_wp2_with fail
  go_ret
  exact ⟨by first | rfl | simp, H7.out.bel⟩
def c3 (W : World) (b o : Nat) (x : T3) : Prop := W.cell? ⟨b, o, none⟩ = some (.bool x.1) ∧ W.cell? ⟨b, o + 1, none⟩ = some (.string x.2.1) ∧ W.cell? ⟨b, o + 2, none⟩ = some (.string x.2.2)
def KCmp (w : World) (x y : T3) (z : Int) : Prop := ∀ W, Below w.heap.size w W → Calls Tryz.prog 28 #[.agg #[.bool x.1, .string x.2.1, .string x.2.2], .agg #[.bool y.1, .string y.2.1, .string y.2.2]] W fun e w' => e = .returned (.int .i64 z) ∧ Below W.heap.size W w'
def KRat (w : World) (n d : Int) (x : T3) : Prop := ∀ W, Below w.heap.size w W → Calls Tryz.prog 23 #[.int .i64 n, .int .i64 d] W fun e w' => e = .returned (.agg #[.bool x.1, .string x.2.1, .string x.2.2]) ∧ Below W.heap.size W w'
set_option maxHeartbeats 8000000 in
set_option maxRecDepth 100000 in
theorem l46_lim_main (b off n c k : Nat) (L : List PQ) (m xf xl z0 : T3) (vs vt : ByteArray) (pm : Rat) (z1 z2 : Int) (w : World) (hL : LawM w) (hk : n = k + 1) (hn5 : n ≤ 5) (hnc : n ≤ c) (hcM : c ≤ maxLen) (hln : L.length = n) (hF : K1 w 10 (.slice (some ⟨b, off, none⟩) n c) true) (hV : K1 w 20 (.slice (some ⟨b, off, none⟩) n c) true)
    (hM : KR w 12 (.slice (some ⟨b, off, none⟩) n c) m 0) (hR : KR w 14 (.slice (some ⟨b, off, none⟩) n c) (false, vs, vt) 0)
    (hE0 : ∀ W, Below w.heap.size w W → c3 W b off xf) (hEk : ∀ W, Below w.heap.size w W → c3 W b (off + k * 6) xl) (hEi : ∀ W, Below w.heap.size w W → ∀ i (hi : i < L.length), P6 W b (off + i * 6) (encP L[i]))
    (hC1 : KCmp w xf m z1) (hC2 : KCmp w m xl z2) (hz1 : decide (0 < z1) = false) (hz2 : decide (0 < z2) = false) (hR0 : KRat w 0 1 (false, ⟨#[48]⟩, ⟨#[49]⟩)) (hR1 : KRat w 0 1 z0) (t0 : TO (some 0) z0) (tm : TO (some pm) m) (hfit : FitL L)
    (hvar : (vs = ⟨#[48]⟩ ∧ vt = ⟨#[49]⟩ ∧ ((n : Int) == 1) = true) ∨ ((vs.toList == [48]) = false ∧ ((n : Int) == 1) = false))
    (hend : ∀ o r, o = some (sqPart L n) → TO (add2 o (negO (mul2 (some pm) (some pm)))) r → (add2 o (negO (mul2 (some pm) (some pm)))).isNone = false → r = (false, vs, vt)) :
    Calls Tryz.prog 7 #[.slice (some ⟨b, off, none⟩) n c] w fun e w' => e = .returned (.bool true) ∧ Below w.heap.size w w' := by
  have HL := hide hL
  have HHD := hide (law46_head w hL)
  have H0 := hide (LS0.start w)
  have HFa := hide hF
  have HVa := hide hV
  have HM := hide hM
  have HR := hide hR
  have HE0 := hide hE0
  have HEk := hide hEk
  have HEi := hide hEi
  have HC1 := hide hC1
  have HC2 := hide hC2
  have HR0 := hide hR0
  have HR1 := hide hR1
  have HT0 := hide t0
  have HTM := hide tm
  have HFT := hide hfit
  have HLN := hide hln
  have HEND := hide hend
  have hnI : (n : Int) ≤ (c : Int) := by omega
  have hcI : (c : Int) ≤ 9223372036854775807 := by unfold maxLen at hcM; omega
  have hn0 : ((n : Int) == 0) = false := beq_eq_false_iff_ne.2 (by omega)
  have hwk : IntKind.i64.wrap ((n : Int) - 1) = (k : Int) := by rw [IntWalk.i64_in _ (by omega)]; omega
  have hkI : (k : Int) < (n : Int) := by omega
  have hk00 : (0 : Int) ≤ (k : Int) := by omega
  have h0n : (0 : Int) < (n : Int) := by omega
  have h0nN : 0 < n := by omega
  have hkN : k < n := by omega
  have hz1n : ¬ (0 < z1) := of_decide_eq_false hz1
  have hz2n : ¬ (0 < z2) := of_decide_eq_false hz2
  have HVAR := hide hvar
  clear hL hF hV hM hR hE0 hEk hEi hC1 hC2 hR0 hR1 t0 tm hfit hln hend hnc hcM hk hvar
  go_enter Tryz.func7, Tryz.ntmps7
  go_wp2_with fail
  refine (HHD.out).mono ?_
  rintro e w1 ⟨rfl, hb⟩
  have H1 := hide (H0.out.below hb)
  clear H0 hb
  go_wp2_with fail
  refine (HFa.out _ H1.out.bel).mono ?_
  rintro e w2 ⟨rfl, hb⟩
  have H2 := hide (H1.out.below hb)
  clear H1 hb
  go_wp2_with fail
  refine (HVa.out _ H2.out.bel).mono ?_
  rintro e w3 ⟨rfl, hb⟩
  have H3 := hide (H2.out.below hb)
  clear H2 hb
  go_wp2_with fail
  refine (HM.out _ H3.out.bel).mono ?_
  rintro e w4 ⟨rfl, hb⟩
  have H4 := hide (H3.out.below hb)
  clear H3 hb
  have hba := bAlloc (Below.refl w4.heap.size w4) (.cells #[.bool m.1, .string m.2.1, .string m.2.2] 29)
  have H5 := hide (H4.out.box m 29)
  clear H4 hba 
  go_upto_region 5 with fail
  obtain ⟨w5, hw⟩ : ∃ W, w4.alloc (.cells #[.bool m.1, .string m.2.1, .string m.2.2] 29) = W := ⟨_, rfl⟩
  obtain ⟨X4, hX⟩ : ∃ A, w4.heap.size = A := ⟨_, rfl⟩
  rw [hw, hX] at H5
  rw [hw, hX]
  clear hw hX
  go_wp2_with fail
  refine (HR.out _ H5.out.bel).mono ?_
  rintro e w6 ⟨rfl, hb⟩
  have H6 := hide (H5.out.below hb)
  clear H5 hb
  have hba := bAlloc (Below.refl w6.heap.size w6) (.cells #[.bool (false, vs, vt).1, .string (false, vs, vt).2.1, .string (false, vs, vt).2.2] 29)
  have H7 := hide (H6.out.box (false, vs, vt) 29)
  clear H6 hba 
  go_upto_region 6 with fail
  obtain ⟨w7, hw⟩ : ∃ W, w6.alloc (.cells #[.bool (false, vs, vt).1, .string (false, vs, vt).2.1, .string (false, vs, vt).2.2] 29) = W := ⟨_, rfl⟩
  obtain ⟨X6, hX⟩ : ∃ A, w6.heap.size = A := ⟨_, rfl⟩
  rw [hw, hX] at H7
  rw [hw, hX]
  clear hw hX
  go_upto_region 8 with fail
  go_cut [83] (fun z wx => z = .bool false ∧ LS0 w wx [(X6, (false, vs, vt)), (X4, m)])
  case first =>
    as_aux_lemma =>
      rcases HVAR.out with ⟨rfl, rfl, hk1⟩ | ⟨hvs, hk1⟩
      · skip
        have HSS : Hid (∀ W l, [(X4, m), (X6, (false, (⟨#[48]⟩ : ByteArray), (⟨#[49]⟩ : ByteArray)))] ⊆ l → LS0 w W l → (W.cell? ⟨X4, 0, none⟩ = some (.bool m.1) ∧ W.cell? ⟨X4, 1, none⟩ = some (.string m.2.1) ∧ W.cell? ⟨X4, 2, none⟩ = some (.string m.2.2)) ∧ (W.cell? ⟨X6, 0, none⟩ = some (.bool (false, (⟨#[48]⟩ : ByteArray), (⟨#[49]⟩ : ByteArray)).1) ∧ W.cell? ⟨X6, 1, none⟩ = some (.string (false, (⟨#[48]⟩ : ByteArray), (⟨#[49]⟩ : ByteArray)).2.1) ∧ W.cell? ⟨X6, 2, none⟩ = some (.string (false, (⟨#[48]⟩ : ByteArray), (⟨#[49]⟩ : ByteArray)).2.2)) ∧ (W.cell? ⟨b, off, none⟩ = some (.bool xf.1) ∧ W.cell? ⟨b, off + 1, none⟩ = some (.string xf.2.1) ∧ W.cell? ⟨b, off + 2, none⟩ = some (.string xf.2.2)) ∧ W.cell? ⟨b, off + k * 6, none⟩ = some (.bool xl.1) ∧ W.cell? ⟨b, off + k * 6 + 1, none⟩ = some (.string xl.2.1) ∧ W.cell? ⟨b, off + k * 6 + 2, none⟩ = some (.string xl.2.2)) := fun W l hsub hls => by
          have h := fun p hp => hls.rc p (hsub hp)
          have hB := hls.bel
          exact ⟨⟨(h (X4, m) (by simp)).1.c0, (h (X4, m) (by simp)).1.c1, (h (X4, m) (by simp)).1.c2⟩, ⟨(h (X6, (false, (⟨#[48]⟩ : ByteArray), (⟨#[49]⟩ : ByteArray))) (by simp)).1.c0, (h (X6, (false, (⟨#[48]⟩ : ByteArray), (⟨#[49]⟩ : ByteArray))) (by simp)).1.c1, (h (X6, (false, (⟨#[48]⟩ : ByteArray), (⟨#[49]⟩ : ByteArray))) (by simp)).1.c2⟩, HE0.out W hB, HEk.out W hB⟩
        have hbd : Below w7.heap.size w7 w7.drew := bDraw (Below.refl _ w7)
        obtain ⟨w8, hwd⟩ : ∃ W, w7.drew = W := ⟨_, rfl⟩
        rw [hwd] at hbd
        have H8 := hide (H7.out.below hbd)
        clear H7 hbd
        have hE0 := HSS.out _ _ (by simp) H8.out
        refine wp_region_noPanic ?_
        refine wp_region_held_drew (S := fun w' => (w'.cell? ⟨X4, 0, none⟩ = some (.bool m.1) ∧ w'.cell? ⟨X4, 1, none⟩ = some (.string m.2.1) ∧ w'.cell? ⟨X4, 2, none⟩ = some (.string m.2.2)) ∧ (w'.cell? ⟨X6, 0, none⟩ = some (.bool (false, (⟨#[48]⟩ : ByteArray), (⟨#[49]⟩ : ByteArray)).1) ∧ w'.cell? ⟨X6, 1, none⟩ = some (.string (false, (⟨#[48]⟩ : ByteArray), (⟨#[49]⟩ : ByteArray)).2.1) ∧ w'.cell? ⟨X6, 2, none⟩ = some (.string (false, (⟨#[48]⟩ : ByteArray), (⟨#[49]⟩ : ByteArray)).2.2)) ∧ (w'.cell? ⟨b, off, none⟩ = some (.bool xf.1) ∧ w'.cell? ⟨b, off + 1, none⟩ = some (.string xf.2.1) ∧ w'.cell? ⟨b, off + 2, none⟩ = some (.string xf.2.2)) ∧ w'.cell? ⟨b, off + k * 6, none⟩ = some (.bool xl.1) ∧ w'.cell? ⟨b, off + k * 6 + 1, none⟩ = some (.string xl.2.1) ∧ w'.cell? ⟨b, off + k * 6 + 2, none⟩ = some (.string xl.2.2)) (by kernel_rfl) (by rw [hwd]; exact hE0) (fun hHeld => ?_)
        rw [hwd] at hHeld ⊢
        clear hwd hE0
        change wpAnyH _ _ _ _ _ 32 #[false, false, false, false, false, false, false, false, false, false, false, false, false, false, false, false, false, false, false, false, false, false, false, false, false, false, false, false, false, false, false, false] _ _
        refine wpAnyH_take (i := 0) (oi := _) (v := ?_) rfl (by kernel_rfl) (by kernel_rfl) (by kernel_rfl) (fun _ _ _ h => h) (Or.inl ⟨by rfl, ?_⟩) (by assumption) ?_
        rotate_left
        · intro w hSw
          (try dsimp only at hSw)
          go_simp
          try with_reducible rfl
        try simp only [List.getElem_toArray, List.getElem_cons_zero, List.getElem_cons_succ, List.get, Act.put, List.setIfInBounds_toArray, List.set_cons_zero, List.set_cons_succ]
        refine wpAnyH_take (i := 1) (oi := _) (v := ?_) rfl (by kernel_rfl) (by kernel_rfl) (by kernel_rfl) (fun _ _ _ h => h) (Or.inl ⟨by rfl, ?_⟩) (by assumption) ?_
        rotate_left
        · intro w hSw
          (try dsimp only at hSw)
          go_simp
          try with_reducible rfl
        try simp only [List.getElem_toArray, List.getElem_cons_zero, List.getElem_cons_succ, List.get, Act.put, List.setIfInBounds_toArray, List.set_cons_zero, List.set_cons_succ]
        refine wpAnyH_take (i := 2) (oi := _) (v := ?_) rfl (by kernel_rfl) (by kernel_rfl) (by kernel_rfl) (fun _ _ _ h => h) (Or.inl ⟨by rfl, ?_⟩) (by assumption) ?_
        rotate_left
        · intro w hSw
          (try dsimp only at hSw)
          go_simp
          try with_reducible rfl
        try simp only [List.getElem_toArray, List.getElem_cons_zero, List.getElem_cons_succ, List.get, Act.put, List.setIfInBounds_toArray, List.set_cons_zero, List.set_cons_succ]
        refine wpAnyH_take (i := 3) (oi := _) (v := ?_) rfl (by kernel_rfl) (by kernel_rfl) (by kernel_rfl) (fun _ _ _ h => h) (Or.inl ⟨by rfl, ?_⟩) (by assumption) ?_
        rotate_left
        · intro w hSw
          (try dsimp only at hSw)
          go_simp
          try with_reducible rfl
        try simp only [List.getElem_toArray, List.getElem_cons_zero, List.getElem_cons_succ, List.get, Act.put, List.setIfInBounds_toArray, List.set_cons_zero, List.set_cons_succ]
        refine wpAnyH_take (i := 4) (oi := _) (v := ?_) rfl (by kernel_rfl) (by kernel_rfl) (by kernel_rfl) (fun _ _ _ h => h) (Or.inl ⟨by rfl, ?_⟩) (by assumption) ?_
        rotate_left
        · intro w hSw
          (try dsimp only at hSw)
          go_simp
          try with_reducible rfl
        try simp only [List.getElem_toArray, List.getElem_cons_zero, List.getElem_cons_succ, List.get, Act.put, List.setIfInBounds_toArray, List.set_cons_zero, List.set_cons_succ]
        refine wpAnyH_ready (rs := [5]) (by kernel_rfl) (by simp) ?_
        refine AllReadyH.cons (o := _) rfl (fun K hK => ?_) AllReadyH.nil
        go_simp
        refine (HC1.out _ H8.out.bel).mono ?_
        rintro e w9 ⟨rfl, hb⟩
        have H9 := hide (H8.out.below hb)
        clear H8 hb
        refine hK.out _ _ (HSS.out _ _ (by simp) H9.out) (fun hHeld => ?_)
        clear hK K
        try simp only [List.getElem_toArray, List.getElem_cons_zero, List.getElem_cons_succ, List.get, Act.put, List.setIfInBounds_toArray, List.set_cons_zero, List.set_cons_succ]
        refine wpAnyH_take (i := 6) (oi := _) (v := ?_) rfl (by kernel_rfl) (by kernel_rfl) (by kernel_rfl) (fun _ _ _ h => h) (Or.inl ⟨by rfl, ?_⟩) (by assumption) ?_
        rotate_left
        · intro w hSw
          (try dsimp only at hSw)
          go_simp
          try with_reducible rfl
        try simp only [List.getElem_toArray, List.getElem_cons_zero, List.getElem_cons_succ, List.get, Act.put, List.setIfInBounds_toArray, List.set_cons_zero, List.set_cons_succ]
        refine wpAnyH_take (i := 7) (oi := _) (v := ?_) rfl (by kernel_rfl) (by kernel_rfl) (by kernel_rfl) (fun _ _ _ h => h) (Or.inl ⟨by rfl, ?_⟩) (by assumption) ?_
        rotate_left
        · intro w hSw
          (try dsimp only at hSw)
          go_simp
          try with_reducible rfl
        try simp only [List.getElem_toArray, List.getElem_cons_zero, List.getElem_cons_succ, List.get, Act.put, List.setIfInBounds_toArray, List.set_cons_zero, List.set_cons_succ]
        refine wpAnyH_take (i := 8) (oi := _) (v := ?_) rfl (by kernel_rfl) (by kernel_rfl) (by kernel_rfl) (fun _ _ _ h => h) (Or.inl ⟨by rfl, ?_⟩) (by assumption) ?_
        rotate_left
        · intro w hSw
          (try dsimp only at hSw)
          go_simp
          try with_reducible rfl
        try simp only [List.getElem_toArray, List.getElem_cons_zero, List.getElem_cons_succ, List.get, Act.put, List.setIfInBounds_toArray, List.set_cons_zero, List.set_cons_succ]
        refine wpAnyH_take (i := 9) (oi := _) (v := ?_) rfl (by kernel_rfl) (by kernel_rfl) (by kernel_rfl) (fun _ _ _ h => h) (Or.inl ⟨by rfl, ?_⟩) (by assumption) ?_
        rotate_left
        · intro w hSw
          (try dsimp only at hSw)
          go_simp
          try with_reducible rfl
        try simp only [List.getElem_toArray, List.getElem_cons_zero, List.getElem_cons_succ, List.get, Act.put, List.setIfInBounds_toArray, List.set_cons_zero, List.set_cons_succ]
        refine wpAnyH_take (i := 10) (oi := _) (v := ?_) rfl (by kernel_rfl) (by kernel_rfl) (by kernel_rfl) (fun _ _ _ h => h) (Or.inl ⟨by rfl, ?_⟩) (by assumption) ?_
        rotate_left
        · intro w hSw
          (try dsimp only at hSw)
          go_simp
          try with_reducible rfl
        try simp only [List.getElem_toArray, List.getElem_cons_zero, List.getElem_cons_succ, List.get, Act.put, List.setIfInBounds_toArray, List.set_cons_zero, List.set_cons_succ]
        refine wpAnyH_take (i := 11) (oi := _) (v := ?_) rfl (by kernel_rfl) (by kernel_rfl) (by kernel_rfl) (fun _ _ _ h => h) (Or.inl ⟨by rfl, ?_⟩) (by assumption) ?_
        rotate_left
        · intro w hSw
          (try dsimp only at hSw)
          go_simp
          try with_reducible rfl
        try simp only [List.getElem_toArray, List.getElem_cons_zero, List.getElem_cons_succ, List.get, Act.put, List.setIfInBounds_toArray, List.set_cons_zero, List.set_cons_succ]
        refine wpAnyH_take (i := 12) (oi := _) (v := ?_) rfl (by kernel_rfl) (by kernel_rfl) (by kernel_rfl) (fun _ _ _ h => h) (Or.inl ⟨by rfl, ?_⟩) (by assumption) ?_
        rotate_left
        · intro w hSw
          (try dsimp only at hSw)
          go_simp
          try with_reducible rfl
        try simp only [List.getElem_toArray, List.getElem_cons_zero, List.getElem_cons_succ, List.get, Act.put, List.setIfInBounds_toArray, List.set_cons_zero, List.set_cons_succ]
        refine wpAnyH_take (i := 13) (oi := _) (v := ?_) rfl (by kernel_rfl) (by kernel_rfl) (by kernel_rfl) (fun _ _ _ h => h) (Or.inl ⟨by rfl, ?_⟩) (by assumption) ?_
        rotate_left
        · intro w hSw
          (try dsimp only at hSw)
          go_simp
          try with_reducible rfl
        try simp only [List.getElem_toArray, List.getElem_cons_zero, List.getElem_cons_succ, List.get, Act.put, List.setIfInBounds_toArray, List.set_cons_zero, List.set_cons_succ]
        refine wpAnyH_take (i := 14) (oi := _) (v := ?_) rfl (by kernel_rfl) (by kernel_rfl) (by kernel_rfl) (fun _ _ _ h => h) (Or.inl ⟨by rfl, ?_⟩) (by assumption) ?_
        rotate_left
        · intro w hSw
          (try dsimp only at hSw)
          go_simp
          try with_reducible rfl
        try simp only [List.getElem_toArray, List.getElem_cons_zero, List.getElem_cons_succ, List.get, Act.put, List.setIfInBounds_toArray, List.set_cons_zero, List.set_cons_succ]
        refine wpAnyH_take (i := 15) (oi := _) (v := ?_) rfl (by kernel_rfl) (by kernel_rfl) (by kernel_rfl) (fun _ _ _ h => h) (Or.inl ⟨by rfl, ?_⟩) (by assumption) ?_
        rotate_left
        · intro w hSw
          (try dsimp only at hSw)
          go_simp
          try with_reducible rfl
        try simp only [List.getElem_toArray, List.getElem_cons_zero, List.getElem_cons_succ, List.get, Act.put, List.setIfInBounds_toArray, List.set_cons_zero, List.set_cons_succ]
        refine wpAnyH_ready (rs := [16]) (by kernel_rfl) (by simp) ?_
        refine AllReadyH.cons (o := _) rfl (fun K hK => ?_) AllReadyH.nil
        go_simp
        refine (HC2.out _ H9.out.bel).mono ?_
        rintro e w10 ⟨rfl, hb⟩
        have H10 := hide (H9.out.below hb)
        clear H9 hb
        refine hK.out _ _ (HSS.out _ _ (by simp) H10.out) (fun hHeld => ?_)
        clear hK K
        try simp only [List.getElem_toArray, List.getElem_cons_zero, List.getElem_cons_succ, List.get, Act.put, List.setIfInBounds_toArray, List.set_cons_zero, List.set_cons_succ]
        refine wpAnyH_take (i := 17) (oi := _) (v := ?_) rfl (by kernel_rfl) (by kernel_rfl) (by kernel_rfl) (fun _ _ _ h => h) (Or.inl ⟨by rfl, ?_⟩) (by assumption) ?_
        rotate_left
        · intro w hSw
          (try dsimp only at hSw)
          go_simp
          try with_reducible rfl
        try simp only [List.getElem_toArray, List.getElem_cons_zero, List.getElem_cons_succ, List.get, Act.put, List.setIfInBounds_toArray, List.set_cons_zero, List.set_cons_succ]
        refine wpAnyH_take (i := 18) (oi := _) (v := ?_) rfl (by kernel_rfl) (by kernel_rfl) (by kernel_rfl) (fun _ _ _ h => h) (Or.inl ⟨by rfl, ?_⟩) (by assumption) ?_
        rotate_left
        · intro w hSw
          (try dsimp only at hSw)
          go_simp
          try with_reducible rfl
        try simp only [List.getElem_toArray, List.getElem_cons_zero, List.getElem_cons_succ, List.get, Act.put, List.setIfInBounds_toArray, List.set_cons_zero, List.set_cons_succ]
        refine wpAnyH_take (i := 19) (oi := _) (v := ?_) rfl (by kernel_rfl) (by kernel_rfl) (by kernel_rfl) (fun _ _ _ h => h) (Or.inl ⟨by rfl, ?_⟩) (by assumption) ?_
        rotate_left
        · intro w hSw
          (try dsimp only at hSw)
          go_simp
          try with_reducible rfl
        try simp only [List.getElem_toArray, List.getElem_cons_zero, List.getElem_cons_succ, List.get, Act.put, List.setIfInBounds_toArray, List.set_cons_zero, List.set_cons_succ]
        refine wpAnyH_take (i := 20) (oi := _) (v := ?_) rfl (by kernel_rfl) (by kernel_rfl) (by kernel_rfl) (fun _ _ _ h => h) (Or.inl ⟨by rfl, ?_⟩) (by assumption) ?_
        rotate_left
        · intro w hSw
          (try dsimp only at hSw)
          go_simp
          try with_reducible rfl
        try simp only [List.getElem_toArray, List.getElem_cons_zero, List.getElem_cons_succ, List.get, Act.put, List.setIfInBounds_toArray, List.set_cons_zero, List.set_cons_succ]
        refine wpAnyH_take (i := 21) (oi := _) (v := ?_) rfl (by kernel_rfl) (by kernel_rfl) (by kernel_rfl) (fun _ _ _ h => h) (Or.inl ⟨by rfl, ?_⟩) (by assumption) ?_
        rotate_left
        · intro w hSw
          (try dsimp only at hSw)
          go_simp
          try with_reducible rfl
        try simp only [List.getElem_toArray, List.getElem_cons_zero, List.getElem_cons_succ, List.get, Act.put, List.setIfInBounds_toArray, List.set_cons_zero, List.set_cons_succ]
        refine wpAnyH_take (i := 22) (oi := _) (v := ?_) rfl (by kernel_rfl) (by kernel_rfl) (by kernel_rfl) (fun _ _ _ h => h) (Or.inl ⟨by rfl, ?_⟩) (by assumption) ?_
        rotate_left
        · intro w hSw
          (try dsimp only at hSw)
          go_simp
          try with_reducible rfl
        try simp only [List.getElem_toArray, List.getElem_cons_zero, List.getElem_cons_succ, List.get, Act.put, List.setIfInBounds_toArray, List.set_cons_zero, List.set_cons_succ]
        refine wpAnyH_take (i := 23) (oi := _) (v := ?_) rfl (by kernel_rfl) (by kernel_rfl) (by kernel_rfl) (fun _ _ _ h => h) (Or.inl ⟨by rfl, ?_⟩) (by assumption) ?_
        rotate_left
        · intro w hSw
          (try dsimp only at hSw)
          go_simp
          try with_reducible rfl
        try simp only [List.getElem_toArray, List.getElem_cons_zero, List.getElem_cons_succ, List.get, Act.put, List.setIfInBounds_toArray, List.set_cons_zero, List.set_cons_succ]
        refine wpAnyH_take (i := 24) (oi := _) (v := ?_) rfl (by kernel_rfl) (by kernel_rfl) (by kernel_rfl) (fun _ _ _ h => h) (Or.inl ⟨by rfl, ?_⟩) (by assumption) ?_
        rotate_left
        · intro w hSw
          (try dsimp only at hSw)
          go_simp
          try with_reducible rfl
        try simp only [List.getElem_toArray, List.getElem_cons_zero, List.getElem_cons_succ, List.get, Act.put, List.setIfInBounds_toArray, List.set_cons_zero, List.set_cons_succ]
        refine wpAnyH_take (i := 27) (oi := _) (v := ?_) rfl (by kernel_rfl) (by kernel_rfl) (by kernel_rfl) (fun _ _ _ h => h) (Or.inl ⟨by rfl, ?_⟩) (by assumption) ?_
        rotate_left
        · intro w hSw
          (try dsimp only at hSw)
          go_simp
          try with_reducible rfl
        try simp only [List.getElem_toArray, List.getElem_cons_zero, List.getElem_cons_succ, List.get, Act.put, List.setIfInBounds_toArray, List.set_cons_zero, List.set_cons_succ]
        refine wpAnyH_take (i := 28) (oi := _) (v := ?_) rfl (by kernel_rfl) (by kernel_rfl) (by kernel_rfl) (fun _ _ _ h => h) (Or.inl ⟨by rfl, ?_⟩) (by assumption) ?_
        rotate_left
        · intro w hSw
          (try dsimp only at hSw)
          go_simp
          try with_reducible rfl
        try simp only [List.getElem_toArray, List.getElem_cons_zero, List.getElem_cons_succ, List.get, Act.put, List.setIfInBounds_toArray, List.set_cons_zero, List.set_cons_succ]
        refine wpAnyH_take (i := 29) (oi := _) (v := ?_) rfl (by kernel_rfl) (by kernel_rfl) (by kernel_rfl) (fun _ _ _ h => h) (Or.inl ⟨by rfl, ?_⟩) (by assumption) ?_
        rotate_left
        · intro w hSw
          (try dsimp only at hSw)
          go_simp
          try with_reducible rfl
        try simp only [List.getElem_toArray, List.getElem_cons_zero, List.getElem_cons_succ, List.get, Act.put, List.setIfInBounds_toArray, List.set_cons_zero, List.set_cons_succ]
        refine wpAnyH_ready (rs := [25]) (by kernel_rfl) (by simp) ?_
        refine AllReadyH.cons (o := _) rfl (fun K hK => ?_) AllReadyH.nil
        go_simp
        refine (HR0.out _ H10.out.bel).mono ?_
        rintro e w11 ⟨rfl, hb⟩
        have H11 := hide (H10.out.below hb)
        clear H10 hb
        refine hK.out _ _ (HSS.out _ _ (by simp) H11.out) (fun hHeld => ?_)
        clear hK K
        try simp only [List.getElem_toArray, List.getElem_cons_zero, List.getElem_cons_succ, List.get, Act.put, List.setIfInBounds_toArray, List.set_cons_zero, List.set_cons_succ]
        refine wpAnyH_take (i := 26) (oi := _) (v := ?_) rfl (by kernel_rfl) (by kernel_rfl) (by kernel_rfl) (fun _ _ _ h => h) (Or.inl ⟨by rfl, ?_⟩) (by assumption) ?_
        rotate_left
        · intro w hSw
          (try dsimp only at hSw)
          go_simp
          try with_reducible rfl
        try simp only [List.getElem_toArray, List.getElem_cons_zero, List.getElem_cons_succ, List.get, Act.put, List.setIfInBounds_toArray, List.set_cons_zero, List.set_cons_succ]
        refine wpAnyH_take (i := 30) (oi := _) (v := ?_) rfl (by kernel_rfl) (by kernel_rfl) (by kernel_rfl) (fun _ _ _ h => h) (Or.inl ⟨by rfl, ?_⟩) (by assumption) ?_
        rotate_left
        · intro w hSw
          (try dsimp only at hSw)
          go_simp
          try with_reducible rfl
        try simp only [List.getElem_toArray, List.getElem_cons_zero, List.getElem_cons_succ, List.get, Act.put, List.setIfInBounds_toArray, List.set_cons_zero, List.set_cons_succ]
        refine wpAnyH_take (i := 31) (oi := _) (v := ?_) rfl (by kernel_rfl) (by kernel_rfl) (by kernel_rfl) (fun _ _ _ h => h) (Or.inl ⟨by rfl, ?_⟩) (by assumption) ?_
        rotate_left
        · intro w hSw
          (try dsimp only at hSw)
          go_simp
          try with_reducible rfl
        try simp only [List.getElem_toArray, List.getElem_cons_zero, List.getElem_cons_succ, List.get, Act.put, List.setIfInBounds_toArray, List.set_cons_zero, List.set_cons_succ]
        refine wpAnyH_done (by kernel_rfl) ?_ _
        refine NoPanic.normal ?_
        go_wp2_with fail
        go_meet
        exact ⟨rfl, H11.out⟩
      · skip
        have hvs2 : ¬ vs.toList = [48] := fun h => by rw [h] at hvs; simp at hvs
        have HSS : Hid (∀ W l, [(X4, m), (X6, (false, vs, vt))] ⊆ l → LS0 w W l → (W.cell? ⟨X4, 0, none⟩ = some (.bool m.1) ∧ W.cell? ⟨X4, 1, none⟩ = some (.string m.2.1) ∧ W.cell? ⟨X4, 2, none⟩ = some (.string m.2.2)) ∧ (W.cell? ⟨X6, 0, none⟩ = some (.bool (false, vs, vt).1) ∧ W.cell? ⟨X6, 1, none⟩ = some (.string (false, vs, vt).2.1) ∧ W.cell? ⟨X6, 2, none⟩ = some (.string (false, vs, vt).2.2)) ∧ (W.cell? ⟨b, off, none⟩ = some (.bool xf.1) ∧ W.cell? ⟨b, off + 1, none⟩ = some (.string xf.2.1) ∧ W.cell? ⟨b, off + 2, none⟩ = some (.string xf.2.2)) ∧ W.cell? ⟨b, off + k * 6, none⟩ = some (.bool xl.1) ∧ W.cell? ⟨b, off + k * 6 + 1, none⟩ = some (.string xl.2.1) ∧ W.cell? ⟨b, off + k * 6 + 2, none⟩ = some (.string xl.2.2)) := fun W l hsub hls => by
          have h := fun p hp => hls.rc p (hsub hp)
          have hB := hls.bel
          exact ⟨⟨(h (X4, m) (by simp)).1.c0, (h (X4, m) (by simp)).1.c1, (h (X4, m) (by simp)).1.c2⟩, ⟨(h (X6, (false, vs, vt)) (by simp)).1.c0, (h (X6, (false, vs, vt)) (by simp)).1.c1, (h (X6, (false, vs, vt)) (by simp)).1.c2⟩, HE0.out W hB, HEk.out W hB⟩
        have hbd : Below w7.heap.size w7 w7.drew := bDraw (Below.refl _ w7)
        obtain ⟨w12, hwd⟩ : ∃ W, w7.drew = W := ⟨_, rfl⟩
        rw [hwd] at hbd
        have H12 := hide (H7.out.below hbd)
        clear H7 hbd
        have hE0 := HSS.out _ _ (by simp) H12.out
        refine wp_region_noPanic ?_
        refine wp_region_held_drew (S := fun w' => (w'.cell? ⟨X4, 0, none⟩ = some (.bool m.1) ∧ w'.cell? ⟨X4, 1, none⟩ = some (.string m.2.1) ∧ w'.cell? ⟨X4, 2, none⟩ = some (.string m.2.2)) ∧ (w'.cell? ⟨X6, 0, none⟩ = some (.bool (false, vs, vt).1) ∧ w'.cell? ⟨X6, 1, none⟩ = some (.string (false, vs, vt).2.1) ∧ w'.cell? ⟨X6, 2, none⟩ = some (.string (false, vs, vt).2.2)) ∧ (w'.cell? ⟨b, off, none⟩ = some (.bool xf.1) ∧ w'.cell? ⟨b, off + 1, none⟩ = some (.string xf.2.1) ∧ w'.cell? ⟨b, off + 2, none⟩ = some (.string xf.2.2)) ∧ w'.cell? ⟨b, off + k * 6, none⟩ = some (.bool xl.1) ∧ w'.cell? ⟨b, off + k * 6 + 1, none⟩ = some (.string xl.2.1) ∧ w'.cell? ⟨b, off + k * 6 + 2, none⟩ = some (.string xl.2.2)) (by kernel_rfl) (by rw [hwd]; exact hE0) (fun hHeld => ?_)
        rw [hwd] at hHeld ⊢
        clear hwd hE0
        change wpAnyH _ _ _ _ _ 32 #[false, false, false, false, false, false, false, false, false, false, false, false, false, false, false, false, false, false, false, false, false, false, false, false, false, false, false, false, false, false, false, false] _ _
        refine wpAnyH_take (i := 0) (oi := _) (v := ?_) rfl (by kernel_rfl) (by kernel_rfl) (by kernel_rfl) (fun _ _ _ h => h) (Or.inl ⟨by rfl, ?_⟩) (by assumption) ?_
        rotate_left
        · intro w hSw
          (try dsimp only at hSw)
          go_simp
          try with_reducible rfl
        try simp only [List.getElem_toArray, List.getElem_cons_zero, List.getElem_cons_succ, List.get, Act.put, List.setIfInBounds_toArray, List.set_cons_zero, List.set_cons_succ]
        refine wpAnyH_take (i := 1) (oi := _) (v := ?_) rfl (by kernel_rfl) (by kernel_rfl) (by kernel_rfl) (fun _ _ _ h => h) (Or.inl ⟨by rfl, ?_⟩) (by assumption) ?_
        rotate_left
        · intro w hSw
          (try dsimp only at hSw)
          go_simp
          try with_reducible rfl
        try simp only [List.getElem_toArray, List.getElem_cons_zero, List.getElem_cons_succ, List.get, Act.put, List.setIfInBounds_toArray, List.set_cons_zero, List.set_cons_succ]
        refine wpAnyH_take (i := 2) (oi := _) (v := ?_) rfl (by kernel_rfl) (by kernel_rfl) (by kernel_rfl) (fun _ _ _ h => h) (Or.inl ⟨by rfl, ?_⟩) (by assumption) ?_
        rotate_left
        · intro w hSw
          (try dsimp only at hSw)
          go_simp
          try with_reducible rfl
        try simp only [List.getElem_toArray, List.getElem_cons_zero, List.getElem_cons_succ, List.get, Act.put, List.setIfInBounds_toArray, List.set_cons_zero, List.set_cons_succ]
        refine wpAnyH_take (i := 3) (oi := _) (v := ?_) rfl (by kernel_rfl) (by kernel_rfl) (by kernel_rfl) (fun _ _ _ h => h) (Or.inl ⟨by rfl, ?_⟩) (by assumption) ?_
        rotate_left
        · intro w hSw
          (try dsimp only at hSw)
          go_simp
          try with_reducible rfl
        try simp only [List.getElem_toArray, List.getElem_cons_zero, List.getElem_cons_succ, List.get, Act.put, List.setIfInBounds_toArray, List.set_cons_zero, List.set_cons_succ]
        refine wpAnyH_take (i := 4) (oi := _) (v := ?_) rfl (by kernel_rfl) (by kernel_rfl) (by kernel_rfl) (fun _ _ _ h => h) (Or.inl ⟨by rfl, ?_⟩) (by assumption) ?_
        rotate_left
        · intro w hSw
          (try dsimp only at hSw)
          go_simp
          try with_reducible rfl
        try simp only [List.getElem_toArray, List.getElem_cons_zero, List.getElem_cons_succ, List.get, Act.put, List.setIfInBounds_toArray, List.set_cons_zero, List.set_cons_succ]
        refine wpAnyH_ready (rs := [5]) (by kernel_rfl) (by simp) ?_
        refine AllReadyH.cons (o := _) rfl (fun K hK => ?_) AllReadyH.nil
        go_simp
        refine (HC1.out _ H12.out.bel).mono ?_
        rintro e w13 ⟨rfl, hb⟩
        have H13 := hide (H12.out.below hb)
        clear H12 hb
        refine hK.out _ _ (HSS.out _ _ (by simp) H13.out) (fun hHeld => ?_)
        clear hK K
        try simp only [List.getElem_toArray, List.getElem_cons_zero, List.getElem_cons_succ, List.get, Act.put, List.setIfInBounds_toArray, List.set_cons_zero, List.set_cons_succ]
        refine wpAnyH_take (i := 6) (oi := _) (v := ?_) rfl (by kernel_rfl) (by kernel_rfl) (by kernel_rfl) (fun _ _ _ h => h) (Or.inl ⟨by rfl, ?_⟩) (by assumption) ?_
        rotate_left
        · intro w hSw
          (try dsimp only at hSw)
          go_simp
          try with_reducible rfl
        try simp only [List.getElem_toArray, List.getElem_cons_zero, List.getElem_cons_succ, List.get, Act.put, List.setIfInBounds_toArray, List.set_cons_zero, List.set_cons_succ]
        refine wpAnyH_take (i := 7) (oi := _) (v := ?_) rfl (by kernel_rfl) (by kernel_rfl) (by kernel_rfl) (fun _ _ _ h => h) (Or.inl ⟨by rfl, ?_⟩) (by assumption) ?_
        rotate_left
        · intro w hSw
          (try dsimp only at hSw)
          go_simp
          try with_reducible rfl
        try simp only [List.getElem_toArray, List.getElem_cons_zero, List.getElem_cons_succ, List.get, Act.put, List.setIfInBounds_toArray, List.set_cons_zero, List.set_cons_succ]
        refine wpAnyH_take (i := 8) (oi := _) (v := ?_) rfl (by kernel_rfl) (by kernel_rfl) (by kernel_rfl) (fun _ _ _ h => h) (Or.inl ⟨by rfl, ?_⟩) (by assumption) ?_
        rotate_left
        · intro w hSw
          (try dsimp only at hSw)
          go_simp
          try with_reducible rfl
        try simp only [List.getElem_toArray, List.getElem_cons_zero, List.getElem_cons_succ, List.get, Act.put, List.setIfInBounds_toArray, List.set_cons_zero, List.set_cons_succ]
        refine wpAnyH_take (i := 9) (oi := _) (v := ?_) rfl (by kernel_rfl) (by kernel_rfl) (by kernel_rfl) (fun _ _ _ h => h) (Or.inl ⟨by rfl, ?_⟩) (by assumption) ?_
        rotate_left
        · intro w hSw
          (try dsimp only at hSw)
          go_simp
          try with_reducible rfl
        try simp only [List.getElem_toArray, List.getElem_cons_zero, List.getElem_cons_succ, List.get, Act.put, List.setIfInBounds_toArray, List.set_cons_zero, List.set_cons_succ]
        refine wpAnyH_take (i := 10) (oi := _) (v := ?_) rfl (by kernel_rfl) (by kernel_rfl) (by kernel_rfl) (fun _ _ _ h => h) (Or.inl ⟨by rfl, ?_⟩) (by assumption) ?_
        rotate_left
        · intro w hSw
          (try dsimp only at hSw)
          go_simp
          try with_reducible rfl
        try simp only [List.getElem_toArray, List.getElem_cons_zero, List.getElem_cons_succ, List.get, Act.put, List.setIfInBounds_toArray, List.set_cons_zero, List.set_cons_succ]
        refine wpAnyH_take (i := 11) (oi := _) (v := ?_) rfl (by kernel_rfl) (by kernel_rfl) (by kernel_rfl) (fun _ _ _ h => h) (Or.inl ⟨by rfl, ?_⟩) (by assumption) ?_
        rotate_left
        · intro w hSw
          (try dsimp only at hSw)
          go_simp
          try with_reducible rfl
        try simp only [List.getElem_toArray, List.getElem_cons_zero, List.getElem_cons_succ, List.get, Act.put, List.setIfInBounds_toArray, List.set_cons_zero, List.set_cons_succ]
        refine wpAnyH_take (i := 12) (oi := _) (v := ?_) rfl (by kernel_rfl) (by kernel_rfl) (by kernel_rfl) (fun _ _ _ h => h) (Or.inl ⟨by rfl, ?_⟩) (by assumption) ?_
        rotate_left
        · intro w hSw
          (try dsimp only at hSw)
          go_simp
          try with_reducible rfl
        try simp only [List.getElem_toArray, List.getElem_cons_zero, List.getElem_cons_succ, List.get, Act.put, List.setIfInBounds_toArray, List.set_cons_zero, List.set_cons_succ]
        refine wpAnyH_take (i := 13) (oi := _) (v := ?_) rfl (by kernel_rfl) (by kernel_rfl) (by kernel_rfl) (fun _ _ _ h => h) (Or.inl ⟨by rfl, ?_⟩) (by assumption) ?_
        rotate_left
        · intro w hSw
          (try dsimp only at hSw)
          go_simp
          try with_reducible rfl
        try simp only [List.getElem_toArray, List.getElem_cons_zero, List.getElem_cons_succ, List.get, Act.put, List.setIfInBounds_toArray, List.set_cons_zero, List.set_cons_succ]
        refine wpAnyH_take (i := 14) (oi := _) (v := ?_) rfl (by kernel_rfl) (by kernel_rfl) (by kernel_rfl) (fun _ _ _ h => h) (Or.inl ⟨by rfl, ?_⟩) (by assumption) ?_
        rotate_left
        · intro w hSw
          (try dsimp only at hSw)
          go_simp
          try with_reducible rfl
        try simp only [List.getElem_toArray, List.getElem_cons_zero, List.getElem_cons_succ, List.get, Act.put, List.setIfInBounds_toArray, List.set_cons_zero, List.set_cons_succ]
        refine wpAnyH_take (i := 15) (oi := _) (v := ?_) rfl (by kernel_rfl) (by kernel_rfl) (by kernel_rfl) (fun _ _ _ h => h) (Or.inl ⟨by rfl, ?_⟩) (by assumption) ?_
        rotate_left
        · intro w hSw
          (try dsimp only at hSw)
          go_simp
          try with_reducible rfl
        try simp only [List.getElem_toArray, List.getElem_cons_zero, List.getElem_cons_succ, List.get, Act.put, List.setIfInBounds_toArray, List.set_cons_zero, List.set_cons_succ]
        refine wpAnyH_ready (rs := [16]) (by kernel_rfl) (by simp) ?_
        refine AllReadyH.cons (o := _) rfl (fun K hK => ?_) AllReadyH.nil
        go_simp
        refine (HC2.out _ H13.out.bel).mono ?_
        rintro e w14 ⟨rfl, hb⟩
        have H14 := hide (H13.out.below hb)
        clear H13 hb
        refine hK.out _ _ (HSS.out _ _ (by simp) H14.out) (fun hHeld => ?_)
        clear hK K
        try simp only [List.getElem_toArray, List.getElem_cons_zero, List.getElem_cons_succ, List.get, Act.put, List.setIfInBounds_toArray, List.set_cons_zero, List.set_cons_succ]
        refine wpAnyH_take (i := 17) (oi := _) (v := ?_) rfl (by kernel_rfl) (by kernel_rfl) (by kernel_rfl) (fun _ _ _ h => h) (Or.inl ⟨by rfl, ?_⟩) (by assumption) ?_
        rotate_left
        · intro w hSw
          (try dsimp only at hSw)
          go_simp
          try with_reducible rfl
        try simp only [List.getElem_toArray, List.getElem_cons_zero, List.getElem_cons_succ, List.get, Act.put, List.setIfInBounds_toArray, List.set_cons_zero, List.set_cons_succ]
        refine wpAnyH_take (i := 18) (oi := _) (v := ?_) rfl (by kernel_rfl) (by kernel_rfl) (by kernel_rfl) (fun _ _ _ h => h) (Or.inl ⟨by rfl, ?_⟩) (by assumption) ?_
        rotate_left
        · intro w hSw
          (try dsimp only at hSw)
          go_simp
          try with_reducible rfl
        try simp only [List.getElem_toArray, List.getElem_cons_zero, List.getElem_cons_succ, List.get, Act.put, List.setIfInBounds_toArray, List.set_cons_zero, List.set_cons_succ]
        refine wpAnyH_take (i := 19) (oi := _) (v := ?_) rfl (by kernel_rfl) (by kernel_rfl) (by kernel_rfl) (fun _ _ _ h => h) (Or.inl ⟨by rfl, ?_⟩) (by assumption) ?_
        rotate_left
        · intro w hSw
          (try dsimp only at hSw)
          go_simp
          try with_reducible rfl
        try simp only [List.getElem_toArray, List.getElem_cons_zero, List.getElem_cons_succ, List.get, Act.put, List.setIfInBounds_toArray, List.set_cons_zero, List.set_cons_succ]
        refine wpAnyH_take (i := 20) (oi := _) (v := ?_) rfl (by kernel_rfl) (by kernel_rfl) (by kernel_rfl) (fun _ _ _ h => h) (Or.inl ⟨by rfl, ?_⟩) (by assumption) ?_
        rotate_left
        · intro w hSw
          (try dsimp only at hSw)
          go_simp
          try with_reducible rfl
        try simp only [List.getElem_toArray, List.getElem_cons_zero, List.getElem_cons_succ, List.get, Act.put, List.setIfInBounds_toArray, List.set_cons_zero, List.set_cons_succ]
        refine wpAnyH_take (i := 21) (oi := _) (v := ?_) rfl (by kernel_rfl) (by kernel_rfl) (by kernel_rfl) (fun _ _ _ h => h) (Or.inl ⟨by rfl, ?_⟩) (by assumption) ?_
        rotate_left
        · intro w hSw
          (try dsimp only at hSw)
          go_simp
          try with_reducible rfl
        try simp only [List.getElem_toArray, List.getElem_cons_zero, List.getElem_cons_succ, List.get, Act.put, List.setIfInBounds_toArray, List.set_cons_zero, List.set_cons_succ]
        refine wpAnyH_take (i := 22) (oi := _) (v := ?_) rfl (by kernel_rfl) (by kernel_rfl) (by kernel_rfl) (fun _ _ _ h => h) (Or.inl ⟨by rfl, ?_⟩) (by assumption) ?_
        rotate_left
        · intro w hSw
          (try dsimp only at hSw)
          go_simp
          try with_reducible rfl
        try simp only [List.getElem_toArray, List.getElem_cons_zero, List.getElem_cons_succ, List.get, Act.put, List.setIfInBounds_toArray, List.set_cons_zero, List.set_cons_succ]
        refine wpAnyH_take (i := 23) (oi := _) (v := ?_) rfl (by kernel_rfl) (by kernel_rfl) (by kernel_rfl) (fun _ _ _ h => h) (Or.inl ⟨by rfl, ?_⟩) (by assumption) ?_
        rotate_left
        · intro w hSw
          (try dsimp only at hSw)
          go_simp
          try with_reducible rfl
        try simp only [List.getElem_toArray, List.getElem_cons_zero, List.getElem_cons_succ, List.get, Act.put, List.setIfInBounds_toArray, List.set_cons_zero, List.set_cons_succ]
        refine wpAnyH_take (i := 24) (oi := _) (v := ?_) rfl (by kernel_rfl) (by kernel_rfl) (by kernel_rfl) (fun _ _ _ h => h) (Or.inl ⟨by rfl, ?_⟩) (by assumption) ?_
        rotate_left
        · intro w hSw
          (try dsimp only at hSw)
          go_simp
          try with_reducible rfl
        try simp only [List.getElem_toArray, List.getElem_cons_zero, List.getElem_cons_succ, List.get, Act.put, List.setIfInBounds_toArray, List.set_cons_zero, List.set_cons_succ]
        refine wpAnyH_take (i := 27) (oi := _) (v := ?_) rfl (by kernel_rfl) (by kernel_rfl) (by kernel_rfl) (fun _ _ _ h => h) (Or.inl ⟨by rfl, ?_⟩) (by assumption) ?_
        rotate_left
        · intro w hSw
          (try dsimp only at hSw)
          go_simp
          try with_reducible rfl
        try simp only [List.getElem_toArray, List.getElem_cons_zero, List.getElem_cons_succ, List.get, Act.put, List.setIfInBounds_toArray, List.set_cons_zero, List.set_cons_succ]
        refine wpAnyH_take (i := 28) (oi := _) (v := ?_) rfl (by kernel_rfl) (by kernel_rfl) (by kernel_rfl) (fun _ _ _ h => h) (Or.inl ⟨by rfl, ?_⟩) (by assumption) ?_
        rotate_left
        · intro w hSw
          (try dsimp only at hSw)
          go_simp
          try with_reducible rfl
        try simp only [List.getElem_toArray, List.getElem_cons_zero, List.getElem_cons_succ, List.get, Act.put, List.setIfInBounds_toArray, List.set_cons_zero, List.set_cons_succ]
        refine wpAnyH_take (i := 29) (oi := _) (v := ?_) rfl (by kernel_rfl) (by kernel_rfl) (by kernel_rfl) (fun _ _ _ h => h) (Or.inl ⟨by rfl, ?_⟩) (by assumption) ?_
        rotate_left
        · intro w hSw
          (try dsimp only at hSw)
          go_simp
          try with_reducible rfl
        try simp only [List.getElem_toArray, List.getElem_cons_zero, List.getElem_cons_succ, List.get, Act.put, List.setIfInBounds_toArray, List.set_cons_zero, List.set_cons_succ]
        refine wpAnyH_ready (rs := [25]) (by kernel_rfl) (by simp) ?_
        refine AllReadyH.cons (o := _) rfl (fun K hK => ?_) AllReadyH.nil
        go_simp
        refine (HR0.out _ H14.out.bel).mono ?_
        rintro e w15 ⟨rfl, hb⟩
        have H15 := hide (H14.out.below hb)
        clear H14 hb
        refine hK.out _ _ (HSS.out _ _ (by simp) H15.out) (fun hHeld => ?_)
        clear hK K
        try simp only [List.getElem_toArray, List.getElem_cons_zero, List.getElem_cons_succ, List.get, Act.put, List.setIfInBounds_toArray, List.set_cons_zero, List.set_cons_succ]
        refine wpAnyH_take (i := 26) (oi := _) (v := ?_) rfl (by kernel_rfl) (by kernel_rfl) (by kernel_rfl) (fun _ _ _ h => h) (Or.inl ⟨by rfl, ?_⟩) (by assumption) ?_
        rotate_left
        · intro w hSw
          (try dsimp only at hSw)
          go_simp
          try with_reducible rfl
        try simp only [List.getElem_toArray, List.getElem_cons_zero, List.getElem_cons_succ, List.get, Act.put, List.setIfInBounds_toArray, List.set_cons_zero, List.set_cons_succ]
        refine wpAnyH_take (i := 30) (oi := _) (v := ?_) rfl (by kernel_rfl) (by kernel_rfl) (by kernel_rfl) (fun _ _ _ h => h) (Or.inl ⟨by rfl, ?_⟩) (by assumption) ?_
        rotate_left
        · intro w hSw
          (try dsimp only at hSw)
          go_simp
          try with_reducible rfl
        try simp only [List.getElem_toArray, List.getElem_cons_zero, List.getElem_cons_succ, List.get, Act.put, List.setIfInBounds_toArray, List.set_cons_zero, List.set_cons_succ]
        refine wpAnyH_take (i := 31) (oi := _) (v := ?_) rfl (by kernel_rfl) (by kernel_rfl) (by kernel_rfl) (fun _ _ _ h => h) (Or.inl ⟨by rfl, ?_⟩) (by assumption) ?_
        rotate_left
        · intro w hSw
          (try dsimp only at hSw)
          go_simp
          try with_reducible rfl
        try simp only [List.getElem_toArray, List.getElem_cons_zero, List.getElem_cons_succ, List.get, Act.put, List.setIfInBounds_toArray, List.set_cons_zero, List.set_cons_succ]
        refine wpAnyH_done (by kernel_rfl) ?_ _
        refine NoPanic.normal ?_
        go_wp2_with fail
        go_meet
        exact ⟨rfl, H15.out⟩
  obtain ⟨rfl, hls⟩ := hcut
  have H16 := hide hls
  clear hls H7
  obtain ⟨w16, hwc⟩ : ∃ W, W = wc := ⟨_, rfl⟩
  subst hwc
  have hba := bAlloc (Below.refl w16.heap.size w16) (.cells #[.bool false] 45)
  have H17 := hide (H16.out.calc 45)
  clear H16 hba 
  go_upto_region 11 with fail
  obtain ⟨w17, hw⟩ : ∃ W, w16.alloc (.cells #[.bool false] 45) = W := ⟨_, rfl⟩
  obtain ⟨C, hX⟩ : ∃ A, w16.heap.size = A := ⟨_, rfl⟩
  rw [hw, hX] at H17
  rw [hw, hX]
  clear hw hX
  go_wp2_with fail
  refine (HR1.out _ H17.out.bel).mono ?_
  rintro e w18 ⟨rfl, hb⟩
  have H18 := hide (H17.out.below hb)
  clear H17 hb
  have hba := bAlloc (Below.refl w18.heap.size w18) (.cells #[.bool z0.1, .string z0.2.1, .string z0.2.2] 29)
  have H19 := hide (H18.out.box z0 29)
  clear H18 hba 
  go_upto_region 12 with fail
  obtain ⟨w19, hw⟩ : ∃ W, w18.alloc (.cells #[.bool z0.1, .string z0.2.1, .string z0.2.2] 29) = W := ⟨_, rfl⟩
  obtain ⟨X9, hX⟩ : ∃ A, w18.heap.size = A := ⟨_, rfl⟩
  rw [hw, hX] at H19
  rw [hw, hX]
  clear hw hX
  go_wp2_with fail
  go_loopw [10] (fun i wx => ∃ (j : Nat) (sq : T3) (o : Option Rat) (f : Bool), j ≤ n ∧ i = .int .i64 (j : Int) ∧ TO o sq ∧ (f = false → o = some (sqPart L j)) ∧ LS w wx C f [(X9, sq), (X6, (false, vs, vt)), (X4, m)]) (fun i _ => n - (intOf i).toNat)
  case atStart => exact ⟨0, z0, some 0, false, Nat.zero_le _, rfl, HT0.out, (fun _ => rfl), H19.out⟩
  case round =>
    obtain ⟨j, sq, o, fl, hj, rfl, tsq, hof, hls⟩ := hrel
    have HT := hide tsq
    have HOF := hide hof
    have H20 := hide hls
    clear tsq hof hls H19
    obtain ⟨w20, hwr⟩ : ∃ W, W = wr := ⟨_, rfl⟩
    subst hwr
    by_cases hlt : j < n
    · have hjI : (j : Int) < (n : Int) := by omega
      have hj0 : (0 : Int) ≤ (j : Int) := by omega
      have hja : IntKind.i64.wrap ((j : Int) + 1) = ((j + 1 : Nat) : Int) := by rw [IntWalk.i64_in _ (by omega)]; omega
      have hjL : j < L.length := by rw [HLN.out]; exact hlt
      have HP := hide (fun W hW => HEi.out W hW j hjL)
      have HSQ := hide (sqPart_succ hjL)
      have HTV : Hid (TO (some L[j].1) (rqM L[j].1)) := TO.rq (HFT.out _ (List.getElem_mem hjL)).1
      have HTW : Hid (TO (some L[j].2) (rqM L[j].2)) := TO.rq (HFT.out _ (List.getElem_mem hjL)).2
      have HPV : Hid (∀ W, Below w.heap.size w W → c3 W b (off + j * 6) (rqM L[j].1) ∧ c3 W b (off + j * 6 + 3) (rqM L[j].2)) := fun W hW => by
        obtain ⟨a0, a1, a2, a3, a4, a5⟩ := HP.out W hW
        exact ⟨⟨a0, a1, a2⟩, a3, a4, a5⟩
      obtain ⟨pv, hpv⟩ : ∃ p, L[j].1 = p := ⟨_, rfl⟩
      obtain ⟨pw, hpw⟩ : ∃ p, L[j].2 = p := ⟨_, rfl⟩
      rw [hpv] at HTV HPV HSQ
      rw [hpw] at HTW HPV HSQ
      obtain ⟨xv, hxv⟩ : ∃ x, rqM pv = x := ⟨_, rfl⟩
      obtain ⟨xw, hxw⟩ : ∃ x, rqM pw = x := ⟨_, rfl⟩
      rw [hxv] at HTV HPV
      rw [hxw] at HTW HPV
      clear hpv hpw hxv hxw HP
      go_upto_region 15 with fail
      have HSS : Hid (∀ W f l, [] ⊆ l → LS w W C f l → (W.cell? ⟨b, off + j * 6, none⟩ = some (.bool xv.1) ∧ W.cell? ⟨b, off + j * 6 + 1, none⟩ = some (.string xv.2.1) ∧ W.cell? ⟨b, off + j * 6 + 2, none⟩ = some (.string xv.2.2)) ∧ W.cell? ⟨b, off + j * 6 + 3, none⟩ = some (.bool xw.1) ∧ W.cell? ⟨b, off + j * 6 + 4, none⟩ = some (.string xw.2.1) ∧ W.cell? ⟨b, off + j * 6 + 5, none⟩ = some (.string xw.2.2)) := fun W f l hsub hls => by
        have h := fun p hp => hls.rc p (hsub hp)
        have hB := hls.bel
        exact ⟨(HPV.out W hB).1, (HPV.out W hB).2⟩
      have hbd : Below w20.heap.size w20 w20.drew := bDraw (Below.refl _ w20)
      obtain ⟨w21, hwd⟩ : ∃ W, w20.drew = W := ⟨_, rfl⟩
      rw [hwd] at hbd
      have H21 := hide (H20.out.below hbd)
      clear H20 hbd
      have hE0 := HSS.out _ _ _ (by simp) H21.out
      refine wp_region_noPanic ?_
      refine wp_region_held_drew (S := fun w' => (w'.cell? ⟨b, off + j * 6, none⟩ = some (.bool xv.1) ∧ w'.cell? ⟨b, off + j * 6 + 1, none⟩ = some (.string xv.2.1) ∧ w'.cell? ⟨b, off + j * 6 + 2, none⟩ = some (.string xv.2.2)) ∧ w'.cell? ⟨b, off + j * 6 + 3, none⟩ = some (.bool xw.1) ∧ w'.cell? ⟨b, off + j * 6 + 4, none⟩ = some (.string xw.2.1) ∧ w'.cell? ⟨b, off + j * 6 + 5, none⟩ = some (.string xw.2.2)) (by kernel_rfl) (by rw [hwd]; exact hE0) (fun hHeld => ?_)
      rw [hwd] at hHeld ⊢
      clear hwd hE0
      change wpAnyH _ _ _ _ _ 23 #[false, false, false, false, false, false, false, false, false, false, false, false, false, false, false, false, false, false, false, false, false, false, false] _ _
      refine wpAnyH_take (i := 0) (oi := _) (v := ?_) rfl (by kernel_rfl) (by kernel_rfl) (by kernel_rfl) (fun _ _ _ h => h) (Or.inl ⟨by rfl, ?_⟩) (by assumption) ?_
      rotate_left
      · intro w hSw
        (try dsimp only at hSw)
        go_simp
        try with_reducible rfl
      try simp only [List.getElem_toArray, List.getElem_cons_zero, List.getElem_cons_succ, List.get, Act.put, List.setIfInBounds_toArray, List.set_cons_zero, List.set_cons_succ]
      refine wpAnyH_take (i := 2) (oi := _) (v := ?_) rfl (by kernel_rfl) (by kernel_rfl) (by kernel_rfl) (fun _ _ _ h => h) (Or.inl ⟨by rfl, ?_⟩) (by assumption) ?_
      rotate_left
      · intro w hSw
        (try dsimp only at hSw)
        go_simp
        try with_reducible rfl
      try simp only [List.getElem_toArray, List.getElem_cons_zero, List.getElem_cons_succ, List.get, Act.put, List.setIfInBounds_toArray, List.set_cons_zero, List.set_cons_succ]
      refine wpAnyH_take (i := 3) (oi := _) (v := ?_) rfl (by kernel_rfl) (by kernel_rfl) (by kernel_rfl) (fun _ _ _ h => h) (Or.inl ⟨by rfl, ?_⟩) (by assumption) ?_
      rotate_left
      · intro w hSw
        (try dsimp only at hSw)
        go_simp
        try with_reducible rfl
      try simp only [List.getElem_toArray, List.getElem_cons_zero, List.getElem_cons_succ, List.get, Act.put, List.setIfInBounds_toArray, List.set_cons_zero, List.set_cons_succ]
      refine wpAnyH_take (i := 4) (oi := _) (v := ?_) rfl (by kernel_rfl) (by kernel_rfl) (by kernel_rfl) (fun _ _ _ h => h) (Or.inl ⟨by rfl, ?_⟩) (by assumption) ?_
      rotate_left
      · intro w hSw
        (try dsimp only at hSw)
        go_simp
        try with_reducible rfl
      try simp only [List.getElem_toArray, List.getElem_cons_zero, List.getElem_cons_succ, List.get, Act.put, List.setIfInBounds_toArray, List.set_cons_zero, List.set_cons_succ]
      refine wpAnyH_take (i := 5) (oi := _) (v := ?_) rfl (by kernel_rfl) (by kernel_rfl) (by kernel_rfl) (fun _ _ _ h => h) (Or.inl ⟨by rfl, ?_⟩) (by assumption) ?_
      rotate_left
      · intro w hSw
        (try dsimp only at hSw)
        go_simp
        try with_reducible rfl
      try simp only [List.getElem_toArray, List.getElem_cons_zero, List.getElem_cons_succ, List.get, Act.put, List.setIfInBounds_toArray, List.set_cons_zero, List.set_cons_succ]
      refine wpAnyH_take (i := 6) (oi := _) (v := ?_) rfl (by kernel_rfl) (by kernel_rfl) (by kernel_rfl) (fun _ _ _ h => h) (Or.inl ⟨by rfl, ?_⟩) (by assumption) ?_
      rotate_left
      · intro w hSw
        (try dsimp only at hSw)
        go_simp
        try with_reducible rfl
      try simp only [List.getElem_toArray, List.getElem_cons_zero, List.getElem_cons_succ, List.get, Act.put, List.setIfInBounds_toArray, List.set_cons_zero, List.set_cons_succ]
      refine wpAnyH_take (i := 7) (oi := _) (v := ?_) rfl (by kernel_rfl) (by kernel_rfl) (by kernel_rfl) (fun _ _ _ h => h) (Or.inl ⟨by rfl, ?_⟩) (by assumption) ?_
      rotate_left
      · intro w hSw
        (try dsimp only at hSw)
        go_simp
        try with_reducible rfl
      try simp only [List.getElem_toArray, List.getElem_cons_zero, List.getElem_cons_succ, List.get, Act.put, List.setIfInBounds_toArray, List.set_cons_zero, List.set_cons_succ]
      refine wpAnyH_take (i := 8) (oi := _) (v := ?_) rfl (by kernel_rfl) (by kernel_rfl) (by kernel_rfl) (fun _ _ _ h => h) (Or.inl ⟨by rfl, ?_⟩) (by assumption) ?_
      rotate_left
      · intro w hSw
        (try dsimp only at hSw)
        go_simp
        try with_reducible rfl
      try simp only [List.getElem_toArray, List.getElem_cons_zero, List.getElem_cons_succ, List.get, Act.put, List.setIfInBounds_toArray, List.set_cons_zero, List.set_cons_succ]
      refine wpAnyH_take (i := 9) (oi := _) (v := ?_) rfl (by kernel_rfl) (by kernel_rfl) (by kernel_rfl) (fun _ _ _ h => h) (Or.inl ⟨by rfl, ?_⟩) (by assumption) ?_
      rotate_left
      · intro w hSw
        (try dsimp only at hSw)
        go_simp
        try with_reducible rfl
      try simp only [List.getElem_toArray, List.getElem_cons_zero, List.getElem_cons_succ, List.get, Act.put, List.setIfInBounds_toArray, List.set_cons_zero, List.set_cons_succ]
      refine wpAnyH_take (i := 10) (oi := _) (v := ?_) rfl (by kernel_rfl) (by kernel_rfl) (by kernel_rfl) (fun _ _ _ h => h) (Or.inl ⟨by rfl, ?_⟩) (by assumption) ?_
      rotate_left
      · intro w hSw
        (try dsimp only at hSw)
        go_simp
        try with_reducible rfl
      try simp only [List.getElem_toArray, List.getElem_cons_zero, List.getElem_cons_succ, List.get, Act.put, List.setIfInBounds_toArray, List.set_cons_zero, List.set_cons_succ]
      refine wpAnyH_take (i := 11) (oi := _) (v := ?_) rfl (by kernel_rfl) (by kernel_rfl) (by kernel_rfl) (fun _ _ _ h => h) (Or.inl ⟨by rfl, ?_⟩) (by assumption) ?_
      rotate_left
      · intro w hSw
        (try dsimp only at hSw)
        go_simp
        try with_reducible rfl
      try simp only [List.getElem_toArray, List.getElem_cons_zero, List.getElem_cons_succ, List.get, Act.put, List.setIfInBounds_toArray, List.set_cons_zero, List.set_cons_succ]
      refine wpAnyH_take (i := 12) (oi := _) (v := ?_) rfl (by kernel_rfl) (by kernel_rfl) (by kernel_rfl) (fun _ _ _ h => h) (Or.inl ⟨by rfl, ?_⟩) (by assumption) ?_
      rotate_left
      · intro w hSw
        (try dsimp only at hSw)
        go_simp
        try with_reducible rfl
      try simp only [List.getElem_toArray, List.getElem_cons_zero, List.getElem_cons_succ, List.get, Act.put, List.setIfInBounds_toArray, List.set_cons_zero, List.set_cons_succ]
      refine wpAnyH_take (i := 13) (oi := _) (v := ?_) rfl (by kernel_rfl) (by kernel_rfl) (by kernel_rfl) (fun _ _ _ h => h) (Or.inl ⟨by rfl, ?_⟩) (by assumption) ?_
      rotate_left
      · intro w hSw
        (try dsimp only at hSw)
        go_simp
        try with_reducible rfl
      try simp only [List.getElem_toArray, List.getElem_cons_zero, List.getElem_cons_succ, List.get, Act.put, List.setIfInBounds_toArray, List.set_cons_zero, List.set_cons_succ]
      refine wpAnyH_take (i := 14) (oi := _) (v := ?_) rfl (by kernel_rfl) (by kernel_rfl) (by kernel_rfl) (fun _ _ _ h => h) (Or.inl ⟨by rfl, ?_⟩) (by assumption) ?_
      rotate_left
      · intro w hSw
        (try dsimp only at hSw)
        go_simp
        try with_reducible rfl
      try simp only [List.getElem_toArray, List.getElem_cons_zero, List.getElem_cons_succ, List.get, Act.put, List.setIfInBounds_toArray, List.set_cons_zero, List.set_cons_succ]
      refine wpAnyH_take (i := 15) (oi := _) (v := ?_) rfl (by kernel_rfl) (by kernel_rfl) (by kernel_rfl) (fun _ _ _ h => h) (Or.inl ⟨by rfl, ?_⟩) (by assumption) ?_
      rotate_left
      · intro w hSw
        (try dsimp only at hSw)
        go_simp
        try with_reducible rfl
      try simp only [List.getElem_toArray, List.getElem_cons_zero, List.getElem_cons_succ, List.get, Act.put, List.setIfInBounds_toArray, List.set_cons_zero, List.set_cons_succ]
      refine wpAnyH_take (i := 16) (oi := _) (v := ?_) rfl (by kernel_rfl) (by kernel_rfl) (by kernel_rfl) (fun _ _ _ h => h) (Or.inl ⟨by rfl, ?_⟩) (by assumption) ?_
      rotate_left
      · intro w hSw
        (try dsimp only at hSw)
        go_simp
        try with_reducible rfl
      try simp only [List.getElem_toArray, List.getElem_cons_zero, List.getElem_cons_succ, List.get, Act.put, List.setIfInBounds_toArray, List.set_cons_zero, List.set_cons_succ]
      refine wpAnyH_take (i := 17) (oi := _) (v := ?_) rfl (by kernel_rfl) (by kernel_rfl) (by kernel_rfl) (fun _ _ _ h => h) (Or.inl ⟨by rfl, ?_⟩) (by assumption) ?_
      rotate_left
      · intro w hSw
        (try dsimp only at hSw)
        go_simp
        try with_reducible rfl
      try simp only [List.getElem_toArray, List.getElem_cons_zero, List.getElem_cons_succ, List.get, Act.put, List.setIfInBounds_toArray, List.set_cons_zero, List.set_cons_succ]
      refine wpAnyH_take (i := 18) (oi := _) (v := ?_) rfl (by kernel_rfl) (by kernel_rfl) (by kernel_rfl) (fun _ _ _ h => h) (Or.inl ⟨by rfl, ?_⟩) (by assumption) ?_
      rotate_left
      · intro w hSw
        (try dsimp only at hSw)
        go_simp
        try with_reducible rfl
      try simp only [List.getElem_toArray, List.getElem_cons_zero, List.getElem_cons_succ, List.get, Act.put, List.setIfInBounds_toArray, List.set_cons_zero, List.set_cons_succ]
      refine wpAnyH_ready (rs := [1, 19]) (by kernel_rfl) (by simp) ?_
      refine AllReadyH.cons (o := _) rfl (fun K hK => ?_) (AllReadyH.cons (o := _) rfl (fun K hK => ?_) AllReadyH.nil)
      · as_aux_lemma =>
          obtain ⟨v0, v1, v2, _, _, _⟩ := (H21.out.rc (X9, sq) (by simp)).1
          dsimp only at v0 v1 v2
          go_simp
          clear v0 v1 v2
          refine hK.out _ _ (HSS.out _ _ _ (by simp) H21.out) (fun hHeld => ?_)
          clear hK K
          try simp only [List.getElem_toArray, List.getElem_cons_zero, List.getElem_cons_succ, List.get, Act.put, List.setIfInBounds_toArray, List.set_cons_zero, List.set_cons_succ]
          refine wpAnyH_ready (rs := [19]) (by kernel_rfl) (by simp) ?_
          refine AllReadyH.cons (o := _) rfl (fun K hK => ?_) AllReadyH.nil
          go_simp
          refine (l46_mul C HTV.out HTV.out _ _ (HL.out.below H21.out.bel) H21.out.cf).mono ?_
          rintro e w22 ⟨r1, rfl, ht, hc, hg⟩
          have T_r1 := hide ht
          clear ht
          have H22 := hide (H21.out.grown hg hc)
          clear H21 hg hc
          refine hK.out _ _ (HSS.out _ _ _ (by simp) H22.out) (fun hHeld => ?_)
          clear hK K
          try simp only [List.getElem_toArray, List.getElem_cons_zero, List.getElem_cons_succ, List.get, Act.put, List.setIfInBounds_toArray, List.set_cons_zero, List.set_cons_succ]
          refine wpAnyH_ready (rs := [20]) (by kernel_rfl) (by simp) ?_
          refine AllReadyH.cons (o := _) rfl (fun K hK => ?_) AllReadyH.nil
          go_simp
          refine (l46_mul C HTW.out T_r1.out _ _ (HL.out.below H22.out.bel) H22.out.cf).mono ?_
          rintro e w23 ⟨r2, rfl, ht, hc, hg⟩
          have T_r2 := hide ht
          clear ht
          have H23 := hide (H22.out.grown hg hc)
          clear H22 hg hc
          refine hK.out _ _ (HSS.out _ _ _ (by simp) H23.out) (fun hHeld => ?_)
          clear hK K
          try simp only [List.getElem_toArray, List.getElem_cons_zero, List.getElem_cons_succ, List.get, Act.put, List.setIfInBounds_toArray, List.set_cons_zero, List.set_cons_succ]
          refine wpAnyH_ready (rs := [21]) (by kernel_rfl) (by simp) ?_
          refine AllReadyH.cons (o := _) rfl (fun K hK => ?_) AllReadyH.nil
          go_simp
          refine (l46_add C HT.out T_r2.out _ _ (HL.out.below H23.out.bel) H23.out.cf).mono ?_
          rintro e w24 ⟨r3, rfl, ht, hc, hg⟩
          have T_r3 := hide ht
          clear ht
          have H24 := hide (H23.out.grown hg hc)
          clear H23 hg hc
          refine hK.out _ _ (HSS.out _ _ _ (by simp) H24.out) (fun hHeld => ?_)
          clear hK K
          try simp only [List.getElem_toArray, List.getElem_cons_zero, List.getElem_cons_succ, List.get, Act.put, List.setIfInBounds_toArray, List.set_cons_zero, List.set_cons_succ]
          obtain ⟨l0, l1, l2, f0, f1, f2⟩ := (H24.out.rc (X9, sq) (by simp)).1
          dsimp only at l0 l1 l2 f0 f1 f2
          have H25 := hide (H24.out.store r3)
          clear H24
          refine wpAnyH_ready (rs := [22]) (by kernel_rfl) (by simp) ?_
          refine AllReadyH.cons (o := _) rfl (fun K hK => ?_) AllReadyH.nil
          go_simp
          clear l0 l1 l2 f0 f1 f2
          obtain ⟨w25, hw⟩ : ∃ W, (((w24.setCell ⟨X9, 0, none⟩ (.bool r3.1)).setCell ⟨X9, 1, none⟩ (.string r3.2.1)).setCell ⟨X9, 2, none⟩ (.string r3.2.2)) = W := ⟨_, rfl⟩
          rw [hw] at H25
          rw [hw]
          clear hw
          refine hK.out _ _ (HSS.out _ _ _ (by simp) H25.out) (fun hHeld => ?_)
          clear hK K
          try simp only [List.getElem_toArray, List.getElem_cons_zero, List.getElem_cons_succ, List.get, Act.put, List.setIfInBounds_toArray, List.set_cons_zero, List.set_cons_succ]
          refine wpAnyH_done (by kernel_rfl) ?_ _
          refine NoPanic.normal ?_
          clear HSS
          have HOF2 : Hid ((((fl || (mul2 (some pv) (some pv)).isNone) || (mul2 (some pw) (mul2 (some pv) (some pv))).isNone) || (add2 o (mul2 (some pw) (mul2 (some pv) (some pv)))).isNone) = false → add2 o (mul2 (some pw) (mul2 (some pv) (some pv))) = some (sqPart L (j + 1))) := fun h => by
            obtain ⟨h1, h2⟩ := or_parts h
            obtain ⟨h3, h4⟩ := or_parts h1
            obtain ⟨h5, h6⟩ := or_parts h3
            have e1 := mul2_get h6
            rw [e1] at h4 h2 ⊢
            have e2 := mul2_get h4
            rw [e2] at h2 ⊢
            rw [HOF.out h5] at h2 ⊢
            rw [add2_get h2, HSQ.out]
          go_wp2_with fail
          refine ⟨?_, ?_⟩
          rotate_left
          · (simp [intOf]; try omega)
          first
            | exact ⟨j + 1, r3, _, _, by omega, by go_num, T_r3.out, HOF2.out, H25.out⟩
            | ((repeat apply Exists.intro); refine ⟨?_, rfl⟩; exact ⟨j + 1, r3, _, _, by omega, by go_num, T_r3.out, HOF2.out, H25.out⟩)
      · as_aux_lemma =>
          go_simp
          refine (l46_mul C HTV.out HTV.out _ _ (HL.out.below H21.out.bel) H21.out.cf).mono ?_
          rintro e w26 ⟨r1, rfl, ht, hc, hg⟩
          have T_r1 := hide ht
          clear ht
          have H26 := hide (H21.out.grown hg hc)
          clear H21 hg hc
          refine hK.out _ _ (HSS.out _ _ _ (by simp) H26.out) (fun hHeld => ?_)
          clear hK K
          try simp only [List.getElem_toArray, List.getElem_cons_zero, List.getElem_cons_succ, List.get, Act.put, List.setIfInBounds_toArray, List.set_cons_zero, List.set_cons_succ]
          refine wpAnyH_ready (rs := [1, 20]) (by kernel_rfl) (by simp) ?_
          refine AllReadyH.cons (o := _) rfl (fun K hK => ?_) (AllReadyH.cons (o := _) rfl (fun K hK => ?_) AllReadyH.nil)
          · as_aux_lemma =>
              obtain ⟨v0, v1, v2, _, _, _⟩ := (H26.out.rc (X9, sq) (by simp)).1
              dsimp only at v0 v1 v2
              go_simp
              clear v0 v1 v2
              refine hK.out _ _ (HSS.out _ _ _ (by simp) H26.out) (fun hHeld => ?_)
              clear hK K
              try simp only [List.getElem_toArray, List.getElem_cons_zero, List.getElem_cons_succ, List.get, Act.put, List.setIfInBounds_toArray, List.set_cons_zero, List.set_cons_succ]
              refine wpAnyH_ready (rs := [20]) (by kernel_rfl) (by simp) ?_
              refine AllReadyH.cons (o := _) rfl (fun K hK => ?_) AllReadyH.nil
              go_simp
              refine (l46_mul C HTW.out T_r1.out _ _ (HL.out.below H26.out.bel) H26.out.cf).mono ?_
              rintro e w27 ⟨r2, rfl, ht, hc, hg⟩
              have T_r2 := hide ht
              clear ht
              have H27 := hide (H26.out.grown hg hc)
              clear H26 hg hc
              refine hK.out _ _ (HSS.out _ _ _ (by simp) H27.out) (fun hHeld => ?_)
              clear hK K
              try simp only [List.getElem_toArray, List.getElem_cons_zero, List.getElem_cons_succ, List.get, Act.put, List.setIfInBounds_toArray, List.set_cons_zero, List.set_cons_succ]
              refine wpAnyH_ready (rs := [21]) (by kernel_rfl) (by simp) ?_
              refine AllReadyH.cons (o := _) rfl (fun K hK => ?_) AllReadyH.nil
              go_simp
              refine (l46_add C HT.out T_r2.out _ _ (HL.out.below H27.out.bel) H27.out.cf).mono ?_
              rintro e w28 ⟨r3, rfl, ht, hc, hg⟩
              have T_r3 := hide ht
              clear ht
              have H28 := hide (H27.out.grown hg hc)
              clear H27 hg hc
              refine hK.out _ _ (HSS.out _ _ _ (by simp) H28.out) (fun hHeld => ?_)
              clear hK K
              try simp only [List.getElem_toArray, List.getElem_cons_zero, List.getElem_cons_succ, List.get, Act.put, List.setIfInBounds_toArray, List.set_cons_zero, List.set_cons_succ]
              obtain ⟨l0, l1, l2, f0, f1, f2⟩ := (H28.out.rc (X9, sq) (by simp)).1
              dsimp only at l0 l1 l2 f0 f1 f2
              have H29 := hide (H28.out.store r3)
              clear H28
              refine wpAnyH_ready (rs := [22]) (by kernel_rfl) (by simp) ?_
              refine AllReadyH.cons (o := _) rfl (fun K hK => ?_) AllReadyH.nil
              go_simp
              clear l0 l1 l2 f0 f1 f2
              obtain ⟨w29, hw⟩ : ∃ W, (((w28.setCell ⟨X9, 0, none⟩ (.bool r3.1)).setCell ⟨X9, 1, none⟩ (.string r3.2.1)).setCell ⟨X9, 2, none⟩ (.string r3.2.2)) = W := ⟨_, rfl⟩
              rw [hw] at H29
              rw [hw]
              clear hw
              refine hK.out _ _ (HSS.out _ _ _ (by simp) H29.out) (fun hHeld => ?_)
              clear hK K
              try simp only [List.getElem_toArray, List.getElem_cons_zero, List.getElem_cons_succ, List.get, Act.put, List.setIfInBounds_toArray, List.set_cons_zero, List.set_cons_succ]
              refine wpAnyH_done (by kernel_rfl) ?_ _
              refine NoPanic.normal ?_
              clear HSS
              have HOF2 : Hid ((((fl || (mul2 (some pv) (some pv)).isNone) || (mul2 (some pw) (mul2 (some pv) (some pv))).isNone) || (add2 o (mul2 (some pw) (mul2 (some pv) (some pv)))).isNone) = false → add2 o (mul2 (some pw) (mul2 (some pv) (some pv))) = some (sqPart L (j + 1))) := fun h => by
                obtain ⟨h1, h2⟩ := or_parts h
                obtain ⟨h3, h4⟩ := or_parts h1
                obtain ⟨h5, h6⟩ := or_parts h3
                have e1 := mul2_get h6
                rw [e1] at h4 h2 ⊢
                have e2 := mul2_get h4
                rw [e2] at h2 ⊢
                rw [HOF.out h5] at h2 ⊢
                rw [add2_get h2, HSQ.out]
              go_wp2_with fail
              refine ⟨?_, ?_⟩
              rotate_left
              · (simp [intOf]; try omega)
              first
                | exact ⟨j + 1, r3, _, _, by omega, by go_num, T_r3.out, HOF2.out, H29.out⟩
                | ((repeat apply Exists.intro); refine ⟨?_, rfl⟩; exact ⟨j + 1, r3, _, _, by omega, by go_num, T_r3.out, HOF2.out, H29.out⟩)
          · as_aux_lemma =>
              go_simp
              refine (l46_mul C HTW.out T_r1.out _ _ (HL.out.below H26.out.bel) H26.out.cf).mono ?_
              rintro e w30 ⟨r2, rfl, ht, hc, hg⟩
              have T_r2 := hide ht
              clear ht
              have H30 := hide (H26.out.grown hg hc)
              clear H26 hg hc
              refine hK.out _ _ (HSS.out _ _ _ (by simp) H30.out) (fun hHeld => ?_)
              clear hK K
              try simp only [List.getElem_toArray, List.getElem_cons_zero, List.getElem_cons_succ, List.get, Act.put, List.setIfInBounds_toArray, List.set_cons_zero, List.set_cons_succ]
              refine wpAnyH_ready (rs := [1]) (by kernel_rfl) (by simp) ?_
              refine AllReadyH.cons (o := _) rfl (fun K hK => ?_) AllReadyH.nil
              obtain ⟨v0, v1, v2, _, _, _⟩ := (H30.out.rc (X9, sq) (by simp)).1
              dsimp only at v0 v1 v2
              go_simp
              clear v0 v1 v2
              refine hK.out _ _ (HSS.out _ _ _ (by simp) H30.out) (fun hHeld => ?_)
              clear hK K
              try simp only [List.getElem_toArray, List.getElem_cons_zero, List.getElem_cons_succ, List.get, Act.put, List.setIfInBounds_toArray, List.set_cons_zero, List.set_cons_succ]
              refine wpAnyH_ready (rs := [21]) (by kernel_rfl) (by simp) ?_
              refine AllReadyH.cons (o := _) rfl (fun K hK => ?_) AllReadyH.nil
              go_simp
              refine (l46_add C HT.out T_r2.out _ _ (HL.out.below H30.out.bel) H30.out.cf).mono ?_
              rintro e w31 ⟨r3, rfl, ht, hc, hg⟩
              have T_r3 := hide ht
              clear ht
              have H31 := hide (H30.out.grown hg hc)
              clear H30 hg hc
              refine hK.out _ _ (HSS.out _ _ _ (by simp) H31.out) (fun hHeld => ?_)
              clear hK K
              try simp only [List.getElem_toArray, List.getElem_cons_zero, List.getElem_cons_succ, List.get, Act.put, List.setIfInBounds_toArray, List.set_cons_zero, List.set_cons_succ]
              obtain ⟨l0, l1, l2, f0, f1, f2⟩ := (H31.out.rc (X9, sq) (by simp)).1
              dsimp only at l0 l1 l2 f0 f1 f2
              have H32 := hide (H31.out.store r3)
              clear H31
              refine wpAnyH_ready (rs := [22]) (by kernel_rfl) (by simp) ?_
              refine AllReadyH.cons (o := _) rfl (fun K hK => ?_) AllReadyH.nil
              go_simp
              clear l0 l1 l2 f0 f1 f2
              obtain ⟨w32, hw⟩ : ∃ W, (((w31.setCell ⟨X9, 0, none⟩ (.bool r3.1)).setCell ⟨X9, 1, none⟩ (.string r3.2.1)).setCell ⟨X9, 2, none⟩ (.string r3.2.2)) = W := ⟨_, rfl⟩
              rw [hw] at H32
              rw [hw]
              clear hw
              refine hK.out _ _ (HSS.out _ _ _ (by simp) H32.out) (fun hHeld => ?_)
              clear hK K
              try simp only [List.getElem_toArray, List.getElem_cons_zero, List.getElem_cons_succ, List.get, Act.put, List.setIfInBounds_toArray, List.set_cons_zero, List.set_cons_succ]
              refine wpAnyH_done (by kernel_rfl) ?_ _
              refine NoPanic.normal ?_
              clear HSS
              have HOF2 : Hid ((((fl || (mul2 (some pv) (some pv)).isNone) || (mul2 (some pw) (mul2 (some pv) (some pv))).isNone) || (add2 o (mul2 (some pw) (mul2 (some pv) (some pv)))).isNone) = false → add2 o (mul2 (some pw) (mul2 (some pv) (some pv))) = some (sqPart L (j + 1))) := fun h => by
                obtain ⟨h1, h2⟩ := or_parts h
                obtain ⟨h3, h4⟩ := or_parts h1
                obtain ⟨h5, h6⟩ := or_parts h3
                have e1 := mul2_get h6
                rw [e1] at h4 h2 ⊢
                have e2 := mul2_get h4
                rw [e2] at h2 ⊢
                rw [HOF.out h5] at h2 ⊢
                rw [add2_get h2, HSQ.out]
              go_wp2_with fail
              refine ⟨?_, ?_⟩
              rotate_left
              · (simp [intOf]; try omega)
              first
                | exact ⟨j + 1, r3, _, _, by omega, by go_num, T_r3.out, HOF2.out, H32.out⟩
                | ((repeat apply Exists.intro); refine ⟨?_, rfl⟩; exact ⟨j + 1, r3, _, _, by omega, by go_num, T_r3.out, HOF2.out, H32.out⟩)
    · obtain rfl : n = j := by omega
      go_upto_region 16 with fail
      go_cut [11] (fun z11 wx => ∃ X11 : Nat, ∃ rw_ : T3, ∃ f : Bool, z11 = .pointer (some ⟨X11, 0, none⟩) ∧ TO (add2 o (negO (mul2 (some pm) (some pm)))) rw_ ∧ (f = false → fl = false ∧ (add2 o (negO (mul2 (some pm) (some pm)))).isNone = false) ∧ LS w wx C f [(X11, rw_), (X9, sq), (X6, (false, vs, vt)), (X4, m)])
      case first =>
        as_aux_lemma =>
          have HSS : Hid (∀ W f l, [(X9, sq), (X4, m)] ⊆ l → LS w W C f l → (W.cell? ⟨X9, 0, none⟩ = some (.bool sq.1) ∧ W.cell? ⟨X9, 1, none⟩ = some (.string sq.2.1) ∧ W.cell? ⟨X9, 2, none⟩ = some (.string sq.2.2)) ∧ (W.cell? ⟨X4, 0, none⟩ = some (.bool m.1) ∧ W.cell? ⟨X4, 1, none⟩ = some (.string m.2.1) ∧ W.cell? ⟨X4, 2, none⟩ = some (.string m.2.2))) := fun W f l hsub hls => by
            have h := fun p hp => hls.rc p (hsub hp)
            have hB := hls.bel
            exact ⟨⟨(h (X9, sq) (by simp)).1.c0, (h (X9, sq) (by simp)).1.c1, (h (X9, sq) (by simp)).1.c2⟩, ⟨(h (X4, m) (by simp)).1.c0, (h (X4, m) (by simp)).1.c1, (h (X4, m) (by simp)).1.c2⟩⟩
          have hbd : Below w20.heap.size w20 w20.drew := bDraw (Below.refl _ w20)
          obtain ⟨w33, hwd⟩ : ∃ W, w20.drew = W := ⟨_, rfl⟩
          rw [hwd] at hbd
          have H33 := hide (H20.out.below hbd)
          clear H20 hbd
          have hE0 := HSS.out _ _ _ (by simp) H33.out
          refine wp_region_noPanic ?_
          refine wp_region_held_drew (S := fun w' => (w'.cell? ⟨X9, 0, none⟩ = some (.bool sq.1) ∧ w'.cell? ⟨X9, 1, none⟩ = some (.string sq.2.1) ∧ w'.cell? ⟨X9, 2, none⟩ = some (.string sq.2.2)) ∧ (w'.cell? ⟨X4, 0, none⟩ = some (.bool m.1) ∧ w'.cell? ⟨X4, 1, none⟩ = some (.string m.2.1) ∧ w'.cell? ⟨X4, 2, none⟩ = some (.string m.2.2))) (by kernel_rfl) (by rw [hwd]; exact hE0) (fun hHeld => ?_)
          rw [hwd] at hHeld ⊢
          clear hwd hE0
          change wpAnyH _ _ _ _ _ 10 #[false, false, false, false, false, false, false, false, false, false] _ _
          refine wpAnyH_take (i := 0) (oi := _) (v := ?_) rfl (by kernel_rfl) (by kernel_rfl) (by kernel_rfl) (fun _ _ _ h => h) (Or.inl ⟨by rfl, ?_⟩) (by assumption) ?_
          rotate_left
          · intro w hSw
            (try dsimp only at hSw)
            go_simp
            try with_reducible rfl
          try simp only [List.getElem_toArray, List.getElem_cons_zero, List.getElem_cons_succ, List.get, Act.put, List.setIfInBounds_toArray, List.set_cons_zero, List.set_cons_succ]
          refine wpAnyH_take (i := 1) (oi := _) (v := ?_) rfl (by kernel_rfl) (by kernel_rfl) (by kernel_rfl) (fun _ _ _ h => h) (Or.inl ⟨by rfl, ?_⟩) (by assumption) ?_
          rotate_left
          · intro w hSw
            (try dsimp only at hSw)
            go_simp
            try with_reducible rfl
          try simp only [List.getElem_toArray, List.getElem_cons_zero, List.getElem_cons_succ, List.get, Act.put, List.setIfInBounds_toArray, List.set_cons_zero, List.set_cons_succ]
          refine wpAnyH_take (i := 2) (oi := _) (v := ?_) rfl (by kernel_rfl) (by kernel_rfl) (by kernel_rfl) (fun _ _ _ h => h) (Or.inl ⟨by rfl, ?_⟩) (by assumption) ?_
          rotate_left
          · intro w hSw
            (try dsimp only at hSw)
            go_simp
            try with_reducible rfl
          try simp only [List.getElem_toArray, List.getElem_cons_zero, List.getElem_cons_succ, List.get, Act.put, List.setIfInBounds_toArray, List.set_cons_zero, List.set_cons_succ]
          refine wpAnyH_take (i := 3) (oi := _) (v := ?_) rfl (by kernel_rfl) (by kernel_rfl) (by kernel_rfl) (fun _ _ _ h => h) (Or.inl ⟨by rfl, ?_⟩) (by assumption) ?_
          rotate_left
          · intro w hSw
            (try dsimp only at hSw)
            go_simp
            try with_reducible rfl
          try simp only [List.getElem_toArray, List.getElem_cons_zero, List.getElem_cons_succ, List.get, Act.put, List.setIfInBounds_toArray, List.set_cons_zero, List.set_cons_succ]
          refine wpAnyH_take (i := 4) (oi := _) (v := ?_) rfl (by kernel_rfl) (by kernel_rfl) (by kernel_rfl) (fun _ _ _ h => h) (Or.inl ⟨by rfl, ?_⟩) (by assumption) ?_
          rotate_left
          · intro w hSw
            (try dsimp only at hSw)
            go_simp
            try with_reducible rfl
          try simp only [List.getElem_toArray, List.getElem_cons_zero, List.getElem_cons_succ, List.get, Act.put, List.setIfInBounds_toArray, List.set_cons_zero, List.set_cons_succ]
          refine wpAnyH_ready (rs := [5, 8]) (by kernel_rfl) (by simp) ?_
          refine AllReadyH.cons (o := _) rfl (fun K hK => ?_) (AllReadyH.cons (o := _) rfl (fun K hK => ?_) AllReadyH.nil)
          · as_aux_lemma =>
              go_simp
              refine (l46_mul C HTM.out HTM.out _ _ (HL.out.below H33.out.bel) H33.out.cf).mono ?_
              rintro e w34 ⟨mm, rfl, ht, hc, hg⟩
              have T_mm := hide ht
              clear ht
              have H34 := hide (H33.out.grown hg hc)
              clear H33 hg hc
              refine hK.out _ _ (HSS.out _ _ _ (by simp) H34.out) (fun hHeld => ?_)
              clear hK K
              try simp only [List.getElem_toArray, List.getElem_cons_zero, List.getElem_cons_succ, List.get, Act.put, List.setIfInBounds_toArray, List.set_cons_zero, List.set_cons_succ]
              refine wpAnyH_ready (rs := [6, 8]) (by kernel_rfl) (by simp) ?_
              refine AllReadyH.cons (o := _) rfl (fun K hK => ?_) (AllReadyH.cons (o := _) rfl (fun K hK => ?_) AllReadyH.nil)
              · as_aux_lemma =>
                  go_simp
                  refine (l46_minus T_mm.out _).mono ?_
                  rintro e w35 ⟨nm, rfl, ht, hb⟩
                  have T_nm := hide ht
                  clear ht
                  have H35 := hide (H34.out.below hb)
                  clear H34 hb
                  refine hK.out _ _ (HSS.out _ _ _ (by simp) H35.out) (fun hHeld => ?_)
                  clear hK K
                  try simp only [List.getElem_toArray, List.getElem_cons_zero, List.getElem_cons_succ, List.get, Act.put, List.setIfInBounds_toArray, List.set_cons_zero, List.set_cons_succ]
                  refine wpAnyH_ready (rs := [7, 8]) (by kernel_rfl) (by simp) ?_
                  refine AllReadyH.cons (o := _) rfl (fun K hK => ?_) (AllReadyH.cons (o := _) rfl (fun K hK => ?_) AllReadyH.nil)
                  · skip
                    go_simp
                    refine (l46_add C HT.out T_nm.out _ _ (HL.out.below H35.out.bel) H35.out.cf).mono ?_
                    rintro e w36 ⟨rw_, rfl, ht, hc, hg⟩
                    have T_rw_ := hide ht
                    clear ht
                    have H36 := hide (H35.out.grown hg hc)
                    clear H35 hg hc
                    refine hK.out _ _ (HSS.out _ _ _ (by simp) H36.out) (fun hHeld => ?_)
                    clear hK K
                    try simp only [List.getElem_toArray, List.getElem_cons_zero, List.getElem_cons_succ, List.get, Act.put, List.setIfInBounds_toArray, List.set_cons_zero, List.set_cons_succ]
                    refine wpAnyH_ready (rs := [8]) (by kernel_rfl) (by simp) ?_
                    refine AllReadyH.cons (o := _) rfl (fun K hK => ?_) AllReadyH.nil
                    have H37 := hide (H36.out.box (false, ⟨#[]⟩, ⟨#[]⟩) 29)
                    clear H36
                    go_simp
                    change Hid (LS w (w36.alloc (.cells #[.bool false, .string ⟨#[]⟩, .string ⟨#[]⟩] 29)) _ _ _) at H37
                    obtain ⟨w37, hw⟩ : ∃ W, w36.alloc (.cells #[.bool false, .string ⟨#[]⟩, .string ⟨#[]⟩] 29) = W := ⟨_, rfl⟩
                    obtain ⟨X11, hX⟩ : ∃ A, w36.heap.size = A := ⟨_, rfl⟩
                    rw [hw, hX] at H37
                    rw [hw, hX]
                    clear hw hX
                    refine hK.out _ _ (HSS.out _ _ _ (by simp) H37.out) (fun hHeld => ?_)
                    clear hK K
                    try simp only [List.getElem_toArray, List.getElem_cons_zero, List.getElem_cons_succ, List.get, Act.put, List.setIfInBounds_toArray, List.set_cons_zero, List.set_cons_succ]
                    obtain ⟨l0, l1, l2, f0, f1, f2⟩ := (H37.out.rc (X11, (false, ⟨#[]⟩, ⟨#[]⟩)) (by simp)).1
                    dsimp only at l0 l1 l2 f0 f1 f2
                    have H38 := hide (H37.out.store rw_)
                    clear H37
                    refine wpAnyH_ready (rs := [9]) (by kernel_rfl) (by simp) ?_
                    refine AllReadyH.cons (o := _) rfl (fun K hK => ?_) AllReadyH.nil
                    go_simp
                    clear l0 l1 l2 f0 f1 f2
                    obtain ⟨w38, hw⟩ : ∃ W, (((w37.setCell ⟨X11, 0, none⟩ (.bool rw_.1)).setCell ⟨X11, 1, none⟩ (.string rw_.2.1)).setCell ⟨X11, 2, none⟩ (.string rw_.2.2)) = W := ⟨_, rfl⟩
                    rw [hw] at H38
                    rw [hw]
                    clear hw
                    refine hK.out _ _ (HSS.out _ _ _ (by simp) H38.out) (fun hHeld => ?_)
                    clear hK K
                    try simp only [List.getElem_toArray, List.getElem_cons_zero, List.getElem_cons_succ, List.get, Act.put, List.setIfInBounds_toArray, List.set_cons_zero, List.set_cons_succ]
                    refine wpAnyH_done (by kernel_rfl) ?_ _
                    refine NoPanic.normal ?_
                    go_wp2_with fail
                    go_meet
                    exact ⟨X11, rw_, _, rfl, T_rw_.out, (fun h => by simp only [Bool.or_eq_false_iff] at h ⊢; simp [h]), H38.out⟩
                  · skip
                    have H39 := hide (H35.out.box (false, ⟨#[]⟩, ⟨#[]⟩) 29)
                    clear H35
                    go_simp
                    change Hid (LS w (w35.alloc (.cells #[.bool false, .string ⟨#[]⟩, .string ⟨#[]⟩] 29)) _ _ _) at H39
                    obtain ⟨w39, hw⟩ : ∃ W, w35.alloc (.cells #[.bool false, .string ⟨#[]⟩, .string ⟨#[]⟩] 29) = W := ⟨_, rfl⟩
                    obtain ⟨X11, hX⟩ : ∃ A, w35.heap.size = A := ⟨_, rfl⟩
                    rw [hw, hX] at H39
                    rw [hw, hX]
                    clear hw hX
                    refine hK.out _ _ (HSS.out _ _ _ (by simp) H39.out) (fun hHeld => ?_)
                    clear hK K
                    try simp only [List.getElem_toArray, List.getElem_cons_zero, List.getElem_cons_succ, List.get, Act.put, List.setIfInBounds_toArray, List.set_cons_zero, List.set_cons_succ]
                    refine wpAnyH_ready (rs := [7]) (by kernel_rfl) (by simp) ?_
                    refine AllReadyH.cons (o := _) rfl (fun K hK => ?_) AllReadyH.nil
                    go_simp
                    refine (l46_add C HT.out T_nm.out _ _ (HL.out.below H39.out.bel) H39.out.cf).mono ?_
                    rintro e w40 ⟨rw_, rfl, ht, hc, hg⟩
                    have T_rw_ := hide ht
                    clear ht
                    have H40 := hide (H39.out.grown hg hc)
                    clear H39 hg hc
                    refine hK.out _ _ (HSS.out _ _ _ (by simp) H40.out) (fun hHeld => ?_)
                    clear hK K
                    try simp only [List.getElem_toArray, List.getElem_cons_zero, List.getElem_cons_succ, List.get, Act.put, List.setIfInBounds_toArray, List.set_cons_zero, List.set_cons_succ]
                    obtain ⟨l0, l1, l2, f0, f1, f2⟩ := (H40.out.rc (X11, (false, ⟨#[]⟩, ⟨#[]⟩)) (by simp)).1
                    dsimp only at l0 l1 l2 f0 f1 f2
                    have H41 := hide (H40.out.store rw_)
                    clear H40
                    refine wpAnyH_ready (rs := [9]) (by kernel_rfl) (by simp) ?_
                    refine AllReadyH.cons (o := _) rfl (fun K hK => ?_) AllReadyH.nil
                    go_simp
                    clear l0 l1 l2 f0 f1 f2
                    obtain ⟨w41, hw⟩ : ∃ W, (((w40.setCell ⟨X11, 0, none⟩ (.bool rw_.1)).setCell ⟨X11, 1, none⟩ (.string rw_.2.1)).setCell ⟨X11, 2, none⟩ (.string rw_.2.2)) = W := ⟨_, rfl⟩
                    rw [hw] at H41
                    rw [hw]
                    clear hw
                    refine hK.out _ _ (HSS.out _ _ _ (by simp) H41.out) (fun hHeld => ?_)
                    clear hK K
                    try simp only [List.getElem_toArray, List.getElem_cons_zero, List.getElem_cons_succ, List.get, Act.put, List.setIfInBounds_toArray, List.set_cons_zero, List.set_cons_succ]
                    refine wpAnyH_done (by kernel_rfl) ?_ _
                    refine NoPanic.normal ?_
                    go_wp2_with fail
                    go_meet
                    exact ⟨X11, rw_, _, rfl, T_rw_.out, (fun h => by simp only [Bool.or_eq_false_iff] at h ⊢; simp [h]), H41.out⟩
              · as_aux_lemma =>
                  have H42 := hide (H34.out.box (false, ⟨#[]⟩, ⟨#[]⟩) 29)
                  clear H34
                  go_simp
                  change Hid (LS w (w34.alloc (.cells #[.bool false, .string ⟨#[]⟩, .string ⟨#[]⟩] 29)) _ _ _) at H42
                  obtain ⟨w42, hw⟩ : ∃ W, w34.alloc (.cells #[.bool false, .string ⟨#[]⟩, .string ⟨#[]⟩] 29) = W := ⟨_, rfl⟩
                  obtain ⟨X11, hX⟩ : ∃ A, w34.heap.size = A := ⟨_, rfl⟩
                  rw [hw, hX] at H42
                  rw [hw, hX]
                  clear hw hX
                  refine hK.out _ _ (HSS.out _ _ _ (by simp) H42.out) (fun hHeld => ?_)
                  clear hK K
                  try simp only [List.getElem_toArray, List.getElem_cons_zero, List.getElem_cons_succ, List.get, Act.put, List.setIfInBounds_toArray, List.set_cons_zero, List.set_cons_succ]
                  refine wpAnyH_ready (rs := [6]) (by kernel_rfl) (by simp) ?_
                  refine AllReadyH.cons (o := _) rfl (fun K hK => ?_) AllReadyH.nil
                  go_simp
                  refine (l46_minus T_mm.out _).mono ?_
                  rintro e w43 ⟨nm, rfl, ht, hb⟩
                  have T_nm := hide ht
                  clear ht
                  have H43 := hide (H42.out.below hb)
                  clear H42 hb
                  refine hK.out _ _ (HSS.out _ _ _ (by simp) H43.out) (fun hHeld => ?_)
                  clear hK K
                  try simp only [List.getElem_toArray, List.getElem_cons_zero, List.getElem_cons_succ, List.get, Act.put, List.setIfInBounds_toArray, List.set_cons_zero, List.set_cons_succ]
                  refine wpAnyH_ready (rs := [7]) (by kernel_rfl) (by simp) ?_
                  refine AllReadyH.cons (o := _) rfl (fun K hK => ?_) AllReadyH.nil
                  go_simp
                  refine (l46_add C HT.out T_nm.out _ _ (HL.out.below H43.out.bel) H43.out.cf).mono ?_
                  rintro e w44 ⟨rw_, rfl, ht, hc, hg⟩
                  have T_rw_ := hide ht
                  clear ht
                  have H44 := hide (H43.out.grown hg hc)
                  clear H43 hg hc
                  refine hK.out _ _ (HSS.out _ _ _ (by simp) H44.out) (fun hHeld => ?_)
                  clear hK K
                  try simp only [List.getElem_toArray, List.getElem_cons_zero, List.getElem_cons_succ, List.get, Act.put, List.setIfInBounds_toArray, List.set_cons_zero, List.set_cons_succ]
                  obtain ⟨l0, l1, l2, f0, f1, f2⟩ := (H44.out.rc (X11, (false, ⟨#[]⟩, ⟨#[]⟩)) (by simp)).1
                  dsimp only at l0 l1 l2 f0 f1 f2
                  have H45 := hide (H44.out.store rw_)
                  clear H44
                  refine wpAnyH_ready (rs := [9]) (by kernel_rfl) (by simp) ?_
                  refine AllReadyH.cons (o := _) rfl (fun K hK => ?_) AllReadyH.nil
                  go_simp
                  clear l0 l1 l2 f0 f1 f2
                  obtain ⟨w45, hw⟩ : ∃ W, (((w44.setCell ⟨X11, 0, none⟩ (.bool rw_.1)).setCell ⟨X11, 1, none⟩ (.string rw_.2.1)).setCell ⟨X11, 2, none⟩ (.string rw_.2.2)) = W := ⟨_, rfl⟩
                  rw [hw] at H45
                  rw [hw]
                  clear hw
                  refine hK.out _ _ (HSS.out _ _ _ (by simp) H45.out) (fun hHeld => ?_)
                  clear hK K
                  try simp only [List.getElem_toArray, List.getElem_cons_zero, List.getElem_cons_succ, List.get, Act.put, List.setIfInBounds_toArray, List.set_cons_zero, List.set_cons_succ]
                  refine wpAnyH_done (by kernel_rfl) ?_ _
                  refine NoPanic.normal ?_
                  go_wp2_with fail
                  go_meet
                  exact ⟨X11, rw_, _, rfl, T_rw_.out, (fun h => by simp only [Bool.or_eq_false_iff] at h ⊢; simp [h]), H45.out⟩
          · as_aux_lemma =>
              have H46 := hide (H33.out.box (false, ⟨#[]⟩, ⟨#[]⟩) 29)
              clear H33
              go_simp
              change Hid (LS w (w33.alloc (.cells #[.bool false, .string ⟨#[]⟩, .string ⟨#[]⟩] 29)) _ _ _) at H46
              obtain ⟨w46, hw⟩ : ∃ W, w33.alloc (.cells #[.bool false, .string ⟨#[]⟩, .string ⟨#[]⟩] 29) = W := ⟨_, rfl⟩
              obtain ⟨X11, hX⟩ : ∃ A, w33.heap.size = A := ⟨_, rfl⟩
              rw [hw, hX] at H46
              rw [hw, hX]
              clear hw hX
              refine hK.out _ _ (HSS.out _ _ _ (by simp) H46.out) (fun hHeld => ?_)
              clear hK K
              try simp only [List.getElem_toArray, List.getElem_cons_zero, List.getElem_cons_succ, List.get, Act.put, List.setIfInBounds_toArray, List.set_cons_zero, List.set_cons_succ]
              refine wpAnyH_ready (rs := [5]) (by kernel_rfl) (by simp) ?_
              refine AllReadyH.cons (o := _) rfl (fun K hK => ?_) AllReadyH.nil
              go_simp
              refine (l46_mul C HTM.out HTM.out _ _ (HL.out.below H46.out.bel) H46.out.cf).mono ?_
              rintro e w47 ⟨mm, rfl, ht, hc, hg⟩
              have T_mm := hide ht
              clear ht
              have H47 := hide (H46.out.grown hg hc)
              clear H46 hg hc
              refine hK.out _ _ (HSS.out _ _ _ (by simp) H47.out) (fun hHeld => ?_)
              clear hK K
              try simp only [List.getElem_toArray, List.getElem_cons_zero, List.getElem_cons_succ, List.get, Act.put, List.setIfInBounds_toArray, List.set_cons_zero, List.set_cons_succ]
              refine wpAnyH_ready (rs := [6]) (by kernel_rfl) (by simp) ?_
              refine AllReadyH.cons (o := _) rfl (fun K hK => ?_) AllReadyH.nil
              go_simp
              refine (l46_minus T_mm.out _).mono ?_
              rintro e w48 ⟨nm, rfl, ht, hb⟩
              have T_nm := hide ht
              clear ht
              have H48 := hide (H47.out.below hb)
              clear H47 hb
              refine hK.out _ _ (HSS.out _ _ _ (by simp) H48.out) (fun hHeld => ?_)
              clear hK K
              try simp only [List.getElem_toArray, List.getElem_cons_zero, List.getElem_cons_succ, List.get, Act.put, List.setIfInBounds_toArray, List.set_cons_zero, List.set_cons_succ]
              refine wpAnyH_ready (rs := [7]) (by kernel_rfl) (by simp) ?_
              refine AllReadyH.cons (o := _) rfl (fun K hK => ?_) AllReadyH.nil
              go_simp
              refine (l46_add C HT.out T_nm.out _ _ (HL.out.below H48.out.bel) H48.out.cf).mono ?_
              rintro e w49 ⟨rw_, rfl, ht, hc, hg⟩
              have T_rw_ := hide ht
              clear ht
              have H49 := hide (H48.out.grown hg hc)
              clear H48 hg hc
              refine hK.out _ _ (HSS.out _ _ _ (by simp) H49.out) (fun hHeld => ?_)
              clear hK K
              try simp only [List.getElem_toArray, List.getElem_cons_zero, List.getElem_cons_succ, List.get, Act.put, List.setIfInBounds_toArray, List.set_cons_zero, List.set_cons_succ]
              obtain ⟨l0, l1, l2, f0, f1, f2⟩ := (H49.out.rc (X11, (false, ⟨#[]⟩, ⟨#[]⟩)) (by simp)).1
              dsimp only at l0 l1 l2 f0 f1 f2
              have H50 := hide (H49.out.store rw_)
              clear H49
              refine wpAnyH_ready (rs := [9]) (by kernel_rfl) (by simp) ?_
              refine AllReadyH.cons (o := _) rfl (fun K hK => ?_) AllReadyH.nil
              go_simp
              clear l0 l1 l2 f0 f1 f2
              obtain ⟨w50, hw⟩ : ∃ W, (((w49.setCell ⟨X11, 0, none⟩ (.bool rw_.1)).setCell ⟨X11, 1, none⟩ (.string rw_.2.1)).setCell ⟨X11, 2, none⟩ (.string rw_.2.2)) = W := ⟨_, rfl⟩
              rw [hw] at H50
              rw [hw]
              clear hw
              refine hK.out _ _ (HSS.out _ _ _ (by simp) H50.out) (fun hHeld => ?_)
              clear hK K
              try simp only [List.getElem_toArray, List.getElem_cons_zero, List.getElem_cons_succ, List.get, Act.put, List.setIfInBounds_toArray, List.set_cons_zero, List.set_cons_succ]
              refine wpAnyH_done (by kernel_rfl) ?_ _
              refine NoPanic.normal ?_
              go_wp2_with fail
              go_meet
              exact ⟨X11, rw_, _, rfl, T_rw_.out, (fun h => by simp only [Bool.or_eq_false_iff] at h ⊢; simp [h]), H50.out⟩
      obtain ⟨X11, rw_, f16, rfl, t_rw_, hf, hls⟩ := hcut
      have T_rw_ := hide t_rw_
      have HF16 := hide hf
      have H51 := hide hls
      clear hf hls H20 t_rw_
      obtain ⟨w51, hwc⟩ : ∃ W, W = wc := ⟨_, rfl⟩
      subst hwc
      have hcf := H51.out.cf.c
      cases f16 with
      | true =>
        go_wp2_with fail
        go_ret
        exact ⟨by first | rfl | simp, H51.out.bel⟩
      | false =>
        obtain ⟨g1, g2⟩ := HF16.out rfl
        have e1 := HEND.out _ _ (HOF.out g1) T_rw_.out g2
        subst e1
        clear g1 g2
        obtain ⟨q0_0, q0_1, q0_2, _, _, _⟩ := (H51.out.rc (X6, (false, vs, vt)) (by simp)).1
        obtain ⟨q1_0, q1_1, q1_2, _, _, _⟩ := (H51.out.rc (X11, (false, vs, vt)) (by simp)).1
        go_wp2_with fail
        go_ret
        exact ⟨by first | rfl | simp, H51.out.bel⟩
end Go.Proofs.YtblpnekjnaaeoaaGreatDoor
