/- law 18: DebtLater. -/
import Derived.Test.YtlagoiaiodjmhaaGreatDoorDeW
set_option linter.unusedVariables false
set_option linter.unusedSimpArgs false
namespace Go.Proofs.YtlagoiaiodjmhaaGreatDoor
open Go.RowKit

set_option maxHeartbeats 16000000 in
set_option maxRecDepth 100000 in
theorem debtLater (l : List Db) (ps : List Py) (fu : Py) (x y : Int) (v1 v2 : Value) (w : World) (h1 : SliceOf vDb 6 w v1 l) (h2 : SliceOf vPy 4 w v2 ps) (hW : LawW w) :
    Calls Tryz.prog 5 #[v1, v2, .agg #[.int .i64 fu.kd, .int .i64 fu.tl, .int .i64 fu.fl, .int .i64 fu.mo], .int .i64 x, .int .i64 y] w fun e w' => e = .returned (.bool true) ∧ Below w.heap.size w w' := by
  have hba := bAlloc (Below.refl w.heap.size w) (.cells #[.int .i64 fu.kd, .int .i64 fu.tl, .int .i64 fu.fl, .int .i64 fu.mo] 49)
  have HBA := hide hba
  have HH := hide (law18_head _ (hW.below hba))
  have HP0 := hide (PyC.new w fu 49)
  have H1 := hide (h1.below hba)
  have H2 := hide (h2.below hba)
  obtain ⟨a1, c1, rfl⟩ := h1.shape
  obtain ⟨a2, c2, rfl⟩ := h2.shape
  clear h1 h2 hW hba
  go_enter Tryz.func5, Tryz.ntmps5
  go_wp2_with fail
  obtain ⟨A, hA⟩ : ∃ A, w.heap.size = A := ⟨_, rfl⟩
  obtain ⟨w0, hw0⟩ : ∃ W, w.alloc (.cells #[.int .i64 fu.kd, .int .i64 fu.tl, .int .i64 fu.fl, .int .i64 fu.mo] 49) = W := ⟨_, rfl⟩
  rw [hw0] at HBA HH HP0 H1 H2
  have HAZ : Hid (A ≤ w0.heap.size) := by have := HBA.out.size; rw [hA] at this; exact this
  rw [hA] at HBA HP0
  rw [hw0, hA]
  clear hw0
  have HAA := hide hA
  clear hA
  have HST := hide (fun m W (hb : Below w0.heap.size w0 W) => de_settle l ps m _ _ W (H1.out.below hb) (H2.out.below hb))
  have HSN := hide (fun m v W (hb : Below w0.heap.size w0 W) (hv : SliceOf vPy 4 W v (ps ++ [fu])) => de_settle l (ps ++ [fu]) m _ v W (H1.out.below hb) hv)
  refine HH.out.mono ?_
  rintro e w1 ⟨rfl, hb⟩
  have HB1 := hide hb
  clear hb
  by_cases s1 : 12 < l.length
  · have d1 : decide ((12 : Int) < (l.length : Int)) = true := decide_eq_true (by omega)
    go_wp2_with fail
    go_ret
    exact ⟨rfl, by rw [HAA.out]; exact HBA.out.trans (HB1.out.mono HAZ.out)⟩
  have d1 : decide ((12 : Int) < (l.length : Int)) = false := decide_eq_false (by omega)
  by_cases s2 : 12 < ps.length
  · have d2 : decide ((12 : Int) < (ps.length : Int)) = true := decide_eq_true (by omega)
    go_wp2_with fail
    go_ret
    exact ⟨rfl, by rw [HAA.out]; exact HBA.out.trans (HB1.out.mono HAZ.out)⟩
  have d2 : decide ((12 : Int) < (ps.length : Int)) = false := decide_eq_false (by omega)
  have hlI : (l.length : Int) ≤ 12 := by omega
  have hpI : (ps.length : Int) ≤ 12 := by omega
  obtain ⟨m1, hm1⟩ : ∃ m, min x y = m := ⟨_, rfl⟩
  obtain ⟨m2, hm2⟩ : ∃ m, max x y = m := ⟨_, rfl⟩
  have HMM : Hid (m1 ≤ m2) := by show m1 ≤ m2; omega
  go_wp2_with fail
  try rw [hm1]
  refine (HST.out m1 _ HB1.out).mono ?_
  rintro e w2 ⟨u, rfl, hs, hb⟩
  have HB2 := hide (bStepD HB1.out hb)
  have HA := hide hs
  clear hs hb
  obtain ⟨aa, ca, rfl⟩ := HA.out.shape
  go_wp2_with fail
  try rw [hm2]
  refine (HST.out m2 _ HB2.out).mono ?_
  rintro e w3 ⟨u, rfl, hs, hb⟩
  have HB3 := hide (bStepD HB2.out hb)
  have HA := hide (HA.out.below hb)
  have HBB := hide hs
  clear hs hb HB1 HB2 hm1 d1 d2
  obtain ⟨ab, cb, rfl⟩ := HBB.out.shape
  rcases Bool.eq_false_or_eq_true (vlD l ps m1) with hv1 | hv1
  case inr =>
    have HE2 : Hid (stE l ps m1 = 1) := by show _ = _; unfold stE; rw [hv1]; rfl
    rw [HE2.out]
    clear hv1
    go_wp2_with fail
    go_ret
    exact ⟨rfl, by rw [HAA.out]; exact HBA.out.trans (HB3.out.mono HAZ.out)⟩
  have HE1 : Hid (stL l ps m1 = setL l ps m1) := by show _ = _; unfold stL; rw [hv1]; rfl
  have HE2 : Hid (stE l ps m1 = 0) := by show _ = _; unfold stE; rw [hv1]; rfl
  rw [HE2.out]
  rw [HE1.out, setL_len] at HA
  rw [HE1.out, setL_len]
  clear hv1 HE1 HE2
  rcases Bool.eq_false_or_eq_true (vlD l ps m2) with hv2 | hv2
  case inr =>
    have HE2 : Hid (stE l ps m2 = 1) := by show _ = _; unfold stE; rw [hv2]; rfl
    rw [HE2.out]
    clear hv2
    go_wp2_with fail
    go_ret
    exact ⟨rfl, by rw [HAA.out]; exact HBA.out.trans (HB3.out.mono HAZ.out)⟩
  have HE1 : Hid (stL l ps m2 = setL l ps m2) := by show _ = _; unfold stL; rw [hv2]; rfl
  have HE2 : Hid (stE l ps m2 = 0) := by show _ = _; unfold stE; rw [hv2]; rfl
  rw [HE2.out]
  rw [HE1.out, setL_len] at HBB
  rw [HE1.out, setL_len]
  clear hv2 HE1 HE2
  have HN3 := hide (HSN.out m2)
  clear HSN HST
  rcases Bool.eq_false_or_eq_true (vlD l (ps ++ [fu]) m2) with hv3 | hv3
  case inr =>
    have HE1 : Hid (stL l (ps ++ [fu]) m2 = []) := by show _ = _; unfold stL; rw [hv3]; rfl
    have HE2 : Hid (stE l (ps ++ [fu]) m2 = 1) := by show _ = _; unfold stE; rw [hv3]; rfl
    rw [HE1.out, HE2.out] at HN3
    clear hv3 HE1 HE2
    have HPX : Hid (∀ W, Below w3.heap.size w3 W → W.cell? ⟨A, 0, none⟩ = some (.int .i64 fu.kd) ∧ W.cell? ⟨A, 1, none⟩ = some (.int .i64 fu.tl) ∧ W.cell? ⟨A, 2, none⟩ = some (.int .i64 fu.fl) ∧ W.cell? ⟨A, 3, none⟩ = some (.int .i64 fu.mo)) := fun W hW => by
      have h := (HP0.out.keep HB3.out).keep hW
      unfold PyC at h
      simp only [Nat.zero_add] at h
      exact h
    have HP3 := hide (H2.out.below HB3.out)
    go_wp2_with fail
    refine wp_region_noPanic ?_
    refine wp_region_held_drew (S := fun w' => w'.cell? ⟨A, 0, none⟩ = some (.int .i64 fu.kd) ∧ w'.cell? ⟨A, 1, none⟩ = some (.int .i64 fu.tl) ∧ w'.cell? ⟨A, 2, none⟩ = some (.int .i64 fu.fl) ∧ w'.cell? ⟨A, 3, none⟩ = some (.int .i64 fu.mo)) (by kernel_rfl) (HPX.out _ (bDraw (Below.refl _ w3))) (fun hHeld => ?_)
    change wpAnyH _ _ _ _ _ 16 #[false, false, false, false, false, false, false, false, false, false, false, false, false, false, false, false] _ _
    refine wpAnyH_take (i := 0) (oi := _) (v := ?_) rfl (by kernel_rfl) (by kernel_rfl) (by kernel_rfl) (fun _ _ _ h => h) (Or.inl ⟨by rfl, ?_⟩) (by assumption) ?_
    rotate_left
    · intro w hSw
      (try dsimp only at hSw)
      go_simp
      try with_reducible rfl
    try simp only [List.getElem_toArray, List.getElem_cons_zero, List.getElem_cons_succ, List.get, Act.put, List.setIfInBounds_toArray, List.set_cons_zero, List.set_cons_succ]
    refine wpAnyH_take (i := 2) (oi := _) (v := ?_) rfl (by kernel_rfl) (by kernel_rfl) (by kernel_rfl) (fun _ _ _ h => h) (Or.inl ⟨by rfl, ?_⟩) (by assumption) ?_
    rotate_left
    · intro w hSw
      (try dsimp only at hSw)
      go_simp
      try with_reducible rfl
    try simp only [List.getElem_toArray, List.getElem_cons_zero, List.getElem_cons_succ, List.get, Act.put, List.setIfInBounds_toArray, List.set_cons_zero, List.set_cons_succ]
    refine wpAnyH_take (i := 4) (oi := _) (v := ?_) rfl (by kernel_rfl) (by kernel_rfl) (by kernel_rfl) (fun _ _ _ h => h) (Or.inl ⟨by rfl, ?_⟩) (by assumption) ?_
    rotate_left
    · intro w hSw
      (try dsimp only at hSw)
      go_simp
      try with_reducible rfl
    try simp only [List.getElem_toArray, List.getElem_cons_zero, List.getElem_cons_succ, List.get, Act.put, List.setIfInBounds_toArray, List.set_cons_zero, List.set_cons_succ]
    refine wpAnyH_take (i := 7) (oi := _) (v := ?_) rfl (by kernel_rfl) (by kernel_rfl) (by kernel_rfl) (fun _ _ _ h => h) (Or.inl ⟨by rfl, ?_⟩) (by assumption) ?_
    rotate_left
    · intro w hSw
      (try dsimp only at hSw)
      go_simp
      try with_reducible rfl
    try simp only [List.getElem_toArray, List.getElem_cons_zero, List.getElem_cons_succ, List.get, Act.put, List.setIfInBounds_toArray, List.set_cons_zero, List.set_cons_succ]
    refine wpAnyH_take (i := 8) (oi := _) (v := ?_) rfl (by kernel_rfl) (by kernel_rfl) (by kernel_rfl) (fun _ _ _ h => h) (Or.inl ⟨by rfl, ?_⟩) (by assumption) ?_
    rotate_left
    · intro w hSw
      (try dsimp only at hSw)
      go_simp
      try with_reducible rfl
    try simp only [List.getElem_toArray, List.getElem_cons_zero, List.getElem_cons_succ, List.get, Act.put, List.setIfInBounds_toArray, List.set_cons_zero, List.set_cons_succ]
    refine wpAnyH_take (i := 9) (oi := _) (v := ?_) rfl (by kernel_rfl) (by kernel_rfl) (by kernel_rfl) (fun _ _ _ h => h) (Or.inl ⟨by rfl, ?_⟩) (by assumption) ?_
    rotate_left
    · intro w hSw
      (try dsimp only at hSw)
      go_simp
      try with_reducible rfl
    try simp only [List.getElem_toArray, List.getElem_cons_zero, List.getElem_cons_succ, List.get, Act.put, List.setIfInBounds_toArray, List.set_cons_zero, List.set_cons_succ]
    refine wpAnyH_ready (rs := [1, 5]) (by kernel_rfl) (by simp) ?_
    refine AllReadyH.cons (o := _) rfl (fun K hK => ?_) (AllReadyH.cons (o := _) rfl (fun K hK => ?_) AllReadyH.nil)
    rotate_left
    · skip
      go_simp
      refine hK.out _ _ (by first | exact HPX.out _ (bAlloc HB4.out _) | exact HPX.out _ (bAlloc (bDraw (Below.refl _ w3)) _) | exact HPX.out _ (bAlloc (bAlloc (bDraw (Below.refl _ w3)) _) _)) (fun hHeld => ?_)
      clear hK K
      try simp only [List.getElem_toArray, List.getElem_cons_zero, List.getElem_cons_succ, List.get, Act.put, List.setIfInBounds_toArray, List.set_cons_zero, List.set_cons_succ]
      refine wpAnyH_ready (rs := [1]) (by kernel_rfl) (by simp) ?_
      refine AllReadyH.cons (o := _) rfl (fun K hK => ?_) AllReadyH.nil
      go_simp
      refine hK.out _ _ (by first | exact HPX.out _ (bAlloc HB4.out _) | exact HPX.out _ (bAlloc (bDraw (Below.refl _ w3)) _) | exact HPX.out _ (bAlloc (bAlloc (bDraw (Below.refl _ w3)) _) _)) (fun hHeld => ?_)
      clear hK K
      try simp only [List.getElem_toArray, List.getElem_cons_zero, List.getElem_cons_succ, List.get, Act.put, List.setIfInBounds_toArray, List.set_cons_zero, List.set_cons_succ]
      refine wpAnyH_ready (rs := [3]) (by kernel_rfl) (by simp) ?_
      refine AllReadyH.cons (o := _) rfl (fun K hK => ?_) AllReadyH.nil
      refine step_apG Tryz.underlying27 Tryz.infoPy rfl (by decide) (by decide) vPy_len vPy_one rfl _ _ rfl w3.heap.size [] ps 0 ps.length (by omega) _ rfl (own_nilG vPy (by simp <;> omega) (by simp <;> omega)) _ rfl (HP3.out.below (by first | exact bAlloc (bDraw (Below.refl _ w3)) _ | exact bAlloc (bAlloc (bDraw (Below.refl _ w3)) _) _)) (by omega) (by simp <;> omega) ?_
      intro ao4 cap4 w4 ho4 hg4 hb4
      try rw [List.nil_append] at ho4
      have HO4 := hide ho4
      have HG4 := hide (grown_litG hg4)
      have HB4 : Hid (Below w3.heap.size w3 w4) := (by first | exact (bAlloc (bDraw (Below.refl _ w3)) _).trans hb4 | exact (bAlloc (bAlloc (bDraw (Below.refl _ w3)) _) _).trans hb4)
      clear ho4 hg4 hb4
      refine hK.out _ _ (HPX.out _ HB4.out) (fun hHeld => ?_)
      clear hK K
      try simp only [List.getElem_toArray, List.getElem_cons_zero, List.getElem_cons_succ, List.get, Act.put, List.setIfInBounds_toArray, List.set_cons_zero, List.set_cons_succ]
      refine wpAnyH_ready (rs := [6]) (by kernel_rfl) (by simp) ?_
      refine AllReadyH.cons (o := _) rfl (fun K hK => ?_) AllReadyH.nil
      refine step_apG Tryz.underlying27 Tryz.infoPy rfl (by decide) (by decide) vPy_len vPy_one rfl _ _ rfl w3.heap.size ps [fu] ps.length (ps.length + 1) rfl _ rfl (by first | exact HO4.out | exact HO4.out.alloc _) _ rfl (lit_py (by first | exact new_block _ _ | (refine (HG4.out.block _ (by simp <;> omega) (by simp <;> omega)).trans ?_; first | exact two_blk' _ _ _ | exact two_blk _ _ _))) (by omega) (by first | exact HB4.out.size | exact (bAlloc HB4.out _).size) ?_
      intro ao5 cap5 w5 ho5 hg5 hb5
      have HS5 : Hid (SliceOf vPy 4 w5 (.slice ao5 (ps.length + 1) cap5) (ps ++ [fu])) := OwnS.slice vPy_len (B := w3.heap.size) (by rw [List.length_append]; exact ho5)
      have HB5 : Hid (Below w3.heap.size w3 w5) := (by first | exact HB4.out.trans hb5 | exact (bAlloc HB4.out _).trans hb5)
      clear ho5 hg5 hb5 HG4
      refine hK.out _ _ (HPX.out _ HB5.out) (fun hHeld => ?_)
      clear hK K
      try simp only [List.getElem_toArray, List.getElem_cons_zero, List.getElem_cons_succ, List.get, Act.put, List.setIfInBounds_toArray, List.set_cons_zero, List.set_cons_succ]
      refine wpAnyH_ready (rs := [10]) (by kernel_rfl) (by simp) ?_
      refine AllReadyH.cons (o := _) rfl (fun K hK => ?_) AllReadyH.nil
      go_simp
      refine (HN3.out _ _ (btrans HB3.out HB3.out.size HB5.out) HS5.out).mono ?_
      rintro e w6 ⟨uc, rfl, hsc, hbc⟩
      have HC := hide hsc
      have HB6 := hide (btrans HB5.out HB5.out.size hbc)
      clear hsc hbc
      go_wp2_with fail
      refine hK.out _ _ (HPX.out _ HB6.out) (fun hHeld => ?_)
      clear hK K
      try simp only [List.getElem_toArray, List.getElem_cons_zero, List.getElem_cons_succ, List.get, Act.put, List.setIfInBounds_toArray, List.set_cons_zero, List.set_cons_succ]
      refine wpAnyH_take (i := 11) (oi := _) (v := ?_) rfl (by kernel_rfl) (by kernel_rfl) (by kernel_rfl) (fun _ _ _ h => h) (Or.inl ⟨by rfl, ?_⟩) (by assumption) ?_
      rotate_left
      · intro w hSw
        (try dsimp only at hSw)
        go_simp
        try with_reducible rfl
      try simp only [List.getElem_toArray, List.getElem_cons_zero, List.getElem_cons_succ, List.get, Act.put, List.setIfInBounds_toArray, List.set_cons_zero, List.set_cons_succ]
      refine wpAnyH_take (i := 12) (oi := _) (v := ?_) rfl (by kernel_rfl) (by kernel_rfl) (by kernel_rfl) (fun _ _ _ h => h) (Or.inl ⟨by rfl, ?_⟩) (by assumption) ?_
      rotate_left
      · intro w hSw
        (try dsimp only at hSw)
        go_simp
        try with_reducible rfl
      try simp only [List.getElem_toArray, List.getElem_cons_zero, List.getElem_cons_succ, List.get, Act.put, List.setIfInBounds_toArray, List.set_cons_zero, List.set_cons_succ]
      refine wpAnyH_take (i := 13) (oi := _) (v := ?_) rfl (by kernel_rfl) (by kernel_rfl) (by kernel_rfl) (fun _ _ _ h => h) (Or.inl ⟨by rfl, ?_⟩) (by assumption) ?_
      rotate_left
      · intro w hSw
        (try dsimp only at hSw)
        go_simp
        try with_reducible rfl
      try simp only [List.getElem_toArray, List.getElem_cons_zero, List.getElem_cons_succ, List.get, Act.put, List.setIfInBounds_toArray, List.set_cons_zero, List.set_cons_succ]
      refine wpAnyH_take (i := 14) (oi := _) (v := ?_) rfl (by kernel_rfl) (by kernel_rfl) (by kernel_rfl) (fun _ _ _ h => h) (Or.inl ⟨by rfl, ?_⟩) (by assumption) ?_
      rotate_left
      · intro w hSw
        (try dsimp only at hSw)
        go_simp
        try with_reducible rfl
      try simp only [List.getElem_toArray, List.getElem_cons_zero, List.getElem_cons_succ, List.get, Act.put, List.setIfInBounds_toArray, List.set_cons_zero, List.set_cons_succ]
      refine wpAnyH_take (i := 15) (oi := _) (v := ?_) rfl (by kernel_rfl) (by kernel_rfl) (by kernel_rfl) (fun _ _ _ h => h) (Or.inl ⟨by rfl, ?_⟩) (by assumption) ?_
      rotate_left
      · intro w hSw
        (try dsimp only at hSw)
        go_simp
        try with_reducible rfl
      try simp only [List.getElem_toArray, List.getElem_cons_zero, List.getElem_cons_succ, List.get, Act.put, List.setIfInBounds_toArray, List.set_cons_zero, List.set_cons_succ]
      refine wpAnyH_done (by kernel_rfl) ?_ _
      refine NoPanic.normal ?_
      clear hHeld HPX HP3 HO4 HB4 HB5 HS5
      obtain ⟨ac, cc, rfl⟩ := HC.out.shape
      have HA6 := hide (HA.out.below HB6.out)
      have HB_6 := hide (HBB.out.below HB6.out)
      have HR6 := hide (btrans HB3.out HB3.out.size HB6.out)
      go_wp2_with fail
      go_loopw [18] (fun i wx => ∃ k : Nat, k ≤ l.length ∧ i = .int .i64 (k : Int) ∧ Below w6.heap.size w6 wx) (fun i _ => l.length - (intOf i).toNat)
      case atStart => exact ⟨0, Nat.zero_le _, rfl, Below.refl _ _⟩
      case round =>
        obtain ⟨i, hi, rfl, hbl⟩ := hrel
        have HX := hide hbl
        clear hbl
        by_cases hlt : i < l.length
        · have hiI : (i : Int) < (l.length : Int) := by omega
          have hi0 : (0 : Int) ≤ (i : Int) := by omega
          obtain ⟨ba, oa, rfl, g1, g2, ha⟩ := HA6.out.inAt (setL_len l ps m1) HX.out hlt
          obtain ⟨bb, ob, rfl, g3, g4, hb⟩ := HB_6.out.inAt (setL_len l ps m2) HX.out hlt
          rw [setL_getD hlt] at ha hb
          have hbd := bst_bd l[i] ps m2 ps.length
          have hlat : 0 ≤ bstN l[i] ps m1 ps.length → bstN l[i] ps m2 ps.length = bstN l[i] ps m1 ps.length := fun h => bst_later HMM.out h
          obtain ⟨xa, hxa⟩ : ∃ x, bstN l[i] ps m1 ps.length = x := ⟨_, rfl⟩
          obtain ⟨xb, hxb⟩ : ∃ x, bstN l[i] ps m2 ps.length = x := ⟨_, rfl⟩
          rw [hxa] at ha hlat
          rw [hxb] at hb hbd hlat
          clear hxa hxb
          by_cases h0 : 0 ≤ xa
          · obtain rfl := hlat h0
            have e0 : decide (0 ≤ xb) = true := decide_eq_true h0
            clear hlat hbd h0
            go_wp2_with fail
            go_quiet (fail)
            obtain ⟨w7, hw7⟩ : ∃ W, wr.drewN nq = W := ⟨_, rfl⟩
            have HN7 : Hid (Below wr.heap.size wr w7) := drw_belowD (B := wr.heap.size) hw7
            have HN := hide (bStepD HX.out HN7.out)
            rw [hw7]
            clear hw7
            go_wp2_with fail
            first
              | (go_roundw
                 case rel => exact ⟨i + 1, by omega, by go_num, HN.out⟩
                 case measure => (simp [intOf]; omega))
              | (refine ⟨⟨i + 1, by omega, by go_num, HN.out⟩, ?_⟩
                 simp [intOf]; omega)
          · have e0 : decide (0 ≤ xa) = false := decide_eq_false h0
            clear hlat hbd h0
            go_wp2_with fail
            go_quiet (fail)
            obtain ⟨w7, hw7⟩ : ∃ W, wr.drewN nq = W := ⟨_, rfl⟩
            have HN7 : Hid (Below wr.heap.size wr w7) := drw_belowD (B := wr.heap.size) hw7
            have HN := hide (bStepD HX.out HN7.out)
            rw [hw7]
            clear hw7
            go_wp2_with fail
            first
              | (go_roundw
                 case rel => exact ⟨i + 1, by omega, by go_num, HN.out⟩
                 case measure => (simp [intOf]; omega))
              | (refine ⟨⟨i + 1, by omega, by go_num, HN.out⟩, ?_⟩
                 simp [intOf]; omega)
        · obtain rfl : i = l.length := by omega
          go_wp2_with fail
          go_ret
          exact ⟨rfl, by rw [HAA.out]; exact HBA.out.trans ((bStepD HR6.out HX.out).mono HAZ.out)⟩
    go_simp
    refine hK.out _ _ (by first | exact HPX.out _ (bAlloc HB4.out _) | exact HPX.out _ (bAlloc (bDraw (Below.refl _ w3)) _) | exact HPX.out _ (bAlloc (bAlloc (bDraw (Below.refl _ w3)) _) _)) (fun hHeld => ?_)
    clear hK K
    try simp only [List.getElem_toArray, List.getElem_cons_zero, List.getElem_cons_succ, List.get, Act.put, List.setIfInBounds_toArray, List.set_cons_zero, List.set_cons_succ]
    refine wpAnyH_ready (rs := [3, 5]) (by kernel_rfl) (by simp) ?_
    refine AllReadyH.cons (o := _) rfl (fun K hK => ?_) (AllReadyH.cons (o := _) rfl (fun K hK => ?_) AllReadyH.nil)
    rotate_left
    · skip
      go_simp
      refine hK.out _ _ (by first | exact HPX.out _ (bAlloc HB4.out _) | exact HPX.out _ (bAlloc (bDraw (Below.refl _ w3)) _) | exact HPX.out _ (bAlloc (bAlloc (bDraw (Below.refl _ w3)) _) _)) (fun hHeld => ?_)
      clear hK K
      try simp only [List.getElem_toArray, List.getElem_cons_zero, List.getElem_cons_succ, List.get, Act.put, List.setIfInBounds_toArray, List.set_cons_zero, List.set_cons_succ]
      refine wpAnyH_ready (rs := [3]) (by kernel_rfl) (by simp) ?_
      refine AllReadyH.cons (o := _) rfl (fun K hK => ?_) AllReadyH.nil
      refine step_apG Tryz.underlying27 Tryz.infoPy rfl (by decide) (by decide) vPy_len vPy_one rfl _ _ rfl w3.heap.size [] ps 0 ps.length (by omega) _ rfl (own_nilG vPy (by simp <;> omega) (by simp <;> omega)) _ rfl (HP3.out.below (by first | exact bAlloc (bDraw (Below.refl _ w3)) _ | exact bAlloc (bAlloc (bDraw (Below.refl _ w3)) _) _)) (by omega) (by simp <;> omega) ?_
      intro ao4 cap4 w4 ho4 hg4 hb4
      try rw [List.nil_append] at ho4
      have HO4 := hide ho4
      have HG4 := hide (grown_litG hg4)
      have HB4 : Hid (Below w3.heap.size w3 w4) := (by first | exact (bAlloc (bDraw (Below.refl _ w3)) _).trans hb4 | exact (bAlloc (bAlloc (bDraw (Below.refl _ w3)) _) _).trans hb4)
      clear ho4 hg4 hb4
      refine hK.out _ _ (HPX.out _ HB4.out) (fun hHeld => ?_)
      clear hK K
      try simp only [List.getElem_toArray, List.getElem_cons_zero, List.getElem_cons_succ, List.get, Act.put, List.setIfInBounds_toArray, List.set_cons_zero, List.set_cons_succ]
      refine wpAnyH_ready (rs := [6]) (by kernel_rfl) (by simp) ?_
      refine AllReadyH.cons (o := _) rfl (fun K hK => ?_) AllReadyH.nil
      refine step_apG Tryz.underlying27 Tryz.infoPy rfl (by decide) (by decide) vPy_len vPy_one rfl _ _ rfl w3.heap.size ps [fu] ps.length (ps.length + 1) rfl _ rfl (by first | exact HO4.out | exact HO4.out.alloc _) _ rfl (lit_py (by first | exact new_block _ _ | (refine (HG4.out.block _ (by simp <;> omega) (by simp <;> omega)).trans ?_; first | exact two_blk' _ _ _ | exact two_blk _ _ _))) (by omega) (by first | exact HB4.out.size | exact (bAlloc HB4.out _).size) ?_
      intro ao5 cap5 w5 ho5 hg5 hb5
      have HS5 : Hid (SliceOf vPy 4 w5 (.slice ao5 (ps.length + 1) cap5) (ps ++ [fu])) := OwnS.slice vPy_len (B := w3.heap.size) (by rw [List.length_append]; exact ho5)
      have HB5 : Hid (Below w3.heap.size w3 w5) := (by first | exact HB4.out.trans hb5 | exact (bAlloc HB4.out _).trans hb5)
      clear ho5 hg5 hb5 HG4
      refine hK.out _ _ (HPX.out _ HB5.out) (fun hHeld => ?_)
      clear hK K
      try simp only [List.getElem_toArray, List.getElem_cons_zero, List.getElem_cons_succ, List.get, Act.put, List.setIfInBounds_toArray, List.set_cons_zero, List.set_cons_succ]
      refine wpAnyH_ready (rs := [10]) (by kernel_rfl) (by simp) ?_
      refine AllReadyH.cons (o := _) rfl (fun K hK => ?_) AllReadyH.nil
      go_simp
      refine (HN3.out _ _ (btrans HB3.out HB3.out.size HB5.out) HS5.out).mono ?_
      rintro e w6 ⟨uc, rfl, hsc, hbc⟩
      have HC := hide hsc
      have HB6 := hide (btrans HB5.out HB5.out.size hbc)
      clear hsc hbc
      go_wp2_with fail
      refine hK.out _ _ (HPX.out _ HB6.out) (fun hHeld => ?_)
      clear hK K
      try simp only [List.getElem_toArray, List.getElem_cons_zero, List.getElem_cons_succ, List.get, Act.put, List.setIfInBounds_toArray, List.set_cons_zero, List.set_cons_succ]
      refine wpAnyH_take (i := 11) (oi := _) (v := ?_) rfl (by kernel_rfl) (by kernel_rfl) (by kernel_rfl) (fun _ _ _ h => h) (Or.inl ⟨by rfl, ?_⟩) (by assumption) ?_
      rotate_left
      · intro w hSw
        (try dsimp only at hSw)
        go_simp
        try with_reducible rfl
      try simp only [List.getElem_toArray, List.getElem_cons_zero, List.getElem_cons_succ, List.get, Act.put, List.setIfInBounds_toArray, List.set_cons_zero, List.set_cons_succ]
      refine wpAnyH_take (i := 12) (oi := _) (v := ?_) rfl (by kernel_rfl) (by kernel_rfl) (by kernel_rfl) (fun _ _ _ h => h) (Or.inl ⟨by rfl, ?_⟩) (by assumption) ?_
      rotate_left
      · intro w hSw
        (try dsimp only at hSw)
        go_simp
        try with_reducible rfl
      try simp only [List.getElem_toArray, List.getElem_cons_zero, List.getElem_cons_succ, List.get, Act.put, List.setIfInBounds_toArray, List.set_cons_zero, List.set_cons_succ]
      refine wpAnyH_take (i := 13) (oi := _) (v := ?_) rfl (by kernel_rfl) (by kernel_rfl) (by kernel_rfl) (fun _ _ _ h => h) (Or.inl ⟨by rfl, ?_⟩) (by assumption) ?_
      rotate_left
      · intro w hSw
        (try dsimp only at hSw)
        go_simp
        try with_reducible rfl
      try simp only [List.getElem_toArray, List.getElem_cons_zero, List.getElem_cons_succ, List.get, Act.put, List.setIfInBounds_toArray, List.set_cons_zero, List.set_cons_succ]
      refine wpAnyH_take (i := 14) (oi := _) (v := ?_) rfl (by kernel_rfl) (by kernel_rfl) (by kernel_rfl) (fun _ _ _ h => h) (Or.inl ⟨by rfl, ?_⟩) (by assumption) ?_
      rotate_left
      · intro w hSw
        (try dsimp only at hSw)
        go_simp
        try with_reducible rfl
      try simp only [List.getElem_toArray, List.getElem_cons_zero, List.getElem_cons_succ, List.get, Act.put, List.setIfInBounds_toArray, List.set_cons_zero, List.set_cons_succ]
      refine wpAnyH_take (i := 15) (oi := _) (v := ?_) rfl (by kernel_rfl) (by kernel_rfl) (by kernel_rfl) (fun _ _ _ h => h) (Or.inl ⟨by rfl, ?_⟩) (by assumption) ?_
      rotate_left
      · intro w hSw
        (try dsimp only at hSw)
        go_simp
        try with_reducible rfl
      try simp only [List.getElem_toArray, List.getElem_cons_zero, List.getElem_cons_succ, List.get, Act.put, List.setIfInBounds_toArray, List.set_cons_zero, List.set_cons_succ]
      refine wpAnyH_done (by kernel_rfl) ?_ _
      refine NoPanic.normal ?_
      clear hHeld HPX HP3 HO4 HB4 HB5 HS5
      obtain ⟨ac, cc, rfl⟩ := HC.out.shape
      have HA6 := hide (HA.out.below HB6.out)
      have HB_6 := hide (HBB.out.below HB6.out)
      have HR6 := hide (btrans HB3.out HB3.out.size HB6.out)
      go_wp2_with fail
      go_loopw [18] (fun i wx => ∃ k : Nat, k ≤ l.length ∧ i = .int .i64 (k : Int) ∧ Below w6.heap.size w6 wx) (fun i _ => l.length - (intOf i).toNat)
      case atStart => exact ⟨0, Nat.zero_le _, rfl, Below.refl _ _⟩
      case round =>
        obtain ⟨i, hi, rfl, hbl⟩ := hrel
        have HX := hide hbl
        clear hbl
        by_cases hlt : i < l.length
        · have hiI : (i : Int) < (l.length : Int) := by omega
          have hi0 : (0 : Int) ≤ (i : Int) := by omega
          obtain ⟨ba, oa, rfl, g1, g2, ha⟩ := HA6.out.inAt (setL_len l ps m1) HX.out hlt
          obtain ⟨bb, ob, rfl, g3, g4, hb⟩ := HB_6.out.inAt (setL_len l ps m2) HX.out hlt
          rw [setL_getD hlt] at ha hb
          have hbd := bst_bd l[i] ps m2 ps.length
          have hlat : 0 ≤ bstN l[i] ps m1 ps.length → bstN l[i] ps m2 ps.length = bstN l[i] ps m1 ps.length := fun h => bst_later HMM.out h
          obtain ⟨xa, hxa⟩ : ∃ x, bstN l[i] ps m1 ps.length = x := ⟨_, rfl⟩
          obtain ⟨xb, hxb⟩ : ∃ x, bstN l[i] ps m2 ps.length = x := ⟨_, rfl⟩
          rw [hxa] at ha hlat
          rw [hxb] at hb hbd hlat
          clear hxa hxb
          by_cases h0 : 0 ≤ xa
          · obtain rfl := hlat h0
            have e0 : decide (0 ≤ xb) = true := decide_eq_true h0
            clear hlat hbd h0
            go_wp2_with fail
            go_quiet (fail)
            obtain ⟨w7, hw7⟩ : ∃ W, wr.drewN nq = W := ⟨_, rfl⟩
            have HN7 : Hid (Below wr.heap.size wr w7) := drw_belowD (B := wr.heap.size) hw7
            have HN := hide (bStepD HX.out HN7.out)
            rw [hw7]
            clear hw7
            go_wp2_with fail
            first
              | (go_roundw
                 case rel => exact ⟨i + 1, by omega, by go_num, HN.out⟩
                 case measure => (simp [intOf]; omega))
              | (refine ⟨⟨i + 1, by omega, by go_num, HN.out⟩, ?_⟩
                 simp [intOf]; omega)
          · have e0 : decide (0 ≤ xa) = false := decide_eq_false h0
            clear hlat hbd h0
            go_wp2_with fail
            go_quiet (fail)
            obtain ⟨w7, hw7⟩ : ∃ W, wr.drewN nq = W := ⟨_, rfl⟩
            have HN7 : Hid (Below wr.heap.size wr w7) := drw_belowD (B := wr.heap.size) hw7
            have HN := hide (bStepD HX.out HN7.out)
            rw [hw7]
            clear hw7
            go_wp2_with fail
            first
              | (go_roundw
                 case rel => exact ⟨i + 1, by omega, by go_num, HN.out⟩
                 case measure => (simp [intOf]; omega))
              | (refine ⟨⟨i + 1, by omega, by go_num, HN.out⟩, ?_⟩
                 simp [intOf]; omega)
        · obtain rfl : i = l.length := by omega
          go_wp2_with fail
          go_ret
          exact ⟨rfl, by rw [HAA.out]; exact HBA.out.trans ((bStepD HR6.out HX.out).mono HAZ.out)⟩
    refine step_apG Tryz.underlying27 Tryz.infoPy rfl (by decide) (by decide) vPy_len vPy_one rfl _ _ rfl w3.heap.size [] ps 0 ps.length (by omega) _ rfl (own_nilG vPy (by simp <;> omega) (by simp <;> omega)) _ rfl (HP3.out.below (by first | exact bAlloc (bDraw (Below.refl _ w3)) _ | exact bAlloc (bAlloc (bDraw (Below.refl _ w3)) _) _)) (by omega) (by simp <;> omega) ?_
    intro ao4 cap4 w4 ho4 hg4 hb4
    try rw [List.nil_append] at ho4
    have HO4 := hide ho4
    have HG4 := hide (grown_litG hg4)
    have HB4 : Hid (Below w3.heap.size w3 w4) := (by first | exact (bAlloc (bDraw (Below.refl _ w3)) _).trans hb4 | exact (bAlloc (bAlloc (bDraw (Below.refl _ w3)) _) _).trans hb4)
    clear ho4 hg4 hb4
    refine hK.out _ _ (HPX.out _ HB4.out) (fun hHeld => ?_)
    clear hK K
    try simp only [List.getElem_toArray, List.getElem_cons_zero, List.getElem_cons_succ, List.get, Act.put, List.setIfInBounds_toArray, List.set_cons_zero, List.set_cons_succ]
    refine wpAnyH_ready (rs := [5]) (by kernel_rfl) (by simp) ?_
    refine AllReadyH.cons (o := _) rfl (fun K hK => ?_) AllReadyH.nil
    go_simp
    refine hK.out _ _ (by first | exact HPX.out _ (bAlloc HB4.out _) | exact HPX.out _ (bAlloc (bDraw (Below.refl _ w3)) _) | exact HPX.out _ (bAlloc (bAlloc (bDraw (Below.refl _ w3)) _) _)) (fun hHeld => ?_)
    clear hK K
    try simp only [List.getElem_toArray, List.getElem_cons_zero, List.getElem_cons_succ, List.get, Act.put, List.setIfInBounds_toArray, List.set_cons_zero, List.set_cons_succ]
    refine wpAnyH_ready (rs := [6]) (by kernel_rfl) (by simp) ?_
    refine AllReadyH.cons (o := _) rfl (fun K hK => ?_) AllReadyH.nil
    refine step_apG Tryz.underlying27 Tryz.infoPy rfl (by decide) (by decide) vPy_len vPy_one rfl _ _ rfl w3.heap.size ps [fu] ps.length (ps.length + 1) rfl _ rfl (by first | exact HO4.out | exact HO4.out.alloc _) _ rfl (lit_py (by first | exact new_block _ _ | (refine (HG4.out.block _ (by simp <;> omega) (by simp <;> omega)).trans ?_; first | exact two_blk' _ _ _ | exact two_blk _ _ _))) (by omega) (by first | exact HB4.out.size | exact (bAlloc HB4.out _).size) ?_
    intro ao5 cap5 w5 ho5 hg5 hb5
    have HS5 : Hid (SliceOf vPy 4 w5 (.slice ao5 (ps.length + 1) cap5) (ps ++ [fu])) := OwnS.slice vPy_len (B := w3.heap.size) (by rw [List.length_append]; exact ho5)
    have HB5 : Hid (Below w3.heap.size w3 w5) := (by first | exact HB4.out.trans hb5 | exact (bAlloc HB4.out _).trans hb5)
    clear ho5 hg5 hb5 HG4
    refine hK.out _ _ (HPX.out _ HB5.out) (fun hHeld => ?_)
    clear hK K
    try simp only [List.getElem_toArray, List.getElem_cons_zero, List.getElem_cons_succ, List.get, Act.put, List.setIfInBounds_toArray, List.set_cons_zero, List.set_cons_succ]
    refine wpAnyH_ready (rs := [10]) (by kernel_rfl) (by simp) ?_
    refine AllReadyH.cons (o := _) rfl (fun K hK => ?_) AllReadyH.nil
    go_simp
    refine (HN3.out _ _ (btrans HB3.out HB3.out.size HB5.out) HS5.out).mono ?_
    rintro e w6 ⟨uc, rfl, hsc, hbc⟩
    have HC := hide hsc
    have HB6 := hide (btrans HB5.out HB5.out.size hbc)
    clear hsc hbc
    go_wp2_with fail
    refine hK.out _ _ (HPX.out _ HB6.out) (fun hHeld => ?_)
    clear hK K
    try simp only [List.getElem_toArray, List.getElem_cons_zero, List.getElem_cons_succ, List.get, Act.put, List.setIfInBounds_toArray, List.set_cons_zero, List.set_cons_succ]
    refine wpAnyH_take (i := 11) (oi := _) (v := ?_) rfl (by kernel_rfl) (by kernel_rfl) (by kernel_rfl) (fun _ _ _ h => h) (Or.inl ⟨by rfl, ?_⟩) (by assumption) ?_
    rotate_left
    · intro w hSw
      (try dsimp only at hSw)
      go_simp
      try with_reducible rfl
    try simp only [List.getElem_toArray, List.getElem_cons_zero, List.getElem_cons_succ, List.get, Act.put, List.setIfInBounds_toArray, List.set_cons_zero, List.set_cons_succ]
    refine wpAnyH_take (i := 12) (oi := _) (v := ?_) rfl (by kernel_rfl) (by kernel_rfl) (by kernel_rfl) (fun _ _ _ h => h) (Or.inl ⟨by rfl, ?_⟩) (by assumption) ?_
    rotate_left
    · intro w hSw
      (try dsimp only at hSw)
      go_simp
      try with_reducible rfl
    try simp only [List.getElem_toArray, List.getElem_cons_zero, List.getElem_cons_succ, List.get, Act.put, List.setIfInBounds_toArray, List.set_cons_zero, List.set_cons_succ]
    refine wpAnyH_take (i := 13) (oi := _) (v := ?_) rfl (by kernel_rfl) (by kernel_rfl) (by kernel_rfl) (fun _ _ _ h => h) (Or.inl ⟨by rfl, ?_⟩) (by assumption) ?_
    rotate_left
    · intro w hSw
      (try dsimp only at hSw)
      go_simp
      try with_reducible rfl
    try simp only [List.getElem_toArray, List.getElem_cons_zero, List.getElem_cons_succ, List.get, Act.put, List.setIfInBounds_toArray, List.set_cons_zero, List.set_cons_succ]
    refine wpAnyH_take (i := 14) (oi := _) (v := ?_) rfl (by kernel_rfl) (by kernel_rfl) (by kernel_rfl) (fun _ _ _ h => h) (Or.inl ⟨by rfl, ?_⟩) (by assumption) ?_
    rotate_left
    · intro w hSw
      (try dsimp only at hSw)
      go_simp
      try with_reducible rfl
    try simp only [List.getElem_toArray, List.getElem_cons_zero, List.getElem_cons_succ, List.get, Act.put, List.setIfInBounds_toArray, List.set_cons_zero, List.set_cons_succ]
    refine wpAnyH_take (i := 15) (oi := _) (v := ?_) rfl (by kernel_rfl) (by kernel_rfl) (by kernel_rfl) (fun _ _ _ h => h) (Or.inl ⟨by rfl, ?_⟩) (by assumption) ?_
    rotate_left
    · intro w hSw
      (try dsimp only at hSw)
      go_simp
      try with_reducible rfl
    try simp only [List.getElem_toArray, List.getElem_cons_zero, List.getElem_cons_succ, List.get, Act.put, List.setIfInBounds_toArray, List.set_cons_zero, List.set_cons_succ]
    refine wpAnyH_done (by kernel_rfl) ?_ _
    refine NoPanic.normal ?_
    clear hHeld HPX HP3 HO4 HB4 HB5 HS5
    obtain ⟨ac, cc, rfl⟩ := HC.out.shape
    have HA6 := hide (HA.out.below HB6.out)
    have HB_6 := hide (HBB.out.below HB6.out)
    have HR6 := hide (btrans HB3.out HB3.out.size HB6.out)
    go_wp2_with fail
    go_loopw [18] (fun i wx => ∃ k : Nat, k ≤ l.length ∧ i = .int .i64 (k : Int) ∧ Below w6.heap.size w6 wx) (fun i _ => l.length - (intOf i).toNat)
    case atStart => exact ⟨0, Nat.zero_le _, rfl, Below.refl _ _⟩
    case round =>
      obtain ⟨i, hi, rfl, hbl⟩ := hrel
      have HX := hide hbl
      clear hbl
      by_cases hlt : i < l.length
      · have hiI : (i : Int) < (l.length : Int) := by omega
        have hi0 : (0 : Int) ≤ (i : Int) := by omega
        obtain ⟨ba, oa, rfl, g1, g2, ha⟩ := HA6.out.inAt (setL_len l ps m1) HX.out hlt
        obtain ⟨bb, ob, rfl, g3, g4, hb⟩ := HB_6.out.inAt (setL_len l ps m2) HX.out hlt
        rw [setL_getD hlt] at ha hb
        have hbd := bst_bd l[i] ps m2 ps.length
        have hlat : 0 ≤ bstN l[i] ps m1 ps.length → bstN l[i] ps m2 ps.length = bstN l[i] ps m1 ps.length := fun h => bst_later HMM.out h
        obtain ⟨xa, hxa⟩ : ∃ x, bstN l[i] ps m1 ps.length = x := ⟨_, rfl⟩
        obtain ⟨xb, hxb⟩ : ∃ x, bstN l[i] ps m2 ps.length = x := ⟨_, rfl⟩
        rw [hxa] at ha hlat
        rw [hxb] at hb hbd hlat
        clear hxa hxb
        by_cases h0 : 0 ≤ xa
        · obtain rfl := hlat h0
          have e0 : decide (0 ≤ xb) = true := decide_eq_true h0
          clear hlat hbd h0
          go_wp2_with fail
          go_quiet (fail)
          obtain ⟨w7, hw7⟩ : ∃ W, wr.drewN nq = W := ⟨_, rfl⟩
          have HN7 : Hid (Below wr.heap.size wr w7) := drw_belowD (B := wr.heap.size) hw7
          have HN := hide (bStepD HX.out HN7.out)
          rw [hw7]
          clear hw7
          go_wp2_with fail
          first
            | (go_roundw
               case rel => exact ⟨i + 1, by omega, by go_num, HN.out⟩
               case measure => (simp [intOf]; omega))
            | (refine ⟨⟨i + 1, by omega, by go_num, HN.out⟩, ?_⟩
               simp [intOf]; omega)
        · have e0 : decide (0 ≤ xa) = false := decide_eq_false h0
          clear hlat hbd h0
          go_wp2_with fail
          go_quiet (fail)
          obtain ⟨w7, hw7⟩ : ∃ W, wr.drewN nq = W := ⟨_, rfl⟩
          have HN7 : Hid (Below wr.heap.size wr w7) := drw_belowD (B := wr.heap.size) hw7
          have HN := hide (bStepD HX.out HN7.out)
          rw [hw7]
          clear hw7
          go_wp2_with fail
          first
            | (go_roundw
               case rel => exact ⟨i + 1, by omega, by go_num, HN.out⟩
               case measure => (simp [intOf]; omega))
            | (refine ⟨⟨i + 1, by omega, by go_num, HN.out⟩, ?_⟩
               simp [intOf]; omega)
      · obtain rfl : i = l.length := by omega
        go_wp2_with fail
        go_ret
        exact ⟨rfl, by rw [HAA.out]; exact HBA.out.trans ((bStepD HR6.out HX.out).mono HAZ.out)⟩
  have HE1 : Hid (stL l (ps ++ [fu]) m2 = setL l (ps ++ [fu]) m2) := by show _ = _; unfold stL; rw [hv3]; rfl
  have HE2 : Hid (stE l (ps ++ [fu]) m2 = 0) := by show _ = _; unfold stE; rw [hv3]; rfl
  rw [HE1.out, HE2.out] at HN3
  clear hv3 HE1 HE2
  have HPX : Hid (∀ W, Below w3.heap.size w3 W → W.cell? ⟨A, 0, none⟩ = some (.int .i64 fu.kd) ∧ W.cell? ⟨A, 1, none⟩ = some (.int .i64 fu.tl) ∧ W.cell? ⟨A, 2, none⟩ = some (.int .i64 fu.fl) ∧ W.cell? ⟨A, 3, none⟩ = some (.int .i64 fu.mo)) := fun W hW => by
    have h := (HP0.out.keep HB3.out).keep hW
    unfold PyC at h
    simp only [Nat.zero_add] at h
    exact h
  have HP3 := hide (H2.out.below HB3.out)
  go_wp2_with fail
  refine wp_region_noPanic ?_
  refine wp_region_held_drew (S := fun w' => w'.cell? ⟨A, 0, none⟩ = some (.int .i64 fu.kd) ∧ w'.cell? ⟨A, 1, none⟩ = some (.int .i64 fu.tl) ∧ w'.cell? ⟨A, 2, none⟩ = some (.int .i64 fu.fl) ∧ w'.cell? ⟨A, 3, none⟩ = some (.int .i64 fu.mo)) (by kernel_rfl) (HPX.out _ (bDraw (Below.refl _ w3))) (fun hHeld => ?_)
  change wpAnyH _ _ _ _ _ 16 #[false, false, false, false, false, false, false, false, false, false, false, false, false, false, false, false] _ _
  refine wpAnyH_take (i := 0) (oi := _) (v := ?_) rfl (by kernel_rfl) (by kernel_rfl) (by kernel_rfl) (fun _ _ _ h => h) (Or.inl ⟨by rfl, ?_⟩) (by assumption) ?_
  rotate_left
  · intro w hSw
    (try dsimp only at hSw)
    go_simp
    try with_reducible rfl
  try simp only [List.getElem_toArray, List.getElem_cons_zero, List.getElem_cons_succ, List.get, Act.put, List.setIfInBounds_toArray, List.set_cons_zero, List.set_cons_succ]
  refine wpAnyH_take (i := 2) (oi := _) (v := ?_) rfl (by kernel_rfl) (by kernel_rfl) (by kernel_rfl) (fun _ _ _ h => h) (Or.inl ⟨by rfl, ?_⟩) (by assumption) ?_
  rotate_left
  · intro w hSw
    (try dsimp only at hSw)
    go_simp
    try with_reducible rfl
  try simp only [List.getElem_toArray, List.getElem_cons_zero, List.getElem_cons_succ, List.get, Act.put, List.setIfInBounds_toArray, List.set_cons_zero, List.set_cons_succ]
  refine wpAnyH_take (i := 4) (oi := _) (v := ?_) rfl (by kernel_rfl) (by kernel_rfl) (by kernel_rfl) (fun _ _ _ h => h) (Or.inl ⟨by rfl, ?_⟩) (by assumption) ?_
  rotate_left
  · intro w hSw
    (try dsimp only at hSw)
    go_simp
    try with_reducible rfl
  try simp only [List.getElem_toArray, List.getElem_cons_zero, List.getElem_cons_succ, List.get, Act.put, List.setIfInBounds_toArray, List.set_cons_zero, List.set_cons_succ]
  refine wpAnyH_take (i := 7) (oi := _) (v := ?_) rfl (by kernel_rfl) (by kernel_rfl) (by kernel_rfl) (fun _ _ _ h => h) (Or.inl ⟨by rfl, ?_⟩) (by assumption) ?_
  rotate_left
  · intro w hSw
    (try dsimp only at hSw)
    go_simp
    try with_reducible rfl
  try simp only [List.getElem_toArray, List.getElem_cons_zero, List.getElem_cons_succ, List.get, Act.put, List.setIfInBounds_toArray, List.set_cons_zero, List.set_cons_succ]
  refine wpAnyH_take (i := 8) (oi := _) (v := ?_) rfl (by kernel_rfl) (by kernel_rfl) (by kernel_rfl) (fun _ _ _ h => h) (Or.inl ⟨by rfl, ?_⟩) (by assumption) ?_
  rotate_left
  · intro w hSw
    (try dsimp only at hSw)
    go_simp
    try with_reducible rfl
  try simp only [List.getElem_toArray, List.getElem_cons_zero, List.getElem_cons_succ, List.get, Act.put, List.setIfInBounds_toArray, List.set_cons_zero, List.set_cons_succ]
  refine wpAnyH_take (i := 9) (oi := _) (v := ?_) rfl (by kernel_rfl) (by kernel_rfl) (by kernel_rfl) (fun _ _ _ h => h) (Or.inl ⟨by rfl, ?_⟩) (by assumption) ?_
  rotate_left
  · intro w hSw
    (try dsimp only at hSw)
    go_simp
    try with_reducible rfl
  try simp only [List.getElem_toArray, List.getElem_cons_zero, List.getElem_cons_succ, List.get, Act.put, List.setIfInBounds_toArray, List.set_cons_zero, List.set_cons_succ]
  refine wpAnyH_ready (rs := [1, 5]) (by kernel_rfl) (by simp) ?_
  refine AllReadyH.cons (o := _) rfl (fun K hK => ?_) (AllReadyH.cons (o := _) rfl (fun K hK => ?_) AllReadyH.nil)
  rotate_left
  · skip
    go_simp
    refine hK.out _ _ (by first | exact HPX.out _ (bAlloc HB4.out _) | exact HPX.out _ (bAlloc (bDraw (Below.refl _ w3)) _) | exact HPX.out _ (bAlloc (bAlloc (bDraw (Below.refl _ w3)) _) _)) (fun hHeld => ?_)
    clear hK K
    try simp only [List.getElem_toArray, List.getElem_cons_zero, List.getElem_cons_succ, List.get, Act.put, List.setIfInBounds_toArray, List.set_cons_zero, List.set_cons_succ]
    refine wpAnyH_ready (rs := [1]) (by kernel_rfl) (by simp) ?_
    refine AllReadyH.cons (o := _) rfl (fun K hK => ?_) AllReadyH.nil
    go_simp
    refine hK.out _ _ (by first | exact HPX.out _ (bAlloc HB4.out _) | exact HPX.out _ (bAlloc (bDraw (Below.refl _ w3)) _) | exact HPX.out _ (bAlloc (bAlloc (bDraw (Below.refl _ w3)) _) _)) (fun hHeld => ?_)
    clear hK K
    try simp only [List.getElem_toArray, List.getElem_cons_zero, List.getElem_cons_succ, List.get, Act.put, List.setIfInBounds_toArray, List.set_cons_zero, List.set_cons_succ]
    refine wpAnyH_ready (rs := [3]) (by kernel_rfl) (by simp) ?_
    refine AllReadyH.cons (o := _) rfl (fun K hK => ?_) AllReadyH.nil
    refine step_apG Tryz.underlying27 Tryz.infoPy rfl (by decide) (by decide) vPy_len vPy_one rfl _ _ rfl w3.heap.size [] ps 0 ps.length (by omega) _ rfl (own_nilG vPy (by simp <;> omega) (by simp <;> omega)) _ rfl (HP3.out.below (by first | exact bAlloc (bDraw (Below.refl _ w3)) _ | exact bAlloc (bAlloc (bDraw (Below.refl _ w3)) _) _)) (by omega) (by simp <;> omega) ?_
    intro ao4 cap4 w4 ho4 hg4 hb4
    try rw [List.nil_append] at ho4
    have HO4 := hide ho4
    have HG4 := hide (grown_litG hg4)
    have HB4 : Hid (Below w3.heap.size w3 w4) := (by first | exact (bAlloc (bDraw (Below.refl _ w3)) _).trans hb4 | exact (bAlloc (bAlloc (bDraw (Below.refl _ w3)) _) _).trans hb4)
    clear ho4 hg4 hb4
    refine hK.out _ _ (HPX.out _ HB4.out) (fun hHeld => ?_)
    clear hK K
    try simp only [List.getElem_toArray, List.getElem_cons_zero, List.getElem_cons_succ, List.get, Act.put, List.setIfInBounds_toArray, List.set_cons_zero, List.set_cons_succ]
    refine wpAnyH_ready (rs := [6]) (by kernel_rfl) (by simp) ?_
    refine AllReadyH.cons (o := _) rfl (fun K hK => ?_) AllReadyH.nil
    refine step_apG Tryz.underlying27 Tryz.infoPy rfl (by decide) (by decide) vPy_len vPy_one rfl _ _ rfl w3.heap.size ps [fu] ps.length (ps.length + 1) rfl _ rfl (by first | exact HO4.out | exact HO4.out.alloc _) _ rfl (lit_py (by first | exact new_block _ _ | (refine (HG4.out.block _ (by simp <;> omega) (by simp <;> omega)).trans ?_; first | exact two_blk' _ _ _ | exact two_blk _ _ _))) (by omega) (by first | exact HB4.out.size | exact (bAlloc HB4.out _).size) ?_
    intro ao5 cap5 w5 ho5 hg5 hb5
    have HS5 : Hid (SliceOf vPy 4 w5 (.slice ao5 (ps.length + 1) cap5) (ps ++ [fu])) := OwnS.slice vPy_len (B := w3.heap.size) (by rw [List.length_append]; exact ho5)
    have HB5 : Hid (Below w3.heap.size w3 w5) := (by first | exact HB4.out.trans hb5 | exact (bAlloc HB4.out _).trans hb5)
    clear ho5 hg5 hb5 HG4
    refine hK.out _ _ (HPX.out _ HB5.out) (fun hHeld => ?_)
    clear hK K
    try simp only [List.getElem_toArray, List.getElem_cons_zero, List.getElem_cons_succ, List.get, Act.put, List.setIfInBounds_toArray, List.set_cons_zero, List.set_cons_succ]
    refine wpAnyH_ready (rs := [10]) (by kernel_rfl) (by simp) ?_
    refine AllReadyH.cons (o := _) rfl (fun K hK => ?_) AllReadyH.nil
    go_simp
    refine (HN3.out _ _ (btrans HB3.out HB3.out.size HB5.out) HS5.out).mono ?_
    rintro e w6 ⟨uc, rfl, hsc, hbc⟩
    have HC := hide hsc
    have HB6 := hide (btrans HB5.out HB5.out.size hbc)
    clear hsc hbc
    go_wp2_with fail
    refine hK.out _ _ (HPX.out _ HB6.out) (fun hHeld => ?_)
    clear hK K
    try simp only [List.getElem_toArray, List.getElem_cons_zero, List.getElem_cons_succ, List.get, Act.put, List.setIfInBounds_toArray, List.set_cons_zero, List.set_cons_succ]
    refine wpAnyH_take (i := 11) (oi := _) (v := ?_) rfl (by kernel_rfl) (by kernel_rfl) (by kernel_rfl) (fun _ _ _ h => h) (Or.inl ⟨by rfl, ?_⟩) (by assumption) ?_
    rotate_left
    · intro w hSw
      (try dsimp only at hSw)
      go_simp
      try with_reducible rfl
    try simp only [List.getElem_toArray, List.getElem_cons_zero, List.getElem_cons_succ, List.get, Act.put, List.setIfInBounds_toArray, List.set_cons_zero, List.set_cons_succ]
    refine wpAnyH_take (i := 12) (oi := _) (v := ?_) rfl (by kernel_rfl) (by kernel_rfl) (by kernel_rfl) (fun _ _ _ h => h) (Or.inl ⟨by rfl, ?_⟩) (by assumption) ?_
    rotate_left
    · intro w hSw
      (try dsimp only at hSw)
      go_simp
      try with_reducible rfl
    try simp only [List.getElem_toArray, List.getElem_cons_zero, List.getElem_cons_succ, List.get, Act.put, List.setIfInBounds_toArray, List.set_cons_zero, List.set_cons_succ]
    refine wpAnyH_take (i := 13) (oi := _) (v := ?_) rfl (by kernel_rfl) (by kernel_rfl) (by kernel_rfl) (fun _ _ _ h => h) (Or.inl ⟨by rfl, ?_⟩) (by assumption) ?_
    rotate_left
    · intro w hSw
      (try dsimp only at hSw)
      go_simp
      try with_reducible rfl
    try simp only [List.getElem_toArray, List.getElem_cons_zero, List.getElem_cons_succ, List.get, Act.put, List.setIfInBounds_toArray, List.set_cons_zero, List.set_cons_succ]
    refine wpAnyH_take (i := 14) (oi := _) (v := ?_) rfl (by kernel_rfl) (by kernel_rfl) (by kernel_rfl) (fun _ _ _ h => h) (Or.inl ⟨by rfl, ?_⟩) (by assumption) ?_
    rotate_left
    · intro w hSw
      (try dsimp only at hSw)
      go_simp
      try with_reducible rfl
    try simp only [List.getElem_toArray, List.getElem_cons_zero, List.getElem_cons_succ, List.get, Act.put, List.setIfInBounds_toArray, List.set_cons_zero, List.set_cons_succ]
    refine wpAnyH_take (i := 15) (oi := _) (v := ?_) rfl (by kernel_rfl) (by kernel_rfl) (by kernel_rfl) (fun _ _ _ h => h) (Or.inl ⟨by rfl, ?_⟩) (by assumption) ?_
    rotate_left
    · intro w hSw
      (try dsimp only at hSw)
      go_simp
      try with_reducible rfl
    try simp only [List.getElem_toArray, List.getElem_cons_zero, List.getElem_cons_succ, List.get, Act.put, List.setIfInBounds_toArray, List.set_cons_zero, List.set_cons_succ]
    refine wpAnyH_done (by kernel_rfl) ?_ _
    refine NoPanic.normal ?_
    clear hHeld HPX HP3 HO4 HB4 HB5 HS5
    obtain ⟨ac, cc, rfl⟩ := HC.out.shape
    rw [setL_len] at HC
    rw [setL_len]
    have HC6 := hide HC.out
    clear HC
    have HA6 := hide (HA.out.below HB6.out)
    have HB_6 := hide (HBB.out.below HB6.out)
    have HR6 := hide (btrans HB3.out HB3.out.size HB6.out)
    go_wp2_with fail
    go_loopw [18] (fun i wx => ∃ k : Nat, k ≤ l.length ∧ i = .int .i64 (k : Int) ∧ Below w6.heap.size w6 wx) (fun i _ => l.length - (intOf i).toNat)
    case atStart => exact ⟨0, Nat.zero_le _, rfl, Below.refl _ _⟩
    case round =>
      obtain ⟨i, hi, rfl, hbl⟩ := hrel
      have HX := hide hbl
      clear hbl
      by_cases hlt : i < l.length
      · have hiI : (i : Int) < (l.length : Int) := by omega
        have hi0 : (0 : Int) ≤ (i : Int) := by omega
        obtain ⟨ba, oa, rfl, g1, g2, ha⟩ := HA6.out.inAt (setL_len l ps m1) HX.out hlt
        obtain ⟨bb, ob, rfl, g3, g4, hb⟩ := HB_6.out.inAt (setL_len l ps m2) HX.out hlt
        rw [setL_getD hlt] at ha hb
        have hbd := bst_bd l[i] ps m2 ps.length
        have hlat : 0 ≤ bstN l[i] ps m1 ps.length → bstN l[i] ps m2 ps.length = bstN l[i] ps m1 ps.length := fun h => bst_later HMM.out h
        obtain ⟨bc, oc, rfl, g5, g6, hc⟩ := HC6.out.inAt (setL_len l (ps ++ [fu]) m2) HX.out hlt
        rw [setL_getD hlt] at hc
        have hfur : ∀ q : Nat, bstN l[i] ps m2 ps.length = (q : Int) → bstN l[i] (ps ++ [fu]) m2 (ps ++ [fu]).length = (q : Int) ∨ (bstN l[i] (ps ++ [fu]) m2 (ps ++ [fu]).length = (ps.length : Int) ∧ fu.mo < (pyN ps q).mo) := fun q h => bst_further h
        obtain ⟨xa, hxa⟩ : ∃ x, bstN l[i] ps m1 ps.length = x := ⟨_, rfl⟩
        obtain ⟨xb, hxb⟩ : ∃ x, bstN l[i] ps m2 ps.length = x := ⟨_, rfl⟩
        obtain ⟨xc, hxc⟩ : ∃ x, bstN l[i] (ps ++ [fu]) m2 (ps ++ [fu]).length = x := ⟨_, rfl⟩
        rw [hxa] at ha hlat
        rw [hxb] at hb hbd hlat hfur
        rw [hxc] at hc hfur
        clear hxa hxb hxc
        have HWR : Hid (Below wr.heap.size wr wr) := Below.refl _ _
        by_cases h0 : 0 ≤ xa
        · obtain rfl := hlat h0
          have e0 : decide (0 ≤ xb) = true := decide_eq_true h0
          have k0 : 0 ≤ xb := h0
          obtain ⟨q, rfl⟩ : ∃ q : Nat, xb = (q : Int) := ⟨xb.toNat, by omega⟩
          have hqp : q < ps.length := by omega
          have e1 : decide ((q : Int) < 0) = false := decide_eq_false (by omega)
          have e2 : decide ((ps.length : Int) ≤ (q : Int)) = false := decide_eq_false (by omega)
          have e2n : decide (ps.length ≤ q) = false := decide_eq_false (by omega)
          rcases hfur q rfl with rfl | ⟨rfl, hmo⟩
          · clear hlat hbd hfur
            go_wp2_with fail
            go_quiet (fail)
            obtain ⟨w7, hw7⟩ : ∃ W, wr.drewN nq = W := ⟨_, rfl⟩
            have HN7 : Hid (Below wr.heap.size wr w7) := drw_belowD (B := wr.heap.size) hw7
            have HN := hide (bStepD HX.out HN7.out)
            rw [hw7]
            clear hw7
            have ha := keep_cell HN7.out ha
            have hb := keep_cell HN7.out hb
            have hc := keep_cell HN7.out hc
            go_wp2_with fail
            go_quiet (fail)
            obtain ⟨w8, hw8⟩ : ∃ W, w7.drewN nq = W := ⟨_, rfl⟩
            have HN := hide (bStepD HN.out (drw_belowD (B := w7.heap.size) hw8))
            rw [hw8]
            clear hw8
            go_wp2_with fail
            first
              | (go_roundw
                 case rel => exact ⟨i + 1, by omega, by go_num, HN.out⟩
                 case measure => (simp [intOf]; omega))
              | (refine ⟨⟨i + 1, by omega, by go_num, HN.out⟩, ?_⟩
                 simp [intOf]; omega)
          · obtain ⟨bp, op, rfl, g7, g8, hp⟩ := (H2.out.below HR6.out).pyAt HX.out hqp
            obtain ⟨p, hpe⟩ : ∃ p, pyN ps q = p := ⟨_, rfl⟩
            rw [hpe] at hp hmo
            have e3 : decide (p.mo ≤ fu.mo) = false := decide_eq_false (by omega)
            have e4 : ((ps.length : Int) != (q : Int)) = true := by rw [bne_iff_ne]; omega
            have e4n : (ps.length != q) = true := by rw [bne_iff_ne]; omega
            have e5n : (ps.length == q) = false := by rw [beq_eq_false_iff_ne]; omega
            have hqI : (q : Int) < (ps.length : Int) := by omega
            have y3 : wr.cell? ⟨A, 3, none⟩ = some (.int .i64 fu.mo) := by
              have h := (HP0.out.keep HR6.out).keep HX.out
              unfold PyC at h
              simp only [Nat.zero_add] at h
              exact h.2.2.2
            have hp3 := hp.2.2.2
            clear hlat hbd hfur hmo hpe hp
            go_wp2_with fail
            go_quiet (fail)
            obtain ⟨w7, hw7⟩ : ∃ W, wr.drewN nq = W := ⟨_, rfl⟩
            have HN7 : Hid (Below wr.heap.size wr w7) := drw_belowD (B := wr.heap.size) hw7
            have HN := hide (bStepD HX.out HN7.out)
            rw [hw7]
            clear hw7
            have ha := keep_cell HN7.out ha
            have hb := keep_cell HN7.out hb
            have hc := keep_cell HN7.out hc
            have y3 := keep_cell HN7.out y3
            have hp3 := keep_cell HN7.out hp3
            go_wp2_with fail
            go_quiet (fail)
            obtain ⟨w8, hw8⟩ : ∃ W, w7.drewN nq = W := ⟨_, rfl⟩
            have HN := hide (bStepD HN.out (drw_belowD (B := w7.heap.size) hw8))
            rw [hw8]
            clear hw8
            go_wp2_with fail
            first
              | (go_roundw
                 case rel => exact ⟨i + 1, by omega, by go_num, HN.out⟩
                 case measure => (simp [intOf]; omega))
              | (refine ⟨⟨i + 1, by omega, by go_num, HN.out⟩, ?_⟩
                 simp [intOf]; omega)
        · have e0 : decide (0 ≤ xa) = false := decide_eq_false h0
          by_cases k0 : 0 ≤ xb
          case neg =>
            have e1 : decide (xb < 0) = true := decide_eq_true (by omega)
            clear hlat hbd hfur
            go_wp2_with fail
            go_quiet (fail)
            obtain ⟨w7, hw7⟩ : ∃ W, wr.drewN nq = W := ⟨_, rfl⟩
            have HN7 : Hid (Below wr.heap.size wr w7) := drw_belowD (B := wr.heap.size) hw7
            have HN := hide (bStepD HX.out HN7.out)
            rw [hw7]
            clear hw7
            have hb := keep_cell HN7.out hb
            go_wp2_with fail
            first
              | (go_roundw
                 case rel => exact ⟨i + 1, by omega, by go_num, HN.out⟩
                 case measure => (simp [intOf]; omega))
              | (refine ⟨⟨i + 1, by omega, by go_num, HN.out⟩, ?_⟩
                 simp [intOf]; omega)
          obtain ⟨q, rfl⟩ : ∃ q : Nat, xb = (q : Int) := ⟨xb.toNat, by omega⟩
          have hqp : q < ps.length := by omega
          have e1 : decide ((q : Int) < 0) = false := decide_eq_false (by omega)
          have e2 : decide ((ps.length : Int) ≤ (q : Int)) = false := decide_eq_false (by omega)
          have e2n : decide (ps.length ≤ q) = false := decide_eq_false (by omega)
          rcases hfur q rfl with rfl | ⟨rfl, hmo⟩
          · clear hlat hbd hfur
            go_wp2_with fail
            go_quiet (fail)
            obtain ⟨w7, hw7⟩ : ∃ W, wr.drewN nq = W := ⟨_, rfl⟩
            have HN7 : Hid (Below wr.heap.size wr w7) := drw_belowD (B := wr.heap.size) hw7
            have HN := hide (bStepD HX.out HN7.out)
            rw [hw7]
            clear hw7
            have ha := keep_cell HN7.out ha
            have hb := keep_cell HN7.out hb
            have hc := keep_cell HN7.out hc
            go_wp2_with fail
            go_quiet (fail)
            obtain ⟨w8, hw8⟩ : ∃ W, w7.drewN nq = W := ⟨_, rfl⟩
            have HN := hide (bStepD HN.out (drw_belowD (B := w7.heap.size) hw8))
            rw [hw8]
            clear hw8
            go_wp2_with fail
            first
              | (go_roundw
                 case rel => exact ⟨i + 1, by omega, by go_num, HN.out⟩
                 case measure => (simp [intOf]; omega))
              | (refine ⟨⟨i + 1, by omega, by go_num, HN.out⟩, ?_⟩
                 simp [intOf]; omega)
          · obtain ⟨bp, op, rfl, g7, g8, hp⟩ := (H2.out.below HR6.out).pyAt HX.out hqp
            obtain ⟨p, hpe⟩ : ∃ p, pyN ps q = p := ⟨_, rfl⟩
            rw [hpe] at hp hmo
            have e3 : decide (p.mo ≤ fu.mo) = false := decide_eq_false (by omega)
            have e4 : ((ps.length : Int) != (q : Int)) = true := by rw [bne_iff_ne]; omega
            have e4n : (ps.length != q) = true := by rw [bne_iff_ne]; omega
            have e5n : (ps.length == q) = false := by rw [beq_eq_false_iff_ne]; omega
            have hqI : (q : Int) < (ps.length : Int) := by omega
            have y3 : wr.cell? ⟨A, 3, none⟩ = some (.int .i64 fu.mo) := by
              have h := (HP0.out.keep HR6.out).keep HX.out
              unfold PyC at h
              simp only [Nat.zero_add] at h
              exact h.2.2.2
            have hp3 := hp.2.2.2
            clear hlat hbd hfur hmo hpe hp
            go_wp2_with fail
            go_quiet (fail)
            obtain ⟨w7, hw7⟩ : ∃ W, wr.drewN nq = W := ⟨_, rfl⟩
            have HN7 : Hid (Below wr.heap.size wr w7) := drw_belowD (B := wr.heap.size) hw7
            have HN := hide (bStepD HX.out HN7.out)
            rw [hw7]
            clear hw7
            have ha := keep_cell HN7.out ha
            have hb := keep_cell HN7.out hb
            have hc := keep_cell HN7.out hc
            have y3 := keep_cell HN7.out y3
            have hp3 := keep_cell HN7.out hp3
            go_wp2_with fail
            go_quiet (fail)
            obtain ⟨w8, hw8⟩ : ∃ W, w7.drewN nq = W := ⟨_, rfl⟩
            have HN := hide (bStepD HN.out (drw_belowD (B := w7.heap.size) hw8))
            rw [hw8]
            clear hw8
            go_wp2_with fail
            first
              | (go_roundw
                 case rel => exact ⟨i + 1, by omega, by go_num, HN.out⟩
                 case measure => (simp [intOf]; omega))
              | (refine ⟨⟨i + 1, by omega, by go_num, HN.out⟩, ?_⟩
                 simp [intOf]; omega)
      · obtain rfl : i = l.length := by omega
        go_wp2_with fail
        go_ret
        exact ⟨rfl, by rw [HAA.out]; exact HBA.out.trans ((bStepD HR6.out HX.out).mono HAZ.out)⟩
  go_simp
  refine hK.out _ _ (by first | exact HPX.out _ (bAlloc HB4.out _) | exact HPX.out _ (bAlloc (bDraw (Below.refl _ w3)) _) | exact HPX.out _ (bAlloc (bAlloc (bDraw (Below.refl _ w3)) _) _)) (fun hHeld => ?_)
  clear hK K
  try simp only [List.getElem_toArray, List.getElem_cons_zero, List.getElem_cons_succ, List.get, Act.put, List.setIfInBounds_toArray, List.set_cons_zero, List.set_cons_succ]
  refine wpAnyH_ready (rs := [3, 5]) (by kernel_rfl) (by simp) ?_
  refine AllReadyH.cons (o := _) rfl (fun K hK => ?_) (AllReadyH.cons (o := _) rfl (fun K hK => ?_) AllReadyH.nil)
  rotate_left
  · skip
    go_simp
    refine hK.out _ _ (by first | exact HPX.out _ (bAlloc HB4.out _) | exact HPX.out _ (bAlloc (bDraw (Below.refl _ w3)) _) | exact HPX.out _ (bAlloc (bAlloc (bDraw (Below.refl _ w3)) _) _)) (fun hHeld => ?_)
    clear hK K
    try simp only [List.getElem_toArray, List.getElem_cons_zero, List.getElem_cons_succ, List.get, Act.put, List.setIfInBounds_toArray, List.set_cons_zero, List.set_cons_succ]
    refine wpAnyH_ready (rs := [3]) (by kernel_rfl) (by simp) ?_
    refine AllReadyH.cons (o := _) rfl (fun K hK => ?_) AllReadyH.nil
    refine step_apG Tryz.underlying27 Tryz.infoPy rfl (by decide) (by decide) vPy_len vPy_one rfl _ _ rfl w3.heap.size [] ps 0 ps.length (by omega) _ rfl (own_nilG vPy (by simp <;> omega) (by simp <;> omega)) _ rfl (HP3.out.below (by first | exact bAlloc (bDraw (Below.refl _ w3)) _ | exact bAlloc (bAlloc (bDraw (Below.refl _ w3)) _) _)) (by omega) (by simp <;> omega) ?_
    intro ao4 cap4 w4 ho4 hg4 hb4
    try rw [List.nil_append] at ho4
    have HO4 := hide ho4
    have HG4 := hide (grown_litG hg4)
    have HB4 : Hid (Below w3.heap.size w3 w4) := (by first | exact (bAlloc (bDraw (Below.refl _ w3)) _).trans hb4 | exact (bAlloc (bAlloc (bDraw (Below.refl _ w3)) _) _).trans hb4)
    clear ho4 hg4 hb4
    refine hK.out _ _ (HPX.out _ HB4.out) (fun hHeld => ?_)
    clear hK K
    try simp only [List.getElem_toArray, List.getElem_cons_zero, List.getElem_cons_succ, List.get, Act.put, List.setIfInBounds_toArray, List.set_cons_zero, List.set_cons_succ]
    refine wpAnyH_ready (rs := [6]) (by kernel_rfl) (by simp) ?_
    refine AllReadyH.cons (o := _) rfl (fun K hK => ?_) AllReadyH.nil
    refine step_apG Tryz.underlying27 Tryz.infoPy rfl (by decide) (by decide) vPy_len vPy_one rfl _ _ rfl w3.heap.size ps [fu] ps.length (ps.length + 1) rfl _ rfl (by first | exact HO4.out | exact HO4.out.alloc _) _ rfl (lit_py (by first | exact new_block _ _ | (refine (HG4.out.block _ (by simp <;> omega) (by simp <;> omega)).trans ?_; first | exact two_blk' _ _ _ | exact two_blk _ _ _))) (by omega) (by first | exact HB4.out.size | exact (bAlloc HB4.out _).size) ?_
    intro ao5 cap5 w5 ho5 hg5 hb5
    have HS5 : Hid (SliceOf vPy 4 w5 (.slice ao5 (ps.length + 1) cap5) (ps ++ [fu])) := OwnS.slice vPy_len (B := w3.heap.size) (by rw [List.length_append]; exact ho5)
    have HB5 : Hid (Below w3.heap.size w3 w5) := (by first | exact HB4.out.trans hb5 | exact (bAlloc HB4.out _).trans hb5)
    clear ho5 hg5 hb5 HG4
    refine hK.out _ _ (HPX.out _ HB5.out) (fun hHeld => ?_)
    clear hK K
    try simp only [List.getElem_toArray, List.getElem_cons_zero, List.getElem_cons_succ, List.get, Act.put, List.setIfInBounds_toArray, List.set_cons_zero, List.set_cons_succ]
    refine wpAnyH_ready (rs := [10]) (by kernel_rfl) (by simp) ?_
    refine AllReadyH.cons (o := _) rfl (fun K hK => ?_) AllReadyH.nil
    go_simp
    refine (HN3.out _ _ (btrans HB3.out HB3.out.size HB5.out) HS5.out).mono ?_
    rintro e w6 ⟨uc, rfl, hsc, hbc⟩
    have HC := hide hsc
    have HB6 := hide (btrans HB5.out HB5.out.size hbc)
    clear hsc hbc
    go_wp2_with fail
    refine hK.out _ _ (HPX.out _ HB6.out) (fun hHeld => ?_)
    clear hK K
    try simp only [List.getElem_toArray, List.getElem_cons_zero, List.getElem_cons_succ, List.get, Act.put, List.setIfInBounds_toArray, List.set_cons_zero, List.set_cons_succ]
    refine wpAnyH_take (i := 11) (oi := _) (v := ?_) rfl (by kernel_rfl) (by kernel_rfl) (by kernel_rfl) (fun _ _ _ h => h) (Or.inl ⟨by rfl, ?_⟩) (by assumption) ?_
    rotate_left
    · intro w hSw
      (try dsimp only at hSw)
      go_simp
      try with_reducible rfl
    try simp only [List.getElem_toArray, List.getElem_cons_zero, List.getElem_cons_succ, List.get, Act.put, List.setIfInBounds_toArray, List.set_cons_zero, List.set_cons_succ]
    refine wpAnyH_take (i := 12) (oi := _) (v := ?_) rfl (by kernel_rfl) (by kernel_rfl) (by kernel_rfl) (fun _ _ _ h => h) (Or.inl ⟨by rfl, ?_⟩) (by assumption) ?_
    rotate_left
    · intro w hSw
      (try dsimp only at hSw)
      go_simp
      try with_reducible rfl
    try simp only [List.getElem_toArray, List.getElem_cons_zero, List.getElem_cons_succ, List.get, Act.put, List.setIfInBounds_toArray, List.set_cons_zero, List.set_cons_succ]
    refine wpAnyH_take (i := 13) (oi := _) (v := ?_) rfl (by kernel_rfl) (by kernel_rfl) (by kernel_rfl) (fun _ _ _ h => h) (Or.inl ⟨by rfl, ?_⟩) (by assumption) ?_
    rotate_left
    · intro w hSw
      (try dsimp only at hSw)
      go_simp
      try with_reducible rfl
    try simp only [List.getElem_toArray, List.getElem_cons_zero, List.getElem_cons_succ, List.get, Act.put, List.setIfInBounds_toArray, List.set_cons_zero, List.set_cons_succ]
    refine wpAnyH_take (i := 14) (oi := _) (v := ?_) rfl (by kernel_rfl) (by kernel_rfl) (by kernel_rfl) (fun _ _ _ h => h) (Or.inl ⟨by rfl, ?_⟩) (by assumption) ?_
    rotate_left
    · intro w hSw
      (try dsimp only at hSw)
      go_simp
      try with_reducible rfl
    try simp only [List.getElem_toArray, List.getElem_cons_zero, List.getElem_cons_succ, List.get, Act.put, List.setIfInBounds_toArray, List.set_cons_zero, List.set_cons_succ]
    refine wpAnyH_take (i := 15) (oi := _) (v := ?_) rfl (by kernel_rfl) (by kernel_rfl) (by kernel_rfl) (fun _ _ _ h => h) (Or.inl ⟨by rfl, ?_⟩) (by assumption) ?_
    rotate_left
    · intro w hSw
      (try dsimp only at hSw)
      go_simp
      try with_reducible rfl
    try simp only [List.getElem_toArray, List.getElem_cons_zero, List.getElem_cons_succ, List.get, Act.put, List.setIfInBounds_toArray, List.set_cons_zero, List.set_cons_succ]
    refine wpAnyH_done (by kernel_rfl) ?_ _
    refine NoPanic.normal ?_
    clear hHeld HPX HP3 HO4 HB4 HB5 HS5
    obtain ⟨ac, cc, rfl⟩ := HC.out.shape
    rw [setL_len] at HC
    rw [setL_len]
    have HC6 := hide HC.out
    clear HC
    have HA6 := hide (HA.out.below HB6.out)
    have HB_6 := hide (HBB.out.below HB6.out)
    have HR6 := hide (btrans HB3.out HB3.out.size HB6.out)
    go_wp2_with fail
    go_loopw [18] (fun i wx => ∃ k : Nat, k ≤ l.length ∧ i = .int .i64 (k : Int) ∧ Below w6.heap.size w6 wx) (fun i _ => l.length - (intOf i).toNat)
    case atStart => exact ⟨0, Nat.zero_le _, rfl, Below.refl _ _⟩
    case round =>
      obtain ⟨i, hi, rfl, hbl⟩ := hrel
      have HX := hide hbl
      clear hbl
      by_cases hlt : i < l.length
      · have hiI : (i : Int) < (l.length : Int) := by omega
        have hi0 : (0 : Int) ≤ (i : Int) := by omega
        obtain ⟨ba, oa, rfl, g1, g2, ha⟩ := HA6.out.inAt (setL_len l ps m1) HX.out hlt
        obtain ⟨bb, ob, rfl, g3, g4, hb⟩ := HB_6.out.inAt (setL_len l ps m2) HX.out hlt
        rw [setL_getD hlt] at ha hb
        have hbd := bst_bd l[i] ps m2 ps.length
        have hlat : 0 ≤ bstN l[i] ps m1 ps.length → bstN l[i] ps m2 ps.length = bstN l[i] ps m1 ps.length := fun h => bst_later HMM.out h
        obtain ⟨bc, oc, rfl, g5, g6, hc⟩ := HC6.out.inAt (setL_len l (ps ++ [fu]) m2) HX.out hlt
        rw [setL_getD hlt] at hc
        have hfur : ∀ q : Nat, bstN l[i] ps m2 ps.length = (q : Int) → bstN l[i] (ps ++ [fu]) m2 (ps ++ [fu]).length = (q : Int) ∨ (bstN l[i] (ps ++ [fu]) m2 (ps ++ [fu]).length = (ps.length : Int) ∧ fu.mo < (pyN ps q).mo) := fun q h => bst_further h
        obtain ⟨xa, hxa⟩ : ∃ x, bstN l[i] ps m1 ps.length = x := ⟨_, rfl⟩
        obtain ⟨xb, hxb⟩ : ∃ x, bstN l[i] ps m2 ps.length = x := ⟨_, rfl⟩
        obtain ⟨xc, hxc⟩ : ∃ x, bstN l[i] (ps ++ [fu]) m2 (ps ++ [fu]).length = x := ⟨_, rfl⟩
        rw [hxa] at ha hlat
        rw [hxb] at hb hbd hlat hfur
        rw [hxc] at hc hfur
        clear hxa hxb hxc
        have HWR : Hid (Below wr.heap.size wr wr) := Below.refl _ _
        by_cases h0 : 0 ≤ xa
        · obtain rfl := hlat h0
          have e0 : decide (0 ≤ xb) = true := decide_eq_true h0
          have k0 : 0 ≤ xb := h0
          obtain ⟨q, rfl⟩ : ∃ q : Nat, xb = (q : Int) := ⟨xb.toNat, by omega⟩
          have hqp : q < ps.length := by omega
          have e1 : decide ((q : Int) < 0) = false := decide_eq_false (by omega)
          have e2 : decide ((ps.length : Int) ≤ (q : Int)) = false := decide_eq_false (by omega)
          have e2n : decide (ps.length ≤ q) = false := decide_eq_false (by omega)
          rcases hfur q rfl with rfl | ⟨rfl, hmo⟩
          · clear hlat hbd hfur
            go_wp2_with fail
            go_quiet (fail)
            obtain ⟨w7, hw7⟩ : ∃ W, wr.drewN nq = W := ⟨_, rfl⟩
            have HN7 : Hid (Below wr.heap.size wr w7) := drw_belowD (B := wr.heap.size) hw7
            have HN := hide (bStepD HX.out HN7.out)
            rw [hw7]
            clear hw7
            have ha := keep_cell HN7.out ha
            have hb := keep_cell HN7.out hb
            have hc := keep_cell HN7.out hc
            go_wp2_with fail
            go_quiet (fail)
            obtain ⟨w8, hw8⟩ : ∃ W, w7.drewN nq = W := ⟨_, rfl⟩
            have HN := hide (bStepD HN.out (drw_belowD (B := w7.heap.size) hw8))
            rw [hw8]
            clear hw8
            go_wp2_with fail
            first
              | (go_roundw
                 case rel => exact ⟨i + 1, by omega, by go_num, HN.out⟩
                 case measure => (simp [intOf]; omega))
              | (refine ⟨⟨i + 1, by omega, by go_num, HN.out⟩, ?_⟩
                 simp [intOf]; omega)
          · obtain ⟨bp, op, rfl, g7, g8, hp⟩ := (H2.out.below HR6.out).pyAt HX.out hqp
            obtain ⟨p, hpe⟩ : ∃ p, pyN ps q = p := ⟨_, rfl⟩
            rw [hpe] at hp hmo
            have e3 : decide (p.mo ≤ fu.mo) = false := decide_eq_false (by omega)
            have e4 : ((ps.length : Int) != (q : Int)) = true := by rw [bne_iff_ne]; omega
            have e4n : (ps.length != q) = true := by rw [bne_iff_ne]; omega
            have e5n : (ps.length == q) = false := by rw [beq_eq_false_iff_ne]; omega
            have hqI : (q : Int) < (ps.length : Int) := by omega
            have y3 : wr.cell? ⟨A, 3, none⟩ = some (.int .i64 fu.mo) := by
              have h := (HP0.out.keep HR6.out).keep HX.out
              unfold PyC at h
              simp only [Nat.zero_add] at h
              exact h.2.2.2
            have hp3 := hp.2.2.2
            clear hlat hbd hfur hmo hpe hp
            go_wp2_with fail
            go_quiet (fail)
            obtain ⟨w7, hw7⟩ : ∃ W, wr.drewN nq = W := ⟨_, rfl⟩
            have HN7 : Hid (Below wr.heap.size wr w7) := drw_belowD (B := wr.heap.size) hw7
            have HN := hide (bStepD HX.out HN7.out)
            rw [hw7]
            clear hw7
            have ha := keep_cell HN7.out ha
            have hb := keep_cell HN7.out hb
            have hc := keep_cell HN7.out hc
            have y3 := keep_cell HN7.out y3
            have hp3 := keep_cell HN7.out hp3
            go_wp2_with fail
            go_quiet (fail)
            obtain ⟨w8, hw8⟩ : ∃ W, w7.drewN nq = W := ⟨_, rfl⟩
            have HN := hide (bStepD HN.out (drw_belowD (B := w7.heap.size) hw8))
            rw [hw8]
            clear hw8
            go_wp2_with fail
            first
              | (go_roundw
                 case rel => exact ⟨i + 1, by omega, by go_num, HN.out⟩
                 case measure => (simp [intOf]; omega))
              | (refine ⟨⟨i + 1, by omega, by go_num, HN.out⟩, ?_⟩
                 simp [intOf]; omega)
        · have e0 : decide (0 ≤ xa) = false := decide_eq_false h0
          by_cases k0 : 0 ≤ xb
          case neg =>
            have e1 : decide (xb < 0) = true := decide_eq_true (by omega)
            clear hlat hbd hfur
            go_wp2_with fail
            go_quiet (fail)
            obtain ⟨w7, hw7⟩ : ∃ W, wr.drewN nq = W := ⟨_, rfl⟩
            have HN7 : Hid (Below wr.heap.size wr w7) := drw_belowD (B := wr.heap.size) hw7
            have HN := hide (bStepD HX.out HN7.out)
            rw [hw7]
            clear hw7
            have hb := keep_cell HN7.out hb
            go_wp2_with fail
            first
              | (go_roundw
                 case rel => exact ⟨i + 1, by omega, by go_num, HN.out⟩
                 case measure => (simp [intOf]; omega))
              | (refine ⟨⟨i + 1, by omega, by go_num, HN.out⟩, ?_⟩
                 simp [intOf]; omega)
          obtain ⟨q, rfl⟩ : ∃ q : Nat, xb = (q : Int) := ⟨xb.toNat, by omega⟩
          have hqp : q < ps.length := by omega
          have e1 : decide ((q : Int) < 0) = false := decide_eq_false (by omega)
          have e2 : decide ((ps.length : Int) ≤ (q : Int)) = false := decide_eq_false (by omega)
          have e2n : decide (ps.length ≤ q) = false := decide_eq_false (by omega)
          rcases hfur q rfl with rfl | ⟨rfl, hmo⟩
          · clear hlat hbd hfur
            go_wp2_with fail
            go_quiet (fail)
            obtain ⟨w7, hw7⟩ : ∃ W, wr.drewN nq = W := ⟨_, rfl⟩
            have HN7 : Hid (Below wr.heap.size wr w7) := drw_belowD (B := wr.heap.size) hw7
            have HN := hide (bStepD HX.out HN7.out)
            rw [hw7]
            clear hw7
            have ha := keep_cell HN7.out ha
            have hb := keep_cell HN7.out hb
            have hc := keep_cell HN7.out hc
            go_wp2_with fail
            go_quiet (fail)
            obtain ⟨w8, hw8⟩ : ∃ W, w7.drewN nq = W := ⟨_, rfl⟩
            have HN := hide (bStepD HN.out (drw_belowD (B := w7.heap.size) hw8))
            rw [hw8]
            clear hw8
            go_wp2_with fail
            first
              | (go_roundw
                 case rel => exact ⟨i + 1, by omega, by go_num, HN.out⟩
                 case measure => (simp [intOf]; omega))
              | (refine ⟨⟨i + 1, by omega, by go_num, HN.out⟩, ?_⟩
                 simp [intOf]; omega)
          · obtain ⟨bp, op, rfl, g7, g8, hp⟩ := (H2.out.below HR6.out).pyAt HX.out hqp
            obtain ⟨p, hpe⟩ : ∃ p, pyN ps q = p := ⟨_, rfl⟩
            rw [hpe] at hp hmo
            have e3 : decide (p.mo ≤ fu.mo) = false := decide_eq_false (by omega)
            have e4 : ((ps.length : Int) != (q : Int)) = true := by rw [bne_iff_ne]; omega
            have e4n : (ps.length != q) = true := by rw [bne_iff_ne]; omega
            have e5n : (ps.length == q) = false := by rw [beq_eq_false_iff_ne]; omega
            have hqI : (q : Int) < (ps.length : Int) := by omega
            have y3 : wr.cell? ⟨A, 3, none⟩ = some (.int .i64 fu.mo) := by
              have h := (HP0.out.keep HR6.out).keep HX.out
              unfold PyC at h
              simp only [Nat.zero_add] at h
              exact h.2.2.2
            have hp3 := hp.2.2.2
            clear hlat hbd hfur hmo hpe hp
            go_wp2_with fail
            go_quiet (fail)
            obtain ⟨w7, hw7⟩ : ∃ W, wr.drewN nq = W := ⟨_, rfl⟩
            have HN7 : Hid (Below wr.heap.size wr w7) := drw_belowD (B := wr.heap.size) hw7
            have HN := hide (bStepD HX.out HN7.out)
            rw [hw7]
            clear hw7
            have ha := keep_cell HN7.out ha
            have hb := keep_cell HN7.out hb
            have hc := keep_cell HN7.out hc
            have y3 := keep_cell HN7.out y3
            have hp3 := keep_cell HN7.out hp3
            go_wp2_with fail
            go_quiet (fail)
            obtain ⟨w8, hw8⟩ : ∃ W, w7.drewN nq = W := ⟨_, rfl⟩
            have HN := hide (bStepD HN.out (drw_belowD (B := w7.heap.size) hw8))
            rw [hw8]
            clear hw8
            go_wp2_with fail
            first
              | (go_roundw
                 case rel => exact ⟨i + 1, by omega, by go_num, HN.out⟩
                 case measure => (simp [intOf]; omega))
              | (refine ⟨⟨i + 1, by omega, by go_num, HN.out⟩, ?_⟩
                 simp [intOf]; omega)
      · obtain rfl : i = l.length := by omega
        go_wp2_with fail
        go_ret
        exact ⟨rfl, by rw [HAA.out]; exact HBA.out.trans ((bStepD HR6.out HX.out).mono HAZ.out)⟩
  refine step_apG Tryz.underlying27 Tryz.infoPy rfl (by decide) (by decide) vPy_len vPy_one rfl _ _ rfl w3.heap.size [] ps 0 ps.length (by omega) _ rfl (own_nilG vPy (by simp <;> omega) (by simp <;> omega)) _ rfl (HP3.out.below (by first | exact bAlloc (bDraw (Below.refl _ w3)) _ | exact bAlloc (bAlloc (bDraw (Below.refl _ w3)) _) _)) (by omega) (by simp <;> omega) ?_
  intro ao4 cap4 w4 ho4 hg4 hb4
  try rw [List.nil_append] at ho4
  have HO4 := hide ho4
  have HG4 := hide (grown_litG hg4)
  have HB4 : Hid (Below w3.heap.size w3 w4) := (by first | exact (bAlloc (bDraw (Below.refl _ w3)) _).trans hb4 | exact (bAlloc (bAlloc (bDraw (Below.refl _ w3)) _) _).trans hb4)
  clear ho4 hg4 hb4
  refine hK.out _ _ (HPX.out _ HB4.out) (fun hHeld => ?_)
  clear hK K
  try simp only [List.getElem_toArray, List.getElem_cons_zero, List.getElem_cons_succ, List.get, Act.put, List.setIfInBounds_toArray, List.set_cons_zero, List.set_cons_succ]
  refine wpAnyH_ready (rs := [5]) (by kernel_rfl) (by simp) ?_
  refine AllReadyH.cons (o := _) rfl (fun K hK => ?_) AllReadyH.nil
  go_simp
  refine hK.out _ _ (by first | exact HPX.out _ (bAlloc HB4.out _) | exact HPX.out _ (bAlloc (bDraw (Below.refl _ w3)) _) | exact HPX.out _ (bAlloc (bAlloc (bDraw (Below.refl _ w3)) _) _)) (fun hHeld => ?_)
  clear hK K
  try simp only [List.getElem_toArray, List.getElem_cons_zero, List.getElem_cons_succ, List.get, Act.put, List.setIfInBounds_toArray, List.set_cons_zero, List.set_cons_succ]
  refine wpAnyH_ready (rs := [6]) (by kernel_rfl) (by simp) ?_
  refine AllReadyH.cons (o := _) rfl (fun K hK => ?_) AllReadyH.nil
  refine step_apG Tryz.underlying27 Tryz.infoPy rfl (by decide) (by decide) vPy_len vPy_one rfl _ _ rfl w3.heap.size ps [fu] ps.length (ps.length + 1) rfl _ rfl (by first | exact HO4.out | exact HO4.out.alloc _) _ rfl (lit_py (by first | exact new_block _ _ | (refine (HG4.out.block _ (by simp <;> omega) (by simp <;> omega)).trans ?_; first | exact two_blk' _ _ _ | exact two_blk _ _ _))) (by omega) (by first | exact HB4.out.size | exact (bAlloc HB4.out _).size) ?_
  intro ao5 cap5 w5 ho5 hg5 hb5
  have HS5 : Hid (SliceOf vPy 4 w5 (.slice ao5 (ps.length + 1) cap5) (ps ++ [fu])) := OwnS.slice vPy_len (B := w3.heap.size) (by rw [List.length_append]; exact ho5)
  have HB5 : Hid (Below w3.heap.size w3 w5) := (by first | exact HB4.out.trans hb5 | exact (bAlloc HB4.out _).trans hb5)
  clear ho5 hg5 hb5 HG4
  refine hK.out _ _ (HPX.out _ HB5.out) (fun hHeld => ?_)
  clear hK K
  try simp only [List.getElem_toArray, List.getElem_cons_zero, List.getElem_cons_succ, List.get, Act.put, List.setIfInBounds_toArray, List.set_cons_zero, List.set_cons_succ]
  refine wpAnyH_ready (rs := [10]) (by kernel_rfl) (by simp) ?_
  refine AllReadyH.cons (o := _) rfl (fun K hK => ?_) AllReadyH.nil
  go_simp
  refine (HN3.out _ _ (btrans HB3.out HB3.out.size HB5.out) HS5.out).mono ?_
  rintro e w6 ⟨uc, rfl, hsc, hbc⟩
  have HC := hide hsc
  have HB6 := hide (btrans HB5.out HB5.out.size hbc)
  clear hsc hbc
  go_wp2_with fail
  refine hK.out _ _ (HPX.out _ HB6.out) (fun hHeld => ?_)
  clear hK K
  try simp only [List.getElem_toArray, List.getElem_cons_zero, List.getElem_cons_succ, List.get, Act.put, List.setIfInBounds_toArray, List.set_cons_zero, List.set_cons_succ]
  refine wpAnyH_take (i := 11) (oi := _) (v := ?_) rfl (by kernel_rfl) (by kernel_rfl) (by kernel_rfl) (fun _ _ _ h => h) (Or.inl ⟨by rfl, ?_⟩) (by assumption) ?_
  rotate_left
  · intro w hSw
    (try dsimp only at hSw)
    go_simp
    try with_reducible rfl
  try simp only [List.getElem_toArray, List.getElem_cons_zero, List.getElem_cons_succ, List.get, Act.put, List.setIfInBounds_toArray, List.set_cons_zero, List.set_cons_succ]
  refine wpAnyH_take (i := 12) (oi := _) (v := ?_) rfl (by kernel_rfl) (by kernel_rfl) (by kernel_rfl) (fun _ _ _ h => h) (Or.inl ⟨by rfl, ?_⟩) (by assumption) ?_
  rotate_left
  · intro w hSw
    (try dsimp only at hSw)
    go_simp
    try with_reducible rfl
  try simp only [List.getElem_toArray, List.getElem_cons_zero, List.getElem_cons_succ, List.get, Act.put, List.setIfInBounds_toArray, List.set_cons_zero, List.set_cons_succ]
  refine wpAnyH_take (i := 13) (oi := _) (v := ?_) rfl (by kernel_rfl) (by kernel_rfl) (by kernel_rfl) (fun _ _ _ h => h) (Or.inl ⟨by rfl, ?_⟩) (by assumption) ?_
  rotate_left
  · intro w hSw
    (try dsimp only at hSw)
    go_simp
    try with_reducible rfl
  try simp only [List.getElem_toArray, List.getElem_cons_zero, List.getElem_cons_succ, List.get, Act.put, List.setIfInBounds_toArray, List.set_cons_zero, List.set_cons_succ]
  refine wpAnyH_take (i := 14) (oi := _) (v := ?_) rfl (by kernel_rfl) (by kernel_rfl) (by kernel_rfl) (fun _ _ _ h => h) (Or.inl ⟨by rfl, ?_⟩) (by assumption) ?_
  rotate_left
  · intro w hSw
    (try dsimp only at hSw)
    go_simp
    try with_reducible rfl
  try simp only [List.getElem_toArray, List.getElem_cons_zero, List.getElem_cons_succ, List.get, Act.put, List.setIfInBounds_toArray, List.set_cons_zero, List.set_cons_succ]
  refine wpAnyH_take (i := 15) (oi := _) (v := ?_) rfl (by kernel_rfl) (by kernel_rfl) (by kernel_rfl) (fun _ _ _ h => h) (Or.inl ⟨by rfl, ?_⟩) (by assumption) ?_
  rotate_left
  · intro w hSw
    (try dsimp only at hSw)
    go_simp
    try with_reducible rfl
  try simp only [List.getElem_toArray, List.getElem_cons_zero, List.getElem_cons_succ, List.get, Act.put, List.setIfInBounds_toArray, List.set_cons_zero, List.set_cons_succ]
  refine wpAnyH_done (by kernel_rfl) ?_ _
  refine NoPanic.normal ?_
  clear hHeld HPX HP3 HO4 HB4 HB5 HS5
  obtain ⟨ac, cc, rfl⟩ := HC.out.shape
  rw [setL_len] at HC
  rw [setL_len]
  have HC6 := hide HC.out
  clear HC
  have HA6 := hide (HA.out.below HB6.out)
  have HB_6 := hide (HBB.out.below HB6.out)
  have HR6 := hide (btrans HB3.out HB3.out.size HB6.out)
  go_wp2_with fail
  go_loopw [18] (fun i wx => ∃ k : Nat, k ≤ l.length ∧ i = .int .i64 (k : Int) ∧ Below w6.heap.size w6 wx) (fun i _ => l.length - (intOf i).toNat)
  case atStart => exact ⟨0, Nat.zero_le _, rfl, Below.refl _ _⟩
  case round =>
    obtain ⟨i, hi, rfl, hbl⟩ := hrel
    have HX := hide hbl
    clear hbl
    by_cases hlt : i < l.length
    · have hiI : (i : Int) < (l.length : Int) := by omega
      have hi0 : (0 : Int) ≤ (i : Int) := by omega
      obtain ⟨ba, oa, rfl, g1, g2, ha⟩ := HA6.out.inAt (setL_len l ps m1) HX.out hlt
      obtain ⟨bb, ob, rfl, g3, g4, hb⟩ := HB_6.out.inAt (setL_len l ps m2) HX.out hlt
      rw [setL_getD hlt] at ha hb
      have hbd := bst_bd l[i] ps m2 ps.length
      have hlat : 0 ≤ bstN l[i] ps m1 ps.length → bstN l[i] ps m2 ps.length = bstN l[i] ps m1 ps.length := fun h => bst_later HMM.out h
      obtain ⟨bc, oc, rfl, g5, g6, hc⟩ := HC6.out.inAt (setL_len l (ps ++ [fu]) m2) HX.out hlt
      rw [setL_getD hlt] at hc
      have hfur : ∀ q : Nat, bstN l[i] ps m2 ps.length = (q : Int) → bstN l[i] (ps ++ [fu]) m2 (ps ++ [fu]).length = (q : Int) ∨ (bstN l[i] (ps ++ [fu]) m2 (ps ++ [fu]).length = (ps.length : Int) ∧ fu.mo < (pyN ps q).mo) := fun q h => bst_further h
      obtain ⟨xa, hxa⟩ : ∃ x, bstN l[i] ps m1 ps.length = x := ⟨_, rfl⟩
      obtain ⟨xb, hxb⟩ : ∃ x, bstN l[i] ps m2 ps.length = x := ⟨_, rfl⟩
      obtain ⟨xc, hxc⟩ : ∃ x, bstN l[i] (ps ++ [fu]) m2 (ps ++ [fu]).length = x := ⟨_, rfl⟩
      rw [hxa] at ha hlat
      rw [hxb] at hb hbd hlat hfur
      rw [hxc] at hc hfur
      clear hxa hxb hxc
      have HWR : Hid (Below wr.heap.size wr wr) := Below.refl _ _
      by_cases h0 : 0 ≤ xa
      · obtain rfl := hlat h0
        have e0 : decide (0 ≤ xb) = true := decide_eq_true h0
        have k0 : 0 ≤ xb := h0
        obtain ⟨q, rfl⟩ : ∃ q : Nat, xb = (q : Int) := ⟨xb.toNat, by omega⟩
        have hqp : q < ps.length := by omega
        have e1 : decide ((q : Int) < 0) = false := decide_eq_false (by omega)
        have e2 : decide ((ps.length : Int) ≤ (q : Int)) = false := decide_eq_false (by omega)
        have e2n : decide (ps.length ≤ q) = false := decide_eq_false (by omega)
        rcases hfur q rfl with rfl | ⟨rfl, hmo⟩
        · clear hlat hbd hfur
          go_wp2_with fail
          go_quiet (fail)
          obtain ⟨w7, hw7⟩ : ∃ W, wr.drewN nq = W := ⟨_, rfl⟩
          have HN7 : Hid (Below wr.heap.size wr w7) := drw_belowD (B := wr.heap.size) hw7
          have HN := hide (bStepD HX.out HN7.out)
          rw [hw7]
          clear hw7
          have ha := keep_cell HN7.out ha
          have hb := keep_cell HN7.out hb
          have hc := keep_cell HN7.out hc
          go_wp2_with fail
          go_quiet (fail)
          obtain ⟨w8, hw8⟩ : ∃ W, w7.drewN nq = W := ⟨_, rfl⟩
          have HN := hide (bStepD HN.out (drw_belowD (B := w7.heap.size) hw8))
          rw [hw8]
          clear hw8
          go_wp2_with fail
          first
            | (go_roundw
               case rel => exact ⟨i + 1, by omega, by go_num, HN.out⟩
               case measure => (simp [intOf]; omega))
            | (refine ⟨⟨i + 1, by omega, by go_num, HN.out⟩, ?_⟩
               simp [intOf]; omega)
        · obtain ⟨bp, op, rfl, g7, g8, hp⟩ := (H2.out.below HR6.out).pyAt HX.out hqp
          obtain ⟨p, hpe⟩ : ∃ p, pyN ps q = p := ⟨_, rfl⟩
          rw [hpe] at hp hmo
          have e3 : decide (p.mo ≤ fu.mo) = false := decide_eq_false (by omega)
          have e4 : ((ps.length : Int) != (q : Int)) = true := by rw [bne_iff_ne]; omega
          have e4n : (ps.length != q) = true := by rw [bne_iff_ne]; omega
          have e5n : (ps.length == q) = false := by rw [beq_eq_false_iff_ne]; omega
          have hqI : (q : Int) < (ps.length : Int) := by omega
          have y3 : wr.cell? ⟨A, 3, none⟩ = some (.int .i64 fu.mo) := by
            have h := (HP0.out.keep HR6.out).keep HX.out
            unfold PyC at h
            simp only [Nat.zero_add] at h
            exact h.2.2.2
          have hp3 := hp.2.2.2
          clear hlat hbd hfur hmo hpe hp
          go_wp2_with fail
          go_quiet (fail)
          obtain ⟨w7, hw7⟩ : ∃ W, wr.drewN nq = W := ⟨_, rfl⟩
          have HN7 : Hid (Below wr.heap.size wr w7) := drw_belowD (B := wr.heap.size) hw7
          have HN := hide (bStepD HX.out HN7.out)
          rw [hw7]
          clear hw7
          have ha := keep_cell HN7.out ha
          have hb := keep_cell HN7.out hb
          have hc := keep_cell HN7.out hc
          have y3 := keep_cell HN7.out y3
          have hp3 := keep_cell HN7.out hp3
          go_wp2_with fail
          go_quiet (fail)
          obtain ⟨w8, hw8⟩ : ∃ W, w7.drewN nq = W := ⟨_, rfl⟩
          have HN := hide (bStepD HN.out (drw_belowD (B := w7.heap.size) hw8))
          rw [hw8]
          clear hw8
          go_wp2_with fail
          first
            | (go_roundw
               case rel => exact ⟨i + 1, by omega, by go_num, HN.out⟩
               case measure => (simp [intOf]; omega))
            | (refine ⟨⟨i + 1, by omega, by go_num, HN.out⟩, ?_⟩
               simp [intOf]; omega)
      · have e0 : decide (0 ≤ xa) = false := decide_eq_false h0
        by_cases k0 : 0 ≤ xb
        case neg =>
          have e1 : decide (xb < 0) = true := decide_eq_true (by omega)
          clear hlat hbd hfur
          go_wp2_with fail
          go_quiet (fail)
          obtain ⟨w7, hw7⟩ : ∃ W, wr.drewN nq = W := ⟨_, rfl⟩
          have HN7 : Hid (Below wr.heap.size wr w7) := drw_belowD (B := wr.heap.size) hw7
          have HN := hide (bStepD HX.out HN7.out)
          rw [hw7]
          clear hw7
          have hb := keep_cell HN7.out hb
          go_wp2_with fail
          first
            | (go_roundw
               case rel => exact ⟨i + 1, by omega, by go_num, HN.out⟩
               case measure => (simp [intOf]; omega))
            | (refine ⟨⟨i + 1, by omega, by go_num, HN.out⟩, ?_⟩
               simp [intOf]; omega)
        obtain ⟨q, rfl⟩ : ∃ q : Nat, xb = (q : Int) := ⟨xb.toNat, by omega⟩
        have hqp : q < ps.length := by omega
        have e1 : decide ((q : Int) < 0) = false := decide_eq_false (by omega)
        have e2 : decide ((ps.length : Int) ≤ (q : Int)) = false := decide_eq_false (by omega)
        have e2n : decide (ps.length ≤ q) = false := decide_eq_false (by omega)
        rcases hfur q rfl with rfl | ⟨rfl, hmo⟩
        · clear hlat hbd hfur
          go_wp2_with fail
          go_quiet (fail)
          obtain ⟨w7, hw7⟩ : ∃ W, wr.drewN nq = W := ⟨_, rfl⟩
          have HN7 : Hid (Below wr.heap.size wr w7) := drw_belowD (B := wr.heap.size) hw7
          have HN := hide (bStepD HX.out HN7.out)
          rw [hw7]
          clear hw7
          have ha := keep_cell HN7.out ha
          have hb := keep_cell HN7.out hb
          have hc := keep_cell HN7.out hc
          go_wp2_with fail
          go_quiet (fail)
          obtain ⟨w8, hw8⟩ : ∃ W, w7.drewN nq = W := ⟨_, rfl⟩
          have HN := hide (bStepD HN.out (drw_belowD (B := w7.heap.size) hw8))
          rw [hw8]
          clear hw8
          go_wp2_with fail
          first
            | (go_roundw
               case rel => exact ⟨i + 1, by omega, by go_num, HN.out⟩
               case measure => (simp [intOf]; omega))
            | (refine ⟨⟨i + 1, by omega, by go_num, HN.out⟩, ?_⟩
               simp [intOf]; omega)
        · obtain ⟨bp, op, rfl, g7, g8, hp⟩ := (H2.out.below HR6.out).pyAt HX.out hqp
          obtain ⟨p, hpe⟩ : ∃ p, pyN ps q = p := ⟨_, rfl⟩
          rw [hpe] at hp hmo
          have e3 : decide (p.mo ≤ fu.mo) = false := decide_eq_false (by omega)
          have e4 : ((ps.length : Int) != (q : Int)) = true := by rw [bne_iff_ne]; omega
          have e4n : (ps.length != q) = true := by rw [bne_iff_ne]; omega
          have e5n : (ps.length == q) = false := by rw [beq_eq_false_iff_ne]; omega
          have hqI : (q : Int) < (ps.length : Int) := by omega
          have y3 : wr.cell? ⟨A, 3, none⟩ = some (.int .i64 fu.mo) := by
            have h := (HP0.out.keep HR6.out).keep HX.out
            unfold PyC at h
            simp only [Nat.zero_add] at h
            exact h.2.2.2
          have hp3 := hp.2.2.2
          clear hlat hbd hfur hmo hpe hp
          go_wp2_with fail
          go_quiet (fail)
          obtain ⟨w7, hw7⟩ : ∃ W, wr.drewN nq = W := ⟨_, rfl⟩
          have HN7 : Hid (Below wr.heap.size wr w7) := drw_belowD (B := wr.heap.size) hw7
          have HN := hide (bStepD HX.out HN7.out)
          rw [hw7]
          clear hw7
          have ha := keep_cell HN7.out ha
          have hb := keep_cell HN7.out hb
          have hc := keep_cell HN7.out hc
          have y3 := keep_cell HN7.out y3
          have hp3 := keep_cell HN7.out hp3
          go_wp2_with fail
          go_quiet (fail)
          obtain ⟨w8, hw8⟩ : ∃ W, w7.drewN nq = W := ⟨_, rfl⟩
          have HN := hide (bStepD HN.out (drw_belowD (B := w7.heap.size) hw8))
          rw [hw8]
          clear hw8
          go_wp2_with fail
          first
            | (go_roundw
               case rel => exact ⟨i + 1, by omega, by go_num, HN.out⟩
               case measure => (simp [intOf]; omega))
            | (refine ⟨⟨i + 1, by omega, by go_num, HN.out⟩, ?_⟩
               simp [intOf]; omega)
    · obtain rfl : i = l.length := by omega
      go_wp2_with fail
      go_ret
      exact ⟨rfl, by rw [HAA.out]; exact HBA.out.trans ((bStepD HR6.out HX.out).mono HAZ.out)⟩
end Go.Proofs.YtlagoiaiodjmhaaGreatDoor
