/- The laws of layer 6: FieldInterpolates. -/
import Derived.Test.YtahlhiiekgnmpabFldT
namespace Go.Proofs.Ytahlhiiekgnmpab
open Go.RowKit

theorem pts_len (cs ys : List FP) : (ptsOf cs ys).length = ys.length := by simp [ptsOf]
theorem pts_x {cs ys : List FP} {k : Nat} (h : k < ys.length) : px (ptsOf cs ys) k = ys[k] ∧ py (ptsOf cs ys) k = evalP cs ys[k] := by
  have h' : k < (ptsOf cs ys).length := by rw [pts_len]; exact h
  rw [← px_at h', ← py_at h']
  simp [ptsOf]
theorem pts_dst {cs ys : List FP} (h : difB (ys.map va) = true) : dstB (ptsOf cs ys) = true := by
  unfold difB at h
  unfold dstB
  rw [decide_eq_true_iff] at h ⊢
  have e : (ptsOf cs ys).map Prod.fst = ys := by
    unfold ptsOf
    rw [List.map_map]
    conv => rhs; rw [← List.map_id ys]
    exact List.map_congr_left fun _ _ => rfl
  rw [e]
  rw [List.nodup_iff_pairwise_ne] at h ⊢
  rw [List.pairwise_map] at h
  exact h.imp fun hne e => hne (by rw [e])
theorem pts_ip {cs ys : List FP} {x : FP} (hd : difB (ys.map va) = true) (h0 : 0 < ys.length) (h1 : ys.length ≤ 16) (hc : cs.length ≤ ys.length) :
    ipV ((ptsOf cs ys).map va2) (va x) = va (evalP cs x) ∧ ipE ((ptsOf cs ys).map va2) (va x) = 0 := by
  have l := pts_len cs ys
  obtain ⟨e1, e2⟩ := ip_va (x := x) (ps := ptsOf cs ys) (by omega) (by omega)
  have hd2 := pts_dst (cs := cs) hd
  rw [e1, e2, (itV_dst hd2 x).2]
  refine ⟨it_poly (by omega) hd2 (by omega) (fun k hk => ?_) x, rfl⟩
  rw [l] at hk
  rw [(pts_x hk).1, (pts_x hk).2]

set_option maxHeartbeats 2000000 in
set_option maxRecDepth 100000 in
theorem fieldInterp_yes (cs ys : List FP) (x : FP) (vc vy : Value) (w : World) (hc : SliceOf vI 1 w vc (cs.map va)) (hy : SliceOf vI 1 w vy (ys.map va)) (hd : difB (ys.map va) = true) (h0 : 0 < ys.length) (h1 : ys.length ≤ 16) (hl : cs.length ≤ ys.length) :
    Calls Try.prog 6 #[vc, vy, .int .i64 (va x)] w fun e w' => e = .returned (.bool true) ∧ Below w.heap.size w w' := by
  obtain ⟨e1, e2⟩ := pts_ip (x := x) hd h0 h1 hl
  have E := hide (⟨e1, e2⟩ : _ ∧ _)
  have H1 := hide h1
  clear e1 e2
  obtain ⟨ao, cp, rfl⟩ := (slice_va hc).shape
  obtain ⟨bo, cq, rfl⟩ := (slice_va hy).shape
  have HP := hide hc
  have HY := hide hy
  have HD := hide hd
  clear hc hy hd
  have g1 : (1 : Int) ≤ (ys.length : Int) := by omega
  have g2 : (ys.length : Int) ≤ 16 := by omega
  have g3 : (cs.length : Int) ≤ (ys.length : Int) := by omega
  clear h0 h1
  go_enter Try.func6, Try.ntmps6
  go_wp2_with fail
  refine (law06_head _).mono ?_
  rintro e w1 ⟨rfl, hb⟩
  replace HP := hide (HP.out.below hb)
  replace HY := hide (HY.out.below hb)
  have B := hide hb
  clear hb
  go_wp2_with fail
  refine (law06_in_at _ true _ _ HP.out (allF_va _)).mono ?_
  rintro e w' ⟨rfl, rfl⟩
  go_wp2_with fail
  refine (law06_in_at _ true _ _ HY.out (allF_va _)).mono ?_
  rintro e w' ⟨rfl, rfl⟩
  go_wp2_with fail
  have hs : SliceOf vI 1 (w1.alloc (.cells #[.int .i64 (va x)] 3)) (.slice (some ⟨w1.heap.size, 0, none⟩) 1 1) ([x].map va) := slice_lit vI_len w1 ([x].map va) 3 (by simp [maxLen])
  refine (law06_in_at _ true _ _ hs (allF_va _)).mono ?_
  rintro e w' ⟨rfl, rfl⟩
  have hb := bAlloc (Below.refl _ w1) (.cells #[.int .i64 (va x)] 3)
  obtain ⟨w2, hw2⟩ : ∃ w2, w1.alloc (.cells #[.int .i64 (va x)] 3) = w2 := ⟨_, rfl⟩
  rw [hw2] at hb ⊢
  replace HP := hide (HP.out.below hb)
  replace HY := hide (HY.out.below hb)
  replace B := hide (bstep B.out hb)
  clear hs hw2 hb
  go_wp2_with fail
  refine (law06_different_at _ true _ _ HY.out HD.out).mono ?_
  rintro e w3 ⟨rfl, n, rfl⟩
  have hb := below_drewN (Below.refl w2.heap.size w2) n
  replace HP := hide (HP.out.below hb)
  replace HY := hide (HY.out.below hb)
  replace B := hide (bstep B.out hb)
  clear hb
  go_wp2_with fail
  refine (law06_points cs ys _ _ _ HP.out HY.out (by have := H1.out; omega) H1.out).mono ?_
  rintro e w4 ⟨u, rfl, hu, hb⟩
  replace HP := hide (HP.out.below hb)
  replace B := hide (bstep B.out hb)
  have HU := hide hu
  clear hb hu
  go_wp2_with fail
  refine (fld_eval_ok cs x _ _ HP.out (by have := H1.out; omega)).mono ?_
  rintro e w' ⟨rfl, rfl⟩
  go_wp2_with fail
  refine (fld_ip_at ((ptsOf cs ys).map va2) (va x) (va (evalP cs x)) 0 _ _ (slice_av2 HU.out) E.out).mono ?_
  rintro e w5 ⟨rfl, hb⟩
  replace B := hide (bstep B.out hb)
  clear hb
  go_wp2_with fail
  go_ret
  exact ⟨rfl, B.out⟩

set_option maxHeartbeats 2000000 in
set_option maxRecDepth 100000 in
theorem fieldInterp_no (cs ys : List Int) (x : Int) (vc vy : Value) (w : World) (hc : SliceOf vI 1 w vc cs) (hy : SliceOf vI 1 w vy ys) (p1 p2 p3 : Bool) (q1 : allF cs = p1) (q2 : allF ys = p2) (q3 : allF [x] = p3)
    (g1 : (1 : Int) ≤ (ys.length : Int)) (g2 : (ys.length : Int) ≤ 16) (g3 : (cs.length : Int) ≤ (ys.length : Int)) (h : p1 = false ∨ (p1 = true ∧ p2 = false) ∨ (p1 = true ∧ p2 = true ∧ p3 = false) ∨ (p1 = true ∧ p2 = true ∧ p3 = true ∧ difB ys = false)) :
    Calls Try.prog 6 #[vc, vy, .int .i64 x] w fun e w' => e = .returned (.bool true) ∧ Below w.heap.size w w' := by
  obtain ⟨ao, cp, rfl⟩ := hc.shape
  obtain ⟨bo, cq, rfl⟩ := hy.shape
  have HP := hide hc
  have HY := hide hy
  have Q1 := hide q1
  have Q2 := hide q2
  have Q3 := hide q3
  clear hc hy q1 q2 q3
  rcases h with rfl | ⟨rfl, rfl⟩ | ⟨rfl, rfl, rfl⟩ | ⟨rfl, rfl, rfl, h4⟩
  · go_enter Try.func6, Try.ntmps6
    go_wp2_with fail
    refine (law06_head _).mono ?_
    rintro e w1 ⟨rfl, hb⟩
    replace HP := hide (HP.out.below hb)
    have B := hide hb
    clear hb
    go_wp2_with fail
    refine (law06_in_at _ _ _ _ HP.out Q1.out).mono ?_
    rintro e w' ⟨rfl, rfl⟩
    go_wp2_with fail
    go_ret
    exact ⟨rfl, B.out⟩
  · go_enter Try.func6, Try.ntmps6
    go_wp2_with fail
    refine (law06_head _).mono ?_
    rintro e w1 ⟨rfl, hb⟩
    replace HP := hide (HP.out.below hb)
    replace HY := hide (HY.out.below hb)
    have B := hide hb
    clear hb
    go_wp2_with fail
    refine (law06_in_at _ _ _ _ HP.out Q1.out).mono ?_
    rintro e w' ⟨rfl, rfl⟩
    go_wp2_with fail
    refine (law06_in_at _ _ _ _ HY.out Q2.out).mono ?_
    rintro e w' ⟨rfl, rfl⟩
    go_wp2_with fail
    go_ret
    exact ⟨rfl, B.out⟩
  · go_enter Try.func6, Try.ntmps6
    go_wp2_with fail
    refine (law06_head _).mono ?_
    rintro e w1 ⟨rfl, hb⟩
    replace HP := hide (HP.out.below hb)
    replace HY := hide (HY.out.below hb)
    have B := hide hb
    clear hb
    go_wp2_with fail
    refine (law06_in_at _ _ _ _ HP.out Q1.out).mono ?_
    rintro e w' ⟨rfl, rfl⟩
    go_wp2_with fail
    refine (law06_in_at _ _ _ _ HY.out Q2.out).mono ?_
    rintro e w' ⟨rfl, rfl⟩
    go_wp2_with fail
    refine (law06_in_at _ _ _ _ (slice_lit vI_len w1 [x] 3 (by simp [maxLen])) Q3.out).mono ?_
    rintro e w' ⟨rfl, rfl⟩
    go_wp2_with fail
    go_ret
    exact ⟨rfl, bAlloc B.out _⟩
  · have H4 := hide h4
    clear h4
    go_enter Try.func6, Try.ntmps6
    go_wp2_with fail
    refine (law06_head _).mono ?_
    rintro e w1 ⟨rfl, hb⟩
    replace HP := hide (HP.out.below hb)
    replace HY := hide (HY.out.below hb)
    have B := hide hb
    clear hb
    go_wp2_with fail
    refine (law06_in_at _ _ _ _ HP.out Q1.out).mono ?_
    rintro e w' ⟨rfl, rfl⟩
    go_wp2_with fail
    refine (law06_in_at _ _ _ _ HY.out Q2.out).mono ?_
    rintro e w' ⟨rfl, rfl⟩
    go_wp2_with fail
    refine (law06_in_at _ _ _ _ (slice_lit vI_len w1 [x] 3 (by simp [maxLen])) Q3.out).mono ?_
    rintro e w' ⟨rfl, rfl⟩
    go_wp2_with fail
    refine (law06_different_at _ _ _ _ (HY.out.below (bAlloc (Below.refl _ w1) _)) H4.out).mono ?_
    rintro e w3 ⟨rfl, n, rfl⟩
    go_wp2_with fail
    go_ret
    exact ⟨rfl, below_drewN (bAlloc B.out _) n⟩
theorem fieldInterp_len (cs ys : List Int) (x : Int) (vc vy : Value) (w : World) (hc : SliceOf vI 1 w vc cs) (hy : SliceOf vI 1 w vy ys)
    (h : (ys.length : Int) < 1 ∨ ((1 : Int) ≤ (ys.length : Int) ∧ (16 : Int) < (ys.length : Int)) ∨ ((1 : Int) ≤ (ys.length : Int) ∧ (ys.length : Int) ≤ 16 ∧ (ys.length : Int) < (cs.length : Int))) :
    Calls Try.prog 6 #[vc, vy, .int .i64 x] w fun e w' => e = .returned (.bool true) ∧ Below w.heap.size w w' := by
  obtain ⟨ao, cp, rfl⟩ := hc.shape
  obtain ⟨bo, cq, rfl⟩ := hy.shape
  clear hc hy
  rcases h with h | ⟨h0, h1⟩ | ⟨h0, h1, h2⟩
  all_goals
    go_enter Try.func6, Try.ntmps6
    go_wp2_with fail
    refine (law06_head _).mono ?_
    rintro e w1 ⟨rfl, hb⟩
    go_wp2_with fail
    go_ret
    exact ⟨rfl, hb⟩
theorem fieldInterp_walk (cs ys : List Int) (x : Int) (vc vy : Value) (w : World) (hc : SliceOf vI 1 w vc cs) (hy : SliceOf vI 1 w vy ys) :
    Calls Try.prog 6 #[vc, vy, .int .i64 x] w fun e w' => e = .returned (.bool true) ∧ Below w.heap.size w w' := by
  by_cases g1 : (1 : Int) ≤ (ys.length : Int)
  · by_cases g2 : (ys.length : Int) ≤ 16
    · by_cases g3 : (cs.length : Int) ≤ (ys.length : Int)
      · rcases Bool.eq_false_or_eq_true (allF cs) with q1 | q1
        · rcases Bool.eq_false_or_eq_true (allF ys) with q2 | q2
          · rcases Bool.eq_false_or_eq_true (allF [x]) with q3 | q3
            · rcases Bool.eq_false_or_eq_true (difB ys) with q4 | q4
              · obtain ⟨cf, rfl⟩ := allF_el q1
                obtain ⟨yf, rfl⟩ := allF_el q2
                obtain ⟨xf, rfl⟩ := inF_el (a := x) (by simpa [allF] using q3)
                rw [List.length_map] at g1 g2 g3
                rw [List.length_map] at g3
                exact fieldInterp_yes cf yf xf vc vy w hc hy q4 (by omega) (by omega) (by omega)
              · exact fieldInterp_no cs ys x vc vy w hc hy _ _ _ q1 q2 q3 g1 g2 g3 (.inr (.inr (.inr ⟨rfl, rfl, rfl, q4⟩)))
            · exact fieldInterp_no cs ys x vc vy w hc hy _ _ _ q1 q2 q3 g1 g2 g3 (.inr (.inr (.inl ⟨rfl, rfl, rfl⟩)))
          · exact fieldInterp_no cs ys x vc vy w hc hy _ _ _ q1 q2 rfl g1 g2 g3 (.inr (.inl ⟨rfl, rfl⟩))
        · exact fieldInterp_no cs ys x vc vy w hc hy _ _ _ q1 rfl rfl g1 g2 g3 (.inl rfl)
      · exact fieldInterp_len cs ys x vc vy w hc hy (.inr (.inr ⟨g1, g2, by omega⟩))
    · exact fieldInterp_len cs ys x vc vy w hc hy (.inr (.inl ⟨g1, by omega⟩))
  · exact fieldInterp_len cs ys x vc vy w hc hy (.inl (by omega))
end Go.Proofs.Ytahlhiiekgnmpab
