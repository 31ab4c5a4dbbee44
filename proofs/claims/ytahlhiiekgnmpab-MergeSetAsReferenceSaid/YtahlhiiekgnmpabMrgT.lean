/- Reference 38: Set.Add. -/
import Derived.Test.YtahlhiiekgnmpabMrgS
namespace Go.Proofs.Ytahlhiiekgnmpab
open Go.RowKit

theorem grpOf_lt {rt : Nat → Nat} {n r x : Nat} (h : x ∈ grpOf rt n r) : x < n ∧ rt x = r := by
  have := List.mem_filter.1 h
  exact ⟨by simpa using this.1, by simpa using this.2⟩
theorem grpOf_cnt (rt : Nat → Nat) (n r : Nat) : (grpOf rt n r).length = cnt n rt r := by
  unfold grpOf cnt
  rw [List.countP_eq_length_filter]
  congr 1
/-- The rows' last elements: only the row of the last one ends with it. -/
theorem row_last {rt : Nat → Nat} {n q : Nat} (hq : q < (gK rt (n + 1)).length) : 0 < (gK rt (n + 1))[q].length ∧ ((gK rt (n + 1))[q][(gK rt (n + 1))[q].length - 1]? = some (n : Int) ↔ rt n = rt ((firsts rt (n + 1))[q]'(by rw [← gK_len]; exact hq))) := by
  have hq' : q < (firsts rt (n + 1)).length := by rw [← gK_len]; exact hq
  have hg := gK_get rt hq'
  rw [List.getElem?_eq_getElem hq] at hg
  have hg' : (gK rt (n + 1))[q] = asI (grpOf rt (n + 1) (rt (firsts rt (n + 1))[q])) := by simpa using hg
  rw [hg']
  have hf := firsts_get rt hq'
  have hm : (firsts rt (n + 1))[q] ∈ grpOf rt (n + 1) (rt (firsts rt (n + 1))[q]) := List.mem_filter.2 ⟨by simpa using hf.1, by simp⟩
  obtain ⟨r, hr⟩ : ∃ r, rt (firsts rt (n + 1))[q] = r := ⟨_, rfl⟩
  rw [hr] at hm ⊢
  have hpos : 0 < (grpOf rt (n + 1) r).length := List.length_pos_of_mem hm
  refine ⟨by rw [asI_len]; exact hpos, ?_⟩
  constructor
  · intro h
    by_cases e : rt n = r
    · exact e
    · rw [grpOf_no rt e, asI_len] at h
      unfold asI at h
      rw [List.getElem?_map] at h
      cases hx : (grpOf rt n r)[(grpOf rt n r).length - 1]? with
      | none => rw [hx] at h; cases h
      | some x =>
        rw [hx] at h
        have h1 : (x : Int) = (n : Int) := by simpa using h
        have h2 := (grpOf_lt (List.mem_of_getElem? hx)).1
        omega
  · intro e
    rw [grpOf_yes rt e, asI_len, asI_snoc]
    simp [asI]
theorem row_ex (rt : Nat → Nat) (n : Nat) : ∃ q, ∃ h : q < (firsts rt (n + 1)).length, rt n = rt (firsts rt (n + 1))[q] := by
  have hm : ∃ f ∈ firsts rt (n + 1), rt f = rt n := by
    rcases Bool.eq_false_or_eq_true (firstB rt n) with hb | hb
    · exact ⟨n, List.mem_filter.2 ⟨by simp, hb⟩, rfl⟩
    · obtain ⟨f, h1, h2, h3⟩ := first_of rt hb
      exact ⟨f, List.mem_filter.2 ⟨by simp; omega, h2⟩, h3⟩
  obtain ⟨f, h1, h2⟩ := hm
  obtain ⟨q, h3, h4⟩ := List.getElem_of_mem h1
  exact ⟨q, h3, by rw [h4]; exact h2.symm⟩
theorem row_size {rt : Nat → Nat} {n q : Nat} (hq : q < (gK rt (n + 1)).length) (h : (gK rt (n + 1))[q][(gK rt (n + 1))[q].length - 1]? = some (n : Int)) : (gK rt (n + 1))[q].length = cnt (n + 1) rt (rt n) := by
  have h1 := (row_last hq).2.1 h
  have hq' : q < (firsts rt (n + 1)).length := by rw [← gK_len]; exact hq
  have hg := gK_get rt hq'
  rw [List.getElem?_eq_getElem hq] at hg
  have hg' : (gK rt (n + 1))[q] = asI (grpOf rt (n + 1) (rt (firsts rt (n + 1))[q])) := by simpa using hg
  rw [hg', asI_len, grpOf_cnt, h1]
theorem cnt_congr {rt rt' : Nat → Nat} {n i : Nat} (h : ∀ x y, x < n → y < n → (rt x = rt y ↔ rt' x = rt' y)) (hi : i < n) : cnt n rt (rt i) = cnt n rt' (rt' i) := by
  unfold cnt
  refine List.countP_congr fun x hx => ?_
  have hx' : x < n := by simpa using hx
  rw [decide_eq_true_iff, decide_eq_true_iff]
  exact h x i hx' hi

def RAddPost (w : World) (R B : Nat) (v : Value) (win : Int) (l : List Al) (a : Al) (e : Ending) (w' : World) : Prop :=
  ∃ v' rt, e = .returned (.tuple #[.int .i64 (cnt (l.length + 1) rt (rt l.length) : Int), .int .i64 0]) ∧ (∀ x y, x < (l ++ [a]).length → y < (l ++ [a]).length → (rt x = rt y ↔ Conn (adj win (l ++ [a])) x y)) ∧ RSet w' R B v' win (l ++ [a]) ∧ Only2 w w' R v.ownBlock ∧ (∀ k, v'.ownBlock = some k → v.ownBlock = some k ∨ w.heap.size ≤ k)

set_option maxHeartbeats 4000000 in
set_option maxRecDepth 100000 in
theorem ref38_add_ok (R B : Nat) (v : Value) (win : Int) (l : List Al) (a : Al) (w : World) (hI : RSet w R B v win l) (hv : allVB l = true) (ha : valB a = true) (hl : l.length < 200) (hw : momB win = true) :
    Calls Try.prog 32 #[.pointer (some ⟨R, 0, none⟩), .agg #[.int .i64 a.tile, .int .i64 a.cell, .int .i64 a.flt, .int .i64 a.val, .int .i64 a.at_]] w (RAddPost w R B v win l a) := by
  obtain ⟨i0, hi, hz0, hz1, hz2⟩ := info_parts Try.infoAl
  have HVA : Hid (allVB (l ++ [a]) = true) := by
    show allVB _ = true
    unfold allVB at hv ⊢
    rw [List.all_append, hv]; simp [ha]
  have HVB := hide ha
  have HW := hide hw
  have HI := hide hI
  obtain ⟨ao, cp, rfl⟩ : ∃ ao cp, v = .slice ao l.length cp := by
    rcases hI.own.2 with ⟨ao, h1, h2, _⟩ | ⟨g, off, cap, h1, _⟩
    · exact ⟨ao, 0, by rw [h1, h2]⟩
    · exact ⟨_, _, h1⟩
  have c1 := hI.al
  have hl200 : ((l.length : Int) == 200) = false := beq_eq_false_iff_ne.2 (by omega)
  clear hI hv ha hw
  have HB0 := hide (ba w (.cells #[.int .i64 a.tile, .int .i64 a.cell, .int .i64 a.flt, .int .i64 a.val, .int .i64 a.at_] 57))
  go_enter Try.func32, Try.ntmps32
  go_wp2_with fail
  refine (ref38_valid a true _ HVB.out).mono ?_
  rintro e w1 ⟨rfl, hb1⟩
  have B1 := hide (bstep' HB0.out hb1)
  have x0 : w1.cell? ⟨w.heap.size, 0, none⟩ = some (.int .i64 a.tile) := keep_cell hb1 (by simp [go_sem])
  have x1 : w1.cell? ⟨w.heap.size, 1, none⟩ = some (.int .i64 a.cell) := keep_cell hb1 (by simp [go_sem])
  have x2 : w1.cell? ⟨w.heap.size, 2, none⟩ = some (.int .i64 a.flt) := keep_cell hb1 (by simp [go_sem])
  have x3 : w1.cell? ⟨w.heap.size, 3, none⟩ = some (.int .i64 a.val) := keep_cell hb1 (by simp [go_sem])
  have x4 : w1.cell? ⟨w.heap.size, 4, none⟩ = some (.int .i64 a.at_) := keep_cell hb1 (by simp [go_sem])
  have HI1 := hide (HI.out.below B1.out)
  have k1 := HI1.out.al
  clear c1 hb1 HB0
  go_wp2_with fail
  have HIW := hide (HI1.out.below (bDraw (ba w1 (.cells #[.int .i64 a.tile, .int .i64 a.cell, .int .i64 a.flt, .int .i64 a.val, .int .i64 a.at_] 57))))
  have HOW := hide HIW.out.own
  have k1a := (HI1.out.below (ba w1 (.cells #[.int .i64 a.tile, .int .i64 a.cell, .int .i64 a.flt, .int .i64 a.val, .int .i64 a.at_] 57))).al
  have HX : Hid (((w1.alloc (.cells #[.int .i64 a.tile, .int .i64 a.cell, .int .i64 a.flt, .int .i64 a.val, .int .i64 a.at_] 57)).drew).heap[w1.heap.size]? = some (.cells #[.int .i64 a.tile, .int .i64 a.cell, .int .i64 a.flt, .int .i64 a.val, .int .i64 a.at_] 57 (0, 0))) := new_block w1 _
  have H1 : Hid (∀ u ∈ (#[Value.int .i64 a.tile, Value.int .i64 a.cell, Value.int .i64 a.flt, Value.int .i64 a.val, Value.int .i64 a.at_] : Array Value).toList, u.oneCell' = true) := by
    intro u hu
    simp at hu
    rcases hu with rfl | rfl | rfl | rfl | rfl <;> rfl
  have HSZ := hide HIW.out.base
  have hbytes : (l.length + 1) * 40 ≤ 140737488355328 := by omega
  have HNE : Hid (some R ≠ (Value.slice ao l.length cp).ownBlock) := fun e => by
    have h1 := (HI.out.own.lt R e.symm).1
    have h2 := HI.out.RB
    omega
  go_region_law (refine step_appendS rfl _ _ 42 rfl B 57 i0 (.agg #[.int .i64 0, .int .i64 0, .int .i64 0, .int .i64 0, .int .i64 0]) 5 40 Try.underlying42 hi hz0 hz1 hz2 rfl (by decide) _ l.length (flatV vAl l) rfl HOW.out w1.heap.size #[.int .i64 a.tile, .int .i64 a.cell, .int .i64 a.flt, .int .i64 a.val, .int .i64 a.at_] 57 1 rfl HX.out rfl H1.out hbytes (by decide) HSZ.out ?_; intro g off2 cap2 w4 hown4 hg4 hat4; have e4 := hg4.block R HIW.out.lt HNE.out; have k4 := (World.cell?_of_block (w' := w4) (a := ⟨R, 1, none⟩) e4).trans HIW.out.al; have f4 := (World.frozen?_of_block (w' := w4) (a := ⟨R, 1, none⟩) e4).trans (HIW.out.fr 1 (by omega)))
  all_goals
    have HIS : Hid (RSet (w4.setCell ⟨R, 1, none⟩ (.slice (some ⟨g, off2, none⟩) (l.length + 1) cap2)) R B (.slice (some ⟨g, off2, none⟩) (l.length + 1) cap2) win (l ++ [a])) := by
      refine ⟨?_, World.cell?_setCell_same _ _ _ k4, fun o ho => ?_, ?_, HI.out.RB, ?_⟩
      · rw [World.cell?_setCell_other _ _ _ _ (by intro e; injection e; omega)]
        exact (World.cell?_of_block (w' := w4) (a := ⟨R, 0, none⟩) e4).trans HIW.out.win_
      · rw [World.frozen?_setCell]
        exact (World.frozen?_of_block (w' := w4) (a := ⟨R, o, none⟩) e4).trans (HIW.out.fr o ho)
      · have h1 := OwnS.setCell hown4 (p := ⟨R, 1, none⟩) HI.out.RB (.slice (some ⟨g, off2, none⟩) (l.length + 1) cap2)
        rw [flatV_append, flatV_one, List.length_append]
        exact h1
      · have h1 := hg4.size
        have h2 := HSZ.out
        simp only [World.size_setCell]; omega
    have HO4 : Hid (Only2 w (w4.setCell ⟨R, 1, none⟩ (.slice (some ⟨g, off2, none⟩) (l.length + 1) cap2)) R (Value.slice ao l.length cp).ownBlock) :=
      (Only2.of_grown (bstep' B1.out (bDraw (ba w1 _))) hg4).setCell 1 _
    have HAT : Hid (∀ k, (Value.slice (some ⟨g, off2, none⟩) (l.length + 1) cap2).ownBlock = some k → (Value.slice ao l.length cp).ownBlock = some k ∨ w.heap.size ≤ k) := by
      intro k hk
      obtain rfl : g = k := by simpa [Value.ownBlock] using hk
      rcases hat4 with h | h
      · exact .inl h
      · exact .inr (Nat.le_trans B1.out.size (Nat.le_trans (by simp) h))
    clear hown4 hg4 hat4 e4 k4 f4 x0 x1 x2 x3 x4 k1 k1a HOW HIW HX HI1 H1 hbytes HSZ HNE B1
    go_wp2_with fail
    refine (ref38_setGroups R B _ win (l ++ [a]) _ HIS.out HVA.out (by simp; omega) HW.out).mono ?_
    rintro e w6 ⟨u, M, rfl, hss, hb6, hok⟩
    have he := gErr_ok (win := win) (l := l ++ [a]) (by simp; omega) HW.out (allVB_iff.1 HVA.out)
    obtain ⟨rt, hcn, hM⟩ := hok.1 he
    have hlen : (l ++ [a]).length = l.length + 1 := by simp
    have HCN := hide hcn
    rw [hlen] at hM
    have HRL : Hid (∀ q (hq : q < M.length), 0 < M[q].length ∧ (M[q][M[q].length - 1]? = some (l.length : Int) → M[q].length = cnt (l.length + 1) rt (rt l.length))) := by
      subst hM
      exact fun q hq => ⟨(row_last hq).1, fun h => row_size hq h⟩
    have HEX : Hid (∃ q, ∃ h : q < M.length, M[q][M[q].length - 1]? = some (l.length : Int)) := by
      subst hM
      obtain ⟨q, hq, e⟩ := row_ex rt l.length
      exact ⟨q, by rw [gK_len]; exact hq, (row_last (by rw [gK_len]; exact hq)).2.2 e⟩
    have HR6 := hide (HIS.out.below hb6)
    have HO6 := hide (HO4.out.grow (grown_below hb6))
    have c6 := HR6.out.al
    obtain ⟨mo, mc, rfl⟩ := hss.shape
    have HM := hide hss.at_
    clear hss hb6 hok he hcn hM HIS HO4
    go_wp2_with fail
    have HN0 : Hid (∀ q (h : q < M.length), q < 0 → M[q][M[q].length - 1]? ≠ some (l.length : Int)) := fun q _ h => absurd h (Nat.not_lt_zero q)
    go_loopw [7] (fun i wx => ∃ k n : Nat, k ≤ M.length ∧ i = .int .i64 k ∧ wx = w6.drewN n ∧ ∀ q (h : q < M.length), q < k → M[q][M[q].length - 1]? ≠ some (l.length : Int)) (fun i _ => M.length - (intOf i).toNat)
    case atStart => exact ⟨0, 0, Nat.zero_le _, rfl, rfl, HN0.out⟩
    case round =>
      obtain ⟨k, n, hk, rfl, rfl, hno⟩ := hrel
      have HNO := hide hno
      clear hno HN0
      by_cases hlt : k < M.length
      · obtain ⟨b, off, rfl, _, hmm, hr⟩ := HM.out (by omega)
        obtain ⟨r, c2, hs⟩ := hr k hlt
        obtain ⟨hp0, hsz⟩ := HRL.out k hlt
        have HSZ := hide hsz
        have HNK : Hid (M[k][M[k].length - 1]? ≠ some (l.length : Int) → ∀ q (h : q < M.length), q < k + 1 → M[q][M[q].length - 1]? ≠ some (l.length : Int)) := fun h q hq hq2 => by
          by_cases e : q = k
          · subst e; exact h
          · exact HNO.out q hq (by omega)
        have hki : (k : Int) < (M.length : Int) := by omega
        have hk0 : (0 : Int) ≤ (k : Int) := by omega
        have hmI : (M.length : Int) ≤ 9223372036854775807 := by
          unfold maxLen at hmm; omega
        clear hr hsz hmm
        obtain ⟨m, hm⟩ : ∃ m, M[k] = m := ⟨_, rfl⟩
        rw [hm] at hs hp0 HSZ HNK
        clear hm
        obtain ⟨ro, rc, rfl⟩ := hs.shape
        obtain ⟨g2, o2, rfl, _, _, hmx, hc⟩ := hs.at_ hp0
        have hll : m.length - 1 < m.length := by omega
        have d1 := int_cell hc hll
        have HGE := hide (List.getElem?_eq_getElem hll)
        have hp1 : (0 : Int) < (m.length : Int) := by omega
        have hmI2 : (m.length : Int) ≤ 9223372036854775807 := by
          unfold maxLen at hmx; omega
        have hsub : ((m.length : Int) - 1).toNat = m.length - 1 := by omega
        have hsub2 : ((m.length - 1 : Nat) : Int) = (m.length : Int) - 1 := by omega
        have hln0 : (l.length : Int) + 1 - 1 = (l.length : Int) := by omega
        clear hc hs hmx
        obtain ⟨z, hz⟩ : ∃ z, m[m.length - 1] = z := ⟨_, rfl⟩
        rw [hz] at d1 HGE
        clear hz
        by_cases hzz : z = (l.length : Int)
        · have HSN := hide (HSZ.out (by rw [HGE.out, hzz]))
          have hzb : (z == (l.length : Int)) = true := by rw [hzz]; simp
          have HSI : Hid ((m.length : Int) = (cnt (l.length + 1) rt (rt l.length) : Int)) := congrArg (fun (n : Nat) => (n : Int)) HSN.out
          clear hzz
          go_wp2_with fail
          go_quiet (fail)
          go_wp2_with fail
          go_ret2
          exact ⟨_, rt, ret_v2' HSI.out rfl, HCN.out, HR6.out.below (below_drewN (Below.refl _ _) _), HO6.out.grow (grown_below (below_drewN (Below.refl _ _) _)), HAT.out⟩
        · have hzb : (z == (l.length : Int)) = false := beq_eq_false_iff_ne.2 hzz
          have HNN := hide (HNK.out (by rw [HGE.out]; intro e; injection e with e; exact hzz e))
          clear hzz
          go_wp2_with fail
          go_quiet (fail)
          go_wp2_with fail
          go_roundw
          case rel => exact ⟨k + 1, _, by omega, by go_num, by first | rfl | exact World.drewN_drewN _ _ _, HNN.out⟩
          case measure => simp [intOf]; omega
      · exfalso
        obtain ⟨q, hq, e⟩ := HEX.out
        exact HNO.out q hq (by omega) e
end Go.Proofs.Ytahlhiiekgnmpab
