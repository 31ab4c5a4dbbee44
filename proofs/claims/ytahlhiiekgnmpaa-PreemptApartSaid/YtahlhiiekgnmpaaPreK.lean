/- The reference function Worst of layer 40, Bools; the statements' own function accepted. -/
import Derived.Test.YtahlhiiekgnmpaaPreI
import Derived.Test.YtahlhiiekgnmpaaPreQ
namespace Go.Proofs.Ytahlhiiekgnmpaa
open Go.RowKit

set_option maxHeartbeats 2000000 in
set_option maxRecDepth 100000 in
theorem ref40_worst_ok (win : Int) (l : List IP) (ao : Option Addr) (cp : Nat) (w : World) (h : SliceOf vIP 2 w (.slice ao l.length cp) l) (hv : vldL l = true) (hw : winB win = true) :
    Calls Try.prog 33 #[.slice ao l.length cp, .int .i64 win] w fun e w' => e = .returned (.tuple #[.int .i64 (maxK win l l.length), .int .i64 0]) ∧ ∃ n, w.drewN n = w' := by
  obtain ⟨w0, w1⟩ := winB_yes.1 hw
  have hlen := (vldL_iff.1 hv).2.2
  have Hbd := hide (vldL_bd hv).1
  have Hbd' := hide (vldL_bdIP hv)
  have H := hide h
  have HC := hide (slice_cells h)
  have hmax := imx_if
  clear h
  go_enter Try.func33, Try.ntmps33
  go_wp2_with fail
  refine (ref40_valid l _ _ H.out).mono ?_
  rintro e wa ⟨rfl, na, rfl⟩
  rw [hv]
  go_wp2_with fail
  refine (ref40_window win _).mono ?_
  rintro e wb ⟨rfl, rfl⟩
  rw [hw]
  go_wp2_with fail
  have HS := hide (H.out.below (below_drewN (Below.refl w.heap.size w) na))
  go_loop [6, 7] (fun m i => ∃ (k : Nat), k ≤ l.length ∧ i = .int .i64 k ∧ m = .int .i64 (maxK win l k)) (fun _ i => l.length - (intOf i).toNat)
  case atStart => exact ⟨0, Nat.zero_le _, rfl, rfl⟩
  case round =>
    obtain ⟨k, hk, rfl, rfl⟩ := hrel
    by_cases hlt : k < l.length
    · obtain ⟨b, off, rfl, hbw, hc⟩ := HC.out (by omega)
      obtain ⟨x0, x1⟩ := ip_cells hc hlt
      have hki : (k : Int) < (l.length : Int) := by omega
      have hbk := Hbd.out l[k] (List.getElem_mem hlt)
      have hgd : Hid (l.getD k (0, 0) = (l[k].1, l[k].2)) := by
        show l.getD k (0, 0) = _
        rw [getD_at hlt]
      obtain ⟨xa, hxa⟩ : ∃ x, l[k].1 = x := ⟨_, rfl⟩
      obtain ⟨xc, hxc⟩ : ∃ x, l[k].2 = x := ⟨_, rfl⟩
      rw [hxa] at x0 hbk hgd
      rw [hxc] at hbk hgd
      have HN : Hid (imx (maxK win l k) (costW win xa l) = maxK win l (k + 1)) := by
        show _ = _
        rw [maxK, hgd.out]
      clear hxa hxc x1 hc
      obtain ⟨hb1, hb2, hb3, hb4⟩ := hbk
      go_wp2_with fail
      refine (ref40_cost l _ win xa _ HS.out (by omega) Hbd'.out (by omega) (by omega) (by omega) (by omega)).mono ?_
      rintro e wb ⟨rfl, rfl⟩
      go_wp2_with fail
      go_round
      case rel => exact ⟨k + 1, by omega, by go_num, by rw [HN.out]⟩
      case measure => simp [intOf]; omega
    · have hk' : k = l.length := by omega
      subst hk'
      go_wp2_with fail
      go_ret2
      exact ⟨rfl, na, rfl⟩
theorem ref40_worst (win : Int) (l : List IP) (vs : Value) (w : World) (h : SliceOf vIP 2 w vs l) :
    Calls Try.prog 33 #[vs, .int .i64 win] w fun e w' => e = .returned (.tuple #[.int .i64 (worV win l), .int .i64 (errC (worB win l))]) ∧ ∃ n, w.drewN n = w' := by
  by_cases h1 : vldL l = true
  · by_cases h2 : winB win = true
    · obtain ⟨ao, cp, rfl⟩ := h.shape
      have e : worB win l = true := by
        unfold worB
        rw [limB_eq, h1, h2, inB_yes.2 (by omega)]; rfl
      have e2 : worV win l = maxK win l l.length := by
        unfold worV
        rw [if_pos e, wK_max h1 (winB_yes.1 h2).1 (winB_yes.1 h2).2]
      rw [e, e2]
      exact ref40_worst_ok win l ao cp w h h1 h2
    · have h2' : winB win = false := by simpa using h2
      have e : worB win l = false := by
        unfold worB
        rw [limB_eq, h1, h2']; rfl
      have e2 : worV win l = 0 := by
        unfold worV
        rw [e]; rfl
      rw [e, e2]
      have E1 : errC false = 1 := rfl
      rw [E1]
      clear e e2 E1
      go_enter Try.func33, Try.ntmps33
      go_wp2_with fail
      refine (ref40_valid l _ _ h).mono ?_
      rintro e wa ⟨rfl, na, rfl⟩
      rw [h1]
      go_wp2_with fail
      refine (ref40_window win _).mono ?_
      rintro e wb ⟨rfl, rfl⟩
      rw [h2']
      go_wp2_with fail
      go_ret2
      exact ⟨rfl, na, rfl⟩
  · have h1' : vldL l = false := by simpa using h1
    have e : worB win l = false := by
      unfold worB
      rw [h1']; rfl
    have e2 : worV win l = 0 := by
      unfold worV
      rw [e]; rfl
    rw [e, e2]
    have E1 : errC false = 1 := rfl
    rw [E1]
    clear e e2 E1
    go_enter Try.func33, Try.ntmps33
    go_wp2_with fail
    refine (ref40_valid l _ _ h).mono ?_
    rintro e wa ⟨rfl, na, rfl⟩
    rw [h1']
    go_wp2_with fail
    go_ret2
    exact ⟨rfl, na, rfl⟩

/-! ### Bools -/
theorem b_cells {l : List Bool} {w : World} {b off : Nat} (hc : ∀ i (h : i < l.length) j u, (vB l[i])[j]? = some u → w.cell? ⟨b, off + i * 1 + j, none⟩ = some u) {k : Nat} (hk : k < l.length) : w.cell? ⟨b, off + k, none⟩ = some (.bool l[k]) := by
  have := hc k hk 0 _ rfl
  rw [Nat.mul_one, Nat.add_zero] at this
  exact this
theorem take_snocB {l : List Bool} {k : Nat} (h : k < l.length) : l.take (k + 1) = l.take k ++ [l[k]] := List.take_succ_eq_append_getElem h
theorem ref40_bools_len (ao bo : Option Addr) (n m c d : Nat) (w : World) (h : n ≠ m) :
    Calls Try.prog 36 #[.slice ao n c, .slice bo m d] w fun e w' => e = .returned (.bool false) ∧ w = w' := by
  have h' : ((n : Int) == (m : Int)) = false := beq_eq_false_iff_ne.2 (by omega)
  have h'' : ((n : Int) != (m : Int)) = true := by rw [bne_iff_ne]; omega
  go_enter Try.func36, Try.ntmps36
  go_wp2
  go_ret
  exact ⟨rfl, rfl⟩
theorem ref40_bools_nil (ao bo : Option Addr) (c d : Nat) (w : World) :
    Calls Try.prog 36 #[.slice ao 0 c, .slice bo 0 d] w fun e w' => e = .returned (.bool true) ∧ w = w' := by
  go_enter Try.func36, Try.ntmps36
  go_wp2
  go_loop [5] (fun i => i = .int .i64 0) (fun _ => 0)
  case atStart => rfl
  case round =>
    subst hrel
    go_wp2
    go_ret
    exact ⟨rfl, rfl⟩
theorem ref40_bools_some (l m : List Bool) (b off c b' off' c' : Nat) (w : World) (hl : l.length = m.length) (hm : l.length ≤ maxLen)
    (hc : ∀ i (h : i < l.length), w.cell? ⟨b, off + i, none⟩ = some (.bool l[i])) (hc' : ∀ i (h : i < m.length), w.cell? ⟨b', off' + i, none⟩ = some (.bool m[i])) :
    Calls Try.prog 36 #[.slice (some ⟨b, off, none⟩) l.length c, .slice (some ⟨b', off', none⟩) l.length c'] w fun e w' => e = .returned (.bool (decide (l = m))) ∧ ∃ n, w' = w.drewN n := by
  unfold maxLen at hm
  have Hl := hide hl
  have Hc := hide hc
  have Hc' := hide hc'
  clear hl hc hc'
  go_enter Try.func36, Try.ntmps36
  go_wp2
  go_loopw [5] (fun i wr => ∃ k n : Nat, k ≤ l.length ∧ i = .int .i64 k ∧ l.take k = m.take k ∧ wr = w.drewN n) (fun i _ => l.length - (intOf i).toNat)
  case atStart => exact ⟨0, 0, Nat.zero_le _, rfl, rfl, rfl⟩
  case round =>
    obtain ⟨k, n, hk, rfl, hall, rfl⟩ := hrel
    have Hall := hide hall
    clear hall
    by_cases hlt : k < l.length
    · have hlt' : k < m.length := by have := Hl.out; omega
      have hcx := Hc.out k hlt
      have hcx' := Hc'.out k hlt'
      have hki : (k : Int) < (l.length : Int) := by omega
      have Hn1 := hide (take_snocB hlt)
      have Hn2 := hide (take_snocB hlt')
      obtain ⟨p, hp⟩ : ∃ p, l[k] = p := ⟨_, rfl⟩
      obtain ⟨q, hq⟩ : ∃ q, m[k] = q := ⟨_, rfl⟩
      rw [hp] at hcx Hn1
      rw [hq] at hcx' Hn2
      have HP := hide hp
      have HQ := hide hq
      clear hp hq
      by_cases he : p = q
      · have Hs : Hid (l.take (k + 1) = m.take (k + 1)) := by
          have := Hall.out
          show l.take (k + 1) = m.take (k + 1)
          rw [Hid.out Hn1, Hid.out Hn2, this, he]
        subst he
        have he1 : (p == p) = true := by simp
        go_wp2
        go_quiet (fail)
        go_wp2
        go_roundw
        case rel => exact ⟨k + 1, _, by omega, by go_num, Hs.out, by first | rfl | exact World.drewN_drewN _ _ _⟩
        case measure => simp [intOf]; omega
      · have he1 : (p == q) = false := by simpa using he
        have Hne : Hid (decide (l = m) = false) := by
          simp only [Hid, decide_eq_false_iff_not]
          intro e
          subst e
          exact he (HP.out.symm.trans HQ.out)
        go_wp2
        go_quiet (fail)
        go_wp2
        go_ret
        exact ⟨ret_bool Hne.out.symm, _, World.drewN_drewN _ _ _⟩
    · have Hs : Hid (decide (l = m) = true) := by
        have h2 := Hall.out
        have h3 := Hl.out
        have h4 : k = l.length := by omega
        rw [h4, List.take_length, h3, List.take_length] at h2
        simp [Hid, h2]
      go_wp2
      go_ret
      exact ⟨ret_bool Hs.out.symm, _, rfl⟩
theorem ref40_bools (l m : List Bool) (v u : Value) (w : World) (hl : SliceOf vB 1 w v l) (hm : SliceOf vB 1 w u m) :
    Calls Try.prog 36 #[v, u] w fun e w' => e = .returned (.bool (decide (l = m))) ∧ ∃ n, w' = w.drewN n := by
  by_cases hlen : l.length = m.length
  · by_cases h0 : l.length = 0
    · have e1 : l = [] := List.eq_nil_of_length_eq_zero h0
      have e2 : m = [] := List.eq_nil_of_length_eq_zero (by omega)
      subst e1 e2
      obtain ⟨ao, c, rfl⟩ := hl.shape
      obtain ⟨bo, d, rfl⟩ := hm.shape
      exact (ref40_bools_nil ao bo c d w).mono fun e w' ⟨he, hw⟩ => ⟨by rw [he]; rfl, 0, hw.symm⟩
    · rcases hl with ⟨_, _, e⟩ | ⟨b, off, c, rfl, _, h3, h4, hc⟩
      · subst e; simp at h0
      rcases hm with ⟨_, _, e⟩ | ⟨b', off', c', rfl, _, h3', h4', hc'⟩
      · subst e; exact absurd hlen h0
      rw [← hlen]
      exact ref40_bools_some l m b off c b' off' c' w hlen (Nat.le_trans h3 h4) (fun i h => b_cells hc h) (fun i h => b_cells hc' h)
  · obtain ⟨ao, c, rfl⟩ := hl.shape
    obtain ⟨bo, d, rfl⟩ := hm.shape
    refine (ref40_bools_len ao bo _ _ c d w hlen).mono fun e w' ⟨he, hw⟩ => ⟨by rw [he]; refine ret_bool (decide_eq_false ?_).symm; intro e; exact hlen (by rw [e]), 0, hw.symm⟩

/-! ### accepted -/
def AccSt (w wr : World) (l : List IP) (bs : List Bool) (u : Value) (k : Nat) : Prop :=
  OwnS wr w.heap.size 2 u (accK l bs k).length (flatV vIP (accK l bs k)) ∧ Below w.heap.size w wr
def AccPost (w : World) (l : List IP) (bs : List Bool) (e : Ending) (w' : World) : Prop :=
  ∃ u, e = .returned u ∧ SliceOf vIP 2 w' u (accK l bs l.length) ∧ Below w.heap.size w w'
set_option maxHeartbeats 2000000 in
set_option maxRecDepth 100000 in
theorem law40_accepted (l : List IP) (bs : List Bool) (vs vb : Value) (w : World) (h : SliceOf vIP 2 w vs l) (hb : SliceOf vB 1 w vb bs) (hle : l.length ≤ bs.length) (hl : l.length ≤ 1000) :
    Calls Try.prog 37 #[vs, vb] w (AccPost w l bs) := by
  obtain ⟨j0, ji, jz0, jz1, jz2⟩ := info_parts Try.infoIP
  obtain ⟨ao, cp, rfl⟩ := h.shape
  have HC := hide (slice_cells h)
  have HB : Hid (0 < bs.length → ∃ b off c, vb = .slice (some ⟨b, off, none⟩) bs.length c ∧ b < w.heap.size ∧ ∀ i (h : i < bs.length), w.cell? ⟨b, off + i, none⟩ = some (.bool bs[i])) := by
    intro h0
    obtain ⟨b, off, c, h1, h2, _, _, h3⟩ := hb.some_of_pos h0
    exact ⟨b, off, c, h1, h2, fun i hi => b_cells h3 hi⟩
  obtain ⟨bo, d, rfl⟩ := hb.shape
  clear h hb
  go_enter Try.func37, Try.ntmps37
  go_wp2_with fail
  go_loopw [5, 6] (fun u i wr => ∃ (k : Nat), k ≤ l.length ∧ i = .int .i64 k ∧ AccSt w wr l bs u k) (fun _ i _ => l.length - (intOf i).toNat)
  case atStart => exact ⟨0, Nat.zero_le _, rfl, OwnS.nil _ _ _, Below.refl _ _⟩
  case round =>
    obtain ⟨k, hk, rfl, hst⟩ := hrel
    have HST := hide hst
    clear hst
    by_cases hlt : k < l.length
    · obtain ⟨b, off, rfl, hbw, hc⟩ := HC.out (by omega)
      obtain ⟨b', off', c', e', hbw', hc'⟩ := HB.out (by omega)
      simp only [Value.slice.injEq, true_and] at e'
      obtain ⟨rfl, rfl⟩ := e'
      have hlt' : k < bs.length := by omega
      obtain ⟨x0, x1⟩ := ip_cells hc hlt
      have hki : (k : Int) < (l.length : Int) := by omega
      have hki' : (k : Int) < (bs.length : Int) := by omega
      have y0 := (HST.out.2.cell (p := ⟨b, off + k * 2, none⟩) hbw).trans x0
      have y1 := (HST.out.2.cell (p := ⟨b, off + k * 2 + 1, none⟩) hbw).trans x1
      have y2 := (HST.out.2.cell (p := ⟨b', off' + k, none⟩) hbw').trans (hc' k hlt')
      have hgd : Hid (l.getD k (0, 0) = (l[k].1, l[k].2)) := by
        show l.getD k (0, 0) = _
        rw [getD_at hlt]
      have hgb : Hid (bs.getD k false = bs[k]) := by
        show bs.getD k false = _
        rw [List.getD_eq_getElem?_getD, List.getElem?_eq_getElem hlt']; rfl
      obtain ⟨xa, hxa⟩ : ∃ x, l[k].1 = x := ⟨_, rfl⟩
      obtain ⟨xc, hxc⟩ : ∃ x, l[k].2 = x := ⟨_, rfl⟩
      obtain ⟨xb, hxb⟩ : ∃ x, bs[k] = x := ⟨_, rfl⟩
      rw [hxa] at y0 hgd
      rw [hxc] at y1 hgd
      rw [hxb] at y2 hgb
      clear hxa hxc hxb x0 x1 hc hc'
      have htl := accK_length l bs k
      have hsz := HST.out.2.size
      cases xb with
      | true =>
        have hn : Hid (accK l bs (k + 1) = accK l bs k ++ [(xa, xc)]) := by
          show accK l bs (k + 1) = _
          rw [accK, hgb.out, hgd.out]; rfl
        go_wp2_with (at_builtin; refine wpList_appendS rfl _ _ 43 rfl w.heap.size 54 j0 (.agg #[.int .i64 0, .int .i64 0]) 2 16 Try.underlying43 ji jz0 jz1 jz2 rfl (by decide) _ _ _ rfl HST.out.1 #[.int .i64 xa, .int .i64 xc] 54 1 rfl rfl ?_ ?_ (by decide) hsz ?_)
        · first | exact ⟨rfl, rfl⟩ | rfl
        · omega
        · intro g off' cap' w4 hown4 hg4 hb4 hat4
          have HN : Hid (AccSt w w4 l bs (.slice (some ⟨g, off', none⟩) ((accK l bs k).length + 1) cap') (k + 1)) := by
            refine ⟨?_, HST.out.2.trans hb4⟩
            rw [hn.out, flatV_append, flatV_one, List.length_append]
            exact hown4
          clear hown4 hg4 hb4 hat4
          go_wp2_with fail
          go_roundw
          case rel => exact ⟨k + 1, by omega, by go_num, HN.out⟩
          case measure => simp [intOf]; omega
      | false =>
        have HN : Hid (AccSt w wr l bs u5 (k + 1)) := by
          have hn : accK l bs (k + 1) = accK l bs k := by
            rw [accK, hgb.out]; rfl
          unfold AccSt
          show _ ∧ _
          rw [hn]
          exact HST.out
        go_wp2_with fail
        go_roundw
        case rel => exact ⟨k + 1, by omega, by go_num, HN.out⟩
        case measure => simp [intOf]; omega
    · have hk' : k = l.length := by omega
      subst hk'
      go_wp2_with fail
      go_ret
      exact ⟨u5, rfl, OwnS.slice vIP_len HST.out.1, HST.out.2⟩
end Go.Proofs.Ytahlhiiekgnmpaa
