/- The laws of layer 6: FieldThrough. -/
import Derived.Test.YtahlhiiekgnmpabFldT
import Derived.Test.YtahlhiiekgnmpabFldO
namespace Go.Proofs.Ytahlhiiekgnmpab
open Go.RowKit

theorem it_isPoly {ps : List (FP × FP)} {n : Nat} {f : FP → FP} (hn : ps.length = n + 1) (hd : dstB ps = true) (hf : IsPoly (n + 1) f) (h : ∀ k, k < n + 1 → f (px ps k) = py ps k) (x : FP) : itV ps x = va (f x) := by
  have hds := (dst_iff ps).1 hd
  rw [(itV_dst hd x).1]
  rw [hn] at hds ⊢
  show va (nv (px ps) (py ps) x 0 n) = _
  congr 1
  exact nv_uniq hds hf h x
theorem dst_rev (ps : List (FP × FP)) : dstB ps.reverse = dstB ps := by
  unfold dstB
  rw [List.map_reverse]
  exact decide_eq_decide.2 (List.reverse_perm _).nodup_iff
theorem px_rev {ps : List (FP × FP)} {k : Nat} (h : k < ps.length) : px ps.reverse k = px ps (ps.length - 1 - k) ∧ py ps.reverse k = py ps (ps.length - 1 - k) := by
  have h' : k < ps.reverse.length := by simpa using h
  rw [← px_at h', ← py_at h', ← px_at (show ps.length - 1 - k < ps.length by omega), ← py_at (show ps.length - 1 - k < ps.length by omega), List.getElem_reverse]
  exact ⟨rfl, rfl⟩
theorem nv_pt {ps : List (FP × FP)} {n k : Nat} (hn : ps.length = n + 1) (hd : dstB ps = true) (hk : k < n + 1) : nv (px ps) (py ps) (px ps k) 0 n = py ps k := by
  have hds := (dst_iff ps).1 hd
  rw [hn] at hds
  exact nv_at hds hk
theorem it_rev {ps : List (FP × FP)} (h0 : 0 < ps.length) (x : FP) : itV ps.reverse x = itV ps x ∧ itE ps.reverse = itE ps := by
  have hdr := dst_rev ps
  refine ⟨?_, by unfold itE; rw [hdr]⟩
  rcases Bool.eq_false_or_eq_true (dstB ps) with hd | hd
  · obtain ⟨n, hn⟩ : ∃ n, ps.length = n + 1 := ⟨ps.length - 1, by omega⟩
    rw [it_isPoly (ps := ps.reverse) (by simpa using hn) (by rw [hdr]; exact hd) (nv_poly (px ps) (py ps) n 0) (fun k hk => ?_) x, (itV_dst hd x).1, hn]
    · rfl
    · rw [(px_rev (by omega)).1, (px_rev (by omega)).2]
      exact nv_pt hn hd (by omega)
  · rw [(itV_not hd x).1, (itV_not (ps := ps.reverse) (by rw [hdr]; exact hd) x).1]
theorem itB_rev (l : List (Int × Int)) (x : Int) : itB l.reverse x = itB l x := by
  unfold itB allP
  rw [List.length_reverse, List.all_reverse]
theorem th_rev (l : List (Int × Int)) (x : Int) : ipV l.reverse x = ipV l x ∧ ipE l.reverse x = ipE l x := by
  rcases Bool.eq_false_or_eq_true (itB l x) with hb | hb
  · obtain ⟨ps, y, rfl, rfl, h0, h1⟩ := itB_el hb
    rw [← List.map_reverse, (ip_va h0 h1).1, (ip_va h0 h1).2, (ip_va (by simpa using h0) (by simpa using h1)).1, (ip_va (by simpa using h0) (by simpa using h1)).2]
    exact it_rev h0 y
  · rw [(ip_bad hb).1, (ip_bad hb).2, (ip_bad (by rw [itB_rev]; exact hb)).1, (ip_bad (by rw [itB_rev]; exact hb)).2]
    exact ⟨rfl, rfl⟩
theorem ip_zero {l : List (Int × Int)} {x : Int} (h : ipE l x ≠ 0) : ipV l x = 0 := by
  rcases Bool.eq_false_or_eq_true (itB l x) with hb | hb
  · obtain ⟨ps, y, rfl, rfl, h0, h1⟩ := itB_el hb
    rw [(ip_va h0 h1).2] at h
    rw [(ip_va h0 h1).1]
    rcases Bool.eq_false_or_eq_true (dstB ps) with hd | hd
    · exact absurd (itV_dst hd 0).2 h
    · exact (itV_not hd y).1
  · exact (ip_bad hb).1
theorem ip_ok {l : List (Int × Int)} {x : Int} (h : ipE l x = 0) : ∃ (ps : List (FP × FP)) (y : FP), l = ps.map va2 ∧ x = va y ∧ 0 < ps.length ∧ ps.length ≤ 16 ∧ dstB ps = true := by
  rcases Bool.eq_false_or_eq_true (itB l x) with hb | hb
  · obtain ⟨ps, y, rfl, rfl, h0, h1⟩ := itB_el hb
    rw [(ip_va h0 h1).2] at h
    refine ⟨ps, y, rfl, rfl, h0, h1, ?_⟩
    rcases Bool.eq_false_or_eq_true (dstB ps) with hd | hd
    · exact hd
    · rw [(itV_not hd 0).2] at h; cases h
  · rw [(ip_bad hb).2] at h; cases h
theorem th_at {l : List (Int × Int)} {x : Int} (h : ipE l x = 0) {k : Nat} (hk : k < l.length) : ipV l l[k].1 = l[k].2 ∧ ipE l l[k].1 = 0 := by
  obtain ⟨ps, y, rfl, rfl, h0, h1, hd⟩ := ip_ok h
  have hk' : k < ps.length := by simpa using hk
  have e : (ps.map va2)[k] = (va (px ps k), va (py ps k)) := by
    rw [List.getElem_map]
    show (va ps[k].1, va ps[k].2) = _
    rw [px_at hk', py_at hk']
  rw [e]
  obtain ⟨n, hn⟩ : ∃ n, ps.length = n + 1 := ⟨ps.length - 1, by omega⟩
  show ipV _ (va (px ps k)) = va (py ps k) ∧ ipE _ (va (px ps k)) = 0
  rw [(ip_va h0 h1).1, (ip_va h0 h1).2, (itV_dst hd _).1, (itV_dst hd 0).2, hn]
  exact ⟨congrArg va (nv_pt hn hd (by omega)), rfl⟩

set_option maxHeartbeats 4000000 in
set_option maxRecDepth 100000 in
theorem fieldThrough_walk (l : List (Int × Int)) (x raw : Int) (v : Value) (w : World) (h : SliceOf vP2 2 w v l) (r0 : 0 ≤ raw) (r1 : raw < 256) :
    Calls Try.prog 7 #[v, .int .i64 x, .int .u8 raw] w fun e w' => e = .returned (.bool true) ∧ Below w.heap.size w w' := by
  obtain ⟨i0, hi, hz0, hz1, hz2⟩ := info_parts Try.infoP2
  obtain ⟨ao, cp, rfl⟩ := h.shape
  by_cases g1 : (1 : Int) ≤ (l.length : Int)
  · by_cases g2 : (l.length : Int) ≤ 16
    · obtain ⟨b, off, rfl, hb, hcap, hmx, hc⟩ := h.at_ (by omega)
      obtain ⟨cx, hcx⟩ : ∃ cx : Nat → Int, ∀ k (hk : k < l.length), l[k].1 = cx k := ⟨fun k => (l.getD k (0, 0)).1, fun k hk => by simp [List.getD, hk]⟩
      obtain ⟨cy, hcy⟩ : ∃ cy : Nat → Int, ∀ k (hk : k < l.length), l[k].2 = cy k := ⟨fun k => (l.getD k (0, 0)).2, fun k hk => by simp [List.getD, hk]⟩
      have HC : Hid (∀ k, k < l.length → w.cell? ⟨b, off + k * 2, none⟩ = some (.int .i64 (cx k)) ∧ w.cell? ⟨b, off + k * 2 + 1, none⟩ = some (.int .i64 (cy k))) := fun k hk => by
        rw [← hcx k hk, ← hcy k hk]; exact p2_cells hc hk
      have hmc : (cp : Int) ≤ 9223372036854775807 := by unfold maxLen at hmx; omega
      obtain ⟨R, hR⟩ : ∃ R, l.reverse = R := ⟨_, rfl⟩
      have HRL : Hid (R.length = l.length) := by show R.length = _; rw [← hR, List.length_reverse]
      have HRG : Hid (∀ k j (hk : k < R.length), k + j + 1 = l.length → R[k] = (cx j, cy j)) := fun k j hk hkj => by
        subst hR
        rw [List.getElem_reverse, ← hcx j (by omega), ← hcy j (by omega)]
        have : l.length - 1 - k = j := by omega
        simp only [this]
      have HT : Hid (∀ k, k < l.length → ipE l x = 0 → ipV l (cx k) = cy k ∧ ipE l (cx k) = 0) := fun k hk he => by
        rw [← hcx k hk, ← hcy k hk]; exact th_at he hk
      obtain ⟨rv, re⟩ := th_rev l x
      rw [hR] at rv re
      have HZ := hide (ip_zero (l := l) (x := x))
      obtain ⟨a, ha⟩ : ∃ a, ipV l x = a := ⟨_, rfl⟩
      obtain ⟨q, hq⟩ : ∃ q, ipE l x = q := ⟨_, rfl⟩
      rw [ha, hq] at HZ
      rw [hq] at HT re
      rw [ha] at rv
      have H1 := hide (⟨ha, hq⟩ : _ ∧ _)
      have H2 := hide (⟨rv, re⟩ : _ ∧ _)
      have HH := hide h
      clear h hc hmx ha hq rv re hcx hcy hR
      obtain ⟨j, hj⟩ : ∃ j : Nat, raw % (l.length : Int) = (j : Int) := ⟨(raw % (l.length : Int)).toNat, by have := Int.emod_nonneg raw (show (l.length : Int) ≠ 0 by omega); omega⟩
      have hjl : j < l.length := by have := Int.emod_lt_of_pos raw (show 0 < (l.length : Int) by omega); omega
      have hj2 : raw.tmod (l.length : Int) = (j : Int) := by rw [Int.tmod_eq_emod_of_nonneg r0]; exact hj
      have HJ := hide (⟨hj, hj2⟩ : _ ∧ _)
      clear hj hj2
      go_enter Try.func7, Try.ntmps7
      go_wp2_with fail
      refine (law06_head _).mono ?_
      rintro e w1 ⟨rfl, hb1⟩
      replace HH := hide (HH.out.below hb1)
      have B := hide hb1
      clear hb1
      go_wp2_with fail
      refine (fld_ip_at l x a q _ _ HH.out H1.out).mono ?_
      rintro e w2 ⟨rfl, hb2⟩
      replace HH := hide (HH.out.below hb2)
      replace B := hide (bstep B.out hb2)
      clear hb2
      go_wp2_with fail
      go_loopw [10, 11] (fun u i wr => ∃ k : Nat, k ≤ l.length ∧ i = .int .i64 ((l.length : Int) - 1 - (k : Int)) ∧ Bld vP2 2 w2 wr R u k) (fun _ i _ => (intOf i + 1).toNat)
      case atStart => exact ⟨0, Nat.zero_le _, congrArg (Value.int .i64) (by omega), Bld.nil _ _ _ _⟩
      case round =>
        obtain ⟨k, hk, rfl, hst⟩ := hrel
        have HST := hide hst
        clear hst
        by_cases hlt : k < l.length
        · obtain ⟨m, hm⟩ : ∃ m : Nat, (l.length : Int) - 1 - (k : Int) = (m : Int) := ⟨l.length - 1 - k, by omega⟩
          have hm2 : k + m + 1 = l.length := by omega
          rw [hm]
          have HM := hide hm
          clear hm
          have hmi : (m : Int) < (l.length : Int) := by omega
          have hm0 : (0 : Int) ≤ (m : Int) := by omega
          obtain ⟨z0, z1⟩ := HC.out m (by omega)
          have y0 := keep_cell HST.out.below (keep_cell B.out z0)
          have y1 := keep_cell HST.out.below (keep_cell B.out z1)
          clear z0 z1
          have hkR : k < R.length := by rw [HRL.out]; exact hlt
          have HG := hide (HRG.out k m hkR hm2)
          have HOW := hide (HST.out.own)
          have HSZ := hide HST.out.below.size
          have H1c : Hid (∀ u ∈ (#[Value.int .i64 (cx m), Value.int .i64 (cy m)] : Array Value).toList, u.oneCell' = true) := by
            intro u hu
            simp at hu
            rcases hu with rfl | rfl <;> rfl
          have hbytes : (k + 1) * 16 ≤ 140737488355328 := by omega
          have HM2 := hide hm2
          clear hm2
          go_wp2_with (at_builtin; refine wpList_appendS rfl _ _ 34 rfl w2.heap.size 39 i0 (.agg #[.int .i64 0, .int .i64 0]) 2 16 Try.underlying34 hi hz0 hz1 hz2 rfl (by decide) _ k (flatV vP2 (R.take k)) rfl HOW.out #[.int .i64 (cx m), .int .i64 (cy m)] 39 1 rfl rfl H1c.out hbytes (by decide) HSZ.out ?_)
          intro g off' cap' w4 hown4 hg4 hb4 hat4
          have HN := hide (HST.out.step (Below.refl _ wr) hkR HG.out rfl hown4 hg4)
          clear hown4 hg4 hb4 hat4
          go_wp2_with fail
          go_roundw
          case rel => exact ⟨k + 1, by omega, congrArg (Value.int .i64) (by have := HM.out; omega), HN.out⟩
          case measure => simp [intOf] <;> omega
        · have hk' : k = l.length := by omega
          have hneg : (l.length : Int) - 1 - (k : Int) = -1 := by omega
          rw [hneg]
          subst hk'
          clear hneg hlt hk
          have HN : Hid (SliceOf vP2 2 wr u10 R) := by
            have h1 := HST.out
            rw [← HRL.out] at h1
            exact h1.to_slice vP2_len
          obtain ⟨ro, rc, hrs⟩ := HN.out.shape
          rw [hrs] at HN ⊢
          clear hrs
          replace HH := hide (HH.out.below HST.out.below)
          replace B := hide (bstep B.out HST.out.below)
          clear HST
          go_wp2_with fail
          refine (fld_ip_at R x a q _ _ HN.out H2.out).mono ?_
          rintro e w5 ⟨rfl, hb5⟩
          replace HH := hide (HH.out.below hb5)
          replace B := hide (bstep B.out hb5)
          clear hb5
          by_cases hq0 : q = 0
          · subst hq0
            obtain ⟨t1, t2⟩ := HT.out j hjl rfl
            have HTJ := hide (⟨t1, t2⟩ : _ ∧ _)
            obtain ⟨hj, hj2⟩ := HJ.out
            obtain ⟨z0, z1⟩ := HC.out j hjl
            have y0 := keep_cell B.out z0
            have y1 := keep_cell B.out z1
            have hji : (j : Int) < (l.length : Int) := by omega
            have hj0 : (0 : Int) ≤ (j : Int) := by omega
            clear t1 t2 z0 z1 HC HT HRG
            go_wp2_with fail
            have hbb := bAlloc (Below.refl _ w5) (.cells #[.int .i64 (cx j), .int .i64 (cy j)] 39)
            replace HH := hide (HH.out.below hbb)
            replace B := hide (bstep B.out hbb)
            clear hbb
            refine (fld_ip_at l (cx j) (cy j) 0 _ _ HH.out HTJ.out).mono ?_
            rintro e w6 ⟨rfl, hb6⟩
            obtain ⟨hc6, hf6⟩ := bcell hb6
            replace B := hide (bstep B.out hb6)
            clear hb6
            go_wp2_with fail
            go_ret
            exact ⟨rfl, B.out⟩
          · have hqb : (q == 0) = false := beq_eq_false_iff_ne.2 hq0
            have ha0 : a = 0 := HZ.out hq0
            subst ha0
            go_wp2_with fail
            go_ret
            exact ⟨rfl, B.out⟩
    · have g3 : (16 : Int) < (l.length : Int) := by omega
      clear h
      go_enter Try.func7, Try.ntmps7
      go_wp2_with fail
      refine (law06_head _).mono ?_
      rintro e w1 ⟨rfl, hb⟩
      go_wp2_with fail
      go_ret
      exact ⟨rfl, hb⟩
  · have g3 : (l.length : Int) < 1 := by omega
    clear h
    go_enter Try.func7, Try.ntmps7
    go_wp2_with fail
    refine (law06_head _).mono ?_
    rintro e w1 ⟨rfl, hb⟩
    go_wp2_with fail
    go_ret
    exact ⟨rfl, hb⟩
end Go.Proofs.Ytahlhiiekgnmpab
