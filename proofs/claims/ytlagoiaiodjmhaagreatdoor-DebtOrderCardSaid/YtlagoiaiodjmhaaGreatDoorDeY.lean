/- law 18: DebtOrder. -/
import Derived.Test.YtlagoiaiodjmhaaGreatDoorDeW
set_option linter.unusedVariables false
set_option linter.unusedSimpArgs false
namespace Go.Proofs.YtlagoiaiodjmhaaGreatDoor
open Go.RowKit

theorem stE_rev {l : List Db} (ps : List Py) (m : Int) (h : l.length ≤ 12) : stE l.reverse ps m = stE l ps m := by
  unfold stE; rw [vlD_mem (rev_mem l) (by omega) (by rw [List.length_reverse]; omega)]
theorem stL_rev {l : List Db} (ps : List Py) (m : Int) (h : l.length ≤ 12) : stL l.reverse ps m = (stL l ps m).reverse := by
  unfold stL; rw [vlD_mem (rev_mem l) (by omega) (by rw [List.length_reverse]; omega), setL_rev]
  split <;> rfl
theorem splL_le (l : List Db) (ps : List Py) (m P : Int) : (splL l ps m P).length ≤ 1000000 := by
  unfold splL
  split
  · rename_i h
    unfold splB at h
    simp only [Bool.and_eq_true, decide_eq_true_eq] at h
    rw [List.length_map, List.length_range]
    omega
  · simp
theorem stL_le {l : List Db} (ps : List Py) (m : Int) : (stL l ps m).length ≤ l.length := by
  unfold stL
  split
  · rw [setL_len]; exact Nat.le_refl _
  · simp
theorem getD_rev {S : List Int} {i j : Nat} (h : i + j + 1 = S.length) : S.reverse.getD j 0 = S.getD i 0 := by
  rw [List.getD_eq_getElem?_getD, List.getD_eq_getElem?_getD, List.getElem?_reverse (by omega)]
  rw [show S.length - 1 - j = i by omega]
set_option maxHeartbeats 16000000 in
set_option maxRecDepth 100000 in
theorem debtOrder (l : List Db) (ps : List Py) (m P : Int) (v1 v2 : Value) (w : World) (h1 : SliceOf vDb 6 w v1 l) (h2 : SliceOf vPy 4 w v2 ps) (hW : LawW w) :
    Calls Tryz.prog 6 #[v1, v2, .int .i64 m, .int .i64 P] w fun e w' => e = .returned (.bool true) ∧ Below w.heap.size w w' := by
  have HH := hide (law18_head w hW)
  have H1 := hide h1
  have H2 := hide h2
  have HW := hide hW
  obtain ⟨a1, c1, rfl⟩ := h1.shape
  obtain ⟨a2, c2, rfl⟩ := h2.shape
  clear h1 h2 hW
  go_enter Tryz.func6, Tryz.ntmps6
  go_wp2_with fail
  refine HH.out.mono ?_
  rintro e w1 ⟨rfl, hb⟩
  have HB1 := hide hb
  clear hb
  by_cases s1 : 12 < l.length
  · have d1 : decide ((12 : Int) < (l.length : Int)) = true := decide_eq_true (by omega)
    go_wp2_with fail
    go_ret
    exact ⟨rfl, HB1.out⟩
  have d1 : decide ((12 : Int) < (l.length : Int)) = false := decide_eq_false (by omega)
  by_cases s2 : 12 < ps.length
  · have d2 : decide ((12 : Int) < (ps.length : Int)) = true := decide_eq_true (by omega)
    go_wp2_with fail
    go_ret
    exact ⟨rfl, HB1.out⟩
  have d2 : decide ((12 : Int) < (ps.length : Int)) = false := decide_eq_false (by omega)
  have hlm : (l.length : Int) ≤ 12 := by omega
  have hlN : l.length ≤ 12 := by omega
  have HLN := hide hlN
  have HRL : Hid (l.reverse.length = l.length) := List.length_reverse
  have HRG : Hid (∀ k m (h : k < l.reverse.length) (hm : k + m + 1 = l.length), l.reverse[k] = l[m]'(by omega)) := fun k m h hm => by
    rw [List.getElem_reverse]
    congr 1
    omega
  have HSP := hide (spl_mem (l := l) (l' := l.reverse) (ps := ps) (m := m) (P := P) (rev_mem l) (by omega) (by rw [List.length_reverse]; omega)).2
  have HSQ := hide (spl_mem (l := l) (l' := l ++ l.reverse) (ps := ps) (m := m) (P := P) (two_mem l) (by omega) (by rw [List.length_append, List.length_reverse]; omega)).2
  have HSE := hide (stE_rev ps m hlN)
  have HSL := hide (stL_rev ps m hlN)
  have HLE := hide (splL_le l ps m P)
  have HSN := hide (Nat.le_trans (stL_le (l := l) ps m) hlN)
  obtain ⟨i0, hi, hz0, hz1, hz2⟩ := info_parts Tryz.infoDb
  go_wp2_with fail
  go_loopw [10, 11] (fun u i wx => ∃ k : Nat, k ≤ l.length ∧ i = .int .i64 ((l.length : Int) - 1 - (k : Int)) ∧ Bld vDb 6 w1 wx l.reverse u k) (fun _ i _ => (intOf i + 1).toNat)
  case atStart => exact ⟨0, Nat.zero_le _, congrArg (Value.int .i64) (by omega), Bld.nil _ _ _ _⟩
  case round =>
    obtain ⟨k, hk, rfl, hst⟩ := hrel
    have HST := hide hst
    clear hst
    by_cases hlt : k < l.length
    · obtain ⟨n, hm⟩ : ∃ n : Nat, (l.length : Int) - 1 - (k : Int) = (n : Int) := ⟨l.length - 1 - k, by omega⟩
      have hm2 : k + n + 1 = l.length := by omega
      rw [hm]
      have HM := hide hm
      clear hm
      have hmi : (n : Int) < (l.length : Int) := by omega
      have hm0 : (0 : Int) ≤ (n : Int) := by omega
      have hml : n < l.length := by omega
      obtain ⟨bd, od, rfl, hcpI, hcap, hd⟩ := H1.out.dbAt (bStepD HB1.out HST.out.below) hml
      have hkR : k < l.reverse.length := by rw [HRL.out]; exact hlt
      have HG := hide (HRG.out k n hkR hm2)
      obtain ⟨d, hde⟩ : ∃ d, l[n] = d := ⟨_, rfl⟩
      rw [hde] at hd HG
      obtain ⟨y0, y1, y2, y3, y4, y5⟩ := hd
      clear hde
      have HOW := hide HST.out.own
      have HSZ := hide HST.out.below.size
      have H1c : Hid (∀ u ∈ (#[.int .i64 d.kd, .int .i64 d.tl, .int .i64 d.fl, .int .i64 d.fr, .int .i64 d.un, .int .i64 d.pr] : Array Value).toList, u.oneCell' = true) := by
        intro u hu
        simp at hu
        rcases hu with rfl | rfl | rfl | rfl | rfl | rfl <;> rfl
      have hbytes : (k + 1) * 48 ≤ 140737488355328 := by omega
      have HM2 := hide hm2
      clear hm2
      go_wp2_with (at_builtin; refine wpList_appendS rfl _ _ 26 rfl w1.heap.size 47 i0 (.agg #[.int .i64 0, .int .i64 0, .int .i64 0, .int .i64 0, .int .i64 0, .int .i64 0]) 6 48 Tryz.underlying26 hi hz0 hz1 hz2 rfl (by decide) _ k (flatV vDb (l.reverse.take k)) rfl HOW.out #[.int .i64 d.kd, .int .i64 d.tl, .int .i64 d.fl, .int .i64 d.fr, .int .i64 d.un, .int .i64 d.pr] 47 1 rfl rfl H1c.out hbytes (by decide) HSZ.out ?_)
      intro g off' cap' w4 hown4 hg4 hb4 hat4
      have HN := hide (HST.out.step (Below.refl _ wr) hkR HG.out rfl hown4 hg4)
      clear hown4 hg4 hb4 hat4
      go_wp2_with fail
      go_roundw
      case rel => exact ⟨k + 1, by omega, congrArg (Value.int .i64) (by have := HM2.out; omega), HN.out⟩
      case measure => have := HM2.out; have := HM.out; simp [intOf] <;> omega
    · obtain rfl : k = l.length := by omega
      have hneg : (l.length : Int) - 1 - (l.length : Int) = -1 := by omega
      rw [hneg]
      have HBK : Hid (SliceOf vDb 6 wr u10 l.reverse) := Bld.to_slice vDb_len (by rw [HRL.out]; exact HST.out)
      have HBW := hide (bStepD HB1.out HST.out.below)
      clear hneg HST hi hz0 hz1 hz2
      have HST1 := hide (fun W (hb : Below w.heap.size w W) => de_settle l ps m _ _ W (H1.out.below hb) (H2.out.below hb))
      have HST2 := hide (fun v W (hb : Below w.heap.size w W) hv => de_settle l.reverse ps m v _ W hv (H2.out.below hb))
      rw [HSE.out, HSL.out] at HST2
      have HP1 := hide (fun W (hb : Below w.heap.size w W) => de_split l ps m P _ _ W (H1.out.below hb) (H2.out.below hb) (HW.out.below hb))
      have HP2 := hide (fun v W (hb : Below w.heap.size w W) hv => de_split l.reverse ps m P v _ W hv (H2.out.below hb) (HW.out.below hb))
      have HP3 := hide (fun v W (hb : Below w.heap.size w W) hv => de_split (l ++ l.reverse) ps m P v _ W hv (H2.out.below hb) (HW.out.below hb))
      rw [HSP.out.1, HSP.out.2] at HP2
      rw [HSQ.out.1, HSQ.out.2] at HP3
      obtain ⟨S, hS⟩ : ∃ S, stL l ps m = S := ⟨_, rfl⟩
      obtain ⟨X, hX⟩ : ∃ S, splL l ps m P = S := ⟨_, rfl⟩
      obtain ⟨e1, he1⟩ : ∃ e, stE l ps m = e := ⟨_, rfl⟩
      obtain ⟨e2, he2⟩ : ∃ e, splE l ps m P = e := ⟨_, rfl⟩
      rw [hS, he1] at HST1 HST2
      rw [hX, he2] at HP1 HP2 HP3
      rw [hS] at HSN
      rw [hX] at HLE
      clear hS hX he1 he2 HSP HSQ HSE HSL HRG
      obtain ⟨ak, ck, rfl⟩ := HBK.out.shape
      rw [HRL.out] at HBK
      rw [HRL.out]
      go_wp2_with fail
      refine (HST1.out _ HBW.out).mono ?_
      rintro e w3 ⟨u, rfl, hs, hb⟩
      have HA := hide hs
      have HB3 := hide (bStepD HBW.out hb)
      have HBK := hide (HBK.out.below hb)
      clear hs hb HST1 HBW
      obtain ⟨aa, ca, rfl⟩ := HA.out.shape
      go_wp2_with fail
      refine (HST2.out _ _ HB3.out HBK.out).mono ?_
      rintro e w4 ⟨u, rfl, hs, hb⟩
      have HA := hide (HA.out.below hb)
      have HB := hide hs
      have HB4 := hide (bStepD HB3.out hb)
      have HBK := hide (HBK.out.below hb)
      clear hs hb HST2 HB3
      obtain ⟨ab, cb, rfl⟩ := HB.out.shape
      rw [List.length_reverse] at HB
      rw [List.length_reverse]
      go_wp2_with fail
      refine (HP1.out _ HB4.out).mono ?_
      rintro e w5 ⟨u, rfl, hs, hb⟩
      have HA := hide (HA.out.below hb)
      have HB := hide (HB.out.below hb)
      have HX := hide hs
      have HB5 := hide (bStepD HB4.out hb)
      have HBK := hide (HBK.out.below hb)
      clear hs hb HP1 HB4
      go_wp2_with fail
      refine (HP2.out _ _ HB5.out HBK.out).mono ?_
      rintro e w6 ⟨u', rfl, hs, hb⟩
      have HA := hide (HA.out.below hb)
      have HB := hide (HB.out.below hb)
      have HX := hide (HX.out.below hb)
      have HY := hide hs
      have HB6 := hide (bStepD HB5.out hb)
      have HBK := hide (HBK.out.below hb)
      clear hs hb HP2 HB5
      have HLD := hide ((H1.out.below HB6.out).below (bAlloc (Below.refl _ w6) (.cells #[] 47)))
      go_wp2_with (at_builtin; refine wp_apG Tryz.underlying26 Tryz.infoDb rfl (by decide) (by decide) vDb_len vDb_one rfl _ _ rfl w6.heap.size [] l 0 l.length (by omega) _ rfl (own_nilG vDb (by simp <;> omega) (by simp <;> omega)) _ rfl HLD.out (by have := HLN.out; omega) (by simp <;> omega) ?_)
      intro ao7 cap7 w7 ho7 hg7 hb7
      try rw [List.nil_append] at ho7
      have HO7 := hide ho7
      have HB7 : Hid (Below w6.heap.size w6 w7) := (bAlloc (Below.refl _ w6) _).trans hb7
      have HBK7 := hide (HBK.out.below HB7.out)
      have HRN : Hid (l.length + l.reverse.length = l.length + l.length) := by show _ = _; rw [HRL.out]
      clear ho7 hg7 hb7 HLD
      go_wp2_with (at_builtin; refine wp_apG Tryz.underlying26 Tryz.infoDb rfl (by decide) (by decide) vDb_len vDb_one rfl _ _ rfl w6.heap.size l l.reverse l.length (l.length + l.length) HRN.out _ rfl HO7.out _ rfl HBK7.out (by have := HLN.out; omega) HB7.out.size ?_)
      intro ao8 cap8 w8 ho8 hg8 hb8
      have HD : Hid (SliceOf vDb 6 w8 (.slice ao8 (l.length + l.length) cap8) (l ++ l.reverse)) := OwnS.slice vDb_len (B := w6.heap.size) (by rw [List.length_append, HRL.out]; exact ho8)
      have hb := HB7.out.trans hb8
      have HA := hide (HA.out.below hb)
      have HB := hide (HB.out.below hb)
      have HX := hide (HX.out.below hb)
      have HY := hide (HY.out.below hb)
      have HB8 := hide (bStepD HB6.out hb)
      clear ho8 hg8 hb8 hb HB7 HBK7 HBK HO7 HRN HB6
      go_wp2_with fail
      refine (HP3.out _ _ HB8.out HD.out).mono ?_
      rintro e w9 ⟨u'', rfl, hs, hb⟩
      have HA := hide (HA.out.below hb)
      have HB := hide (HB.out.below hb)
      have HX := hide (HX.out.below hb)
      have HY := hide (HY.out.below hb)
      have HZ := hide hs
      have HB9 := hide (bStepD HB8.out hb)
      clear hs hb HP3 HB8 HD
      go_wp2_with fail
      refine (l18_rats X _ _ _ HX.out HY.out HLE.out).mono ?_
      rintro e w10 ⟨rfl, hb⟩
      have HA := hide (HA.out.below hb)
      have HB := hide (HB.out.below hb)
      have HX := hide (HX.out.below hb)
      have HZ := hide (HZ.out.below hb)
      have HB10 := hide (bStepD HB9.out hb)
      clear hb HY HB9
      go_wp2_with fail
      refine (l18_rats X _ _ _ HX.out HZ.out HLE.out).mono ?_
      rintro e w11 ⟨rfl, hb⟩
      have HA := hide (HA.out.below hb)
      have HB := hide (HB.out.below hb)
      have HB11 := hide (bStepD HB10.out hb)
      clear hb HX HZ HB10
      have hsn : (S.length : Int) ≤ 12 := by have := HSN.out; omega
      clear d1 d2 hlm hlN s1 s2 hk hlt
      go_wp2_with fail
      go_loopw [22] (fun i wx => ∃ k : Nat, k ≤ S.length ∧ i = .int .i64 (k : Int) ∧ Below w11.heap.size w11 wx) (fun i _ => S.length - (intOf i).toNat)
      case atStart => exact ⟨0, Nat.zero_le _, rfl, Below.refl _ _⟩
      case round =>
        obtain ⟨i, hi, rfl, hbl⟩ := hrel
        have HX := hide hbl
        clear hbl
        by_cases hlt : i < S.length
        · have hiI : (i : Int) < (S.length : Int) := by omega
          have hi0 : (0 : Int) ≤ (i : Int) := by omega
          obtain ⟨j, hij⟩ : ∃ j : Nat, i + j + 1 = S.length := ⟨S.length - 1 - i, by omega⟩
          have hjI : (j : Int) < (S.length : Int) := by omega
          have hj0 : (0 : Int) ≤ (j : Int) := by omega
          have f1 : IntKind.i64.wrap ((S.length : Int) - 1) = (S.length : Int) - 1 := IntWalk.i64_in _ (by omega)
          have f2 : (S.length : Int) - 1 - (i : Int) = (j : Int) := by omega
          have f3 : IntKind.i64.wrap ((S.length : Int) - 1 - (i : Int)) = (j : Int) := by rw [f2]; exact IntWalk.i64_in _ (by omega)
          obtain ⟨ba, oa, rfl, g1, g2, ha⟩ := HA.out.inAt rfl HX.out hlt
          obtain ⟨bb, ob, rfl, g3, g4, hb⟩ := HB.out.inAt List.length_reverse HX.out (show j < S.length by omega)
          rw [getD_rev hij] at hb
          obtain ⟨z, hz⟩ : ∃ z, S.getD i 0 = z := ⟨_, rfl⟩
          rw [hz] at ha hb
          clear hz hij
          go_wp2_with fail
          go_quiet (fail)
          obtain ⟨w12, hw12⟩ : ∃ W, wr.drewN nq = W := ⟨_, rfl⟩
          have HN := hide (bStepD HX.out (drw_belowD (B := wr.heap.size) hw12))
          rw [hw12]
          clear hw12
          go_wp2_with fail
          first
            | (go_roundw
               case rel => exact ⟨i + 1, by omega, by go_num, HN.out⟩
               case measure => (simp [intOf]; omega))
            | (refine ⟨⟨i + 1, by omega, by go_num, HN.out⟩, ?_⟩
               simp [intOf]; omega)
        · obtain rfl : i = S.length := by omega
          go_wp2_with fail
          go_ret
          exact ⟨rfl, bStepD HB11.out HX.out⟩
end Go.Proofs.YtlagoiaiodjmhaaGreatDoor
