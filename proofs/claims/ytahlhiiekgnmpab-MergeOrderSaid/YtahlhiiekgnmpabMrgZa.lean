/- MergeOrder: the walk. -/
import Derived.Test.YtahlhiiekgnmpabMrgZ
namespace Go.Proofs.Ytahlhiiekgnmpab
open Go.RowKit

set_option maxHeartbeats 4000000 in
set_option maxRecDepth 100000 in
theorem mergeOrder_walk (l : List Al) (win : Int) (v : Value) (w : World) (h : SliceOf vAl 5 w v l) :
    Calls Try.prog 12 #[v, .int .i64 win] w fun e w' => e = .returned (.bool true) ∧ Below w.heap.size w w' := by
  obtain ⟨i0, hi, hz0, hz1, hz2⟩ := info_parts Try.infoAl
  have HS := hide h
  obtain ⟨ao, cp, rfl⟩ := h.shape
  clear h
  go_enter Try.func12, Try.ntmps12
  go_wp2_with fail
  refine (law38_head _).mono ?_
  rintro e w1 ⟨rfl, hb1⟩
  have HB1 := hide hb1
  have HS1 := hide (HS.out.below hb1)
  have HC : Hid (CellsOf w1 ao cp l) := cells_of HS1.out
  clear hb1 HS
  go_wp2_with fail
  rcases Bool.eq_false_or_eq_true (fewB l.length) with hf | hf
  · have hn210 : l.length ≤ 210 := by
      unfold fewB at hf
      rw [decide_eq_true_iff] at hf
      omega
    have hlm : (l.length : Int) ≤ 210 := by omega
    have HF := hide hf
    clear hf
    refine (law38_few_at _ _ _ true _ HF.out).mono ?_
    rintro e w2 ⟨rfl, rfl⟩
    have HRL : Hid (l.reverse.length = l.length) := List.length_reverse
    have HRG : Hid (∀ k m (h : k < l.reverse.length) (hm : k + m + 1 = l.length), l.reverse[k] = l[m]'(by omega)) := fun k m h hm => by
      rw [List.getElem_reverse]
      congr 1
      omega
    go_wp2_with fail
    go_loopw [6, 7] (fun u i wx => ∃ k : Nat, k ≤ l.length ∧ i = .int .i64 ((l.length : Int) - 1 - (k : Int)) ∧ Bld vAl 5 w1 wx l.reverse u k) (fun _ i _ => (intOf i + 1).toNat)
    case atStart => exact ⟨0, Nat.zero_le _, congrArg (Value.int .i64) (by omega), Bld.nil _ _ _ _⟩
    case round =>
      obtain ⟨k, hk, rfl, hst⟩ := hrel
      have HST := hide hst
      clear hst
      by_cases hlt : k < l.length
      · obtain ⟨m, hm⟩ : ∃ m : Nat, (l.length : Int) - 1 - (k : Int) = (m : Int) := ⟨l.length - 1 - k, by omega⟩
        have hm2 : k + m + 1 = l.length := by omega
        rw [hm]
        have HM := hide hm
        clear hm
        have hmi : (m : Int) < (l.length : Int) := by omega
        have hm0 : (0 : Int) ≤ (m : Int) := by omega
        have hml : m < l.length := by omega
        obtain ⟨b, off, rfl, hcpI, hcap, hc⟩ := HC.out (by omega)
        obtain ⟨y0, y1, y2, y3, y4⟩ := cells_in HST.out.below (hc m hml)
        have hkR : k < l.reverse.length := by rw [HRL.out]; exact hlt
        have HG := hide (HRG.out k m hkR hm2)
        clear hc
        obtain ⟨a, ha⟩ : ∃ a, l[m] = a := ⟨_, rfl⟩
        rw [ha] at y0 y1 y2 y3 y4 HG
        clear ha
        have HOW := hide HST.out.own
        have HSZ := hide HST.out.below.size
        have H1c : Hid (∀ u ∈ (#[Value.int .i64 a.tile, Value.int .i64 a.cell, Value.int .i64 a.flt, Value.int .i64 a.val, Value.int .i64 a.at_] : Array Value).toList, u.oneCell' = true) := by
          intro u hu
          simp at hu
          rcases hu with rfl | rfl | rfl | rfl | rfl <;> rfl
        have hbytes : (k + 1) * 40 ≤ 140737488355328 := by omega
        have HM2 := hide hm2
        clear hm2
        go_wp2_with (at_builtin; refine wpList_appendS rfl _ _ 42 rfl w1.heap.size 57 i0 (.agg #[.int .i64 0, .int .i64 0, .int .i64 0, .int .i64 0, .int .i64 0]) 5 40 Try.underlying42 hi hz0 hz1 hz2 rfl (by decide) _ k (flatV vAl (l.reverse.take k)) rfl HOW.out #[.int .i64 a.tile, .int .i64 a.cell, .int .i64 a.flt, .int .i64 a.val, .int .i64 a.at_] 57 1 rfl rfl H1c.out hbytes (by decide) HSZ.out ?_)
        intro g off' cap' w4 hown4 hg4 hb4 hat4
        have HN := hide (HST.out.step (Below.refl _ wr) hkR HG.out rfl hown4 hg4)
        clear hown4 hg4 hb4 hat4
        go_wp2_with fail
        go_roundw
        case rel => exact ⟨k + 1, by omega, congrArg (Value.int .i64) (by have := HM2.out; omega), HN.out⟩
        case measure => have := HM2.out; have := HM.out; simp [intOf] <;> omega
      · have hk' : k = l.length := by omega
        subst hk'
        have hneg : (l.length : Int) - 1 - (l.length : Int) = -1 := by omega
        rw [hneg]
        have HBK : Hid (SliceOf vAl 5 wr u6 l.reverse) := Bld.to_slice vAl_len (by rw [HRL.out]; exact HST.out)
        have HBW := hide HST.out.below
        have HS2 := hide (HS1.out.below HBW.out)
        clear hneg HST
        go_wp2_with fail
        obtain ⟨e1, he1⟩ : ∃ er, gErr win l = er := ⟨_, rfl⟩
        have HE1 := hide he1
        have HE2 : Hid (gErr win l.reverse = e1) := (gErr_rev win l).trans he1
        clear he1
        refine (mrg_groups_at l win e1 _ _ HS2.out HE1.out).mono ?_
        rintro e w3 ⟨u, M, rfl, hss, hb3, hok⟩
        have HA := hide hss
        have HB3 := hide (bstep' HBW.out hb3)
        have HBK3 := hide (HBK.out.below hb3)
        have HK := hide hok
        obtain ⟨uo, uc, rfl⟩ := hss.shape
        clear hss hb3 hok HS2 HBK
        go_wp2_with fail
        refine (mrg_groups_at l.reverse win e1 _ _ HBK3.out HE2.out).mono ?_
        rintro e w4 ⟨u', M', rfl, hss, hb4, hok⟩
        have HD := hide hss
        have HA4 := hide (HA.out.below hb4)
        have HB4 := hide (HB1.out.trans ((bstep' HB3.out hb4).mono HB1.out.size))
        have HK' := hide hok
        obtain ⟨uo', uc', rfl⟩ := hss.shape
        clear hss hb4 hok HA HB3 HBK3
        by_cases z1 : e1 = 0
        · subst z1
          obtain ⟨rt, hrt, hM⟩ := gok_rt HK.out HE1.out
          obtain ⟨rt', hrt', hM'⟩ := gok_rt HK'.out HE2.out
          have hlen := rev_len hrt hrt'
          rw [← hM, ← hM'] at hlen
          have HRI := hide (rev_iff hrt hrt')
          rw [HRL.out] at hM'
          have HMA := hide hM
          have HMB := hide hM'
          have hlb : ((M.length : Int) != (M'.length : Int)) = false := by rw [hlen]; simp
          have hlb2 : ((M.length : Int) == (M'.length : Int)) = true := by rw [hlen]; simp
          clear hrt hrt' hM hM' hlen
          go_wp2_with fail
          refine (law38_of rt l.length _ _ (by rw [← HMA.out]; exact HA4.out) (by omega)).mono ?_
          rintro e w5 ⟨b, O, rfl, hlc, hb5, _, hO⟩
          have HL5 := hide hlc
          have HB5 := hide (bstep' HB4.out hb5)
          have HC5 := hide (HD.out.below hb5)
          have HOO := hide hO
          clear hlc hb5 hO
          go_wp2_with fail
          refine (law38_of rt' l.length _ _ (by rw [← HMB.out]; exact HC5.out) (by omega)).mono ?_
          rintro e w6 ⟨b', O', rfl, hlc, hb6, _, hO⟩
          have HL6 := hide (HL5.out.below hb6)
          have HM6 := hide hlc
          have HB6 := hide (bstep' HB5.out hb6)
          have HXY : Hid (∀ x y, x < l.length → y < l.length → (O x = O y ↔ O' (l.length - 1 - x) = O' (l.length - 1 - y))) := fun x y hx hy =>
            (HOO.out x y hx hy).trans ((HRI.out x y hx hy).trans (hO _ _ (by omega) (by omega)).symm)
          clear hlc hb6 hO HOO HRI HMA HMB HC5 HL5 HB5 HA4 HD HB4 HK HK'
          go_wp2_with fail
          clear hlb hlb2
          go_loopw [17] (fun i wx => ∃ k m : Nat, k ≤ l.length ∧ i = .int .i64 k ∧ wx = w6.drewN m) (fun i _ => l.length - (intOf i).toNat)
          case atStart => exact ⟨0, 0, Nat.zero_le _, rfl, rfl⟩
          case round =>
            obtain ⟨i, m, hi, rfl, rfl⟩ := hrel
            by_cases hil : i < l.length
            · have hii : (i : Int) < (l.length : Int) := by omega
              have hi0 : (0 : Int) ≤ (i : Int) := by omega
              have c1 := HL6.out.c i hil
              obtain ⟨p, hp⟩ : ∃ p, l.length - 1 - i = p := ⟨_, rfl⟩
              have hpl : p < l.length := by omega
              have hpi : (p : Int) < (l.length : Int) := by omega
              have hp0 : (0 : Int) ≤ (p : Int) := by omega
              have hpI : (l.length : Int) - 1 - (i : Int) = (p : Int) := by omega
              have c2 := HM6.out.c p hpl
              have HP := hide hp
              clear hp
              go_wp2_with fail
              go_loopw [18] (fun x wx => ∃ k m : Nat, k ≤ i ∧ x = .int .i64 k ∧ wx = w6.drewN m) (fun x _ => i - (intOf x).toNat)
              case atStart => exact ⟨0, m, Nat.zero_le _, rfl, rfl⟩
              case round =>
                obtain ⟨k, m2, hk, rfl, rfl⟩ := hrel
                by_cases hkl : k < i
                · have hkn : k < l.length := by omega
                  have hki : (k : Int) < (i : Int) := by omega
                  have hkI : (k : Int) < (l.length : Int) := by omega
                  have hk0 : (0 : Int) ≤ (k : Int) := by omega
                  have d1 := HL6.out.c k hkn
                  obtain ⟨q, hq⟩ : ∃ q, l.length - 1 - k = q := ⟨_, rfl⟩
                  have hql : q < l.length := by omega
                  have hqi : (q : Int) < (l.length : Int) := by omega
                  have hq0 : (0 : Int) ≤ (q : Int) := by omega
                  have hqI : (l.length : Int) - 1 - (k : Int) = (q : Int) := by omega
                  have d2 := HM6.out.c q hql
                  have hxy := HXY.out i k hil hkn
                  rw [HP.out, hq] at hxy
                  clear hq
                  by_cases ho : O i = O k
                  · have ho' := hxy.1 ho
                    have q1 : ((O i : Int) == (O k : Int)) = true := by rw [ho]; simp
                    have q2 : ((O' p : Int) == (O' q : Int)) = true := by rw [ho']; simp
                    have q3 : (O i == O k) = true := by rw [ho]; simp
                    have q4 : (O' p == O' q) = true := by rw [ho']; simp
                    clear ho ho' hxy
                    go_wp2_with fail
                    go_quiet (fail)
                    go_wp2_with fail
                    go_roundw
                    case rel => exact ⟨k + 1, _, by omega, by go_num, by first | rfl | exact World.drewN_drewN _ _ _⟩
                    case measure => simp [intOf]; omega
                  · have ho' : ¬ O' p = O' q := fun e => ho (hxy.2 e)
                    have q1 : ((O i : Int) == (O k : Int)) = false := beq_eq_false_iff_ne.2 (by omega)
                    have q2 : ((O' p : Int) == (O' q : Int)) = false := beq_eq_false_iff_ne.2 (by omega)
                    have q3 : (O i == O k) = false := beq_eq_false_iff_ne.2 ho
                    have q4 : (O' p == O' q) = false := beq_eq_false_iff_ne.2 ho'
                    clear ho ho' hxy
                    go_wp2_with fail
                    go_quiet (fail)
                    go_wp2_with fail
                    go_roundw
                    case rel => exact ⟨k + 1, _, by omega, by go_num, by first | rfl | exact World.drewN_drewN _ _ _⟩
                    case measure => simp [intOf]; omega
                · have hk' : k = i := by omega
                  subst hk'
                  go_wp2_with fail
                  go_roundw
                  case rel => exact ⟨k + 1, m2, by omega, by go_num, rfl⟩
                  case measure => simp [intOf]; omega
            · have hi' : i = l.length := by omega
              subst hi'
              go_wp2_with fail
              go_ret
              exact ⟨rfl, bdraw HB6.out _⟩
        · have q1 : (e1 != 0) = true := by rw [bne_iff_ne]; exact z1
          have q3 : (e1 == 0) = false := beq_eq_false_iff_ne.2 z1
          have q4 : (e1 == e1) = true := by simp
          clear z1
          go_wp2_with fail
          go_ret
          exact ⟨rfl, HB4.out⟩
  · have HF := hide hf
    clear hf
    refine (law38_few_at _ _ _ false _ HF.out).mono ?_
    rintro e w2 ⟨rfl, rfl⟩
    go_wp2_with fail
    go_ret
    exact ⟨rfl, HB1.out⟩
end Go.Proofs.Ytahlhiiekgnmpab
