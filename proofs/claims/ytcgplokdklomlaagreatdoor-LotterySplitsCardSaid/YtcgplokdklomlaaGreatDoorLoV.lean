/- law 29: LotteryMerits. -/
import Derived.Test.YtcgplokdklomlaaGreatDoorLoU
set_option linter.unusedVariables false
set_option linter.unusedSimpArgs false
namespace Go.Proofs.YtcgplokdklomlaaGreatDoor
open Go.RowKit

set_option maxHeartbeats 8000000 in
set_option maxRecDepth 100000 in
theorem lotteryMerits (sh ow me : List Int) (wh by_ raw : Int) (v1 v2 v3 : Value) (w : World) (h1 : SliceOf vI 1 w v1 sh) (h2 : SliceOf vI 1 w v2 ow) (h3 : SliceOf vI 1 w v3 me) (wh0 : 0 ≤ wh) (wh1 : wh < 256) (b0 : 0 ≤ by_) (b1 : by_ < 65536) (r0 : 0 ≤ raw) (r1 : raw < 256) (hW : LawW w) :
    Calls Tryz.prog 7 #[v1, v2, v3, .int .u8 wh, .int .u16 by_, .int .u8 raw] w fun e w' => e = .returned (.bool true) ∧ Below w.heap.size w w' := by
  have HH := hide (law29_head w hW)
  have HT := hide (fun (X : World) (hX : Below w.heap.size w X) n1 n2 n3 => lo_tk sh ow me v1 v2 v3 X (h1.below hX) (h2.below hX) (h3.below hX) n1 n2 n3)
  have HT5 := hide (fun (X : World) (hX : Below w.heap.size w X) m2 v5 h5 n1 n2 n3 => lo_tk sh ow m2 v1 v2 v5 X (h1.below hX) (h2.below hX) h5 n1 n2 n3)
  have HS2 := hide h2
  have HS3 := hide h3
  obtain ⟨a1, c1, rfl⟩ := h1.shape
  obtain ⟨a2, c2, rfl⟩ := h2.shape
  obtain ⟨a3, c3, rfl⟩ := h3.shape
  obtain ⟨p, hp⟩ : ∃ p, fewL sh.length ow.length me.length = p := ⟨_, rfl⟩
  have HF := hide (fun X => ref29_few sh.length ow.length me.length a1 a2 a3 c1 c2 c3 p hp X)
  clear h1 h2 h3 hW
  cases p with
  | false =>
    clear hp
    go_enter Tryz.func7, Tryz.ntmps7
    go_wp2_with fail
    refine HH.out.mono ?_
    rintro e w1 ⟨rfl, hb⟩
    have HB1 := hide hb
    clear hb
    go_wp2_with fail
    refine (HF.out _).mono ?_
    rintro e w2 ⟨rfl, rfl⟩
    go_wp2_with fail
    go_ret
    exact ⟨rfl, HB1.out⟩
  | true =>
    obtain ⟨q1, q2, q3⟩ := few_le hp
    have HT2 := hide (fun X hX => HT.out X hX (by omega) (by omega) (by omega))
    clear HT hp
    by_cases hz : ow = []
    · subst hz
      clear HT2 HT5
      go_enter Tryz.func7, Tryz.ntmps7
      go_wp2_with fail
      refine HH.out.mono ?_
      rintro e w1 ⟨rfl, hb⟩
      have HB1 := hide hb
      clear hb
      go_wp2_with fail
      refine (HF.out _).mono ?_
      rintro e w2 ⟨rfl, rfl⟩
      go_wp2_with fail
      go_ret
      exact ⟨rfl, HB1.out⟩
    have hz0 : 0 < ow.length := List.length_pos_iff.2 hz
    have hzI : ((ow.length : Int) == 0) = false := by rw [beq_eq_false_iff_ne]; omega
    have hzI2 : (ow.length == 0) = false := by rw [beq_eq_false_iff_ne]; omega
    rcases Bool.eq_false_or_eq_true (vldL sh ow me) with hv | hv
    case inr =>
      have HE1 : Hid (tkL sh ow me = []) := by show _ = _; unfold tkL; rw [hv]; rfl
      have HE2 : Hid (tkE sh ow me = 1) := by show _ = _; unfold tkE; rw [hv]; rfl
      rw [HE1.out, HE2.out] at HT2
      clear hv HE1 HE2 HT5 hz
      go_enter Tryz.func7, Tryz.ntmps7
      go_wp2_with fail
      refine HH.out.mono ?_
      rintro e w1 ⟨rfl, hb⟩
      have HB1 := hide hb
      clear hb
      go_wp2_with fail
      refine (HF.out _).mono ?_
      rintro e w2 ⟨rfl, rfl⟩
      go_wp2_with fail
      refine (HT2.out _ HB1.out).mono ?_
      rintro e w3 ⟨u, rfl, hs, hb⟩
      obtain ⟨uo, uc, rfl⟩ : ∃ uo uc, u = .slice uo 0 uc := hs.shape
      have HB3 := hide (bStepL HB1.out hb)
      clear hs hb
      go_wp2_with fail
      go_ret
      exact ⟨rfl, HB3.out⟩
    obtain ⟨t1, t2, -⟩ := tkL_ok hv
    have HE1 : Hid (tkE sh ow me = 0) := by show _ = _; unfold tkE; rw [if_pos hv]
    obtain ⟨K, hK, hKl⟩ : ∃ K : Nat, wh.tmod (ow.length : Int) = (K : Int) ∧ K < ow.length := by
      rw [Int.tmod_eq_emod_of_nonneg wh0]
      have e1 := Int.emod_nonneg wh (b := (ow.length : Int)) (by omega)
      have e2 := Int.emod_lt_of_pos wh (b := (ow.length : Int)) (by omega)
      exact ⟨(wh % (ow.length : Int)).toNat, by omega, by omega⟩
    obtain ⟨C, hC, hC1, hC4⟩ : ∃ C : Int, 1 + raw % 4 = C ∧ 1 ≤ C ∧ C ≤ 4 := ⟨_, rfl, by omega, by omega⟩
    obtain ⟨p1, p2, p3⟩ := vld_parts hv
    have HUP := hide (fun m2 hl hu hb ho => mer_up (me' := m2) hv hl hKl hu hb ho)
    have HSC := hide (fun m2 hl hb ho => mer_scale (me' := m2) (c := C) hv hl hC1 hKl hb ho)
    have HOK := hide (fun m2 (h : vldL sh ow m2 = true) => tkL_ok h)
    have HE2 : Hid (∀ m2, vldL sh ow m2 = true → tkE sh ow m2 = 0) := fun m2 h => by unfold tkE; rw [if_pos h]
    obtain ⟨l, hl⟩ : ∃ l, tkL sh ow me = l := ⟨_, rfl⟩
    rw [hl] at t1 t2 HT2 HUP HSC
    rw [HE1.out] at HT2
    have d1 : ((l.length : Int) != (ow.length : Int)) = false := by rw [t1]; simp
    have d1' : (l.length != ow.length) = false := by rw [t1]; simp
    have HP3 := hide p3
    have HML := hide p1
    have HT1 := hide t1
    clear hl hv hz HE1 t1 t2 p1 p2 p3
    obtain ⟨i0, hi, hz0', hz1, hz2⟩ := info_parts Tryz.infoInt3
    go_enter Tryz.func7, Tryz.ntmps7
    go_wp2_with fail
    refine HH.out.mono ?_
    rintro e w1 ⟨rfl, hb⟩
    have HB1 := hide hb
    clear hb
    go_wp2_with fail
    refine (HF.out _).mono ?_
    rintro e w2 ⟨rfl, rfl⟩
    go_wp2_with fail
    refine (HT2.out _ HB1.out).mono ?_
    rintro e w3 ⟨u, rfl, hs, hb⟩
    obtain ⟨uo, uc, rfl⟩ : ∃ uo uc, u = .slice uo l.length uc := hs.shape
    have HS := hide hs
    have HB3 := hide (bStepL HB1.out hb)
    clear hs hb
    have HO0 := hide (OwnS.lit_nil w3 1 3)
    have HA0 := hide ((HS3.out.below HB3.out).below (bAlloc (Below.refl _ w3) (.cells #[] 3)))
    have HBS : Hid ((0 + me.length) * 8 ≤ 140737488355328) := by show _ ≤ _; omega
    have HMX : Hid (0 + me.length ≤ maxLen) := by show _ ≤ _; unfold maxLen; omega
    have HSZ0 : Hid (w3.heap.size ≤ (w3.alloc (.cells #[] 3)).heap.size) := by show _ ≤ _; simp
    go_wp2_with (at_builtin; refine wpList_append_slice (by rfl) _ _ 22 rfl w3.heap.size 3 i0 (.int .i64 0) 1 8 Tryz.underlying22 hi hz0' hz1 hz2 rfl (by decide) vI_len vI_one _ 0 [] rfl HO0.out _ me rfl HA0.out HMX.out HBS.out HSZ0.out ?_)
    intro ao3 cap3 w4 hown3 hg3 hb3
    try simp only [Nat.zero_add, List.nil_append] at hown3
    try simp only [Nat.zero_add]
    obtain ⟨g, off, cap, hsh, hgB, hcp, hcm, hcel, hfz⟩ := hown3.spot1 (by have := HML.out; omega)
    obtain ⟨rfl, rfl⟩ : ao3 = some ⟨g, off, none⟩ ∧ cap3 = cap := by injection hsh with e1 e2 e3; exact ⟨e1, e3⟩
    have hKm : K < me.length := by have := HML.out; omega
    have hKI : (K : Int) < (me.length : Int) := by omega
    have hK0 : (0 : Int) ≤ (K : Int) := by omega
    have hcpI : (me.length : Int) ≤ (cap3 : Int) := by omega
    have hcmI : (cap3 : Int) ≤ 9223372036854775807 := by unfold maxLen at hcm; omega
    have c0 := hcel K _ (flat_at hKm)
    have z0 := hfz K hKm
    have hy := HP3.out _ (List.getElem_mem hKm)
    have HY := hide hy
    have HO := hide hown3
    have HB34 := hide hb3
    have HB4 := hide (bStepL HB3.out ((bAlloc (Below.refl _ w3) (.cells #[] 3)).trans hb3))
    have HGB := hide hgB
    obtain ⟨y, hye⟩ : ∃ y, me[K] = y := ⟨_, rfl⟩
    rw [hye] at c0 hy HY
    have HYE := hide hye
    clear hown3 hg3 hb3 hsh hcel hfz hye HO0 HA0 hcp hcm hgB hy
    go_wp2_with fail
    have e9 : wrap64 (y + by_) = y + by_ := IntWalk.wrap64_in _ (by have := HY.out; omega)
    rw [e9]
    obtain ⟨z, hz⟩ : ∃ z, min 10000 (y + by_) = z := ⟨_, rfl⟩
    have hzb : y ≤ z ∧ z ≤ 10000 := by rw [← hz]; have := HY.out; omega
    rw [hz]
    have hlen : (me.set K z).length = me.length := List.length_set ..
    have HM0 := HO.out.setOwn hKm (.int .i64 z)
    rw [flat_set, ← hlen] at HM0
    have HM1 := hide (OwnS.slice vI_len HM0)
    rw [hlen] at HM1
    have hgk : (me.set K z).getD K 0 = z := by rw [List.getD_eq_getElem?_getD, List.getElem?_set_self hKm]; rfl
    have hgy : me.getD K 0 = y := by rw [getD_at hKm]; exact HYE.out
    obtain ⟨v9, e1, e2⟩ := HUP.out (me.set K z) hlen (by rw [hgk, hgy]; exact hzb.1) (by rw [hgk]; exact hzb.2) (fun i hi => by rw [List.getD_eq_getElem?_getD, List.getD_eq_getElem?_getD, List.getElem?_set_ne (fun e => hi e.symm)])
    obtain ⟨t3, t4, -⟩ := HOK.out _ v9
    have HB5 := hide (HB4.out.setCell (p := ⟨g, off + K, none⟩) (by have := HGB.out; have := HB3.out.size; show w.heap.size ≤ g; omega) (.int .i64 z))
    have HTB := hide (HT5.out _ HB5.out (me.set K z) _ HM1.out (by omega) (by omega) (by rw [hlen]; omega))
    rw [HE2.out _ v9] at HTB
    have HS5 := hide (HS.out.below (((bAlloc (Below.refl _ w3) (.cells #[] 3)).trans HB34.out).setCell (p := ⟨g, off + K, none⟩) HGB.out (.int .i64 z)))
    obtain ⟨m, hm⟩ : ∃ m, tkL sh ow (me.set K z) = m := ⟨_, rfl⟩
    rw [hm] at e1 e2 t3 t4 HTB
    obtain ⟨w5, hw5⟩ : ∃ W, w4.setCell ⟨g, off + K, none⟩ (.int .i64 z) = W := ⟨_, rfl⟩
    rw [hw5] at HB5 HTB HS5 ⊢
    have HE1 := hide e1
    have HEO := hide e2
    have HT3 := hide t3
    clear hm hw5 e1 e2 t3 t4 v9 hgk hgy HM0 HM1 hlen hz hzb e9 c0 z0 HY HYE HO HUP HOK hKm hKI hK0 hcpI hcmI
    refine HTB.out.mono ?_
    rintro e w6 ⟨u, rfl, hs, hb⟩
    obtain ⟨vo, vc, rfl⟩ : ∃ uo uc, u = .slice uo m.length uc := hs.shape
    have HR := hide hs
    have HS6 := hide (HS5.out.below hb)
    have HB6 := hide (bStepL HB5.out hb)
    clear hs hb HTB HS5 HS
    have hKI : (K : Int) < (l.length : Int) := by have := HT1.out; omega
    have hKm : (K : Int) < (m.length : Int) := by have := HT3.out; omega
    have hK0 : (0 : Int) ≤ (K : Int) := by omega
    have d2 : ((m.length : Int) != (l.length : Int)) = false := by rw [HT1.out, HT3.out]; simp
    have d2' : (m.length != l.length) = false := by rw [HT1.out, HT3.out]; simp
    obtain ⟨b1', off1, rfl, _, hcap, hcm, hc⟩ := SliceOf.at_ HS6.out (by omega)
    have hcpI : (l.length : Int) ≤ (uc : Int) := by omega
    have hcmI : (uc : Int) ≤ 9223372036854775807 := by unfold maxLen at hcm; omega
    obtain ⟨b2', off2, rfl, _, hcap2, hcm2, hc2⟩ := SliceOf.at_ HR.out (by omega)
    have hcpI2 : (m.length : Int) ≤ (vc : Int) := by omega
    have hcmI2 : (vc : Int) ≤ 9223372036854775807 := by unfold maxLen at hcm2; omega
    have x0 := int_cell hc (k := K) (by omega)
    have y0 := int_cell hc2 (k := K) (by omega)
    have hle := HE1.out
    rw [getD_at (by omega), getD_at (by omega)] at hle
    obtain ⟨x, hx⟩ : ∃ x, l[K]'(by omega) = x := ⟨_, rfl⟩
    obtain ⟨y', hy'⟩ : ∃ x, m[K]'(by omega) = x := ⟨_, rfl⟩
    rw [hx] at x0 hle
    rw [hy'] at y0 hle
    have d3 : decide (y' < x) = false := decide_eq_false (by omega)
    have HC1 : Hid (∀ k (hk : k < l.length), w6.cell? ⟨b1', off1 + k, none⟩ = some (.int .i64 l[k])) := fun k hk => int_cell hc hk
    have HC2 : Hid (∀ k (hk : k < m.length), w6.cell? ⟨b2', off2 + k, none⟩ = some (.int .i64 m[k])) := fun k hk => int_cell hc2 hk
    clear hx hy' hc hc2 hcap hcm hcap2 hcm2
    go_wp2_with fail
    go_quiet (fail)
    obtain ⟨w7, hw7⟩ : ∃ W, w6.drewN nq = W := ⟨_, rfl⟩
    have HB67 := hide (drw_below (B := w6.heap.size) hw7)
    have HB7 := hide (bStepL HB6.out HB67.out)
    rw [hw7]
    clear hw7 x0 y0 hle d3 d2 d2' hKI hKm hK0
    have HO0 := hide (OwnS.lit_nil w7 1 3)
    have HA0 := hide ((HS3.out.below HB7.out).below (bAlloc (Below.refl _ w7) (.cells #[] 3)))
    have HSZ7 : Hid (w7.heap.size ≤ (w7.alloc (.cells #[] 3)).heap.size) := by show _ ≤ _; simp
    go_wp2_with (at_builtin; refine wpList_append_slice (by rfl) _ _ 22 rfl w7.heap.size 3 i0 (.int .i64 0) 1 8 Tryz.underlying22 hi hz0' hz1 hz2 rfl (by decide) vI_len vI_one _ 0 [] rfl HO0.out _ me rfl HA0.out HMX.out HBS.out HSZ7.out ?_)
    intro ao4 cap4 w8 hown4 hg4 hb4
    try simp only [Nat.zero_add, List.nil_append] at hown4
    try simp only [Nat.zero_add]
    obtain ⟨g2, off3, cap, hsh, hgB2, hcp2, hcm3, -, -⟩ := hown4.spot1 (by have := HML.out; omega)
    obtain ⟨rfl, rfl⟩ : ao4 = some ⟨g2, off3, none⟩ ∧ cap4 = cap := by injection hsh with e1 e2 e3; exact ⟨e1, e3⟩
    have HO := hide hown4
    have HB8 : Hid (Below w7.heap.size w7 w8) := (bAlloc (Below.refl _ w7) (.cells #[] 3)).trans hb4
    have HGB2 := hide hgB2
    have HCP2 : Hid ((me.length : Int) ≤ (cap4 : Int) ∧ (cap4 : Int) ≤ 9223372036854775807) := ⟨by omega, by unfold maxLen at hcm3; omega⟩
    clear hown4 hg4 hb4 hsh hgB2 hcp2 hcm3 HO0 HA0
    go_wp2_with fail
    try rw [hC]
    clear hC hK r0 r1
    have HML2 := hide (show ∀ k, k < ow.length → k < me.length from fun k hk => by have := HML.out; omega)
    go_loopw [22] (fun i wx => ∃ (k : Nat) (S : List Int), k ≤ ow.length ∧ i = .int .i64 (k : Int) ∧ S.length = me.length ∧ (∀ j, S.getD j 0 = if j < k ∧ ow.getD j 0 = ow.getD K 0 then me.getD j 0 * C else me.getD j 0) ∧ OwnS wx w7.heap.size 1 (.slice (some ⟨g2, off3, none⟩) me.length cap4) me.length (flatV vI S) ∧ Below w7.heap.size w7 wx) (fun i _ => ow.length - (intOf i).toNat)
    case atStart => exact ⟨0, me, Nat.zero_le _, rfl, rfl, fun j => by rw [if_neg (fun h => absurd h.1 (Nat.not_lt_zero _))], HO.out, HB8.out⟩
    case round =>
      obtain ⟨k, S, hk, rfl, hSl, hSg, hown, hbl⟩ := hrel
      have HOW := hide hown
      have HBL := hide hbl
      have HSG := hide hSg
      have HSL := hide hSl
      clear hSg hown hbl hSl
      by_cases hlt : k < ow.length
      · have hki : (k : Int) < (ow.length : Int) := by omega
        have hk0 : (0 : Int) ≤ (k : Int) := by omega
        have hKi : (K : Int) < (ow.length : Int) := by omega
        have hK0 : (0 : Int) ≤ (K : Int) := by omega
        obtain ⟨b3', off4, rfl, _, hcap, hcm, hc⟩ := SliceOf.at_ HS2.out (by omega)
        have hcpI3 : (ow.length : Int) ≤ (c2 : Int) := by omega
        have hcmI3 : (c2 : Int) ≤ 9223372036854775807 := by unfold maxLen at hcm; omega
        have HBW := hide (bStepL HB7.out HBL.out)
        have x0 := keep_cell HBW.out (int_cell hc hlt)
        have y0 := keep_cell HBW.out (int_cell hc hKl)
        have HEX : Hid (ow.getD k 0 = ow[k]) := getD_at hlt
        have HEY : Hid (ow.getD K 0 = ow[K]) := getD_at hKl
        have HX0 := hide x0
        have HY0 := hide y0
        obtain ⟨x, hx⟩ : ∃ x, ow[k] = x := ⟨_, rfl⟩
        obtain ⟨y, hy⟩ : ∃ x, ow[K] = x := ⟨_, rfl⟩
        rw [hx] at x0 HX0 HEX
        rw [hy] at y0 HY0 HEY
        clear hx hy hc hcap hcm
        by_cases hxy : x = y
        · subst hxy
          have hkm := HML2.out k hlt
          have hkS : k < S.length := by rw [HSL.out]; exact hkm
          go_wp2_with fail
          go_quiet (fail)
          obtain ⟨w9, hw9⟩ : ∃ W, wr.drewN nq = W := ⟨_, rfl⟩
          have HB9 := hide (drw_below (B := wr.heap.size) hw9)
          rw [hw9]
          clear hw9 x0 y0
          have x0 := keep_cell HB9.out HX0.out
          have y0 := keep_cell HB9.out HY0.out
          go_wp2_with fail
          go_quiet (fail)
          obtain ⟨w10, hw10⟩ : ∃ W, w9.drewN nq = W := ⟨_, rfl⟩
          have HB10 := hide (bStepL HB9.out (drw_below (B := w9.heap.size) hw10))
          rw [hw10]
          clear hw10 x0 y0
          have HOX := hide (HOW.out.below HB10.out)
          obtain ⟨g3, off5, cap5, hsh, hgB3, hcp3, hcm4, hcel, hfz⟩ := HOX.out.spot1 (by omega)
          obtain ⟨⟨rfl, rfl⟩, rfl⟩ : (g2 = g3 ∧ off3 = off5) ∧ cap4 = cap5 := by
            simp only [Value.slice.injEq, Option.some.injEq, Addr.mk.injEq, and_true, true_and] at hsh
            exact hsh
          have hSk : S[k] = me[k] := by
            have := HSG.out k
            rw [if_neg (fun h => Nat.lt_irrefl _ h.1), getD_at hkS, getD_at hkm] at this
            exact this
          have c0 := hcel k _ (flat_at hkS)
          have z0 := hfz k hkm
          have hp := HP3.out _ (List.getElem_mem hkm)
          have hmg : me.getD k 0 = me[k] := getD_at hkm
          rw [hSk] at c0
          obtain ⟨t, ht⟩ : ∃ t, me[k] = t := ⟨_, rfl⟩
          rw [ht] at c0 hp hmg
          have hmul : 1 * 1 ≤ t * C ∧ t * C ≤ 10000 * 4 := ⟨Int.mul_le_mul hp.1 hC1 (by omega) (by omega), Int.mul_le_mul hp.2 hC4 (by omega) (by omega)⟩
          have q0 : IntKind.i64.wrap (t * C) = t * C := IntWalk.i64_in _ (by omega)
          have q0' : wrap64 (t * C) = t * C := IntWalk.wrap64_in _ (by omega)
          have hkmI : (k : Int) < (me.length : Int) := by omega
          have hcpJ := HCP2.out.1
          have hcmJ := HCP2.out.2
          have HS2' := hide (HOX.out.setOwn hkm (.int .i64 (t * C)))
          rw [flat_set] at HS2'
          have HSG2 : Hid (∀ j, (S.set k (t * C)).getD j 0 = if j < k + 1 ∧ ow.getD j 0 = ow.getD K 0 then me.getD j 0 * C else me.getD j 0) := fun j => by
            by_cases e : j = k
            · subst e
              rw [List.getD_eq_getElem?_getD, List.getElem?_set_self hkS, if_pos ⟨Nat.lt_succ_self _, by rw [HEX.out, HEY.out]⟩, hmg]; rfl
            · have := HSG.out j
              rw [List.getD_eq_getElem?_getD, List.getElem?_set_ne (fun h => e h.symm), ← List.getD_eq_getElem?_getD, this]
              have e1 : (j < k + 1 ∧ ow.getD j 0 = ow.getD K 0) ↔ (j < k ∧ ow.getD j 0 = ow.getD K 0) := by constructor <;> (rintro ⟨h1, h2⟩; exact ⟨by omega, h2⟩)
              simp only [e1]
          have HBN := hide ((btrans HBL.out HBL.out.size HB10.out).setCell (p := ⟨g2, off3 + k, none⟩) HGB2.out (.int .i64 (t * C)))
          have HSN : Hid ((S.set k (t * C)).length = me.length) := by show _ = _; rw [List.length_set]; exact HSL.out
          clear hcel hfz hsh hgB3 hcp3 hcm4 hmg hp hSk ht
          go_wp2_with fail
          go_roundw
          case rel => exact ⟨k + 1, _, by omega, by go_num, HSN.out, HSG2.out, HS2'.out, HBN.out⟩
          case measure => (simp [intOf]; omega)
        · have d4 : (x != y) = true := by rw [bne_iff_ne]; exact hxy
          have d5 : (x == y) = false := by rw [beq_eq_false_iff_ne]; exact hxy
          have hkl : k < l.length := by have := HT1.out; omega
          have hkm : k < m.length := by have := HT3.out; omega
          have hklI : (k : Int) < (l.length : Int) := by omega
          have hkmI : (k : Int) < (m.length : Int) := by omega
          have hsame := HEO.out k hlt (by rw [HEX.out, HEY.out]; exact hxy)
          rw [getD_at hkl, getD_at hkm] at hsame
          have HBQ := hide (bStepL HB67.out HBL.out)
          have l0 := keep_cell HBQ.out (HC1.out k hkl)
          have m0 := keep_cell HBQ.out (HC2.out k hkm)
          rw [hsame] at m0
          obtain ⟨t, ht⟩ : ∃ t, l[k] = t := ⟨_, rfl⟩
          rw [ht] at l0 m0
          clear ht hsame
          go_wp2_with fail
          go_quiet (fail)
          obtain ⟨w9, hw9⟩ : ∃ W, wr.drewN nq = W := ⟨_, rfl⟩
          have HB9 := hide (drw_below (B := wr.heap.size) hw9)
          rw [hw9]
          clear hw9 x0 y0 l0 m0
          have x0 := keep_cell HB9.out HX0.out
          have y0 := keep_cell HB9.out HY0.out
          go_wp2_with fail
          go_quiet (fail)
          obtain ⟨w10, hw10⟩ : ∃ W, w9.drewN nq = W := ⟨_, rfl⟩
          have HB10 := hide (bStepL HB9.out (drw_below (B := w9.heap.size) hw10))
          rw [hw10]
          clear hw10 x0 y0
          have HOX := hide (HOW.out.below HB10.out)
          have HSG2 : Hid (∀ j, S.getD j 0 = if j < k + 1 ∧ ow.getD j 0 = ow.getD K 0 then me.getD j 0 * C else me.getD j 0) := fun j => by
            have e1 : (j < k + 1 ∧ ow.getD j 0 = ow.getD K 0) ↔ (j < k ∧ ow.getD j 0 = ow.getD K 0) := by
              constructor
              · rintro ⟨h1, h2⟩
                refine ⟨?_, h2⟩
                by_cases e : j = k
                · subst e; rw [HEX.out, HEY.out] at h2; exact absurd h2 hxy
                · omega
              · rintro ⟨h1, h2⟩; exact ⟨by omega, h2⟩
            simp only [e1]
            exact HSG.out j
          have HBN := hide (btrans HBL.out HBL.out.size HB10.out)
          go_wp2_with fail
          go_roundw
          case rel => exact ⟨k + 1, S, by omega, by go_num, HSL.out, HSG2.out, HOX.out, HBN.out⟩
          case measure => (simp [intOf]; omega)
      · have hk' : k = ow.length := by omega
        subst hk'
        have HSS := hide (OwnS.slice vI_len (by rw [HSL.out]; exact HOW.out))
        have HBW := hide (bStepL HB7.out HBL.out)
        have HCC := hide (HSC.out S HSL.out)
        have HSg' : Hid (∀ i, i < ow.length → S.getD i 0 = if ow.getD i 0 = ow.getD K 0 then me.getD i 0 * C else me.getD i 0) := fun i hi => by
          have := HSG.out i
          have e1 : (i < ow.length ∧ ow.getD i 0 = ow.getD K 0) ↔ ow.getD i 0 = ow.getD K 0 := ⟨fun h => h.2, fun h => ⟨hi, h⟩⟩
          simp only [e1] at this
          exact this
        rw [← HSL.out] at HSS HCP2 ⊢
        have q4 : S.length ≤ 210 := by rw [HSL.out]; omega
        clear hk hlt HSG HOW
        go_wp2_with fail
        have HS9 := hide (HS6.out.below (bStepL HB67.out HBL.out))
        have HTC := hide (HT5.out _ HBW.out S _ HSS.out (by omega) (by omega) (by omega))
        clear HT5 HO HB8
        go_loopw [23] (fun i wx => ∃ k : Nat, k ≤ S.length ∧ i = .int .i64 (k : Int) ∧ (∀ j (h : j < S.length), j < k → S[j] ≤ 10000) ∧ wx = wr) (fun i _ => S.length - (intOf i).toNat)
        case atStart => exact ⟨0, Nat.zero_le _, rfl, fun j _ h => absurd h (Nat.not_lt_zero _), rfl⟩
        case round =>
          obtain ⟨k, hk, rfl, hall, rfl⟩ := hrel
          have HA := hide hall
          clear hall
          by_cases hlt : k < S.length
          · have hki : (k : Int) < (S.length : Int) := by omega
            have hk0 : (0 : Int) ≤ (k : Int) := by omega
            obtain ⟨_, _, hsh, _, hcap, hcm, hc⟩ := SliceOf.at_ HSS.out (by omega)
            obtain ⟨rfl, rfl⟩ : g2 = _ ∧ off3 = _ := by
              simp only [Option.some.injEq, Addr.mk.injEq, and_true] at hsh
              exact hsh
            have hcpI4 := HCP2.out.1
            have hcmI4 := HCP2.out.2
            have c0 := int_cell hc hlt
            have HAk : Hid (S[k] ≤ 10000 → ∀ j (h : j < S.length), j < k + 1 → S[j] ≤ 10000) := fun e j h hj => by
              by_cases e2 : j = k
              · subst e2; exact e
              · exact HA.out j h (by omega)
            obtain ⟨x, hx⟩ : ∃ x, S[k] = x := ⟨_, rfl⟩
            rw [hx] at c0 HAk
            clear hx hc hcap hcm hsh HA
            by_cases hx1 : x ≤ 10000
            · have d6 : decide (10000 < x) = false := decide_eq_false (by omega)
              have HN := hide (HAk.out hx1)
              go_wp2_with fail
              go_roundw
              case rel => exact ⟨k + 1, by omega, by go_num, HN.out, trivial⟩
              case measure => (simp [intOf]; omega)
            · have d6 : decide (10000 < x) = true := decide_eq_true (by omega)
              go_wp2_with fail
              go_ret
              exact ⟨rfl, HBW.out⟩
          · obtain ⟨v8, e8⟩ := HCC.out (fun x hx => by
              obtain ⟨j, hj, rfl⟩ := List.mem_iff_getElem.1 hx
              exact HA.out j hj (by omega)) HSg'.out
            have hk' : k = S.length := by omega
            subst hk'
            rw [e8, HE2.out _ v8] at HTC
            clear HA e8 v8 HCC HSg' HE2
            go_wp2_with fail
            refine HTC.out.mono ?_
            rintro e wz ⟨u, rfl, hs, hb⟩
            have HIN := hide (ref29_ints l l _ u wz true (by simp) (HS9.out.below hb) hs (by have := HT1.out; omega))
            obtain ⟨xo, xc, rfl⟩ : ∃ uo uc, u = .slice uo l.length uc := hs.shape
            have HBZ := hide (bStepL HBW.out hb)
            clear hs hb
            go_wp2_with fail
            refine HIN.out.mono ?_
            rintro e wy ⟨rfl, hb⟩
            have HBY := hide (bStepL HBZ.out hb)
            go_wp2_with fail
            go_ret
            exact ⟨rfl, HBY.out⟩
end Go.Proofs.YtcgplokdklomlaaGreatDoor
