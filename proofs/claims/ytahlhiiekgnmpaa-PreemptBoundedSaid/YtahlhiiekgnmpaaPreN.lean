/- The statement PreemptBounded. -/
import Derived.Test.YtahlhiiekgnmpaaPreL
import Derived.Test.YtahlhiiekgnmpaaPreO
namespace Go.Proofs.Ytahlhiiekgnmpaa
open Go.RowKit

theorem bounded_facts {win bud : Int} {l : List IP} (h : runB win bud l = true) (m : Int) :
    vldL (tkK win bud l l.length) = true ∧ worB win (tkK win bud l l.length) = true ∧ worV win (tkK win bud l l.length) ≤ bud ∧ costW win m (tkK win bud l l.length) ≤ bud ∧ (tkK win bud l l.length).length ≤ 200 ∧ 1 ≤ win ∧ win ≤ 38400 ∧ 0 ≤ bud ∧ bud ≤ 1000000 := by
  obtain ⟨hv, hlim⟩ := runB_iff.1 h
  obtain ⟨w0, w1, b0, b1⟩ := limB_bd hlim
  have hT := vldL_sublist ((tkK_sub win bud l l.length (Nat.le_refl _)).trans (List.take_sublist _ _)) hv
  have hB : worB win (tkK win bud l l.length) = true := by
    unfold worB
    rw [hT, limB_eq, winB_yes.2 ⟨w0, w1⟩, inB_yes.2 (by omega)]; rfl
  have hW : worV win (tkK win bud l l.length) ≤ bud := by
    unfold worV
    rw [if_pos hB]
    exact worst_le hT w0 w1 b0 fun m => tkK_bounded hv w0 w1 b0 m l.length (Nat.le_refl _)
  exact ⟨hT, hB, hW, tkK_bounded hv w0 w1 b0 m l.length (Nat.le_refl _), (vldL_iff.1 hT).2.2, w0, w1, b0, b1⟩
theorem bDrew {B : Nat} {a w : World} (h : Below B a w) : Below B a w.drew := ⟨h.os, h.tape, h.output, h.size, h.block⟩
theorem acc_take {win bud : Int} {l : List IP} {k : Nat} (hk : k ≤ l.length) : accK (l.take k) (outK win bud l l.length) (l.take k).length = tkK win bud l k := by
  rw [List.length_take, Nat.min_eq_left hk, accK_take k (Nat.le_refl _), accK_tk k hk]

set_option maxHeartbeats 4000000 in
set_option maxRecDepth 100000 in
theorem preBounded_walk (l : List IP) (v : Value) (win bud m : Int) (w : World) (h : SliceOf vIP 2 w v l) (m0 : 0 ≤ m) (m1 : m < 65536) :
    Calls Try.prog 9 #[v, .int .i64 win, .int .i64 bud, .int .u16 m] w fun e w' => e = .returned (.bool true) ∧ Below w.heap.size w w' := by
  obtain ⟨ao, cp, rfl⟩ := h.shape
  have H := hide h
  clear h
  by_cases hl : (60 : Int) < (l.length : Int)
  · go_enter Try.func9, Try.ntmps9
    go_wp2_with fail
    refine (law40_head _).mono ?_
    rintro e w1 ⟨rfl, hb⟩
    go_wp2_with fail
    go_ret
    exact ⟨rfl, hb⟩
  go_enter Try.func9, Try.ntmps9
  go_wp2_with fail
  refine (law40_head _).mono ?_
  rintro e w1 ⟨rfl, hb⟩
  replace H := hide (H.out.below hb)
  have B1 := hide hb
  clear hb
  rcases Bool.eq_false_or_eq_true (runB win bud l) with h1 | h1
  · obtain ⟨hT, hTB, hTW, hTC, hTl, w0, wx, d0, d1⟩ := bounded_facts h1 m
    have hlen := outK_length win bud l l.length
    have hv := (runB_iff.1 h1).1
    have hTbd := hide (vldL_bdIP hT)
    have Hvbd := hide (vldL_bd hv).1
    have Hbd := hide (vldL_bdIP hv)
    have HT := hide hT
    have HTB := hide hTB
    have HV := hide hv
    clear hT hTB hv
    go_wp2_with fail
    refine (pre_run_at win bud l _ 0 _ _ H.out (runV_yes h1) (errC_yes h1)).mono ?_
    rintro e w2 ⟨u, rfl, hu, hb⟩
    replace H := hide (H.out.below hb)
    have HU := hide hu
    replace B1 := hide (btrans B1.out B1.out.size hb)
    clear hb hu
    obtain ⟨uo, uc, rfl⟩ := HU.out.shape
    have HX := hide fun hp => out_cells HU.out hp
    have HA := hide (fun (k : Nat) (hk : k ≤ l.length) => acc_take (win := win) (bud := bud) hk)
    have HR := hide (fun (k : Nat) (hk : k < l.length) => refused (bud := bud) HV.out w0 wx hk)
    have HTA : Hid (accK l (outK win bud l l.length) l.length = tkK win bud l l.length) := accK_tk l.length (Nat.le_refl _)
    have hi1 : ((outK win bud l l.length).length : Int) = (l.length : Int) := by rw [hlen]
    rw [hlen] at HU
    have H1 := hide h1
    clear h1
    go_wp2_with fail
    refine (law40_accepted l (outK win bud l l.length) _ _ _ H.out HU.out (by omega) (by omega)).mono ?_
    rintro e w3 ⟨t, rfl, ht, hb⟩
    have ht' := ht
    rw [HTA.out] at ht'
    have HTT := hide ht'
    replace H := hide (H.out.below hb)
    replace HU := hide (HU.out.below hb)
    have HX3 := hide hb
    replace B1 := hide (btrans B1.out B1.out.size hb)
    clear hb ht ht'
    obtain ⟨W, hW⟩ : ∃ W, worV win (tkK win bud l l.length) = W := ⟨_, rfl⟩
    rw [hW] at hTW
    have HW := hide hW
    clear hW
    go_wp2_with fail
    refine (pre_worst_at win (tkK win bud l l.length) W 0 _ _ HTT.out HW.out (errC_yes HTB.out)).mono ?_
    rintro e w4 ⟨rfl, hb⟩
    replace HTT := hide (HTT.out.below hb)
    replace H := hide (H.out.below hb)
    replace HU := hide (HU.out.below hb)
    replace HX3 := hide (btrans HX3.out HX3.out.size hb)
    replace B1 := hide (btrans B1.out B1.out.size hb)
    clear hb
    have dW : decide (bud < W) = false := by simp; omega
    go_wp2_with fail
    refine (law40_cost (tkK win bud l l.length) t win m _ HTT.out (by omega) hTbd.out (by omega) (by omega) (by omega) (by omega)).mono ?_
    rintro e w5 ⟨rfl, rfl⟩
    have dC : decide (bud < costW win m (tkK win bud l l.length)) = false := by simp; omega
    go_wp2_with fail
    clear dW dC hTW hTC HW
    have HW0 : Hid (SliceOf vIP 2 w4 (.slice ao l.length cp) l ∧ SliceOf vB 1 w4 (.slice uo l.length uc) (outK win bud l l.length)) := ⟨H.out, HU.out⟩
    have HC : Hid (∀ k (hk : k < l.length), ∃ b off b' off', ao = some ⟨b, off, none⟩ ∧ uo = some ⟨b', off', none⟩ ∧ l.length ≤ cp ∧ w4.cell? ⟨b, off + k * 2, none⟩ = some (.int .i64 l[k].1) ∧ w4.cell? ⟨b, off + k * 2 + 1, none⟩ = some (.int .i64 l[k].2) ∧ w4.cell? ⟨b', off' + k, none⟩ = some (.bool (decK win bud l k))) := by
      intro k hk
      obtain ⟨b, off, e1, hbw, hc⟩ := slice_cells H.out (by omega)
      have hcp : l.length ≤ cp := by
        obtain ⟨_, _, _, h1, _, h2, _⟩ := H.out.some_of_pos (by omega)
        simp only [Value.slice.injEq] at h1
        omega
      obtain ⟨b', off', e2, hbw', hc'⟩ := HX.out (by omega)
      obtain ⟨x0, x1⟩ := ip_cells hc hk
      exact ⟨b, off, b', off', e1, e2, hcp, x0, x1, keep_cell HX3.out (hc' k hk)⟩
    clear HX HX3 H HU HTT
    go_loopw [15] (fun i wr => ∃ k : Nat, k ≤ l.length ∧ i = .int .i64 k ∧ Below w4.heap.size w4 wr) (fun i _ => l.length - (intOf i).toNat)
    case atStart => exact ⟨0, Nat.zero_le _, rfl, Below.refl _ _⟩
    case round =>
      obtain ⟨k, hk, rfl, hbr⟩ := hrel
      have HBR := hide hbr
      clear hbr
      by_cases hlt : k < l.length
      · obtain ⟨b, off, b', off', rfl, rfl, hcp, x0, x1, x2⟩ := HC.out k hlt
        have hkc : (k : Int) ≤ (cp : Int) := by omega
        have hkl : (k : Int) ≤ (l.length : Int) := by omega
        have hki : (k : Int) < (l.length : Int) := by omega
        have y0 := keep_cell HBR.out x0
        have y1 := keep_cell HBR.out x1
        have y2 := keep_cell HBR.out x2
        have hgd : Hid (l.getD k (0, 0) = (l[k].1, l[k].2)) := by
          show l.getD k (0, 0) = _
          rw [getD_at hlt]
        have hbk := Hbd.out l[k] (List.getElem_mem hlt)
        obtain ⟨xa, hxa⟩ : ∃ x, l[k].1 = x := ⟨_, rfl⟩
        obtain ⟨xc, hxc⟩ : ∃ x, l[k].2 = x := ⟨_, rfl⟩
        unfold bdIP at hbk
        rw [hxa] at x0 y0 hgd hbk
        rw [hxc] at x1 y1 hgd hbk
        clear hxa hxc
        rcases Bool.eq_false_or_eq_true (decK win bud l k) with hd | hd
        · rw [hd] at y2
          clear hd x0 x1 x2
          go_wp2_with fail
          go_quiet (fail)
          go_wp2_with fail
          go_roundw
          case rel => exact ⟨k + 1, by omega, by go_num, below_drewN HBR.out _⟩
          case measure => simp [intOf]; omega
        · rw [hd] at x2 y2
          have href := HR.out k hlt hd
          rw [hgd.out] at href
          have hcb := costW_bd win xa (tkK win bud l k) fun x hx => Hbd.out x (List.mem_of_mem_take ((tkK_sub win bud l k (by omega)).subset hx))
          have htl := tkK_length win bud l k
          simp only at href
          obtain ⟨C, hC⟩ : ∃ C, costW win xa (tkK win bud l k) = C := ⟨_, rfl⟩
          rw [hC] at href hcb
          have HCC := hide hC
          clear hd hC
          have HKS : Hid (∀ W, Below w4.heap.size w4 W → W.cell? ⟨b, off + k * 2, none⟩ = some (.int .i64 xa) ∧ W.cell? ⟨b, off + k * 2 + 1, none⟩ = some (.int .i64 xc) ∧ W.cell? ⟨b', off' + k, none⟩ = some (.bool false) ∧ Below w4.heap.size w4 W) :=
            fun W hW => ⟨keep_cell hW x0, keep_cell hW x1, keep_cell hW x2, hW⟩
          clear x0 x1 x2
          have hwr : IntKind.i64.wrap (C + xc) = C + xc := IntWalk.i64_in _ (by omega)
          have hle : decide (C + xc ≤ bud) = false := by simp; omega
          go_wp2_with fail
          go_region_held3 (fun w' => w'.cell? ⟨b, off + k * 2, none⟩ = some (.int .i64 xa) ∧ w'.cell? ⟨b, off + k * 2 + 1, none⟩ = some (.int .i64 xc) ∧ w'.cell? ⟨b', off' + k, none⟩ = some (.bool false) ∧ Below w4.heap.size w4 w')
            (first | exact HKS.out _ (bDrew HBR.out) | exact HKS.out _ HB6.out | go_keep)
            (first
              | (go_at_call 37
                 refine (law40_accepted (l.take k) (outK win bud l l.length) _ _ _ ((HW0.out.1.below (bDrew HBR.out)).take (by omega)) (HW0.out.2.below (bDrew HBR.out)) (by rw [List.length_take, hlen]; omega) (by rw [List.length_take]; omega)).mono ?_
                 rintro e w6 ⟨u, rfl, hu6, hb6⟩
                 rw [HA.out k hk] at hu6
                 have HU6 := hide hu6
                 have HB6 := hide (btrans (bDrew HBR.out) (bDrew HBR.out).size hb6)
                 clear hu6 hb6)
              | (go_at_call 38
                 refine (law40_cost (tkK win bud l k) u win xa _ HU6.out (by omega) (fun x hx => Hbd.out x (List.mem_of_mem_take ((tkK_sub win bud l k (by omega)).subset hx))) (by omega) (by omega) (by omega) (by omega)).mono ?_
                 rintro e w7 ⟨rfl, rfl⟩
                 rw [HCC.out]))
          go_wp2_with fail
          go_roundw
          case rel => exact ⟨k + 1, by omega, by go_num, HB6.out⟩
          case measure => simp [intOf]; omega
      · have hk' : k = l.length := by omega
        subst hk'
        go_wp2_with fail
        go_ret
        exact ⟨rfl, btrans B1.out B1.out.size HBR.out⟩
  · go_wp2_with fail
    refine (pre_run_at win bud l [] 1 _ _ H.out (runV_no h1) (errC_no h1)).mono ?_
    rintro e w2 ⟨u, rfl, hu, hb⟩
    replace B1 := hide (btrans B1.out B1.out.size hb)
    obtain ⟨uo, uc, rfl⟩ := hu.shape
    clear hu hb
    go_wp2_with fail
    go_ret
    exact ⟨rfl, B1.out⟩
end Go.Proofs.Ytahlhiiekgnmpaa
