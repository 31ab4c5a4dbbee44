/- The statement PreemptWorst. -/
import Derived.Test.YtahlhiiekgnmpaaPreL
import Derived.Test.YtahlhiiekgnmpaaPreO
namespace Go.Proofs.Ytahlhiiekgnmpaa
open Go.RowKit

theorem worB_iff {win : Int} {l : List IP} : worB win l = true ↔ vldL l = true ∧ 1 ≤ win ∧ win ≤ 38400 := by
  unfold worB
  rw [limB_eq, Bool.and_eq_true, Bool.and_eq_true, winB_yes, inB_yes]
  exact ⟨fun h => ⟨h.1, h.2.1⟩, fun h => ⟨h.1, h.2, by omega⟩⟩
theorem worV_eq {win : Int} {l : List IP} (h : worB win l = true) : worV win l = wK win l l.length := by unfold worV; rw [if_pos h]
theorem worV_no {win : Int} {l : List IP} (h : worB win l = false) : worV win l = 0 := by unfold worV; rw [h]; rfl
theorem worst_sum {win : Int} {l : List IP} (h : worB win l = true) : worV win l ≤ sumC l := by
  obtain ⟨hv, w0, w1⟩ := worB_iff.1 h
  rw [worV_eq h]
  exact worst_le hv w0 w1 (sumC_bd l (vldL_bdIP hv)).1 fun m => costW_sum (vldL_bdIP hv)
theorem worst_any {win : Int} {l : List IP} (h : worB win l = true) (m : Int) : costW win m l ≤ worV win l := by
  obtain ⟨hv, w0, w1⟩ := worB_iff.1 h
  rw [worV_eq h]
  exact worst_ge hv w0 w1
theorem worst_more {win by_ : Int} {l : List IP} (h : worB win l = true) (hb : 0 ≤ by_) (h2 : worB (win + by_) l = true) : worV win l ≤ worV (win + by_) l := by
  obtain ⟨hv, w0, w1⟩ := worB_iff.1 h
  obtain ⟨_, x0, x1⟩ := worB_iff.1 h2
  rw [worV_eq h, worV_eq h2]
  refine worst_le hv w0 w1 (wK_nonneg _ _ _) fun m => Int.le_trans ?_ (worst_ge (m := m) hv x0 x1)
  exact costW_mono (vldL_bdIP hv) fun x hx h1 h2 => ⟨by omega, h2⟩
theorem worst_less {win : Int} {l : List IP} (h : worB win l = true) (k : Nat) : worB win (l.take k) = true ∧ worV win (l.take k) ≤ worV win l := by
  obtain ⟨hv, w0, w1⟩ := worB_iff.1 h
  have hv' := vldL_sublist (List.take_sublist k l) hv
  have h' : worB win (l.take k) = true := worB_iff.2 ⟨hv', w0, w1⟩
  refine ⟨h', ?_⟩
  rw [worV_eq h, worV_eq h']
  exact worst_le hv' w0 w1 (wK_nonneg _ _ _) fun m => Int.le_trans (costW_sublist (List.take_sublist k l) (vldL_bdIP hv)) (worst_ge (m := m) hv w0 w1)
theorem worst_last {win : Int} {l : List IP} (h : worB win l = true) {k : Nat} (hk : k < l.length) : l[k].2 ≤ worV win l := by
  obtain ⟨hv, w0, w1⟩ := worB_iff.1 h
  exact Int.le_trans (costW_one (win := win) (m := l[k].1) (vldL_bdIP hv) (List.getElem_mem hk) (by omega) (Int.le_refl _)) (worst_any h l[k].1)
/-- Whether one of the windows that end at the first k costs a. -/
def fndK (win a : Int) (l : List IP) : Nat → Bool
  | 0 => decide (l.length = 0 ∧ a = 0)
  | k + 1 => fndK win a l k || decide (costW win (l.getD k (0, 0)).1 l = a)
theorem fndK_mem {win a : Int} {l : List IP} {i : Nat} (hi : costW win (l.getD i (0, 0)).1 l = a) : ∀ k, i < k → fndK win a l k = true
  | k + 1, h => by
    show (fndK win a l k || decide _) = true
    by_cases e : i = k
    · subst e
      rw [decide_eq_true hi, Bool.or_true]
    · rw [fndK_mem hi k (by omega), Bool.true_or]
theorem fndK_all {win : Int} {l : List IP} (h : worB win l = true) : fndK win (worV win l) l l.length = true := by
  obtain ⟨hv, w0, w1⟩ := worB_iff.1 h
  by_cases h0 : l.length = 0
  · have e : l = [] := List.eq_nil_of_length_eq_zero h0
    subst e
    rw [worV_eq h]; rfl
  · obtain ⟨i, hi, e⟩ := worst_found hv w0 w1 (by omega)
    rw [← worV_eq h] at e
    exact fndK_mem e _ hi
theorem sumC_take {l : List IP} {k : Nat} (h : k < l.length) : sumC (l.take (k + 1)) = sumC (l.take k) + l[k].2 := by
  rw [List.take_succ_eq_append_getElem h, sumC_append]; simp [sumC]

set_option maxHeartbeats 4000000 in
set_option maxRecDepth 100000 in
theorem preWorst_walk (l : List IP) (v : Value) (win by_ m : Int) (w : World) (h : SliceOf vIP 2 w v l) (y0 : 0 ≤ by_) (y1 : by_ < 65536) (m0 : 0 ≤ m) (m1 : m < 65536) :
    Calls Try.prog 13 #[v, .int .i64 win, .int .u16 by_, .int .u16 m] w fun e w' => e = .returned (.bool true) ∧ Below w.heap.size w w' := by
  obtain ⟨ao, cp, rfl⟩ := h.shape
  have H := hide h
  clear h
  by_cases hl : (60 : Int) < (l.length : Int)
  · rcases Bool.eq_false_or_eq_true (worB win l) with h1 | h1
    · go_enter Try.func13, Try.ntmps13
      go_wp2_with fail
      refine (law40_head _).mono ?_
      rintro e w1 ⟨rfl, hb⟩
      replace H := hide (H.out.below hb)
      have B1 := hide hb
      clear hb
      go_wp2_with fail
      refine (pre_worst_at win l _ 0 _ _ H.out rfl (errC_yes h1)).mono ?_
      rintro e w2 ⟨rfl, hb⟩
      replace B1 := hide (btrans B1.out B1.out.size hb)
      go_wp2_with fail
      go_ret
      exact ⟨rfl, B1.out⟩
    · go_enter Try.func13, Try.ntmps13
      go_wp2_with fail
      refine (law40_head _).mono ?_
      rintro e w1 ⟨rfl, hb⟩
      replace H := hide (H.out.below hb)
      have B1 := hide hb
      clear hb
      go_wp2_with fail
      refine (pre_worst_at win l 0 1 _ _ H.out (worV_no h1) (errC_no h1)).mono ?_
      rintro e w2 ⟨rfl, hb⟩
      replace B1 := hide (btrans B1.out B1.out.size hb)
      go_wp2_with fail
      go_ret
      exact ⟨rfl, B1.out⟩
  rcases Bool.eq_false_or_eq_true (worB win l) with h1 | h1
  · obtain ⟨hv, w0, wx⟩ := worB_iff.1 h1
    have Hbd := hide (vldL_bdIP hv)
    have hsum := worst_sum h1
    have hany := worst_any h1 m
    have HF := hide (fndK_all h1)
    have HMore := hide (fun h2 => worst_more (by_ := by_) h1 y0 h2)
    have HLess := hide (worst_less h1 (l.length - 1))
    have HLast := hide (fun hk => worst_last h1 (k := l.length - 1) hk)
    have HW1 := hide (errC_yes h1)
    obtain ⟨A, hA⟩ : ∃ A, worV win l = A := ⟨_, rfl⟩
    have hA0 : 0 ≤ A := by
      rw [← hA, worV_eq h1]; exact wK_nonneg _ _ _
    rw [hA] at hsum hany HF HMore HLess HLast
    have HA := hide hA
    clear hA h1 hv
    have HC : Hid (∀ k (hk : k < l.length), ∃ b off, ao = some ⟨b, off, none⟩ ∧ b < w.heap.size ∧ l.length ≤ cp ∧ w.cell? ⟨b, off + k * 2, none⟩ = some (.int .i64 l[k].1) ∧ w.cell? ⟨b, off + k * 2 + 1, none⟩ = some (.int .i64 l[k].2)) := by
      intro k hk
      obtain ⟨b, off, e1, hbw, hc⟩ := slice_cells H.out (by omega)
      have hcp : l.length ≤ cp := by
        obtain ⟨_, _, _, h1, _, h2, _⟩ := H.out.some_of_pos (by omega)
        simp only [Value.slice.injEq] at h1
        omega
      obtain ⟨x0, x1⟩ := ip_cells hc hk
      exact ⟨b, off, e1, hbw, hcp, x0, x1⟩
    go_enter Try.func13, Try.ntmps13
    go_wp2_with fail
    refine (law40_head _).mono ?_
    rintro e w1 ⟨rfl, hb⟩
    replace H := hide (H.out.below hb)
    have B1 := hide hb
    clear hb
    go_wp2_with fail
    refine (pre_worst_at win l A 0 _ _ H.out HA.out HW1.out).mono ?_
    rintro e w2 ⟨rfl, hb⟩
    replace H := hide (H.out.below hb)
    replace B1 := hide (btrans B1.out B1.out.size hb)
    clear hb
    have HCW : Hid (∀ k (hk : k < l.length), ∃ b off, ao = some ⟨b, off, none⟩ ∧ l.length ≤ cp ∧ w2.cell? ⟨b, off + k * 2, none⟩ = some (.int .i64 l[k].1) ∧ w2.cell? ⟨b, off + k * 2 + 1, none⟩ = some (.int .i64 l[k].2)) := by
      intro k hk
      obtain ⟨b, off, e1, hbw, hcp, x0, x1⟩ := HC.out k hk
      exact ⟨b, off, e1, hcp, keep_cell B1.out x0, keep_cell B1.out x1⟩
    clear HC
    by_cases h0 : l.length = 0
    · have e0 : l = [] := List.eq_nil_of_length_eq_zero h0
      have hA1 : A = 0 := by
        rw [e0] at hsum
        have : sumC ([] : List IP) = 0 := rfl
        omega
      subst e0 hA1
      have H' : Hid (SliceOf vIP 2 w2 (.slice ao 0 cp) []) := H
      clear H HCW
      go_wp2_with fail
      go_loop [12, 13, 14] (fun s f i => s = .int .i64 0 ∧ f = .bool true ∧ i = .int .i64 0) (fun _ _ _ => 0)
      case atStart => exact ⟨rfl, rfl, rfl⟩
      case round =>
        obtain ⟨rfl, rfl, rfl⟩ := hrel
        have e1 : ∀ W : Int, worV W [] = 0 := fun W => by
          unfold worV
          split <;> rfl
        have e2 : costW win m [] = 0 := rfl
        go_wp2_with fail
        refine (pre_worst_at (win + by_) [] 0 _ _ _ H'.out (e1 _) rfl).mono ?_
        rintro e w3 ⟨rfl, hb⟩
        replace H' := hide (H'.out.below hb)
        replace B1 := hide (btrans B1.out B1.out.size hb)
        clear hb e1
        rcases Bool.eq_false_or_eq_true (worB (win + by_) []) with h2 | h2
        · rw [h2]
          have e3 : errC true = 0 := rfl
          rw [e3]
          go_wp2_with fail
          refine (law40_cost [] _ win m _ H'.out (by simp) (by intro x hx; cases hx) (by omega) (by omega) (by omega) (by omega)).mono ?_
          rintro e w5 ⟨rfl, rfl⟩
          rw [e2]
          go_wp2_with fail
          go_ret
          exact ⟨rfl, B1.out⟩
        · rw [h2]
          have e3 : errC false = 1 := rfl
          rw [e3]
          go_wp2_with fail
          refine (law40_cost [] _ win m _ H'.out (by simp) (by intro x hx; cases hx) (by omega) (by omega) (by omega) (by omega)).mono ?_
          rintro e w5 ⟨rfl, rfl⟩
          rw [e2]
          go_wp2_with fail
          go_ret
          exact ⟨rfl, B1.out⟩
    · have h0' : ((l.length : Int) == 0) = false := beq_eq_false_iff_ne.2 (by omega)
      have h0'' : ¬ (l.length : Int) = 0 := by omega
      go_wp2_with fail
      go_loop [12, 13, 14] (fun s f i => ∃ k : Nat, k ≤ l.length ∧ s = .int .i64 (sumC (l.take k)) ∧ f = .bool (fndK win A l k) ∧ i = .int .i64 k) (fun _ _ i => l.length - (intOf i).toNat)
      case atStart =>
        refine ⟨0, Nat.zero_le _, rfl, ?_, rfl⟩
        have : fndK win A l 0 = false := decide_eq_false (by omega)
        rw [this]
      case round =>
        obtain ⟨k, hk, rfl, rfl, rfl⟩ := hrel
        by_cases hlt : k < l.length
        · obtain ⟨b, off, rfl, hcp, x0, x1⟩ := HCW.out k hlt
          have hki : (k : Int) < (l.length : Int) := by omega
          have hbk := Hbd.out l[k] (List.getElem_mem hlt)
          have hs1 := sumC_take hlt
          have hsb := sumC_bd (l.take k) fun x hx => Hbd.out x (List.mem_of_mem_take hx)
          have htl : (l.take k).length ≤ k := List.length_take_le _ _
          have hf1 : fndK win A l (k + 1) = (fndK win A l k || decide (costW win (l.getD k (0, 0)).1 l = A)) := rfl
          rw [getD_at hlt] at hf1
          unfold bdIP at hbk
          obtain ⟨xa, hxa⟩ : ∃ x, l[k].1 = x := ⟨_, rfl⟩
          obtain ⟨xc, hxc⟩ : ∃ x, l[k].2 = x := ⟨_, rfl⟩
          rw [hxa] at x0 hbk hf1
          rw [hxc] at x1 hbk hs1
          clear hxa hxc
          have HS1 := hide hs1
          have HF1 := hide hf1
          clear hs1 hf1
          obtain ⟨Sm, hSm⟩ : ∃ Sm, sumC (l.take k) = Sm := ⟨_, rfl⟩
          rw [hSm] at hsb HS1 ⊢
          clear hSm
          rcases Bool.eq_false_or_eq_true (fndK win A l k) with hf | hf
          · rw [hf] at HF1 ⊢
            clear hf
            go_wp2_with fail
            go_round
            case rel => exact ⟨k + 1, by omega, by rw [HS1.out], by rw [HF1.out]; rfl, by go_num⟩
            case measure => simp [intOf]; omega
          · rw [hf] at HF1 ⊢
            clear hf
            go_wp2_with fail
            refine (law40_cost l _ win xa _ H.out (by omega) Hbd.out (by omega) (by omega) (by omega) (by omega)).mono ?_
            rintro e w5 ⟨rfl, rfl⟩
            obtain ⟨C, hC⟩ : ∃ C, costW win xa l = C := ⟨_, rfl⟩
            rw [hC] at HF1 ⊢
            have hcA : (C == A) = decide (C = A) := rfl
            go_wp2_with fail
            go_round
            case rel => exact ⟨k + 1, by omega, by rw [HS1.out], by rw [HF1.out]; rfl, by go_num⟩
            case measure => simp [intOf]; omega
        · have hk' : k = l.length := by omega
          subst hk'
          have eS : l.take l.length = l := List.take_length
          rw [eS, HF.out]
          have hbd0 := sumC_bd l Hbd.out
          have dS : decide (sumC l < A) = false := by simp; omega
          obtain ⟨b, off, rfl, hcp, x0, x1⟩ := HCW.out (l.length - 1) (by omega)
          have hlast := HLast.out (by omega)
          obtain ⟨hl1, hl2⟩ := HLess.out
          have HL1 := hide hl1
          obtain ⟨xc, hxc⟩ : ∃ x, (l[l.length - 1]'(by omega)).2 = x := ⟨_, rfl⟩
          rw [hxc] at x1 hlast
          obtain ⟨A2, hA2⟩ : ∃ A2, worV win (l.take (l.length - 1)) = A2 := ⟨_, rfl⟩
          rw [hA2] at hl2
          have HA2 := hide hA2
          obtain ⟨C, hC⟩ : ∃ C, costW win m l = C := ⟨_, rfl⟩
          have HCC := hide hC
          rw [hC] at hany
          have dC : decide (A < C) = false := by simp; omega
          have dL : decide (A2 ≤ A) = true := by simp; omega
          have dX : decide (xc ≤ A) = true := by simp; omega
          obtain ⟨Sm, hSm⟩ : ∃ Sm, sumC l = Sm := ⟨_, rfl⟩
          rw [hSm] at dS ⊢
          have hln : (l.length : Int) - 1 = ((l.length - 1 : Nat) : Int) := by omega
          have hln2 : ((l.length - 1 : Nat) : Int) ≤ (cp : Int) := by omega
          have hln3 : ((l.length - 1 : Nat) : Int) < (l.length : Int) := by omega
          clear hl1 hxc hA2 hC hlast hl2 hany x0 hSm hbd0 hsum HF HLast HLess HCW HA eS
          rcases Bool.eq_false_or_eq_true (worB (win + by_) l) with h2 | h2
          · have hm := HMore.out h2
            obtain ⟨A1, hA1⟩ : ∃ A1, worV (win + by_) l = A1 := ⟨_, rfl⟩
            rw [hA1] at hm
            have HA1 := hide hA1
            have dM : decide (A1 < A) = false := by simp; omega
            clear hm hA1 HMore
            go_wp2_with fail
            refine (pre_worst_at (win + by_) l A1 0 _ _ H.out HA1.out (errC_yes h2)).mono ?_
            rintro e w3 ⟨rfl, hb⟩
            replace H := hide (H.out.below hb)
            have y1 := keep_cell hb x1
            replace B1 := hide (btrans B1.out B1.out.size hb)
            clear hb x1
            go_wp2_with fail
            refine (law40_cost l _ win m _ H.out (by omega) Hbd.out (by omega) (by omega) (by omega) (by omega)).mono ?_
            rintro e w5 ⟨rfl, rfl⟩
            rw [HCC.out]
            go_wp2_with fail
            refine (pre_worst_at win (l.take (l.length - 1)) A2 0 _ _ (H.out.take (by omega)) HA2.out (errC_yes HL1.out)).mono ?_
            rintro e w6 ⟨rfl, hb⟩
            have z1 := keep_cell hb y1
            replace B1 := hide (btrans B1.out B1.out.size hb)
            clear hb y1
            go_wp2_with fail
            go_ret
            exact ⟨rfl, B1.out⟩
          · go_wp2_with fail
            refine (pre_worst_at (win + by_) l 0 1 _ _ H.out (worV_no h2) (errC_no h2)).mono ?_
            rintro e w3 ⟨rfl, hb⟩
            replace H := hide (H.out.below hb)
            have y1 := keep_cell hb x1
            replace B1 := hide (btrans B1.out B1.out.size hb)
            clear hb x1
            go_wp2_with fail
            refine (law40_cost l _ win m _ H.out (by omega) Hbd.out (by omega) (by omega) (by omega) (by omega)).mono ?_
            rintro e w5 ⟨rfl, rfl⟩
            rw [HCC.out]
            go_wp2_with fail
            refine (pre_worst_at win (l.take (l.length - 1)) A2 0 _ _ (H.out.take (by omega)) HA2.out (errC_yes HL1.out)).mono ?_
            rintro e w6 ⟨rfl, hb⟩
            have z1 := keep_cell hb y1
            replace B1 := hide (btrans B1.out B1.out.size hb)
            clear hb y1
            go_wp2_with fail
            go_ret
            exact ⟨rfl, B1.out⟩
  · go_enter Try.func13, Try.ntmps13
    go_wp2_with fail
    refine (law40_head _).mono ?_
    rintro e w1 ⟨rfl, hb⟩
    replace H := hide (H.out.below hb)
    have B1 := hide hb
    clear hb
    go_wp2_with fail
    refine (pre_worst_at win l 0 1 _ _ H.out (worV_no h1) (errC_no h1)).mono ?_
    rintro e w2 ⟨rfl, hb⟩
    replace B1 := hide (btrans B1.out B1.out.size hb)
    go_wp2_with fail
    go_ret
    exact ⟨rfl, B1.out⟩
end Go.Proofs.Ytahlhiiekgnmpaa
