/- The reference functions Allow and Worst of layer 40. -/
import Derived.Test.YtahlhiiekgnmpaaPreH
import Derived.Test.YtahlhiiekgnmpaaPreP
namespace Go.Proofs.Ytahlhiiekgnmpaa
open Go.RowKit

theorem limB_eq (win bud : Int) : limB win bud = (winB win && inB bud 1000000) := rfl

set_option maxHeartbeats 4000000 in
set_option maxRecDepth 100000 in
theorem ref40_allow_bad (win bud at_ cost : Int) (l : List IP) (ao : Option Addr) (cp : Nat) (w : World) (h : SliceOf vIP 2 w (.slice ao l.length cp) l) (hv : allowB win bud at_ cost l = false) :
    Calls Try.prog 35 #[.slice ao l.length cp, .int .i64 win, .int .i64 bud, .int .i64 at_, .int .i64 cost] w fun e w' => e = .returned (.int .i64 1) ∧ ∃ n, w.drewN n = w' := by
  rcases Bool.eq_false_or_eq_true (vldL l) with h1 | h1
  · by_cases h2 : l.length < 200
    · rcases Bool.eq_false_or_eq_true (winB win) with h3 | h3
      · rcases Bool.eq_false_or_eq_true (inB bud 1000000) with h4 | h4
        · rcases Bool.eq_false_or_eq_true (inB at_ 38399) with h5 | h5
          · by_cases h6 : cost < 0
            · clear hv
              go_enter Try.func35, Try.ntmps35
              go_wp2_with fail
              refine (ref40_valid l _ _ h).mono ?_
              rintro e wa ⟨rfl, na, rfl⟩
              rw [h1]
              go_wp2_with fail
              refine (ref40_window win _).mono ?_
              rintro e wb ⟨rfl, rfl⟩
              rw [h3]
              go_wp2_with fail
              refine (ref40_budget bud _).mono ?_
              rintro e wb ⟨rfl, rfl⟩
              rw [h4]
              go_wp2_with fail
              refine (ref40_moment at_ _).mono ?_
              rintro e wb ⟨rfl, rfl⟩
              rw [h5]
              go_wp2_with fail
              go_ret
              exact ⟨rfl, na, rfl⟩
            · by_cases h7 : 1000 < cost
              · clear hv
                go_enter Try.func35, Try.ntmps35
                go_wp2_with fail
                refine (ref40_valid l _ _ h).mono ?_
                rintro e wa ⟨rfl, na, rfl⟩
                rw [h1]
                go_wp2_with fail
                refine (ref40_window win _).mono ?_
                rintro e wb ⟨rfl, rfl⟩
                rw [h3]
                go_wp2_with fail
                refine (ref40_budget bud _).mono ?_
                rintro e wb ⟨rfl, rfl⟩
                rw [h4]
                go_wp2_with fail
                refine (ref40_moment at_ _).mono ?_
                rintro e wb ⟨rfl, rfl⟩
                rw [h5]
                go_wp2_with fail
                go_ret
                exact ⟨rfl, na, rfl⟩
              · have h8 : inB cost 1000 = true := inB_yes.2 (by omega)
                simp [allowB, limB_eq, h1, h2, h3, h4, h5, h8] at hv
          · clear hv
            go_enter Try.func35, Try.ntmps35
            go_wp2_with fail
            refine (ref40_valid l _ _ h).mono ?_
            rintro e wa ⟨rfl, na, rfl⟩
            rw [h1]
            go_wp2_with fail
            refine (ref40_window win _).mono ?_
            rintro e wb ⟨rfl, rfl⟩
            rw [h3]
            go_wp2_with fail
            refine (ref40_budget bud _).mono ?_
            rintro e wb ⟨rfl, rfl⟩
            rw [h4]
            go_wp2_with fail
            refine (ref40_moment at_ _).mono ?_
            rintro e wb ⟨rfl, rfl⟩
            rw [h5]
            go_wp2_with fail
            go_ret
            exact ⟨rfl, na, rfl⟩
        · clear hv
          go_enter Try.func35, Try.ntmps35
          go_wp2_with fail
          refine (ref40_valid l _ _ h).mono ?_
          rintro e wa ⟨rfl, na, rfl⟩
          rw [h1]
          go_wp2_with fail
          refine (ref40_window win _).mono ?_
          rintro e wb ⟨rfl, rfl⟩
          rw [h3]
          go_wp2_with fail
          refine (ref40_budget bud _).mono ?_
          rintro e wb ⟨rfl, rfl⟩
          rw [h4]
          go_wp2_with fail
          go_ret
          exact ⟨rfl, na, rfl⟩
      · clear hv
        go_enter Try.func35, Try.ntmps35
        go_wp2_with fail
        refine (ref40_valid l _ _ h).mono ?_
        rintro e wa ⟨rfl, na, rfl⟩
        rw [h1]
        go_wp2_with fail
        refine (ref40_window win _).mono ?_
        rintro e wb ⟨rfl, rfl⟩
        rw [h3]
        go_wp2_with fail
        go_ret
        exact ⟨rfl, na, rfl⟩
    · clear hv
      go_enter Try.func35, Try.ntmps35
      go_wp2_with fail
      refine (ref40_valid l _ _ h).mono ?_
      rintro e wa ⟨rfl, na, rfl⟩
      rw [h1]
      go_wp2_with fail
      go_ret
      exact ⟨rfl, na, rfl⟩
  · clear hv
    go_enter Try.func35, Try.ntmps35
    go_wp2_with fail
    refine (ref40_valid l _ _ h).mono ?_
    rintro e wa ⟨rfl, na, rfl⟩
    rw [h1]
    go_wp2_with fail
    go_ret
    exact ⟨rfl, na, rfl⟩

set_option maxHeartbeats 4000000 in
set_option maxRecDepth 100000 in
theorem ref40_allow_ok (win bud at_ cost : Int) (l : List IP) (ao : Option Addr) (cp : Nat) (w : World) (h : SliceOf vIP 2 w (.slice ao l.length cp) l) (hv : vldL l = true) (hlen : l.length < 200) (hlim : limB win bud = true) (ha : inB at_ 38399 = true) (hc : inB cost 1000 = true) :
    Calls Try.prog 35 #[.slice ao l.length cp, .int .i64 win, .int .i64 bud, .int .i64 at_, .int .i64 cost] w fun e w' => e = .returned (.int .i64 (allowG win bud at_ cost l)) ∧ ∃ n, w.drewN n = w' := by
  obtain ⟨w0, w1, d0, d1⟩ := limB_bd hlim
  obtain ⟨a0, a1⟩ := inB_yes.1 ha
  obtain ⟨c0, c1⟩ := inB_yes.1 hc
  have hw : winB win = true := winB_yes.2 ⟨w0, w1⟩
  have hbu : inB bud 1000000 = true := inB_yes.2 ⟨d0, d1⟩
  have hcost := costW_bd win at_ l (vldL_bdIP hv)
  have Hle := hide (fun (hle : ∀ x ∈ l, x.1 ≤ at_) => dropT_cost (win := win) (m := at_) (vldL_iff.1 hv).2.1 hle)
  have Hlast : Hid (0 < l.length → lastAt l ≤ at_ → ∀ x ∈ l, x.1 ≤ at_) := fun h0 hat x hx => by
    obtain ⟨j, hj, e⟩ := List.getElem_of_mem hx
    have := srt_get (vldL_iff.1 hv).2.1 (show j ≤ l.length - 1 by omega) (by omega)
    rw [getD_at hj, e] at this
    unfold lastAt at hat
    omega
  have H := hide h
  have HC := hide (slice_cells h)
  clear h
  have Hbd := hide (vldL_bdIP hv)
  have e1 : decide ((200 : Int) ≤ (l.length : Int)) = false := by rw [decide_eq_false_iff_not]; omega
  have e2 : decide (cost < 0) = false := by rw [decide_eq_false_iff_not]; omega
  have e3 : decide (1000 < cost) = false := by rw [decide_eq_false_iff_not]; omega
  go_enter Try.func35, Try.ntmps35
  go_wp2_with fail
  refine (ref40_valid l _ _ H.out).mono ?_
  rintro e wa ⟨rfl, na, rfl⟩
  rw [hv]
  go_wp2_with fail
  refine (ref40_window win _).mono ?_
  rintro e wb ⟨rfl, rfl⟩
  rw [hw]
  go_wp2_with fail
  refine (ref40_budget bud _).mono ?_
  rintro e wb ⟨rfl, rfl⟩
  rw [hbu]
  go_wp2_with fail
  refine (ref40_moment at_ _).mono ?_
  rintro e wb ⟨rfl, rfl⟩
  rw [ha]
  clear hv hlim hw hbu ha hc
  by_cases hpos : 0 < l.length
  · obtain ⟨b, off, rfl, hbw, hcl⟩ := HC.out hpos
    obtain ⟨n, hn⟩ : ∃ n, l.length = n + 1 := ⟨l.length - 1, by omega⟩
    obtain ⟨x0, _⟩ := ip_cells hcl (show n < l.length by omega)
    have hla : l[n].1 = lastAt l := by unfold lastAt; rw [show l.length - 1 = n by omega, getD_at (by omega)]
    rw [hla] at x0
    have hpos' : (0 : Int) < (n : Int) + 1 := by omega
    clear hcl hla
    by_cases hat : at_ < lastAt l
    · go_wp2_with fail
      go_ret
      exact ⟨ret_int (by unfold allowG; rw [if_pos (by omega)]), na, rfl⟩
    · have hdc : Hid (sumC (dropT (at_ - win) l) = costW win at_ l) := Hle.out (Hlast.out hpos (by omega))
      have hs0 : SliceOf vIP 2 (w.drewN na) (.slice (some ⟨b, off, none⟩) (n + 1) cp) l := by
        rw [← hn]
        exact H.out.below (below_drewN (Below.refl _ _) na)
      have HS0 := hide hs0
      clear hs0
      go_wp2_with fail
      refine (ref40_cost l _ win at_ _ HS0.out (by omega) Hbd.out (by omega) (by omega) (by omega) (by omega)).mono ?_
      rintro e wb ⟨rfl, rfl⟩
      by_cases hbud : costW win at_ l + cost > bud
      · go_wp2_with fail
        go_ret
        exact ⟨ret_int (by unfold allowG; rw [if_neg (by omega), hdc.out, if_pos (by omega)]), na, rfl⟩
      · go_wp2_with fail
        go_ret
        exact ⟨ret_int (by unfold allowG; rw [if_neg (by omega), hdc.out, if_neg (by omega)]), na, rfl⟩
  · have h0 : l.length = 0 := by omega
    have hl0 : l = [] := List.eq_nil_of_length_eq_zero h0
    clear h0
    subst hl0
    have HS0 := hide (H.out.below (below_drewN (Below.refl w.heap.size w) na))
    go_wp2_with fail
    refine (ref40_cost [] _ win at_ _ HS0.out (by simp) Hbd.out (by omega) (by omega) (by omega) (by omega)).mono ?_
    rintro e wb ⟨rfl, rfl⟩
    have e0 : Hid (sumC (dropT (at_ - win) []) = costW win at_ []) := rfl
    by_cases hbud : costW win at_ [] + cost > bud
    · go_wp2_with fail
      go_ret
      exact ⟨ret_int (by unfold allowG; rw [if_neg (by simp), e0.out, if_pos (by omega)]), na, rfl⟩
    · go_wp2_with fail
      go_ret
      exact ⟨ret_int (by unfold allowG; rw [if_neg (by simp), e0.out, if_neg (by omega)]), na, rfl⟩

theorem ref40_allow (win bud at_ cost : Int) (l : List IP) (vs : Value) (w : World) (h : SliceOf vIP 2 w vs l) :
    Calls Try.prog 35 #[vs, .int .i64 win, .int .i64 bud, .int .i64 at_, .int .i64 cost] w fun e w' => e = .returned (.int .i64 (allowV win bud at_ cost l)) ∧ ∃ n, w.drewN n = w' := by
  obtain ⟨ao, cp, rfl⟩ := h.shape
  by_cases hr : allowB win bud at_ cost l = true
  · have h' : (((vldL l = true ∧ l.length < 200) ∧ limB win bud = true) ∧ inB at_ 38399 = true) ∧ inB cost 1000 = true := by simpa [allowB] using hr
    unfold allowV
    rw [if_pos hr]
    exact ref40_allow_ok win bud at_ cost l ao cp w h h'.1.1.1.1 h'.1.1.1.2 h'.1.1.2 h'.1.2 h'.2
  · have hr' : allowB win bud at_ cost l = false := by simpa using hr
    unfold allowV
    rw [if_neg hr]
    exact ref40_allow_bad win bud at_ cost l ao cp w h hr'
end Go.Proofs.Ytahlhiiekgnmpaa
