/- Allow of package preempt. -/
import Derived.Test.YtahlhiiekgnmpaaPreE
namespace Go.Proofs.Ytahlhiiekgnmpaa
open Go.RowKit

def allowB (win bud at_ cost : Int) (l : List IP) : Bool := vldL l && decide (l.length < 200) && limB win bud && inB at_ 38399 && inB cost 1000
/-- The moment of the last interruption. -/
def lastAt (l : List IP) : Int := (l.getD (l.length - 1) (0, 0)).1
def allowG (win bud at_ cost : Int) (l : List IP) : Int := if 0 < l.length ∧ at_ < lastAt l then 13 else if sumC (dropT (at_ - win) l) + cost > bud then 23 else 0
def allowV (win bud at_ cost : Int) (l : List IP) : Int := if allowB win bud at_ cost l then allowG win bud at_ cost l else 1

set_option maxHeartbeats 2000000 in
set_option maxRecDepth 100000 in
theorem pre_allow_bad (win bud at_ cost : Int) (l : List IP) (ao : Option Addr) (cp : Nat) (w : World) (h : SliceOf vIP 2 w (.slice ao l.length cp) l) (hv : allowB win bud at_ cost l = false) :
    Calls Try.prog 34 #[.slice ao l.length cp, .int .i64 win, .int .i64 bud, .int .i64 at_, .int .i64 cost] w fun e w' => e = .returned (.int .i64 1) ∧ Below w.heap.size w w' := by
  rcases Bool.eq_false_or_eq_true (vldL l) with h1 | h1
  · by_cases h2 : l.length < 200
    · rcases Bool.eq_false_or_eq_true (limB win bud) with h3 | h3
      · rcases Bool.eq_false_or_eq_true (inB at_ 38399) with h4 | h4
        · rcases Bool.eq_false_or_eq_true (inB cost 1000) with h5 | h5
          · simp [allowB, h1, h2, h3, h4, h5] at hv
          · clear hv
            go_enter Try.func34, Try.ntmps34
            go_wp2_with fail
            refine (pre_valid l _ _ h).mono ?_
            rintro e wa ⟨rfl, hba⟩
            rw [h1]
            go_wp2_with fail
            refine (pre_limits win bud _).mono ?_
            rintro e wb ⟨rfl, rfl⟩
            rw [h3]
            go_wp2_with fail
            refine (pre_in at_ 38399 _).mono ?_
            rintro e wb ⟨rfl, rfl⟩
            rw [h4]
            go_wp2_with fail
            refine (pre_in cost 1000 _).mono ?_
            rintro e wb ⟨rfl, rfl⟩
            rw [h5]
            go_wp2_with fail
            go_ret
            exact ⟨rfl, hba⟩
        · clear hv
          go_enter Try.func34, Try.ntmps34
          go_wp2_with fail
          refine (pre_valid l _ _ h).mono ?_
          rintro e wa ⟨rfl, hba⟩
          rw [h1]
          go_wp2_with fail
          refine (pre_limits win bud _).mono ?_
          rintro e wb ⟨rfl, rfl⟩
          rw [h3]
          go_wp2_with fail
          refine (pre_in at_ 38399 _).mono ?_
          rintro e wb ⟨rfl, rfl⟩
          rw [h4]
          go_wp2_with fail
          go_ret
          exact ⟨rfl, hba⟩
      · clear hv
        go_enter Try.func34, Try.ntmps34
        go_wp2_with fail
        refine (pre_valid l _ _ h).mono ?_
        rintro e wa ⟨rfl, hba⟩
        rw [h1]
        go_wp2_with fail
        refine (pre_limits win bud _).mono ?_
        rintro e wb ⟨rfl, rfl⟩
        rw [h3]
        go_wp2_with fail
        go_ret
        exact ⟨rfl, hba⟩
    · clear hv
      go_enter Try.func34, Try.ntmps34
      go_wp2_with fail
      refine (pre_valid l _ _ h).mono ?_
      rintro e wa ⟨rfl, hba⟩
      rw [h1]
      go_wp2_with fail
      go_ret
      exact ⟨rfl, hba⟩
  · clear hv
    go_enter Try.func34, Try.ntmps34
    go_wp2_with fail
    refine (pre_valid l _ _ h).mono ?_
    rintro e wa ⟨rfl, hba⟩
    rw [h1]
    go_wp2_with fail
    go_ret
    exact ⟨rfl, hba⟩

set_option maxHeartbeats 2000000 in
set_option maxRecDepth 100000 in
theorem pre_allow_ok (win bud at_ cost : Int) (l : List IP) (ao : Option Addr) (cp : Nat) (w : World) (h : SliceOf vIP 2 w (.slice ao l.length cp) l) (hv : vldL l = true) (hlen : l.length < 200) (hlim : limB win bud = true) (ha : inB at_ 38399 = true) (hc : inB cost 1000 = true) :
    Calls Try.prog 34 #[.slice ao l.length cp, .int .i64 win, .int .i64 bud, .int .i64 at_, .int .i64 cost] w fun e w' => e = .returned (.int .i64 (allowG win bud at_ cost l)) ∧ Below w.heap.size w w' := by
  obtain ⟨hbd, hbd', _⟩ := vld_ready hv
  obtain ⟨w0, w1, d0, d1⟩ := limB_bd hlim
  obtain ⟨a0, a1⟩ := inB_yes.1 ha
  obtain ⟨c0, c1⟩ := inB_yes.1 hc
  have Hbd := hide hbd
  have Hbd' := hide hbd'
  have H := hide h
  have HC := hide (slice_cells h)
  clear hbd hbd' h
  go_enter Try.func34, Try.ntmps34
  go_wp2_with fail
  refine (pre_valid l _ _ H.out).mono ?_
  rintro e wa ⟨rfl, hba⟩
  rw [hv]
  go_wp2_with fail
  refine (pre_limits win bud _).mono ?_
  rintro e wb ⟨rfl, rfl⟩
  rw [hlim]
  go_wp2_with fail
  refine (pre_in at_ 38399 _).mono ?_
  rintro e wb ⟨rfl, rfl⟩
  rw [ha]
  go_wp2_with fail
  refine (pre_in cost 1000 _).mono ?_
  rintro e wb ⟨rfl, rfl⟩
  rw [hc]
  go_wp2_with fail
  have HBA := hide hba
  clear hba
  go_loopw [43] (fun i wr => ∃ (k : Nat) (v : Value), k ≤ l.length ∧ i = .int .i64 k ∧ Rec wr wa.heap.size (wa.heap.size + 1) v win (l.take k) ∧ wa.heap.size + 1 ≤ wr.heap.size ∧ Below w.heap.size w wr) (fun i _ => l.length - (intOf i).toNat)
  case atStart =>
    refine ⟨0, .slice none 0 0, Nat.zero_le _, rfl, ⟨?_, by omega, OwnS.nil _ _ _⟩, by simp, HBA.out.alloc HBA.out.size _⟩
    show (wa.heap.push _)[wa.heap.size]? = _
    rw [Array.getElem?_push, if_pos rfl]
    rfl
  case round =>
    obtain ⟨k, v, hk, rfl, hrec, hsz, hbw⟩ := hrel
    have HREC := hide hrec
    have HBW := hide hbw
    clear hrec hbw
    by_cases hlt : k < l.length
    · obtain ⟨b, off, rfl, hbw, hc⟩ := HC.out (by omega)
      obtain ⟨x0, x1⟩ := ip_cells hc hlt
      have hki : (k : Int) < (l.length : Int) := by omega
      have y0 := (HBW.out.cell (p := ⟨b, off + k * 2, none⟩) hbw).trans x0
      have y1 := (HBW.out.cell (p := ⟨b, off + k * 2 + 1, none⟩) hbw).trans x1
      have hbk := Hbd.out l[k] (List.getElem_mem hlt)
      have htk : Hid (l.take (k + 1) = l.take k ++ [(l[k].1, l[k].2)]) := by
        show l.take (k + 1) = _
        rw [List.take_succ_eq_append_getElem hlt]
      obtain ⟨xa, hxa⟩ : ∃ x, l[k].1 = x := ⟨_, rfl⟩
      obtain ⟨xc, hxc⟩ : ∃ x, l[k].2 = x := ⟨_, rfl⟩
      rw [hxa] at y0 hbk htk
      rw [hxc] at y1 hbk htk
      have hsum := sumC_bd (l.take k) fun x hx => Hbd'.out x (List.mem_of_mem_take hx)
      have htl : (l.take k).length ≤ k := List.length_take_le _ _
      clear hxa hxc x0 x1 hc
      obtain ⟨hb1, hb2, hb3, hb4⟩ := hbk
      go_wp2_with fail
      refine (pre_add wa.heap.size (wa.heap.size + 1) v win xa xc (l.take k) _ (HREC.out.below (bAlloc (Below.refl _ _) _)) (Nat.le_trans hsz (by simp)) (by omega) hsum.1 (by omega) hb3 hb4).mono ?_
      rintro e w3 ⟨v3, rfl, hrec3, ho3, hv3⟩
      have HR3 := hide hrec3
      have HB3 := hide (Only2.below_of HBW.out HREC.out HBA.out.size _ ho3)
      have hs3 := ho3.size
      clear hrec3 ho3 hv3
      go_wp2_with fail
      go_roundw
      case rel =>
        refine ⟨k + 1, v3, by omega, by go_num, by rw [htk.out]; exact HR3.out, ?_, HB3.out⟩
        simp at hs3; omega
      case measure => simp [intOf]; omega
    · have hk' : k = l.length := by omega
      subst hk'
      have hrec := HREC.out
      rw [List.take_length] at hrec
      have HREC := hide hrec
      clear hrec
      have hsum := sumC_bd (dropT (at_ - win) l) fun x hx => Hbd'.out x (dropT_mem hx)
      have hdl := dropT_le (at_ - win) l
      by_cases hpos : 0 < l.length
      · obtain ⟨b, off, rfl, hbw, hc⟩ := HC.out hpos
        obtain ⟨n, hn⟩ : ∃ n, l.length = n + 1 := ⟨l.length - 1, by omega⟩
        obtain ⟨x0, _⟩ := ip_cells hc (show n < l.length by omega)
        have y0 := (HBW.out.cell (p := ⟨b, off + n * 2, none⟩) hbw).trans x0
        have hla : l[n].1 = lastAt l := by unfold lastAt; rw [show l.length - 1 = n by omega, getD_at (by omega)]
        rw [hla] at y0
        have hpos' : (0 : Int) < (n : Int) + 1 := by omega
        clear x0 hc hla
        by_cases hat : at_ < lastAt l
        · go_wp2_with fail
          go_ret
          exact ⟨ret_int (by unfold allowG; rw [if_pos (by omega)]), HBW.out⟩
        · go_wp2_with fail
          refine (pre_at wa.heap.size (wa.heap.size + 1) v win at_ l _ HREC.out a0 (by omega) (by omega) (by omega) Hbd'.out (by omega)).mono ?_
          rintro e w4 ⟨v4, rfl, hrec4, hg4, hv4⟩
          have HB4 := hide (HBW.out.trans ((only_of_grown (row := none) hg4).below HBA.out.size (by simp) HBW.out.size))
          clear hrec4 hg4 hv4
          by_cases hbud : sumC (dropT (at_ - win) l) + cost > bud
          · go_wp2_with fail
            go_ret
            exact ⟨ret_int (by unfold allowG; rw [if_neg (by omega), if_pos (by omega)]), HB4.out⟩
          · go_wp2_with fail
            go_ret
            exact ⟨ret_int (by unfold allowG; rw [if_neg (by omega), if_neg (by omega)]), HB4.out⟩
      · have h0 : l.length = 0 := by omega
        have hl0 : l = [] := List.eq_nil_of_length_eq_zero h0
        clear h0
        subst hl0
        go_wp2_with fail
        refine (pre_at wa.heap.size (wa.heap.size + 1) v win at_ [] _ HREC.out a0 (by omega) (by omega) (by omega) Hbd'.out (by omega)).mono ?_
        rintro e w4 ⟨v4, rfl, hrec4, hg4, hv4⟩
        have HB4 := hide (HBW.out.trans ((only_of_grown (row := none) hg4).below HBA.out.size (by simp) HBW.out.size))
        clear hrec4 hg4 hv4
        by_cases hbud : sumC (dropT (at_ - win) []) + cost > bud
        · go_wp2_with fail
          go_ret
          exact ⟨ret_int (by unfold allowG; rw [if_neg (by omega), if_pos (by omega)]), HB4.out⟩
        · go_wp2_with fail
          go_ret
          exact ⟨ret_int (by unfold allowG; rw [if_neg (by omega), if_neg (by omega)]), HB4.out⟩

theorem pre_allow (win bud at_ cost : Int) (l : List IP) (vs : Value) (w : World) (h : SliceOf vIP 2 w vs l) :
    Calls Try.prog 34 #[vs, .int .i64 win, .int .i64 bud, .int .i64 at_, .int .i64 cost] w fun e w' => e = .returned (.int .i64 (allowV win bud at_ cost l)) ∧ Below w.heap.size w w' := by
  obtain ⟨ao, cp, rfl⟩ := h.shape
  by_cases hr : allowB win bud at_ cost l = true
  · have h' : (((vldL l = true ∧ l.length < 200) ∧ limB win bud = true) ∧ inB at_ 38399 = true) ∧ inB cost 1000 = true := by simpa [allowB] using hr
    unfold allowV
    rw [if_pos hr]
    exact pre_allow_ok win bud at_ cost l ao cp w h h'.1.1.1.1 h'.1.1.1.2 h'.1.1.2 h'.1.2 h'.2
  · have hr' : allowB win bud at_ cost l = false := by simpa using hr
    unfold allowV
    rw [if_neg hr]
    exact pre_allow_bad win bud at_ cost l ao cp w h hr'
end Go.Proofs.Ytahlhiiekgnmpaa
