/- The sums of the tickets, in plain Lean; the law of their total. -/
import Derived.Test.YtcgplokdklomlaaGreatDoorLoJ
set_option linter.unusedVariables false
set_option linter.unusedSimpArgs false
namespace Go.Proofs.YtcgplokdklomlaaGreatDoor
open Go.RowKit

theorem sumN_upd {f g : Nat → Nat} {k a : Nat} : ∀ {n : Nat}, k < n → (∀ i, i < n → f i = if i = k then g i + a else g i) → sumN n f = sumN n g + a
  | 0, h, _ => absurd h (Nat.not_lt_zero _)
  | n + 1, h, e => by
    unfold sumN
    by_cases hk : k = n
    · subst hk
      rw [sumN_congr (g := g) (fun i hi => by rw [e i (by omega), if_neg (by omega)]), e k (by omega), if_pos rfl]
      omega
    · rw [sumN_upd (n := n) (by omega) (fun i hi => e i (by omega)), e n (by omega), if_neg (by omega)]
      omega
theorem sumN_ge {f : Nat → Nat} {i : Nat} : ∀ {n : Nat}, i < n → f i ≤ sumN n f
  | 0, h => absurd h (Nat.not_lt_zero _)
  | n + 1, h => by
    unfold sumN
    by_cases e : i = n
    · subst e; omega
    · have := sumN_ge (f := f) (i := i) (n := n) (by omega); omega
section
variable {sh ow me : List Nat}
theorem out_parts (h : TkOk sh ow me) : ∀ k, k ≤ ow.length → sumN k (outN sh ow me) = sumN sh.length (fun p => sumN (ownN ow p k).length (sN (valL me ow p) (totN sh ow p)))
  | 0, _ => by
    have e : sumN sh.length (fun p => sumN (ownN ow p 0).length (sN (valL me ow p) (totN sh ow p))) = sumN sh.length (fun _ => 0) := sumN_congr fun p _ => rfl
    rw [e, sumN_zero]; rfl
  | k + 1, hk => by
    show sumN k (outN sh ow me) + outN sh ow me k = _
    rw [out_parts h k (by omega)]
    symm
    refine sumN_upd (k := owN ow k) (h.ow_lt (by omega)) fun p hp => ?_
    rw [ownN_succ]
    by_cases e : owN ow k = p
    · subst e
      rw [if_pos rfl, if_pos rfl, List.length_append]
      rfl
    · rw [if_neg e, if_neg (fun h => e h.symm)]
theorem tot_none (h : TkOk sh ow me) (h0 : 0 < ow.length) {p : Nat} (hp : p < sh.length) (e : ownN ow p ow.length = []) : totN sh ow p = 0 := by
  obtain ⟨x, hx, hx0⟩ := h.wt_pos h0
  obtain ⟨k, hk, rfl⟩ := List.mem_iff_getElem.1 hx
  refine inv_zero (inv_dh (wtL sh ow) 720) (i := p) (k := k) (by rw [wtL_len]; exact hp) hk ?_ ?_
  · unfold wN
    rw [List.getD_eq_getElem?_getD, List.getElem?_eq_getElem (by rw [wtL_len]; exact hp)]
    show (wtL sh ow)[p]'_ = 0
    rw [wtL_get]
    unfold wtK
    rw [if_pos e]
  · unfold wN
    rw [List.getD_eq_getElem?_getD, List.getElem?_eq_getElem hk]
    exact hx0
theorem tot_part (h : TkOk sh ow me) (h0 : 0 < ow.length) {p : Nat} (hp : p < sh.length) : sumN (ownN ow p ow.length).length (sN (valL me ow p) (totN sh ow p)) = totN sh ow p := by
  by_cases e : ownN ow p ow.length = []
  · rw [tot_none h h0 hp e, e]; rfl
  · rw [← valL_len me ow p]; exact sum_dh (by rw [valL_len]; exact List.length_pos_iff.2 e) _
theorem out_sum (h : TkOk sh ow me) (h0 : 0 < ow.length) : sumN ow.length (outN sh ow me) = 720 := by
  rw [out_parts h _ (Nat.le_refl _), sumN_congr (fun p hp => tot_part h h0 hp)]
  have := sum_dh (ws := wtL sh ow) (by rw [wtL_len]; exact h.s0) 720
  rwa [wtL_len] at this
end
theorem psum_sumN {l : List Nat} {f : Nat → Nat} (e : ∀ i (h : i < l.length), l[i] = f i) : ∀ {k : Nat}, k ≤ l.length → psum (toI l) k = ((sumN k f : Nat) : Int)
  | 0, _ => rfl
  | k + 1, hk => by
    show psum (toI l) k + (toI l).getD k 0 = ((sumN k f + f k : Nat) : Int)
    rw [psum_sumN e (by omega), getD_at (by rw [toI_len]; omega)]
    have : (toI l)[k]'(by rw [toI_len]; omega) = ((f k : Nat) : Int) := by simp [toI, e k (by omega)]
    rw [this]; omega
set_option maxRecDepth 100000 in
/-- What the tickets are like. -/
theorem tkL_ok {sh ow me : List Int} (h : vldL sh ow me = true) : (tkL sh ow me).length = ow.length ∧ (∀ x ∈ tkL sh ow me, 0 ≤ x ∧ x ≤ 720) ∧ (ow ≠ [] → psum (tkL sh ow me) ow.length = 720) := by
  obtain ⟨hk, e1, e2, e3⟩ := vld_ok h
  have hl : (outL (toN sh) (toN ow) (toN me)).length = ow.length := by rw [outL_len, toN_len]
  unfold tkL
  rw [if_pos h]
  refine ⟨by rw [toI_len, hl], fun x hx => ?_, fun hne => ?_⟩
  · obtain ⟨i, hi, rfl⟩ := List.mem_iff_getElem.1 hx
    have hi' : i < (outL (toN sh) (toN ow) (toN me)).length := by rw [toI_len] at hi; exact hi
    have hn : i < (toN ow).length := by rw [outL_len] at hi'; exact hi'
    have := sumN_ge (f := outN (toN sh) (toN ow) (toN me)) hn
    rw [out_sum hk (by omega)] at this
    rw [toI_get hi', outL_get hi']
    generalize outN (toN sh) (toN ow) (toN me) i = z at this ⊢
    omega
  · have h0 : 0 < (toN ow).length := by rw [toN_len]; exact List.length_pos_iff.2 hne
    rw [psum_sumN (f := outN (toN sh) (toN ow) (toN me)) (fun i hi => outL_get hi) (by omega)]
    have := out_sum hk h0
    rw [toN_len] at this
    rw [this]; rfl
set_option maxHeartbeats 4000000 in
set_option maxRecDepth 100000 in
theorem lotteryTotals (sh ow me : List Int) (v1 v2 v3 : Value) (w : World) (h1 : SliceOf vI 1 w v1 sh) (h2 : SliceOf vI 1 w v2 ow) (h3 : SliceOf vI 1 w v3 me) (hW : LawW w) :
    Calls Tryz.prog 4 #[v1, v2, v3] w fun e w' => e = .returned (.bool true) ∧ Below w.heap.size w w' := by
  have HH := hide (law29_head w hW)
  have HT := hide (fun (X : World) (hX : Below w.heap.size w X) n1 n2 n3 => lo_tk sh ow me v1 v2 v3 X (h1.below hX) (h2.below hX) (h3.below hX) n1 n2 n3)
  obtain ⟨a1, c1, rfl⟩ := h1.shape
  obtain ⟨a2, c2, rfl⟩ := h2.shape
  obtain ⟨a3, c3, rfl⟩ := h3.shape
  obtain ⟨p, hp⟩ : ∃ p, fewL sh.length ow.length me.length = p := ⟨_, rfl⟩
  have HF := hide (fun X => ref29_few sh.length ow.length me.length a1 a2 a3 c1 c2 c3 p hp X)
  clear h1 h2 h3 hW
  cases p with
  | false =>
    clear hp
    go_enter Tryz.func4, Tryz.ntmps4
    go_wp2_with fail
    refine HH.out.mono ?_
    rintro e w1 ⟨rfl, hb⟩
    have HB1 := hide hb
    clear hb
    go_wp2_with fail
    refine (HF.out _).mono ?_
    rintro e w2 ⟨rfl, rfl⟩
    go_wp2_with fail
    go_ret
    exact ⟨rfl, HB1.out⟩
  | true =>
    obtain ⟨q1, q2, q3⟩ := few_le hp
    have HT2 := hide (fun X hX => HT.out X hX (by omega) (by omega) (by omega))
    clear HT hp
    rcases Bool.eq_false_or_eq_true (vldL sh ow me) with hv | hv
    · obtain ⟨t1, t2, t3⟩ := tkL_ok hv
      have HE1 : Hid (tkE sh ow me = 0) := by show _ = _; unfold tkE; rw [if_pos hv]
      obtain ⟨l, hl⟩ : ∃ l, tkL sh ow me = l := ⟨_, rfl⟩
      rw [hl] at t1 t2 t3 HT2
      rw [HE1.out] at HT2
      have HPS : Hid (∀ k, k ≤ l.length → 0 ≤ psum l k ∧ psum l k ≤ 720 * 1000) := fun k hk => by
        have := psum_bd t2 k hk
        have h2 : (k : Int) * 720 ≤ 1000 * 720 := Int.mul_le_mul_of_nonneg_right (by omega) (by omega)
        omega
      have HEL : Hid (∀ k (hk : k < l.length), 0 ≤ l[k] ∧ l[k] ≤ 720) := fun k hk => t2 _ (List.getElem_mem hk)
      have HEN : Hid (0 < l.length → psum l l.length = 720) := fun h => by
        rw [t1]; exact t3 (by intro e; rw [e] at t1; simp at t1; subst t1; simp at h)
      have HLE : Hid (l.length = ow.length) := t1
      clear t2 t3 hl hv HE1
      rw [← t1] at q2
      clear t1
      go_enter Tryz.func4, Tryz.ntmps4
      go_wp2_with fail
      refine HH.out.mono ?_
      rintro e w1 ⟨rfl, hb⟩
      have HB1 := hide hb
      clear hb
      go_wp2_with fail
      refine (HF.out _).mono ?_
      rintro e w2 ⟨rfl, rfl⟩
      go_wp2_with fail
      refine (HT2.out _ HB1.out).mono ?_
      rintro e w3 ⟨u, rfl, hs, hb⟩
      obtain ⟨uo, uc, rfl⟩ : ∃ uo uc, u = .slice uo l.length uc := hs.shape
      have HS := hide hs
      have HB3 := hide (bStepL HB1.out hb)
      clear hs hb
      go_wp2_with fail
      go_loopw [10, 11] (fun s i wx => ∃ k : Nat, k ≤ l.length ∧ s = .int .i64 (psum l k) ∧ i = .int .i64 (k : Int) ∧ wx = w3) (fun s i _ => l.length - (intOf i).toNat)
      case atStart => exact ⟨0, Nat.zero_le _, rfl, rfl, rfl⟩
      case round =>
        obtain ⟨k, hk, rfl, rfl, rfl⟩ := hrel
        by_cases hlt : k < l.length
        · have hki : (k : Int) < (l.length : Int) := by omega
          have hk0 : (0 : Int) ≤ (k : Int) := by omega
          obtain ⟨b', off, rfl, _, hcap, hcm, hc⟩ := SliceOf.at_ HS.out (by omega)
          have hcpI : (l.length : Int) ≤ (uc : Int) := by omega
          have hcmI : (uc : Int) ≤ 9223372036854775807 := by unfold maxLen at hcm; omega
          have c0 := int_cell hc hlt
          obtain ⟨e1, e2⟩ := HEL.out k hlt
          obtain ⟨e3, e4⟩ := HPS.out k hk
          have HP1 := hide (psum_succ hlt)
          obtain ⟨x, hx⟩ : ∃ x, l[k] = x := ⟨_, rfl⟩
          rw [hx] at c0 e1 e2 HP1
          have d1 : decide (x < 0) = false := decide_eq_false (by omega)
          clear hx hc hcap hcm
          go_wp2_with fail
          go_roundw
          case rel => exact ⟨k + 1, by omega, by rw [HP1.out], by go_num, trivial⟩
          case measure => (simp [intOf]; omega)
        · have hk' : k = l.length := by omega
          subst hk'
          have d2 : ((l.length : Int) == (ow.length : Int)) = true := by rw [HLE.out]; simp
          have d2' : (l.length == ow.length) = true := by rw [HLE.out]; simp
          by_cases h0 : 0 < l.length
          · have e5 := HEN.out h0
            rw [e5]
            go_wp2_with fail
            go_ret
            exact ⟨rfl, HB3.out⟩
          · obtain rfl : l = [] := List.eq_nil_of_length_eq_zero (by omega)
            obtain rfl : ow = [] := List.eq_nil_of_length_eq_zero HLE.out.symm
            clear HEN HPS HEL d2 d2' h0 hk hlt
            go_wp2_with fail
            go_ret
            exact ⟨rfl, HB3.out⟩
    · have HE1 : Hid (tkL sh ow me = []) := by show _ = _; unfold tkL; rw [hv]; rfl
      have HE2 : Hid (tkE sh ow me = 1) := by show _ = _; unfold tkE; rw [hv]; rfl
      rw [HE1.out, HE2.out] at HT2
      clear hv HE1 HE2
      go_enter Tryz.func4, Tryz.ntmps4
      go_wp2_with fail
      refine HH.out.mono ?_
      rintro e w1 ⟨rfl, hb⟩
      have HB1 := hide hb
      clear hb
      go_wp2_with fail
      refine (HF.out _).mono ?_
      rintro e w2 ⟨rfl, rfl⟩
      go_wp2_with fail
      refine (HT2.out _ HB1.out).mono ?_
      rintro e w3 ⟨u, rfl, hs, hb⟩
      obtain ⟨uo, uc, rfl⟩ : ∃ uo uc, u = .slice uo 0 uc := hs.shape
      have HB3 := hide (bStepL HB1.out hb)
      clear hs hb
      go_wp2_with fail
      go_ret
      exact ⟨rfl, HB3.out⟩
end Go.Proofs.YtcgplokdklomlaaGreatDoor
