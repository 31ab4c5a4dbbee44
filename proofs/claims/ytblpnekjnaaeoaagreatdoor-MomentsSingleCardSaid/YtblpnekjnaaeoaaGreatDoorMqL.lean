/- law 46, plain: sums and mixtures of few points have no limit, and are valid. -/
import Derived.Test.YtblpnekjnaaeoaaGreatDoorMqK
set_option linter.unusedVariables false
set_option linter.unusedSimpArgs false
namespace Go.Proofs.YtblpnekjnaaeoaaGreatDoor

theorem insO_qd {D B : Nat} {x : PQ} (hx : Qd D B x.2) : ∀ (o : List PQ) (M : Nat), (∀ z ∈ o, Qd D M z.2) → (M + B) * (D * D) < capN → D * D < capN → insO o x = some (insE o x) ∧ ∀ z ∈ insE o x, Qd D (M + B) z.2
  | [], M, _, _, _ => ⟨rfl, fun z hz => by
      rw [show insE [] x = [x] from rfl] at hz
      rw [List.mem_singleton.1 hz]
      exact hx.mono (Nat.le_add_left _ _)⟩
  | y :: ys, M, ho, h1, h2 => by
    have hy := ho y (List.mem_cons_self ..)
    have hys : ∀ z ∈ ys, Qd D M z.2 := fun z hz => ho z (List.mem_cons_of_mem _ hz)
    unfold insO insE
    split
    · obtain ⟨e, hm⟩ := insO_qd hx ys M hys h1 h2
      refine ⟨by rw [e]; rfl, fun z hz => ?_⟩
      rcases List.mem_cons.1 hz with rfl | hz
      · exact hy.mono (Nat.le_add_right _ _)
      · exact hm z hz
    · split
      · refine ⟨by rw [hy.addR hx h1 h2]; rfl, fun z hz => ?_⟩
        rcases List.mem_cons.1 hz with rfl | hz
        · exact hy.add hx
        · exact (hys z hz).mono (Nat.le_add_right _ _)
      · refine ⟨rfl, fun z hz => ?_⟩
        rcases List.mem_cons.1 hz with rfl | hz
        · exact hx.mono (Nat.le_add_left _ _)
        · exact (ho z hz).mono (Nat.le_add_right _ _)
theorem coll_qd {D B : Nat} : ∀ (xs o : List PQ) (M : Nat), (∀ x ∈ xs, Qd D B x.2) → (∀ z ∈ o, Qd D M z.2) → (M + xs.length * B) * (D * D) < capN → D * D < capN → (xs.map some).foldl stepO (some o) = some (xs.foldl insE o) ∧ ∀ z ∈ xs.foldl insE o, Qd D (M + xs.length * B) z.2
  | [], o, M, _, ho, _, _ => ⟨rfl, fun z hz => (ho z hz).mono (Nat.le_add_right _ _)⟩
  | x :: xs, o, M, hx, ho, h1, h2 => by
    have hlen : M + (x :: xs).length * B = (M + B) + xs.length * B := by simp only [List.length_cons]; rw [Nat.succ_mul]; omega
    rw [hlen] at h1 ⊢
    obtain ⟨e, hm⟩ := insO_qd (hx x (List.mem_cons_self ..)) o M ho (Nat.lt_of_le_of_lt (Nat.mul_le_mul_right _ (Nat.le_add_right _ _)) h1) h2
    obtain ⟨e2, hm2⟩ := coll_qd xs (insE o x) (M + B) (fun z hz => hx z (List.mem_cons_of_mem _ hz)) hm h1 h2
    refine ⟨?_, hm2⟩
    show (xs.map some).foldl stepO (insO o x) = _
    rw [e, e2, List.foldl_cons]
theorem len_pos_of_tot {l : List PQ} (h : totE l = 1) : 1 ≤ l.length := by
  cases l with
  | nil =>
    exfalso
    unfold totE at h
    simp only [dot] at h
    exact absurd h (by decide)
  | cons a l => simp
/-- The collected list of few items with a common denominator, whose weights are 1 together. -/
theorem res_good {D B : Nat} {xs : List PQ} (hq : ∀ x ∈ xs, Qd D B x.2) (hlen : xs.length ≤ 25) (hB : 625 * B * (D * D) < capN) (hDD : D * D < capN) (hD : 0 < D)
    (hfit : FitL xs) (h0 : ∀ x ∈ xs, 0 ≤ x.2) (ht : totE xs = 1) : ∃ s, resO (xs.map some) = some s ∧ VD (s.map encP) s ∧ SameD s xs ∧ s.length ≤ 25 := by
  have hb1 : (0 + xs.length * B) * (D * D) < capN := by
    refine Nat.lt_of_le_of_lt (Nat.mul_le_mul_right _ ?_) hB
    rw [Nat.zero_add]
    exact Nat.mul_le_mul_right _ (by omega)
  obtain ⟨e, hm⟩ := coll_qd xs [] 0 hq (fun z hz => by cases hz) hb1 hDD
  have ec : collO (xs.map some) = some (collE xs) := e
  have hm : ∀ z ∈ collE xs, Qd D (25 * B) z.2 := fun z hz => (hm z hz).mono (by rw [Nat.zero_add]; exact Nat.mul_le_mul_right _ hlen)
  have hl : (nzE (collE xs)).length ≤ 25 := Nat.le_trans (List.length_filter_le _ _) (Nat.le_trans (collE_len xs) hlen)
  have hsame := sameD_coll xs
  have htot : totE (nzE (collE xs)) = 1 := by rw [hsame.tot, ht]
  have hmem : ∀ z ∈ nzE (collE xs), z ∈ collE xs := fun z hz => (List.mem_filter.1 hz).1
  refine ⟨nzE (collE xs), ?_, ⟨rfl, ⟨fun z hz => collO_fit hfit ec z (hmem z hz), nzE_pos (collE_nonneg h0), nzE_srt (collE_srt xs)⟩, ⟨len_pos_of_tot htot, by omega⟩, ?_⟩, hsame, hl⟩
  · unfold resO
    rw [ec, Option.bind_some, if_pos (by omega)]
  · have hz : Qd D 0 0 := ⟨hD, 0, by rw [Rat.zero_mul]; rfl, by simp⟩
    have := totO_qd (D := D) (B := 25 * B) hD ((nzE (collE xs)).map fun z => z.2) 0 0 (fun q hq => by
      obtain ⟨z, hz, rfl⟩ := List.mem_map.1 hq
      exact hm z (hmem z hz)) hz (by
        refine Nat.lt_of_le_of_lt (Nat.mul_le_mul_right _ ?_) hB
        rw [Nat.zero_add, List.length_map, ← Nat.mul_assoc]
        exact Nat.mul_le_mul_right _ (by omega)) hDD
    unfold totO
    rw [this, totE_foldr, htot, Rat.zero_add]
theorem P_two : P20 * P20 = P20 ^ 2 := by simp only [Nat.pow_succ, Nat.pow_zero, Nat.one_mul]
theorem itS_few {a b : List PQ} (ha : FewL a) (hb : FewL b) : itS a b = (sumE a b).map some := by
  have hin : ∀ p ∈ a, (b.map fun q => prS p q) = (b.map fun q => (p.1 + q.1, p.2 * q.2)).map some := fun p hp => by
    rw [List.map_map]
    refine List.map_congr_left fun q hq => ?_
    show prS p q = some (p.1 + q.1, p.2 * q.2)
    unfold prS
    rw [s20_add (ha.2 p hp).1 (hb.2 q hq).1, s20_mul (ha.2 p hp).2 (hb.2 q hq).2, Option.bind_some, Option.bind_some]
  clear ha
  unfold itS sumE
  induction a with
  | nil => rfl
  | cons p a ih =>
    rw [List.flatMap_cons, List.flatMap_cons, List.map_append, hin p (List.mem_cons_self ..), ih (fun q hq => hin q (List.mem_cons_of_mem _ hq))]
theorem sumE_len (a b : List PQ) : (sumE a b).length = a.length * b.length := by
  unfold sumE
  rw [List.length_flatMap]
  simp only [List.length_map]
  induction a with
  | nil => simp
  | cons p a ih => simp only [List.map_cons, List.sum_cons, List.length_cons, ih]; rw [Nat.succ_mul]; omega
theorem big_lt {D : Nat} (hD : D ≤ P20 ^ 14) : 625 * (P20 * P20) * (D * D) < capN ∧ D * D < capN := by
  have hDD : D * D ≤ P20 ^ 28 := by
    have := Nat.mul_le_mul hD hD
    rwa [← Nat.pow_add] at this
  refine ⟨P_bd (k := 625) (a := 2) (b := 28) (by decide) ?_ hDD (by decide), Nat.lt_of_le_of_lt hDD (P_lt (by decide))⟩
  rw [P_two]; exact Nat.le_refl _
/-- Sum of two valid lists of few points. -/
theorem sum_few {a b : List PQ} (ha : FewL a) (hb : FewL b) (va : VD (a.map encP) a) (vb : VD (b.map encP) b) : ∃ s, resO (itS a b) = some s ∧ VD (s.map encP) s ∧ SameD s (sumE a b) ∧ s.length ≤ 25 := by
  have hD : dW a * dW b ≤ P20 ^ 14 := by
    have := Nat.mul_le_mul (dW_le ha) (dW_le hb)
    rw [← Nat.pow_add] at this
    exact Nat.le_trans this (P_le (by decide))
  have e := itS_few ha hb
  obtain ⟨h1, h2⟩ := big_lt hD
  rw [e]
  have hmem : ∀ x ∈ sumE a b, ∃ p ∈ a, ∃ q ∈ b, x = (p.1 + q.1, p.2 * q.2) := fun x hx => by
    obtain ⟨p, hp, hx⟩ := List.mem_flatMap.1 hx
    obtain ⟨q, hq, rfl⟩ := List.mem_map.1 hx
    exact ⟨p, hp, q, hq, rfl⟩
  refine res_good (D := dW a * dW b) (B := P20 * P20) (fun x hx => ?_) ?_ h1 h2 (Nat.mul_pos (dW_pos a) (dW_pos b)) (fun x hx => ?_) (fun x hx => ?_) ?_
  · obtain ⟨p, hp, q, hq, rfl⟩ := hmem x hx
    exact (dW_mem ha hp).mul (dW_mem hb hq)
  · rw [sumE_len]
    exact Nat.mul_le_mul ha.1 hb.1
  · refine itS_fit (a := a) (b := b) ?_
    rw [e]
    exact List.mem_map_of_mem hx
  · obtain ⟨p, hp, q, hq, rfl⟩ := hmem x hx
    exact Rat.le_of_lt (Rat.mul_pos (va.vl.pos p hp) (vb.vl.pos q hq))
  · rw [totE_sumE, va.totE, vb.totE, Rat.one_mul]
theorem vd_unique {s t : List PQ} (vs : VD (s.map encP) s) (vt : VD (t.map encP) t) (h : SameD s t) : s = t :=
  srt_unique vs.vl.srt vt.vl.srt (fun z hz e => by have := vs.vl.pos z hz; grind) (fun z hz e => by have := vt.vl.pos z hz; grind) h
theorem itM_few {ws : List Rat} {ls : List (List PQ)} (hw : ∀ q ∈ ws, S20 q) (hl : ∀ l ∈ ls, FewL l) : itM ws ls = (mixE ws ls).map some := by
  unfold itM mixE
  have : ∀ x ∈ ws.zip ls, (x.2.map fun p => prM x.1 p) = (x.2.map fun p => (p.1, x.1 * p.2)).map some := fun x hx => by
    obtain ⟨h1, h2⟩ := List.of_mem_zip hx
    rw [List.map_map]
    refine List.map_congr_left fun q hq => ?_
    show prM x.1 q = some (q.1, x.1 * q.2)
    unfold prM
    rw [s20_mul (hw _ h1) ((hl _ h2).2 q hq).2, Option.bind_some]
  generalize ws.zip ls = z at this
  induction z with
  | nil => rfl
  | cons x z ih =>
    rw [List.flatMap_cons, List.flatMap_cons, List.map_append, this x (List.mem_cons_self ..), ih (fun q hq => this q (List.mem_cons_of_mem _ hq))]
theorem totE_mixE {ws : List Rat} {ls : List (List PQ)} (hl : ws.length = ls.length) (ht : ∀ l ∈ ls, totE l = 1) : totE (mixE ws ls) = ws.foldr (fun q r => q + r) 0 := by
  induction ws generalizing ls with
  | nil => exact dot_mixE_nil _ ls
  | cons c ws ih =>
    cases ls with
    | nil => simp at hl
    | cons l ls =>
      have e : totE (mixE (c :: ws) (l :: ls)) = c * totE l + totE (mixE ws ls) := dot_mixE_cons _ c ws l ls
      rw [e, ht l (List.mem_cons_self ..), ih (by simpa using hl) (fun m hm => ht m (List.mem_cons_of_mem _ hm)), Rat.mul_one, List.foldr_cons]
/-- Mix of at most two lists of few points. -/
theorem mix_few {ws : List Rat} {ls : List (List PQ)} {Mw : List T3} {Ms : List (List (T3 × T3))} (hx : XD Mw Ms ws ls) (hw : ∀ q ∈ ws, S20 q) (hl : ∀ l ∈ ls, FewL l) (h2 : ls.length ≤ 2) : ∃ s, resO (itM ws ls) = some s ∧ VD (s.map encP) s ∧ SameD s (mixE ws ls) ∧ s.length ≤ 25 := by
  have hwl : ws.length = ls.length := hx.len
  have hdw : dens ws ≤ P20 ^ 2 := Nat.le_trans (dens_le (fun q hq => (hw q hq).2)) (P_le (by omega))
  have e := itM_few hw hl
  have hall : ∃ E, 0 < E ∧ E ≤ P20 ^ 10 ∧ ∀ l ∈ ls, ∀ z ∈ l, Qd E P20 z.2 := by
    match ls, hl, h2 with
    | [], _, _ => exact ⟨1, by decide, Nat.pow_pos P20_pos, fun l hl => by cases hl⟩
    | [a], hl, _ =>
      have ha := hl a (List.mem_cons_self ..)
      refine ⟨dW a, dW_pos a, Nat.le_trans (dW_le ha) (P_le (by decide)), fun l hl z hz => ?_⟩
      rw [List.mem_singleton.1 hl] at hz
      exact dW_mem ha hz
    | [a, b], hl, _ =>
      have ha := hl a (List.mem_cons_self ..)
      have hb := hl b (List.mem_cons_of_mem _ (List.mem_cons_self ..))
      refine ⟨dW a * dW b, Nat.mul_pos (dW_pos a) (dW_pos b), ?_, fun l hl z hz => ?_⟩
      · have := Nat.mul_le_mul (dW_le ha) (dW_le hb)
        rwa [← Nat.pow_add] at this
      · rcases List.mem_cons.1 hl with rfl | hl
        · exact (dW_mem ha hz).scale (dW_pos b)
        · rw [List.mem_singleton.1 hl] at hz
          exact (dW_mem hb hz).scale' (dW_pos a)
    | _ :: _ :: _ :: _, _, h => simp at h
  obtain ⟨E, hE0, hE, hQ⟩ := hall
  have hD : dens ws * E ≤ P20 ^ 14 := by
    have := Nat.mul_le_mul hdw hE
    rw [← Nat.pow_add] at this
    exact Nat.le_trans this (P_le (by decide))
  obtain ⟨h3, h4⟩ := big_lt hD
  rw [e]
  have hmem : ∀ x ∈ mixE ws ls, ∃ c ∈ ws, ∃ l ∈ ls, ∃ z ∈ l, x = (z.1, c * z.2) := fun x hx => by
    obtain ⟨y, hy, hx⟩ := List.mem_flatMap.1 hx
    obtain ⟨q, hq, rfl⟩ := List.mem_map.1 hx
    obtain ⟨h1, h2⟩ := List.of_mem_zip hy
    exact ⟨_, h1, _, h2, q, hq, rfl⟩
  have hlen : (mixE ws ls).length ≤ 25 := by
    have hb : (mixE ws ls).length ≤ ws.length * 5 := by
      unfold mixE
      rw [List.length_flatMap]
      simp only [List.length_map]
      have : ∀ (us : List Rat) (ms : List (List PQ)), (∀ l ∈ ms, l.length ≤ 5) → (((us.zip ms).map fun x => x.2.length).sum) ≤ us.length * 5 := by
        intro us
        induction us with
        | nil => intro ms _; simp
        | cons c us ih =>
          intro ms hm
          cases ms with
          | nil => simp
          | cons l ms =>
            have h1 := ih ms (fun x hx => hm x (List.mem_cons_of_mem _ hx))
            have h2 := hm l (List.mem_cons_self ..)
            simp only [List.zip_cons_cons, List.map_cons, List.sum_cons, List.length_cons]
            rw [Nat.succ_mul]
            omega
      exact this ws ls (fun l h => (hl l h).1)
    omega
  refine res_good (D := dens ws * E) (B := P20 * P20) (fun x hx => ?_) hlen h3 h4 (Nat.mul_pos (dens_pos ws) hE0) (fun x hx' => ?_) (fun x hx' => ?_) ?_
  · obtain ⟨c, hc, l, hl', z, hz, rfl⟩ := hmem x hx
    exact ((dens_mem hc).mono (hw c hc).1).mul (hQ l hl' z hz)
  · refine itM_fit (ws := ws) (ls := ls) (fun l h => (hx.vl l h).vl.fit) ?_
    rw [e]
    exact List.mem_map_of_mem hx'
  · obtain ⟨c, hc, l, hl', z, hz, rfl⟩ := hmem x hx'
    have h1 := (hx.fw c hc).2
    exact Rat.mul_nonneg (by grind) (Rat.le_of_lt ((hx.vl l hl').vl.pos z hz))
  · rw [totE_mixE hwl (fun l h => (hx.vl l h).totE)]
    have := totO_exact _ _ _ hx.tot
    rw [this]; grind
/-- What a mean and a variance without a limit are. -/
theorem foldl_meanS_none (l : List PQ) : l.foldl meanS none = none := by
  induction l with
  | nil => rfl
  | cons q l ih => exact ih
theorem mean_exact_aux (l : List PQ) : ∀ (o r : Rat), l.foldl meanS (some o) = some r → r = o + meanE l := by
  induction l with
  | nil =>
    intro o r h
    simp only [List.foldl_nil, Option.some.injEq] at h
    simp only [meanE, dot]
    rw [← h, Rat.add_zero]
  | cons q l ih =>
    intro o r h
    rw [List.foldl_cons] at h
    cases ha : meanS (some o) q with
    | none =>
      rw [ha, foldl_meanS_none] at h
      cases h
    | some s =>
      rw [ha] at h
      have hs : s = o + q.1 * q.2 := by
        unfold meanS at ha
        rw [Option.bind_some] at ha
        obtain ⟨m, hm, ha⟩ := Option.bind_eq_some_iff.1 ha
        rw [(addR_fit ha).1, (mulR_fit hm).1]
      have e2 : meanE (q :: l) = q.1 * q.2 + meanE l := by simp only [meanE, dot]
      rw [ih s r h, hs, e2, Rat.add_assoc]
theorem mean_exact {L : List PQ} {m : Rat} (h : meanO L L.length = some m) : m = meanE L := by
  unfold meanO at h
  rw [List.take_length] at h
  rw [mean_exact_aux L 0 m h, Rat.zero_add]
theorem foldl_varS_none (m : Rat) (l : List PQ) : l.foldl (varS m) none = none := by
  induction l with
  | nil => rfl
  | cons q l ih => exact ih
theorem var_exact_aux (m : Rat) (l : List PQ) : ∀ (o r : Rat), l.foldl (varS m) (some o) = some r → r = o + dot (fun v => (v - m) * (v - m)) l := by
  induction l with
  | nil =>
    intro o r h
    simp only [List.foldl_nil, Option.some.injEq] at h
    simp only [dot]
    rw [← h, Rat.add_zero]
  | cons q l ih =>
    intro o r h
    rw [List.foldl_cons] at h
    cases ha : varS m (some o) q with
    | none =>
      rw [ha, foldl_varS_none] at h
      cases h
    | some s =>
      rw [ha] at h
      have hs : s = o + q.2 * ((q.1 - m) * (q.1 - m)) := by
        unfold varS at ha
        rw [Option.bind_some] at ha
        obtain ⟨d, hd, ha⟩ := Option.bind_eq_some_iff.1 ha
        obtain ⟨e, he, ha⟩ := Option.bind_eq_some_iff.1 ha
        obtain ⟨t, ht, ha⟩ := Option.bind_eq_some_iff.1 ha
        have h1 := (subR_fit hd).1
        have h2 := (mulR_fit he).1
        have h3 := (mulR_fit ht).1
        rw [(addR_fit ha).1, h3, h2, h1]
      rw [ih s r h, hs]
      simp only [dot]
      grind
theorem var_exact {L : List PQ} {v : Rat} (h : varO L = some v) : v = varE L := by
  unfold varO varK at h
  obtain ⟨m, hm, h⟩ := Option.bind_eq_some_iff.1 h
  rw [List.take_length] at h
  rw [var_exact_aux m L 0 v h, Rat.zero_add, mean_exact hm]
  rfl
end Go.Proofs.YtblpnekjnaaeoaaGreatDoor
