/- Apportionment by the greatest quotients: in plain Lean. -/
import Derived.Test.YtlagoiaiodjmhaaGreatDoorBase
set_option linter.unusedVariables false
set_option linter.unusedSimpArgs false
namespace Go.Proofs.YtlagoiaiodjmhaaGreatDoor

/-- A weight and seats: the first one comes before the second one. -/
def befB (p q : Nat × Nat) : Bool := decide (q.1 * (p.2 + 1) < p.1 * (q.2 + 1))
def atP (l : List (Nat × Nat)) (i : Nat) : Nat × Nat := l.getD i (0, 0)
/-- The best of the first i. -/
def bestN (l : List (Nat × Nat)) : Nat → Nat
  | 0 => 0
  | i + 1 => if befB (atP l i) (atP l (bestN l i)) then i else bestN l i
def incP (l : List (Nat × Nat)) (k : Nat) : List (Nat × Nat) := l.set k ((atP l k).1, (atP l k).2 + 1)
def dhN (ws : List Nat) : Nat → List (Nat × Nat)
  | 0 => ws.map fun w => (w, 0)
  | t + 1 => incP (dhN ws t) (bestN (dhN ws t) (dhN ws t).length)
def seatsN (ws : List Nat) (t : Nat) : List Nat := (dhN ws t).map Prod.snd
theorem incP_len (l : List (Nat × Nat)) (k : Nat) : (incP l k).length = l.length := by unfold incP; rw [List.length_set]
theorem dhN_len (ws : List Nat) : ∀ t, (dhN ws t).length = ws.length
  | 0 => by unfold dhN; rw [List.length_map]
  | t + 1 => by unfold dhN; rw [incP_len, dhN_len ws t]
theorem seatsN_len (ws : List Nat) (t : Nat) : (seatsN ws t).length = ws.length := by unfold seatsN; rw [List.length_map, dhN_len]
theorem atP_eq {l : List (Nat × Nat)} {i : Nat} (h : i < l.length) : atP l i = l[i] := by unfold atP; rw [List.getD_eq_getElem?_getD, List.getElem?_eq_getElem h]; rfl
theorem atP_inc {l : List (Nat × Nat)} {k i : Nat} (hi : i < l.length) : atP (incP l k) i = if i = k then ((atP l k).1, (atP l k).2 + 1) else atP l i := by
  rw [atP_eq (by rw [incP_len]; exact hi)]
  unfold incP
  rw [List.getElem_set]
  by_cases e : k = i
  · subst e; rw [if_pos rfl, if_pos rfl]
  · rw [if_neg e, if_neg (fun h => e h.symm), atP_eq hi]
theorem bestN_lt (l : List (Nat × Nat)) (h : 0 < l.length) : ∀ i, i ≤ l.length → bestN l i < l.length
  | 0, _ => h
  | i + 1, hi => by
    unfold bestN
    split
    · omega
    · exact bestN_lt l h i (by omega)
theorem bestN_le (l : List (Nat × Nat)) : ∀ i, bestN l i ≤ i
  | 0 => Nat.le_refl _
  | i + 1 => by
    unfold bestN
    split
    · omega
    · have := bestN_le l i; omega
/-- The weights stay. -/
theorem dhN_fst (ws : List Nat) : ∀ t i, i < ws.length → (atP (dhN ws t) i).1 = ws.getD i 0
  | 0, i, hi => by
    rw [atP_eq (by rw [dhN_len]; exact hi)]
    unfold dhN
    rw [List.getElem_map, List.getD_eq_getElem?_getD, List.getElem?_eq_getElem hi]; rfl
  | t + 1, i, hi => by
    unfold dhN
    rw [atP_inc (by rw [dhN_len]; exact hi)]
    split
    · rename_i e
      subst e
      exact dhN_fst ws t _ hi
    · exact dhN_fst ws t i hi
def sN (ws : List Nat) (t i : Nat) : Nat := (atP (dhN ws t) i).2
def wN (ws : List Nat) (i : Nat) : Nat := ws.getD i 0
theorem seatsN_get {ws : List Nat} {t i : Nat} (h : i < (seatsN ws t).length) : (seatsN ws t)[i] = sN ws t i := by
  have h' : i < (dhN ws t).length := by unfold seatsN at h; rw [List.length_map] at h; exact h
  unfold sN
  rw [atP_eq h']
  simp only [seatsN, List.getElem_map]
def kN (ws : List Nat) (t : Nat) : Nat := bestN (dhN ws t) (dhN ws t).length
theorem kN_lt {ws : List Nat} (t : Nat) (h : 0 < ws.length) : kN ws t < ws.length := by
  have := bestN_lt (dhN ws t) (by rw [dhN_len]; exact h) (dhN ws t).length (Nat.le_refl _)
  rw [dhN_len] at this
  unfold kN
  rw [dhN_len]; exact this
theorem sN_zero {ws : List Nat} {i : Nat} (h : i < ws.length) : sN ws 0 i = 0 := by
  unfold sN
  rw [atP_eq (by rw [dhN_len]; exact h)]
  simp only [dhN, List.getElem_map]
theorem sN_succ {ws : List Nat} {t i : Nat} (h : i < ws.length) : sN ws (t + 1) i = if i = kN ws t then sN ws t i + 1 else sN ws t i := by
  unfold sN kN
  show (atP (incP (dhN ws t) _) i).2 = _
  rw [atP_inc (by rw [dhN_len]; exact h)]
  split
  · rename_i e; rw [← e]
  · rfl
/-- The quotient of the first one is greater, or it is the same and its index is less. -/
def Prf (w a i v b j : Nat) : Prop := v * a < w * b ∨ (v * a = w * b ∧ i < j)
theorem bestN_prf (l : List (Nat × Nat)) : ∀ i, i ≤ l.length → ∀ j, j < i → j ≠ bestN l i → Prf (atP l (bestN l i)).1 ((atP l (bestN l i)).2 + 1) (bestN l i) (atP l j).1 ((atP l j).2 + 1) j
  | 0, _, j, hj, _ => absurd hj (Nat.not_lt_zero _)
  | i + 1, hi, j, hj, hne => by
    unfold bestN at hne ⊢
    by_cases hb : befB (atP l i) (atP l (bestN l i)) = true
    · rw [if_pos hb] at hne ⊢
      have hlt := of_decide_eq_true hb
      by_cases e : j = bestN l i
      · subst e; exact .inl hlt
      · have h1 := bestN_prf l i (by omega) j (by omega) e
        generalize atP l (bestN l i) = b at *
        generalize atP l j = c at *
        generalize atP l i = a at *
        refine .inl ?_
        have h2 : c.1 * (b.2 + 1) ≤ b.1 * (c.2 + 1) := by rcases h1 with h | ⟨h, _⟩ <;> omega
        have h3 : c.1 * (b.2 + 1) * (a.2 + 1) ≤ b.1 * (c.2 + 1) * (a.2 + 1) := Nat.mul_le_mul_right _ h2
        have h4 : b.1 * (a.2 + 1) * (c.2 + 1) < a.1 * (b.2 + 1) * (c.2 + 1) := Nat.mul_lt_mul_of_pos_right hlt (by omega)
        have h5 : c.1 * (a.2 + 1) * (b.2 + 1) < a.1 * (c.2 + 1) * (b.2 + 1) := by
          have e1 : c.1 * (a.2 + 1) * (b.2 + 1) = c.1 * (b.2 + 1) * (a.2 + 1) := Nat.mul_right_comm _ _ _
          have e2 : b.1 * (c.2 + 1) * (a.2 + 1) = b.1 * (a.2 + 1) * (c.2 + 1) := Nat.mul_right_comm _ _ _
          have e3 : a.1 * (b.2 + 1) * (c.2 + 1) = a.1 * (c.2 + 1) * (b.2 + 1) := Nat.mul_right_comm _ _ _
          omega
        exact Nat.lt_of_mul_lt_mul_right h5
    · rw [if_neg hb] at hne ⊢
      by_cases e : j = i
      · subst e
        have hn : ¬ (atP l (bestN l j)).1 * ((atP l j).2 + 1) < (atP l j).1 * ((atP l (bestN l j)).2 + 1) := fun h => hb (decide_eq_true h)
        have hle := bestN_le l j
        rcases Nat.lt_or_ge ((atP l j).1 * ((atP l (bestN l j)).2 + 1)) ((atP l (bestN l j)).1 * ((atP l j).2 + 1)) with h | h
        · exact .inl h
        · exact .inr ⟨by omega, by omega⟩
      · exact bestN_prf l i (by omega) j (by omega) hne
/-- Each seat that is given goes before each one that is not. -/
def Inv (n : Nat) (w s : Nat → Nat) : Prop := ∀ i j, i < n → j < n → i ≠ j → 0 < s i → Prf (w i) (s i) i (w j) (s j + 1) j
theorem inv_dh (ws : List Nat) : ∀ t, Inv ws.length (wN ws) (sN ws t)
  | 0 => fun i j hi _ _ h => by rw [sN_zero hi] at h; omega
  | t + 1 => fun i j hi hj hij h => by
    have ih := inv_dh ws t
    have hk : ∀ j, j < ws.length → j ≠ kN ws t → Prf (wN ws (kN ws t)) (sN ws t (kN ws t) + 1) (kN ws t) (wN ws j) (sN ws t j + 1) j := fun j hj hne => by
      have h1 := bestN_prf (dhN ws t) (dhN ws t).length (Nat.le_refl _) j (by rw [dhN_len]; exact hj) hne
      have e1 := dhN_fst ws t j hj
      have e2 := dhN_fst ws t (kN ws t) (kN_lt t (by omega))
      unfold kN at e2
      rw [e1, e2] at h1
      exact h1
    rw [sN_succ hi, sN_succ hj]
    by_cases e1 : i = kN ws t
    · rw [if_pos e1, if_neg (fun e => hij (e1.trans e.symm))]
      rw [e1] at hij ⊢
      exact hk j hj (fun e => hij e.symm)
    · rw [if_neg e1]
      rw [sN_succ hi, if_neg e1] at h
      have h1 := ih i j hi hj hij h
      by_cases e2 : j = kN ws t
      · rw [if_pos e2]
        have hmono : wN ws i * (sN ws t j + 1) ≤ wN ws i * (sN ws t j + 1 + 1) := Nat.mul_le_mul_left _ (by omega)
        rcases h1 with h1 | ⟨h1, h2⟩
        · exact .inl (by omega)
        · rcases Nat.lt_or_ge (wN ws j * sN ws t i) (wN ws i * (sN ws t j + 1 + 1)) with h3 | h3
          · exact .inl h3
          · exact .inr ⟨by omega, h2⟩
      · rw [if_neg e2]; exact h1
/-- The sum of the first n. -/
def sumN : Nat → (Nat → Nat) → Nat
  | 0, _ => 0
  | n + 1, f => sumN n f + f n
theorem sumN_congr {f g : Nat → Nat} : ∀ {n : Nat}, (∀ i, i < n → f i = g i) → sumN n f = sumN n g
  | 0, _ => rfl
  | n + 1, h => by unfold sumN; rw [sumN_congr (fun i hi => h i (by omega)), h n (by omega)]
theorem sumN_le {f g : Nat → Nat} : ∀ {n : Nat}, (∀ i, i < n → f i ≤ g i) → sumN n f ≤ sumN n g
  | 0, _ => Nat.le_refl _
  | n + 1, h => by
    unfold sumN
    have := sumN_le (n := n) (fun i hi => h i (by omega))
    have := h n (by omega)
    omega
theorem sumN_bump {f : Nat → Nat} {k : Nat} : ∀ {n : Nat}, k < n → sumN n (fun i => if i = k then f i + 1 else f i) = sumN n f + 1
  | 0, h => absurd h (Nat.not_lt_zero _)
  | n + 1, h => by
    unfold sumN
    show sumN n (fun i => if i = k then f i + 1 else f i) + (if n = k then f n + 1 else f n) = _
    by_cases e : k = n
    · subst e
      rw [if_pos rfl, sumN_congr (g := f) (fun i hi => if_neg (by omega))]; omega
    · rw [if_neg (fun e' : n = k => e e'.symm), sumN_bump (n := n) (by omega)]; omega
theorem sumN_zero : ∀ n : Nat, sumN n (fun _ => 0) = 0
  | 0 => rfl
  | n + 1 => by unfold sumN; rw [sumN_zero n]; rfl
theorem sum_dh {ws : List Nat} (h : 0 < ws.length) : ∀ t, sumN ws.length (sN ws t) = t
  | 0 => by rw [sumN_congr (g := fun _ => 0) (fun i hi => sN_zero hi), sumN_zero]
  | t + 1 => by rw [sumN_congr (fun i hi => sN_succ hi), sumN_bump (kN_lt t h), sum_dh h t]
/-- Who has a greater weight, while the others have lesser ones, does not have fewer seats. -/
theorem inv_mono {n : Nat} {w w' s s' : Nat → Nat} (h : Inv n w s) (h' : Inv n w' s') (hs : sumN n s ≤ sumN n s') {i : Nat} (hi : i < n) (hw : w i ≤ w' i) (ho : ∀ j, j < n → j ≠ i → w' j ≤ w j) : s i ≤ s' i := by
  refine Nat.le_of_not_lt fun hlt => ?_
  have hex : ∃ j, j < n ∧ s j < s' j := by
    refine Classical.byContradiction fun hno => ?_
    have hle : ∀ j, j < n → s' j ≤ s j := fun j hj => Nat.le_of_not_lt fun h => hno ⟨j, hj, h⟩
    have strict : ∀ m, m ≤ n → (i < m → sumN m s' < sumN m s) ∧ sumN m s' ≤ sumN m s := by
      intro m
      induction m with
      | zero => intro _; exact ⟨fun h => absurd h (Nat.not_lt_zero _), Nat.le_refl _⟩
      | succ m ih =>
        intro hm
        have ih := ih (by omega)
        have := hle m (by omega)
        unfold sumN
        refine ⟨fun him => ?_, by omega⟩
        by_cases e : i = m
        · subst e; omega
        · have := ih.1 (by omega); omega
    have := (strict n (Nat.le_refl _)).1 hi
    omega
  obtain ⟨j, hj, hjs⟩ := hex
  have hij : j ≠ i := by rintro rfl; omega
  have p1 := h' j i hj hi hij (by omega)
  have p2 := h i j hi hj (fun e => hij e.symm) (by omega)
  have a1 : w' j * (s' i + 1) ≤ w j * s i := Nat.mul_le_mul (ho j hj hij) (by omega)
  have a2 : w i * (s j + 1) ≤ w' i * s' j := Nat.mul_le_mul hw (by omega)
  unfold Prf at p1 p2
  rcases p1 with p1 | ⟨p1, q1⟩ <;> rcases p2 with p2 | ⟨p2, q2⟩ <;> omega
/-- A weight of 0 has no seats, if another one is greater. -/
theorem inv_zero {n : Nat} {w s : Nat → Nat} (h : Inv n w s) {i k : Nat} (hi : i < n) (hk : k < n) (h0 : w i = 0) (hp : 0 < w k) : s i = 0 := by
  refine Nat.eq_zero_of_not_pos fun hs => ?_
  have hne : i ≠ k := by rintro rfl; omega
  have p := h i k hi hk hne hs
  unfold Prf at p
  rw [h0, Nat.zero_mul] at p
  have : 0 < w k * s i := Nat.mul_pos hp hs
  rcases p with p | ⟨p, _⟩ <;> omega
/-- All weights times a factor: the same seats. -/
theorem befB_scale {c : Nat} (hc : 0 < c) (p q : Nat × Nat) : befB (c * p.1, p.2) (c * q.1, q.2) = befB p q := by
  unfold befB
  refine decide_eq_decide.2 ?_
  rw [Nat.mul_assoc, Nat.mul_assoc]
  exact Nat.mul_lt_mul_left hc
theorem atP_map {l : List (Nat × Nat)} {c i : Nat} : atP (l.map fun p => (c * p.1, p.2)) i = (c * (atP l i).1, (atP l i).2) := by
  unfold atP
  rw [List.getD_eq_getElem?_getD, List.getD_eq_getElem?_getD, List.getElem?_map]
  cases l[i]? <;> simp
theorem bestN_map {l : List (Nat × Nat)} {c : Nat} (hc : 0 < c) : ∀ i, bestN (l.map fun p => (c * p.1, p.2)) i = bestN l i
  | 0 => rfl
  | i + 1 => by
    unfold bestN
    rw [bestN_map hc i, atP_map, atP_map, befB_scale hc]
theorem dhN_scale {c : Nat} (hc : 0 < c) (ws : List Nat) : ∀ t, dhN (ws.map (c * ·)) t = (dhN ws t).map fun p => (c * p.1, p.2)
  | 0 => by simp [dhN]
  | t + 1 => by
    unfold dhN
    rw [dhN_scale hc ws t, List.length_map, bestN_map hc]
    unfold incP
    rw [atP_map, List.map_set]
theorem seatsN_scale {c : Nat} (hc : 0 < c) (ws : List Nat) (t : Nat) : seatsN (ws.map (c * ·)) t = seatsN ws t := by
  unfold seatsN
  rw [dhN_scale hc, List.map_map]; rfl
end Go.Proofs.YtlagoiaiodjmhaaGreatDoor
