/- moments, plain: the collected list, with the limit. -/
import Derived.Test.YtblpnekjnaaeoaaGreatDoorMoM
import Derived.Test.YtblpnekjnaaeoaaGreatDoorMoPa
set_option linter.unusedVariables false
set_option linter.unusedSimpArgs false
namespace Go.Proofs.YtblpnekjnaaeoaaGreatDoor

def insO : List PQ → PQ → Option (List PQ)
  | [], x => some [x]
  | y :: ys, x => if y.1 < x.1 then (insO ys x).map (y :: ·) else if y.1 = x.1 then (addR y.2 x.2).map fun s => (y.1, s) :: ys else some (x :: y :: ys)
theorem insO_some {l m : List PQ} {x : PQ} (h : insO l x = some m) : m = insE l x := by
  induction l generalizing m with
  | nil => unfold insO at h; injection h with h; exact h.symm
  | cons y ys ih =>
    unfold insO at h
    unfold insE
    split at h
    · rename_i hlt
      rw [if_pos hlt]
      obtain ⟨m', hm, rfl⟩ := Option.map_eq_some_iff.1 h
      rw [ih hm]
    · rename_i hlt
      rw [if_neg hlt]
      split at h
      · rename_i he
        rw [if_pos he]
        obtain ⟨s, hs, rfl⟩ := Option.map_eq_some_iff.1 h
        rw [(addR_fit hs).1]
      · rename_i he
        rw [if_neg he]
        injection h with h; exact h.symm
def FitL (l : List PQ) : Prop := ∀ z ∈ l, FitQ z.1 ∧ FitQ z.2
theorem insO_fit {l m : List PQ} {x : PQ} (h : insO l x = some m) (hl : FitL l) (hx : FitQ x.1 ∧ FitQ x.2) : FitL m := by
  induction l generalizing m with
  | nil =>
    unfold insO at h; injection h with h; subst h
    intro z hz
    rw [List.mem_singleton.1 hz]; exact hx
  | cons y ys ih =>
    have hy := hl y (List.mem_cons_self ..)
    have hys : FitL ys := fun z hz => hl z (List.mem_cons_of_mem _ hz)
    unfold insO at h
    split at h
    · obtain ⟨m', hm, rfl⟩ := Option.map_eq_some_iff.1 h
      intro z hz
      rcases List.mem_cons.1 hz with rfl | hz
      · exact hy
      · exact ih hm hys z hz
    · split at h
      · obtain ⟨s, hs, rfl⟩ := Option.map_eq_some_iff.1 h
        intro z hz
        rcases List.mem_cons.1 hz with rfl | hz
        · exact ⟨hy.1, (addR_fit hs).2⟩
        · exact hys z hz
      · injection h with h; subst h
        intro z hz
        rcases List.mem_cons.1 hz with rfl | hz
        · exact hx
        · exact hl z hz
theorem insO_hit {l : List PQ} {x : PQ} : ∀ {k : Nat} (hk : k < l.length), (∀ i (h : i < l.length), i < k → l[i].1 < x.1) → l[k].1 = x.1 → insO l x = (addR l[k].2 x.2).map fun s => l.set k (x.1, s) := by
  induction l with
  | nil => intro k hk; exact absurd hk (Nat.not_lt_zero _)
  | cons y ys ih =>
    intro k hk hlo he
    unfold insO
    cases k with
    | zero =>
      have he' : y.1 = x.1 := he
      rw [if_neg (by rw [he']; exact Rat.lt_irrefl), if_pos he']
      simp only [List.getElem_cons_zero, List.set_cons_zero, he']
    | succ k =>
      rw [if_pos (show y.1 < x.1 from hlo 0 (by simp) (by omega))]
      rw [ih (k := k) (by simpa using hk) (fun i h hi => hlo (i + 1) (by simpa using h) (by omega)) he]
      simp only [List.getElem_cons_succ, List.set_cons_succ, Option.map_map]
      rfl
theorem insO_miss {l : List PQ} {x : PQ} : ∀ {k : Nat}, k ≤ l.length → (∀ i (h : i < l.length), i < k → l[i].1 < x.1) → (∀ i (h : i < l.length), k ≤ i → ¬ l[i].1 < x.1) → (¬ ∃ h : k < l.length, l[k].1 = x.1) → insO l x = some (l.take k ++ x :: l.drop k) := by
  induction l with
  | nil => intro k hk _ _ _; simp at hk; subst hk; rfl
  | cons y ys ih =>
    intro k hk hlo hhi he
    unfold insO
    cases k with
    | zero =>
      have h1 : ¬ y.1 < x.1 := hhi 0 (by simp) (Nat.le_refl _)
      rw [if_neg h1, if_neg (fun h => he ⟨by simp, h⟩)]
      rfl
    | succ k =>
      rw [if_pos (show y.1 < x.1 from hlo 0 (by simp) (by omega))]
      rw [ih (k := k) (by simpa using hk) (fun i h hi => hlo (i + 1) (by simpa using h) (by omega)) (fun i h hi => hhi (i + 1) (by simpa using h) (by omega)) (fun ⟨h, e⟩ => he ⟨by simpa using h, e⟩)]
      rfl
def stepO (o : Option (List PQ)) (i : Option PQ) : Option (List PQ) := o.bind fun l => i.bind fun x => insO l x
def collO (items : List (Option PQ)) : Option (List PQ) := items.foldl stepO (some [])
theorem collO_snoc (items : List (Option PQ)) (i : Option PQ) : collO (items ++ [i]) = stepO (collO items) i := by unfold collO; rw [List.foldl_append]; rfl
theorem foldl_none (items : List (Option PQ)) : items.foldl stepO none = none := by
  induction items with
  | nil => rfl
  | cons i l ih => exact ih
theorem collO_prefix {pre items : List (Option PQ)} (h : pre <+: items) (hn : collO pre = none) : collO items = none := by
  obtain ⟨t, rfl⟩ := h
  unfold collO at hn ⊢
  rw [List.foldl_append, hn, foldl_none]
theorem collO_bad {items : List (Option PQ)} (h : Bad items) : collO items = none := by
  obtain ⟨pre, h⟩ := h
  refine collO_prefix h ?_
  rw [collO_snoc]
  unfold stepO
  cases collO (pre.map some) <;> rfl
theorem collO_some_aux {xs : List PQ} : ∀ {o : List PQ} {m : List PQ}, (xs.map some).foldl stepO (some o) = some m → m = xs.foldl insE o := by
  induction xs with
  | nil => intro o m h; injection h with h; exact h.symm
  | cons x xs ih =>
    intro o m h
    simp only [List.map_cons, List.foldl_cons] at h ⊢
    have e : stepO (some o) (some x) = insO o x := rfl
    rw [e] at h
    cases hi : insO o x with
    | none => rw [hi, foldl_none] at h; cases h
    | some o' =>
      rw [hi] at h
      rw [← insO_some hi]
      exact ih h
theorem collO_some {xs : List PQ} {m : List PQ} (h : collO (xs.map some) = some m) : m = collE xs := collO_some_aux h
theorem collO_fit {xs : List PQ} (hf : FitL xs) {m : List PQ} (h0 : collO (xs.map some) = some m) : FitL m := by
  have : ∀ (xs : List PQ) (o m : List PQ), FitL xs → FitL o → (xs.map some).foldl stepO (some o) = some m → FitL m := by
    intro xs
    induction xs with
    | nil => intro o m _ ho h; injection h with h; subst h; exact ho
    | cons x xs ih =>
      intro o m hx ho h
      simp only [List.map_cons, List.foldl_cons] at h
      have e : stepO (some o) (some x) = insO o x := rfl
      rw [e] at h
      cases hi : insO o x with
      | none => rw [hi, foldl_none] at h; cases h
      | some o' =>
        rw [hi] at h
        exact ih o' m (fun z hz => hx z (List.mem_cons_of_mem _ hz)) (insO_fit hi ho (hx x (List.mem_cons_self ..))) h
  exact this xs [] m hf (fun z hz => by cases hz) h0
/-- What collect returns. -/
def resO (items : List (Option PQ)) : Option (List PQ) := (collO items).bind fun l => if (nzE l).length ≤ 400 then some (nzE l) else none
/-- The pairs of a sum, and of a mixture, with the limit. -/
def prS (p q : PQ) : Option PQ := (addR p.1 q.1).bind fun v => (mulR p.2 q.2).bind fun w => some (v, w)
def prM (c : Rat) (p : PQ) : Option PQ := (mulR c p.2).bind fun w => some (p.1, w)
def itS (a b : List PQ) : List (Option PQ) := a.flatMap fun p => b.map fun q => prS p q
def itM (ws : List Rat) (ls : List (List PQ)) : List (Option PQ) := (ws.zip ls).flatMap fun x => x.2.map fun p => prM x.1 p
theorem prS_some {p q x : PQ} (h : prS p q = some x) : x = (p.1 + q.1, p.2 * q.2) ∧ FitQ x.1 ∧ FitQ x.2 := by
  unfold prS at h
  obtain ⟨v, hv, h⟩ := Option.bind_eq_some_iff.1 h
  obtain ⟨w, hw, h⟩ := Option.bind_eq_some_iff.1 h
  injection h with h
  subst h
  obtain ⟨e1, f1⟩ := addR_fit hv
  obtain ⟨e2, f2⟩ := mulR_fit hw
  exact ⟨by rw [e1, e2], f1, f2⟩
theorem prM_some {c : Rat} {p x : PQ} (h : prM c p = some x) (hp : FitQ p.1) : x = (p.1, c * p.2) ∧ FitQ x.1 ∧ FitQ x.2 := by
  unfold prM at h
  obtain ⟨w, hw, h⟩ := Option.bind_eq_some_iff.1 h
  injection h with h
  subst h
  obtain ⟨e2, f2⟩ := mulR_fit hw
  exact ⟨by rw [e2], hp, f2⟩
end Go.Proofs.YtblpnekjnaaeoaaGreatDoor
