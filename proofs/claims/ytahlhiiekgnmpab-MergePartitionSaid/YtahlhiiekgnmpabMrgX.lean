/- Rows of groups: in plain Lean. -/
import Derived.Test.YtahlhiiekgnmpabMrgJ
set_option linter.unusedVariables false
set_option linter.unusedSimpArgs false
namespace Go.Proofs.Ytahlhiiekgnmpab

def rowsK (rt : Nat → Nat) (n : Nat) : List (List Nat) := (firsts rt n).map fun f => grpOf rt n (rt f)
theorem gK_rows (rt : Nat → Nat) (n : Nat) : gK rt n = (rowsK rt n).map asI := by unfold gK rowsK; rw [List.map_map]; rfl
structure Rows (n : Nat) (rows : List (List Nat)) : Prop where
  sorted : ∀ q (h : q < rows.length), rows[q].Pairwise (· < ·)
  pos : ∀ q (h : q < rows.length), 0 < rows[q].length
  len : ∀ q (h : q < rows.length), rows[q].length ≤ n
  lt : ∀ q (h : q < rows.length) x, x ∈ rows[q] → x < n
  one : ∀ q q' (h : q < rows.length) (h' : q' < rows.length) x, x ∈ rows[q] → x ∈ rows[q'] → q = q'
  all : ∀ x, x < n → ∃ q, ∃ h : q < rows.length, x ∈ rows[q]
  heads : ∀ q q' (h : q < rows.length) (h' : q' < rows.length), q < q' → ∀ x y, rows[q][0]? = some x → rows[q'][0]? = some y → x < y
theorem grpOf_sorted (rt : Nat → Nat) (n r : Nat) : (grpOf rt n r).Pairwise (· < ·) := by
  unfold grpOf
  exact (List.pairwise_lt_range).filter _
theorem mem_grpOf {rt : Nat → Nat} {n r x : Nat} : x ∈ grpOf rt n r ↔ x < n ∧ rt x = r := by
  unfold grpOf
  rw [List.mem_filter]
  simp
theorem rowsK_get {rt : Nat → Nat} {n q : Nat} (h : q < (rowsK rt n).length) : ∃ h' : q < (firsts rt n).length, (rowsK rt n)[q] = grpOf rt n (rt (firsts rt n)[q]) := by
  have h' : q < (firsts rt n).length := by unfold rowsK at h; rw [List.length_map] at h; exact h
  exact ⟨h', by simp only [rowsK, List.getElem_map]⟩
theorem head_of {rt : Nat → Nat} {n f : Nat} (hf : f < n) (h : firstB rt f = true) {x : Nat} (hx : (grpOf rt n (rt f))[0]? = some x) : x = f := by
  have hm : f ∈ grpOf rt n (rt f) := mem_grpOf.2 ⟨hf, rfl⟩
  have h1 := mem_grpOf.1 (List.mem_of_getElem? hx)
  have h2 := (firstB_iff rt f).1 h
  obtain ⟨i, hi, e⟩ := List.getElem_of_mem hm
  have hs := List.pairwise_iff_getElem.1 (grpOf_sorted rt n (rt f))
  have h0 : 0 < (grpOf rt n (rt f)).length := List.length_pos_of_mem hm
  rw [List.getElem?_eq_getElem h0] at hx
  have hx' : (grpOf rt n (rt f))[0] = x := by simpa using hx
  by_cases hi0 : i = 0
  · subst hi0; rw [← hx', e]
  · have h3 := hs 0 i h0 hi (by omega)
    rw [hx', e] at h3
    exact absurd h1.2 (h2 x h3)
theorem rows_ok (rt : Nat → Nat) (n : Nat) : Rows n (rowsK rt n) := by
  refine ⟨fun q h => ?_, fun q h => ?_, fun q h => ?_, fun q h x hx => ?_, fun q q' h h' x hx hx' => ?_, fun x hx => ?_, fun q q' h h' hlt x y hx hy => ?_⟩
  · obtain ⟨_, e⟩ := rowsK_get h
    rw [e]; exact grpOf_sorted _ _ _
  · obtain ⟨h1, e⟩ := rowsK_get h
    rw [e]
    exact List.length_pos_of_mem (mem_grpOf.2 ⟨(firsts_get rt h1).1, rfl⟩)
  · obtain ⟨_, e⟩ := rowsK_get h
    rw [e]; exact grpOf_len _ _ _
  · obtain ⟨_, e⟩ := rowsK_get h
    rw [e] at hx; exact (mem_grpOf.1 hx).1
  · obtain ⟨h1, e⟩ := rowsK_get h
    obtain ⟨h2, e'⟩ := rowsK_get h'
    rw [e] at hx
    rw [e'] at hx'
    exact firsts_inj rt h1 h2 ((mem_grpOf.1 hx).2.symm.trans (mem_grpOf.1 hx').2)
  · have hm : ∃ f ∈ firsts rt n, rt f = rt x := by
      rcases Bool.eq_false_or_eq_true (firstB rt x) with hb | hb
      · exact ⟨x, List.mem_filter.2 ⟨by simpa using hx, hb⟩, rfl⟩
      · obtain ⟨f, h1, h2, h3⟩ := first_of rt hb
        exact ⟨f, List.mem_filter.2 ⟨by simp; omega, h2⟩, h3⟩
    obtain ⟨f, h1, h2⟩ := hm
    obtain ⟨q, h3, h4⟩ := List.getElem_of_mem h1
    have h5 : q < (rowsK rt n).length := by unfold rowsK; rw [List.length_map]; exact h3
    obtain ⟨_, e⟩ := rowsK_get h5
    exact ⟨q, h5, by rw [e, h4]; exact mem_grpOf.2 ⟨hx, h2.symm⟩⟩
  · obtain ⟨h1, e⟩ := rowsK_get h
    obtain ⟨h2, e'⟩ := rowsK_get h'
    rw [e] at hx
    rw [e'] at hy
    rw [head_of (firsts_get rt h1).1 (firsts_get rt h1).2 hx, head_of (firsts_get rt h2).1 (firsts_get rt h2).2 hy]
    exact List.pairwise_iff_getElem.1 (firsts_sorted rt n) q q' h1 h2 hlt

def nzc : Nat → (Nat → Nat) → Nat
  | 0, _ => 0
  | n + 1, O => nzc n O + if O n = 0 then 0 else 1
theorem nzc_far {n i v : Nat} {O : Nat → Nat} (h : n ≤ i) : nzc n (upd O i v) = nzc n O := by
  induction n with
  | zero => rfl
  | succ n ih =>
    unfold nzc
    rw [ih (by omega), upd_other (by omega)]
theorem nzc_upd {x v : Nat} {O : Nat → Nat} (h0 : O x = 0) (hv : v ≠ 0) : ∀ {n : Nat}, x < n → nzc n (upd O x v) = nzc n O + 1
  | 0, hi => absurd hi (Nat.not_lt_zero _)
  | n + 1, hi => by
    unfold nzc
    by_cases e : x = n
    · subst e
      rw [nzc_far (Nat.le_refl _), upd_same, if_neg hv, if_pos h0]
    · have := nzc_upd h0 hv (n := n) (by omega)
      rw [upd_other (by omega), this]; omega
theorem nzc_all {O : Nat → Nat} : ∀ {n : Nat}, (∀ x, x < n → O x ≠ 0) → nzc n O = n
  | 0, _ => rfl
  | n + 1, h => by
    unfold nzc
    rw [nzc_all (fun x hx => h x (by omega)), if_neg (h n (by omega))]
theorem nzc_le (O : Nat → Nat) : ∀ n : Nat, nzc n O ≤ n
  | 0 => Nat.le_refl _
  | n + 1 => by
    unfold nzc
    have := nzc_le O n
    split <;> omega
theorem nzc_zero : ∀ n : Nat, nzc n (fun _ => 0) = 0
  | 0 => rfl
  | n + 1 => by unfold nzc; rw [nzc_zero n]; rfl
structure Stg (n : Nat) (rows : List (List Nat)) (q j : Nat) (O : Nat → Nat) : Prop where
  a : ∀ q' (h : q' < rows.length), q' < q → ∀ x ∈ rows[q'], O x = q' + 1
  b : ∀ (h : q < rows.length), ∀ x ∈ rows[q].take j, O x = q + 1
  c : ∀ x, (∀ q' (h : q' < rows.length), q' < q → x ∉ rows[q']) → (∀ (h : q < rows.length), x ∉ rows[q].take j) → O x = 0
theorem Stg.start (n : Nat) (rows : List (List Nat)) : Stg n rows 0 0 (fun _ => 0) :=
  ⟨fun q' h h1 => by omega, fun h x hx => by simp at hx, fun x _ _ => rfl⟩
section
variable {n : Nat} {rows : List (List Nat)} {q j : Nat} {O : Nat → Nat}
theorem Stg.zero (h : Stg n rows q j O) (R : Rows n rows) (hq : q < rows.length) (hj : j < rows[q].length) : O rows[q][j] = 0 := by
  refine h.c _ (fun q' h' hlt hm => ?_) (fun _ hm => ?_)
  · have := R.one q' q h' hq _ hm (List.getElem_mem hj)
    omega
  · obtain ⟨i, hi, e⟩ := List.getElem_of_mem hm
    have hi1 : i < j := by rw [List.length_take] at hi; omega
    rw [List.getElem_take] at e
    have := List.pairwise_iff_getElem.1 (R.sorted q hq) i j (by omega) hj hi1
    omega
theorem Stg.step (h : Stg n rows q j O) (R : Rows n rows) (hq : q < rows.length) (hj : j < rows[q].length) : Stg n rows q (j + 1) (upd O rows[q][j] (q + 1)) := by
  refine ⟨fun q' h' hlt x hx => ?_, fun _ x hx => ?_, fun x h1 h2 => ?_⟩
  · rw [upd_other (fun e => ?_)]
    · exact h.a q' h' hlt x hx
    · subst e
      have := R.one q' q h' hq _ hx (List.getElem_mem hj)
      omega
  · rw [List.take_succ_eq_append_getElem hj] at hx
    rcases List.mem_append.1 hx with hx | hx
    · unfold upd; split
      · rfl
      · exact h.b hq x hx
    · obtain rfl : x = rows[q][j] := by simpa using hx
      rw [upd_same]
  · have h3 := h2 hq
    rw [List.take_succ_eq_append_getElem hj, List.mem_append] at h3
    rw [upd_other (fun e => h3 (.inr (by simp [e])))]
    exact h.c x h1 (fun _ hm => h3 (.inl hm))
theorem Stg.row (hq : q < rows.length) (h : Stg n rows q rows[q].length O) : Stg n rows (q + 1) 0 O := by
  refine ⟨fun q' h' hlt x hx => ?_, fun _ x hx => by simp at hx, fun x h1 _ => ?_⟩
  · by_cases e : q' = q
    · subst e
      exact h.b hq x (by rw [List.take_length]; exact hx)
    · exact h.a q' h' (by omega) x hx
  · refine h.c x (fun q' h' hlt => h1 q' h' (by omega)) (fun _ => ?_)
    rw [List.take_length]
    exact h1 q hq (by omega)
end
/-- At the end: who has the same number. -/
theorem Stg.same {rt : Nat → Nat} {n : Nat} {O : Nat → Nat} (h : Stg n (rowsK rt n) (rowsK rt n).length 0 O) : (∀ x, x < n → O x ≠ 0) ∧ ∀ x y, x < n → y < n → (O x = O y ↔ rt x = rt y) := by
  have R := rows_ok rt n
  refine ⟨fun x hx => ?_, fun x y hx hy => ?_⟩
  · obtain ⟨q, hq, hm⟩ := R.all x hx
    rw [h.a q hq hq x hm]; omega
  · obtain ⟨q, hq, hm⟩ := R.all x hx
    obtain ⟨q', hq', hm'⟩ := R.all y hy
    rw [h.a q hq hq x hm, h.a q' hq' hq' y hm']
    obtain ⟨h1, e⟩ := rowsK_get hq
    obtain ⟨h2, e'⟩ := rowsK_get hq'
    have a1 := hm
    have a2 := hm'
    rw [e] at a1
    rw [e'] at a2
    have b1 := (mem_grpOf.1 a1).2
    have b2 := (mem_grpOf.1 a2).2
    constructor
    · intro ee
      obtain rfl : q = q' := by omega
      rw [b1, b2]
    · intro ee
      have : y ∈ (rowsK rt n)[q] := by rw [e]; exact mem_grpOf.2 ⟨hy, by rw [← ee, b1]⟩
      have := R.one q q' hq hq' y this hm'
      omega
end Go.Proofs.Ytahlhiiekgnmpab
