/- Groups in the order of their first members: in plain Lean. -/
import Derived.Test.YtahlhiiekgnmpabMrgQ
set_option linter.unusedVariables false
set_option linter.unusedSimpArgs false
namespace Go.Proofs.Ytahlhiiekgnmpab

def firstB (rt : Nat → Nat) (i : Nat) : Bool := (List.range i).all fun j => rt j != rt i
def firsts (rt : Nat → Nat) (k : Nat) : List Nat := (List.range k).filter (firstB rt)
def grpOf (rt : Nat → Nat) (k r : Nat) : List Nat := (List.range k).filter fun x => rt x == r
def asI (l : List Nat) : List Int := l.map fun (x : Nat) => (x : Int)
def gK (rt : Nat → Nat) (k : Nat) : List (List Int) := (firsts rt k).map fun f => asI (grpOf rt k (rt f))
def idxK (rt : Nat → Nat) (k r : Nat) : Option Nat := (firsts rt k).findIdx? fun f => rt f == r
section
variable (rt : Nat → Nat)
theorem gK_len (k : Nat) : (gK rt k).length = (firsts rt k).length := by simp [gK]
theorem firsts_le (k : Nat) : (firsts rt k).length ≤ k := by
  have := List.length_filter_le (firstB rt) (List.range k)
  rw [List.length_range] at this
  exact this
theorem firsts_lt {k f : Nat} (h : f ∈ firsts rt k) : f < k ∧ firstB rt f = true := by
  have := List.mem_filter.1 h
  exact ⟨by simpa using this.1, this.2⟩
theorem firstB_iff (i : Nat) : firstB rt i = true ↔ ∀ j, j < i → rt j ≠ rt i := by
  unfold firstB
  rw [List.all_eq_true]
  constructor
  · intro h j hj e
    have := h j (by simpa using hj)
    rw [bne_iff_ne] at this
    exact this e
  · intro h j hj
    rw [bne_iff_ne]
    exact h j (by simpa using hj)
theorem firsts_yes {k : Nat} (h : firstB rt k = true) : firsts rt (k + 1) = firsts rt k ++ [k] := by
  unfold firsts
  rw [List.range_succ, List.filter_append]
  simp [h]
theorem firsts_no {k : Nat} (h : firstB rt k = false) : firsts rt (k + 1) = firsts rt k := by
  unfold firsts
  rw [List.range_succ, List.filter_append]
  simp [h]
theorem grpOf_yes {k r : Nat} (h : rt k = r) : grpOf rt (k + 1) r = grpOf rt k r ++ [k] := by
  unfold grpOf
  rw [List.range_succ, List.filter_append]
  simp [h]
theorem grpOf_no {k r : Nat} (h : rt k ≠ r) : grpOf rt (k + 1) r = grpOf rt k r := by
  unfold grpOf
  rw [List.range_succ, List.filter_append]
  simp [h]
theorem gK_yes {k : Nat} (h : firstB rt k = true) : gK rt (k + 1) = gK rt k ++ [[(k : Int)]] := by
  have hk := (firstB_iff rt k).1 h
  unfold gK
  rw [firsts_yes rt h, List.map_append]
  congr 1
  · refine List.map_congr_left fun f hf => ?_
    rw [grpOf_no rt (fun e => hk f (firsts_lt rt hf).1 e.symm)]
  · have h0 : grpOf rt k (rt k) = [] := by
      unfold grpOf
      rw [List.filter_eq_nil_iff]
      intro x hx
      have := hk x (by simpa using hx)
      simpa using this
    simp [grpOf_yes, h0, asI]
theorem firsts_get {k j : Nat} (h : j < (firsts rt k).length) : (firsts rt k)[j] < k ∧ firstB rt (firsts rt k)[j] = true := firsts_lt rt (List.getElem_mem h)
theorem firsts_sorted (k : Nat) : (firsts rt k).Pairwise (· < ·) := by
  unfold firsts
  exact (List.pairwise_lt_range).filter _
theorem firsts_inj {k i j : Nat} (hi : i < (firsts rt k).length) (hj : j < (firsts rt k).length) (h : rt (firsts rt k)[i] = rt (firsts rt k)[j]) : i = j := by
  have hs := List.pairwise_iff_getElem.1 (firsts_sorted rt k)
  rcases Nat.lt_trichotomy i j with hlt | e | hlt
  · have h1 := hs i j hi hj hlt
    exact absurd h ((firstB_iff rt _).1 (firsts_get rt hj).2 _ h1)
  · exact e
  · have h1 := hs j i hj hi hlt
    exact absurd h.symm ((firstB_iff rt _).1 (firsts_get rt hi).2 _ h1)
/-- A member that is not the first of its group: where its group stands. -/
theorem first_of {k : Nat} (h : firstB rt k = false) : ∃ f, f < k ∧ firstB rt f = true ∧ rt f = rt k := by
  have h1 : ∃ j, j < k ∧ rt j = rt k := by
    rcases Classical.em (∃ j, j < k ∧ rt j = rt k) with h2 | h2
    · exact h2
    · have : firstB rt k = true := (firstB_iff rt k).2 fun j hj e => h2 ⟨j, hj, e⟩
      rw [h] at this; cases this
  obtain ⟨j, hj, e⟩ := h1
  have ind : ∀ n j, j ≤ n → j < k → rt j = rt k → ∃ f, f < k ∧ firstB rt f = true ∧ rt f = rt k := by
    intro n
    induction n with
    | zero =>
      intro j h1 h2 h3
      obtain rfl : j = 0 := by omega
      exact ⟨0, h2, (firstB_iff rt 0).2 (fun i hi => absurd hi (Nat.not_lt_zero i)), h3⟩
    | succ n ih =>
      intro j h1 h2 h3
      rcases Bool.eq_false_or_eq_true (firstB rt j) with hb | hb
      · exact ⟨j, h2, hb, h3⟩
      · rcases Classical.em (∃ i, i < j ∧ rt i = rt j) with ⟨i, hi, he⟩ | h4
        · exact ih i (by omega) (by omega) (he.trans h3)
        · have : firstB rt j = true := (firstB_iff rt j).2 fun i hi e => h4 ⟨i, hi, e⟩
          rw [hb] at this; cases this
  exact ind j j (Nat.le_refl _) hj e
theorem idx_yes {k : Nat} (h : firstB rt k = true) : idxK rt k (rt k) = none := by
  unfold idxK
  rw [List.findIdx?_eq_none_iff]
  intro f hf
  have := (firstB_iff rt k).1 h f (firsts_lt rt hf).1
  simpa using this
theorem idx_some {k r q : Nat} (h : idxK rt k r = some q) : ∃ h : q < (firsts rt k).length, rt (firsts rt k)[q] = r := by
  unfold idxK at h
  rw [List.findIdx?_eq_some_iff_getElem] at h
  obtain ⟨h1, h2, _⟩ := h
  exact ⟨h1, by simpa using h2⟩
theorem idx_no {k : Nat} (h : firstB rt k = false) : ∃ q, idxK rt k (rt k) = some q := by
  obtain ⟨f, h1, h2, h3⟩ := first_of rt h
  have hm : f ∈ firsts rt k := List.mem_filter.2 ⟨by simpa using h1, h2⟩
  cases hi : idxK rt k (rt k) with
  | some q => exact ⟨q, rfl⟩
  | none =>
    unfold idxK at hi
    rw [List.findIdx?_eq_none_iff] at hi
    have := hi f hm
    simp [h3] at this
theorem idx_step_yes {k : Nat} (h : firstB rt k = true) (r : Nat) : idxK rt (k + 1) r = if r = rt k then some (firsts rt k).length else idxK rt k r := by
  unfold idxK
  rw [firsts_yes rt h, List.findIdx?_append]
  by_cases e : r = rt k
  · subst e
    rw [if_pos rfl]
    have := idx_yes rt h
    unfold idxK at this
    rw [this]
    simp [List.findIdx?_cons]
  · rw [if_neg e]
    have e2 : ¬ rt k = r := fun h => e h.symm
    have h1 : (rt k == r) = false := by simpa using e2
    simp [List.findIdx?_cons, h1]
theorem idx_step_no {k : Nat} (h : firstB rt k = false) (r : Nat) : idxK rt (k + 1) r = idxK rt k r := by
  unfold idxK; rw [firsts_no rt h]
theorem gK_get {k q : Nat} (h : q < (firsts rt k).length) : (gK rt k)[q]? = some (asI (grpOf rt k (rt (firsts rt k)[q]))) := by
  unfold gK
  rw [List.getElem?_map, List.getElem?_eq_getElem h]; rfl
theorem gK_no {k q : Nat} (h : firstB rt k = false) (hq : idxK rt k (rt k) = some q) : gK rt (k + 1) = (gK rt k).set q (asI (grpOf rt k (rt k)) ++ [(k : Int)]) ∧ (gK rt k)[q]? = some (asI (grpOf rt k (rt k))) ∧ q < (gK rt k).length := by
  obtain ⟨h1, h2⟩ := idx_some rt hq
  have hg := gK_get rt h1
  rw [h2] at hg
  refine ⟨?_, hg, by rw [gK_len]; exact h1⟩
  apply List.ext_getElem?
  intro j
  by_cases e : j = q
  · subst e
    rw [List.getElem?_set_self (by rw [gK_len]; exact h1)]
    have h1' : j < (firsts rt (k + 1)).length := by rw [firsts_no rt h]; exact h1
    rw [gK_get rt h1']
    have h3 : rt (firsts rt (k + 1))[j] = rt k := by
      simp only [firsts_no rt h]; exact h2
    rw [h3, grpOf_yes rt rfl]
    simp [asI]
  · rw [List.getElem?_set_ne (fun e' => e e'.symm)]
    by_cases hj : j < (firsts rt k).length
    · have hj' : j < (firsts rt (k + 1)).length := by rw [firsts_no rt h]; exact hj
      rw [gK_get rt hj', gK_get rt hj]
      have h3 : (firsts rt (k + 1))[j] = (firsts rt k)[j] := by simp only [firsts_no rt h]
      rw [h3, grpOf_no rt]
      intro e2
      exact e (firsts_inj rt hj h1 (by rw [h2]; exact e2.symm))
    · rw [List.getElem?_eq_none (by rw [gK_len, firsts_no rt h]; omega), List.getElem?_eq_none (by rw [gK_len]; omega)]
end
end Go.Proofs.Ytahlhiiekgnmpab
