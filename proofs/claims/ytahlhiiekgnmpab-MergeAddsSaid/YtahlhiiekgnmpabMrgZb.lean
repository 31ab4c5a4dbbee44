/- One alert more: in plain Lean. -/
import Derived.Test.YtahlhiiekgnmpabMrgZ
namespace Go.Proofs.Ytahlhiiekgnmpab

/-- Whether, among the first k, one of the group of i is close to c. -/
def tP (win : Int) (l : List Al) (c : Al) (O : Nat → Nat) (i k : Nat) : Bool := (List.range k).any fun j => O i == O j && (match l[j]? with | some b => nearB win b c | none => false)
theorem tP_zero (win : Int) (l : List Al) (c : Al) (O : Nat → Nat) (i : Nat) : tP win l c O i 0 = false := rfl
theorem tP_succ {win : Int} {l : List Al} {c : Al} {O : Nat → Nat} {i k : Nat} (hk : k < l.length) : tP win l c O i (k + 1) = (tP win l c O i k || (O i == O k && nearB win l[k] c)) := by
  unfold tP
  rw [List.range_succ, List.any_append]
  simp [List.getElem?_eq_getElem hk]
theorem tP_iff {win : Int} {l : List Al} {c : Al} {O : Nat → Nat} {i k : Nat} : tP win l c O i k = true ↔ ∃ j, j < k ∧ O i = O j ∧ qNear win l c j := by
  unfold tP qNear
  rw [List.any_eq_true]
  constructor
  · rintro ⟨j, hj, h⟩
    rw [Bool.and_eq_true, beq_iff_eq] at h
    refine ⟨j, by simpa using hj, h.1, ?_⟩
    cases hl : l[j]? with
    | none => rw [hl] at h; exact absurd h.2 (by simp)
    | some b => rw [hl] at h; exact ⟨b, rfl, by rw [nearB_symm]; exact h.2⟩
  · rintro ⟨j, hj, e, b, h1, h2⟩
    refine ⟨j, by simpa using hj, ?_⟩
    rw [Bool.and_eq_true, beq_iff_eq, h1]
    exact ⟨e, by rw [nearB_symm] at h2; exact h2⟩
section
variable {win : Int} {l : List Al} {c : Al} {O O' rt' : Nat → Nat} (hw : 0 ≤ win)
  (h : ∀ x y, x < l.length → y < l.length → (O x = O y ↔ Conn (adj win l) x y))
  (h' : ∀ x y, x < l.length + 1 → y < l.length + 1 → (O' x = O' y ↔ Conn (adj win (l ++ [c])) x y))
include hw h h'
omit hw h' in
theorem adds_touch {i : Nat} (hi : i < l.length) : tP win l c O i l.length = true ↔ Touch (adj win l) (qNear win l c) l.length l.length i := by
  rw [tP_iff]
  unfold Touch
  constructor
  · rintro ⟨j, hj, e, q⟩
    exact .inr ⟨j, hj, q, (h i j hi hj).1 e⟩
  · rintro (e | ⟨j, hj, q, k⟩)
    · omega
    · exact ⟨j, hj, (h i j hi hj).2 k, q⟩
theorem adds_new {i : Nat} (hi : i < l.length) : O' i = O' l.length ↔ tP win l c O i l.length = true := by
  rw [h' i l.length (by omega) (by omega), touch_conn (P := adj win l) (fun x y p => adj_lt p) (fun x y p => adj_symm p) (fun x y => adj_snoc hw l c x y), adds_touch h hi]
  constructor
  · rintro (a | ⟨a, _⟩)
    · have := (conn_new (fun x y p => adj_lt p)).1 a
      omega
    · exact a
  · intro a; exact .inr ⟨a, .inl rfl⟩
theorem adds_old {i k : Nat} (hi : i < l.length) (hk : k < l.length) : O' i = O' k ↔ O i = O k ∨ (tP win l c O i l.length = true ∧ tP win l c O k l.length = true) := by
  rw [h' i k (by omega) (by omega), touch_conn (P := adj win l) (fun x y p => adj_lt p) (fun x y p => adj_symm p) (fun x y => adj_snoc hw l c x y), adds_touch h hi, adds_touch h hk, h i k hi hk]
end
/-- How many of the first k are touched. -/
def tN (T : Nat → Bool) (k : Nat) : Nat := (List.range k).countP T
theorem tN_succ (T : Nat → Bool) (k : Nat) : tN T (k + 1) = tN T k + if T k then 1 else 0 := by
  unfold tN
  rw [List.range_succ, List.countP_append]
  cases h : T k <;> simp [h]
theorem tN_le (T : Nat → Bool) (k : Nat) : tN T k ≤ k := by
  unfold tN
  have := List.countP_le_length (p := T) (l := List.range k)
  rwa [List.length_range] at this
theorem adds_size {n : Nat} {rt' : Nat → Nat} {T : Nat → Bool} (h : ∀ i, i < n → (rt' i = rt' n ↔ T i = true)) : cnt (n + 1) rt' (rt' n) = 1 + tN T n := by
  unfold cnt tN
  rw [List.range_succ, List.countP_append]
  have e : (List.range n).countP (fun x => decide (rt' x = rt' n)) = (List.range n).countP T := by
    refine List.countP_congr fun x hx => ?_
    have hx' : x < n := by simpa using hx
    rw [decide_eq_true_iff]
    exact h x hx'
  rw [e]
  simp
  omega
end Go.Proofs.Ytahlhiiekgnmpab
