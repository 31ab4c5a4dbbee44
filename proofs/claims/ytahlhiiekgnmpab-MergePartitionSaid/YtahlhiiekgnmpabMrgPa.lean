/- The search in a row: in plain Lean. -/
import Derived.Test.YtahlhiiekgnmpabMrgX
set_option linter.unusedVariables false
set_option linter.unusedSimpArgs false
namespace Go.Proofs.Ytahlhiiekgnmpab

theorem nodup_le : ∀ {l m : List Nat}, l.Nodup → (∀ x ∈ l, x ∈ m) → l.length ≤ m.length
  | [], _, _, _ => Nat.zero_le _
  | a :: l, m, hn, hs => by
    have ha := hs a (by simp)
    have h := List.nodup_cons.1 hn
    have := nodup_le (l := l) (m := m.erase a) h.2 (fun x hx => (List.mem_erase_of_ne (fun e => h.1 (by rw [← e]; exact hx))).2 (hs x (by simp [hx])))
    rw [List.length_erase_of_mem ha] at this
    have hp : 0 < m.length := List.length_pos_of_mem ha
    simp only [List.length_cons]
    omega
/-- The state of the search: R is reached; the first n of R are done, the n-th one up to k. -/
structure Bfs (P : Nat → Nat → Prop) (row R : List Nat) (n k : Nat) : Prop where
  nd : R.Nodup
  sub : ∀ x ∈ R, x ∈ row
  ne : 0 < R.length
  done : ∀ m, m < n → ∀ x, R[m]? = some x → ∀ y ∈ row, P x y → y ∈ R
  part : ∀ x, R[n]? = some x → ∀ y ∈ row.take k, P x y → y ∈ R
section
variable {P : Nat → Nat → Prop} {row R : List Nat} {n k : Nat}
theorem Bfs.start {h : Nat} (hr : h ∈ row) : Bfs P row [h] 0 0 := ⟨by simp, fun x hx => by simp at hx; rw [hx]; exact hr, by simp, fun m hm => absurd hm (Nat.not_lt_zero _), fun x _ y hy => by simp at hy⟩
theorem Bfs.len (h : Bfs P row R n k) : R.length ≤ row.length := nodup_le h.nd h.sub
theorem Bfs.skip (h : Bfs P row R n k) (hk : k < row.length) (hn : n < R.length) (e : row[k] ∈ R ∨ ¬ P R[n] row[k]) : Bfs P row R n (k + 1) := by
  refine ⟨h.nd, h.sub, h.ne, h.done, fun x hx y hy p => ?_⟩
  rw [List.take_succ_eq_append_getElem hk] at hy
  rcases List.mem_append.1 hy with hy | hy
  · exact h.part x hx y hy p
  · obtain rfl : y = row[k] := by simpa using hy
    rw [List.getElem?_eq_getElem hn] at hx
    obtain rfl : R[n] = x := by simpa using hx
    exact e.resolve_right (fun q => q p)
theorem Bfs.add (h : Bfs P row R n k) (hk : k < row.length) (hn : n < R.length) (e : row[k] ∉ R) : Bfs P row (R ++ [row[k]]) n (k + 1) := by
  have old : ∀ m, m < R.length → ∀ x, (R ++ [row[k]])[m]? = some x → R[m]? = some x := fun m hm x hx => by rwa [List.getElem?_append_left hm] at hx
  refine ⟨?_, fun x hx => ?_, by simp, fun m hm x hx y hy p => List.mem_append_left _ (h.done m hm x (old m (by omega) x hx) y hy p), fun x hx y hy p => ?_⟩
  · rw [List.nodup_append]
    refine ⟨h.nd, by simp, fun a ha b hb e2 => ?_⟩
    obtain rfl : b = row[k] := by simpa using hb
    exact e (by rw [← e2]; exact ha)
  · rcases List.mem_append.1 hx with hx | hx
    · exact h.sub x hx
    · obtain rfl : x = row[k] := by simpa using hx
      exact List.getElem_mem hk
  · rw [List.take_succ_eq_append_getElem hk] at hy
    rcases List.mem_append.1 hy with hy | hy
    · exact List.mem_append_left _ (h.part x (old n hn x hx) y hy p)
    · exact List.mem_append_right _ hy
theorem Bfs.next (h : Bfs P row R n row.length) : Bfs P row R (n + 1) 0 := by
  refine ⟨h.nd, h.sub, h.ne, fun m hm x hx y hy p => ?_, fun x _ y hy => by simp at hy⟩
  by_cases e : m = n
  · subst e; exact h.part x hx y (by rw [List.take_length]; exact hy) p
  · exact h.done m (by omega) x hx y hy p
/-- When all that is reached is done, the whole row is reached. -/
theorem Bfs.whole (h : Bfs P row R n k) (hn : R.length ≤ n) (hd : row.Nodup) (cl : ∀ x ∈ row, ∀ y, P x y → y ∈ row) (co : ∀ x ∈ row, ∀ y ∈ row, Conn P x y) : R.length = row.length := by
  refine Nat.le_antisymm h.len (nodup_le hd fun x hx => ?_)
  have h0 : R[0]'h.ne ∈ R := List.getElem_mem h.ne
  have go : ∀ y, Conn P (R[0]'h.ne) y → y ∈ R := fun y c => by
    induction c with
    | refl => exact h0
    | tail _ p ih =>
      obtain ⟨m, hm, e⟩ := List.getElem_of_mem ih
      exact h.done m (by omega) _ (by rw [← e]; exact List.getElem?_eq_getElem hm) _ (cl _ (h.sub _ ih) _ p) p
  exact go x (co _ (h.sub _ h0) x hx)
end
end Go.Proofs.Ytahlhiiekgnmpab
