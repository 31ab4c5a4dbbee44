/- Debts and payments: in plain Lean. -/
import Derived.Test.YtlagoiaiodjmhaaGreatDoorLoP
set_option linter.unusedVariables false
set_option linter.unusedSimpArgs false
namespace Go.Proofs.YtlagoiaiodjmhaaGreatDoor

structure Db where
  kd : Int
  tl : Int
  fl : Int
  fr : Int
  un : Int
  pr : Int
structure Py where
  kd : Int
  tl : Int
  fl : Int
  mo : Int
def clsB (k t f : Int) : Bool := (decide (0 ≤ t) && decide (t ≤ 5)) && (if k = 1 then decide (f = -1) else if k = 2 ∨ k = 3 then decide (0 ≤ f) && decide (f ≤ 7) else false)
def dbB (d : Db) : Bool := clsB d.kd d.tl d.fl && (decide (0 ≤ d.pr) && decide (d.pr ≤ 63)) && decide (-1000 ≤ d.fr) && decide (d.un ≤ 39399) && decide (d.fr ≤ d.un)
def pyB (p : Py) : Bool := clsB p.kd p.tl p.fl && (decide (0 ≤ p.mo) && decide (p.mo ≤ 38399))
def vlD (l : List Db) (ps : List Py) (m : Int) : Bool := decide (l.length ≤ 1000) && decide (ps.length ≤ 1000) && (decide (0 ≤ m) && decide (m ≤ 38399)) && l.all dbB && ps.all pyB
def pyN (ps : List Py) (i : Nat) : Py := ps.getD i ⟨0, 0, 0, 0⟩
def dbN (l : List Db) (i : Nat) : Db := l.getD i ⟨0, 0, 0, 0, 0, 0⟩
theorem pyN_at {ps : List Py} {i : Nat} (h : i < ps.length) : pyN ps i = ps[i] := by unfold pyN; rw [List.getD_eq_getElem?_getD, List.getElem?_eq_getElem h]; rfl
theorem dbN_at {l : List Db} {i : Nat} (h : i < l.length) : dbN l i = l[i] := by unfold dbN; rw [List.getD_eq_getElem?_getD, List.getElem?_eq_getElem h]; rfl
/-- Whether a payment fits a debt up to a moment. -/
def fitB (d : Db) (p : Py) (m : Int) : Bool := decide (d.kd = p.kd ∧ d.tl = p.tl ∧ d.fl = p.fl) && (decide (d.fr ≤ p.mo) && decide (p.mo ≤ min d.un m))
def stB (d : Db) (ps : List Py) (m : Int) (b : Int) (i : Nat) : Int := if fitB d (pyN ps i) m = true ∧ (b < 0 ∨ (pyN ps i).mo < (pyN ps b.toNat).mo) then (i : Int) else b
def bstN (d : Db) (ps : List Py) (m : Int) (n : Nat) : Int := (List.range n).foldl (stB d ps m) (-1)
theorem bstN_succ (d : Db) (ps : List Py) (m : Int) (n : Nat) : bstN d ps m (n + 1) = stB d ps m (bstN d ps m n) n := by
  unfold bstN; rw [List.range_succ, List.foldl_append]; rfl
/-- What the best payment is. -/
def Best (d : Db) (ps : List Py) (m : Int) (n : Nat) (b : Int) : Prop :=
  (b = -1 ∧ ∀ j, j < n → fitB d (pyN ps j) m = false) ∨ ∃ i : Nat, b = (i : Int) ∧ i < n ∧ fitB d (pyN ps i) m = true ∧ ∀ j, j < n → fitB d (pyN ps j) m = true → (pyN ps i).mo < (pyN ps j).mo ∨ ((pyN ps i).mo = (pyN ps j).mo ∧ i ≤ j)
theorem bst_best (d : Db) (ps : List Py) (m : Int) : ∀ n, Best d ps m n (bstN d ps m n)
  | 0 => .inl ⟨rfl, fun j h => absurd h (Nat.not_lt_zero _)⟩
  | n + 1 => by
    rw [bstN_succ]
    unfold stB
    have ih := bst_best d ps m n
    generalize bstN d ps m n = b at ih
    rcases ih with ⟨hb, hn⟩ | ⟨i, hb, hi, hf, hm⟩
    · subst hb
      by_cases hf : fitB d (pyN ps n) m = true
      · rw [if_pos ⟨hf, .inl (by omega)⟩]
        refine .inr ⟨n, rfl, by omega, hf, fun j hj hfj => ?_⟩
        by_cases e : j = n
        · subst e; exact .inr ⟨rfl, Nat.le_refl _⟩
        · rw [hn j (by omega)] at hfj; cases hfj
      · rw [if_neg (fun h => hf h.1)]
        refine .inl ⟨rfl, fun j hj => ?_⟩
        by_cases e : j = n
        · subst e; simpa using hf
        · exact hn j (by omega)
    · subst hb
      by_cases hc : fitB d (pyN ps n) m = true ∧ (((i : Nat) : Int) < 0 ∨ (pyN ps n).mo < (pyN ps ((i : Nat) : Int).toNat).mo)
      · rw [if_pos hc]
        obtain ⟨h1, h2⟩ := hc
        have h2 : (pyN ps n).mo < (pyN ps i).mo := by rcases h2 with h | h; omega; simpa using h
        refine .inr ⟨n, rfl, by omega, h1, fun j hj hfj => ?_⟩
        by_cases e : j = n
        · subst e; exact .inr ⟨rfl, Nat.le_refl _⟩
        · refine .inl ?_
          rcases hm j (by omega) hfj with h | ⟨h, _⟩ <;> omega
      · rw [if_neg hc]
        refine .inr ⟨i, rfl, by omega, hf, fun j hj hfj => ?_⟩
        by_cases e : j = n
        · subst e
          have h3 : ¬ (pyN ps j).mo < (pyN ps i).mo := fun h => hc ⟨hfj, .inr (by simpa using h)⟩
          by_cases e2 : (pyN ps i).mo = (pyN ps j).mo
          · exact .inr ⟨e2, by omega⟩
          · exact .inl (by omega)
        · exact hm j (by omega) hfj
theorem best_uniq {d : Db} {ps : List Py} {m : Int} {n : Nat} {b c : Int} (h : Best d ps m n b) (h' : Best d ps m n c) : b = c := by
  rcases h with ⟨hb, hn⟩ | ⟨i, hb, hi, hf, hm⟩ <;> rcases h' with ⟨hc, hn'⟩ | ⟨j, hc, hj, hf', hm'⟩
  · rw [hb, hc]
  · rw [hn j hj] at hf'; cases hf'
  · rw [hn' i hi] at hf; cases hf
  · have h1 := hm j hj hf'
    have h2 := hm' i hi hf
    have : i = j := by omega
    rw [hb, hc, this]
theorem bst_bd (d : Db) (ps : List Py) (m : Int) (n : Nat) : -1 ≤ bstN d ps m n ∧ bstN d ps m n < (n : Int) := by
  rcases bst_best d ps m n with ⟨h, _⟩ | ⟨i, h, hi, _⟩ <;> rw [h] <;> omega
def setL (l : List Db) (ps : List Py) (m : Int) : List Int := l.map fun d => bstN d ps m ps.length
theorem setL_len (l : List Db) (ps : List Py) (m : Int) : (setL l ps m).length = l.length := by unfold setL; rw [List.length_map]
theorem setL_at {l : List Db} {ps : List Py} {m : Int} {i : Nat} (h : i < (setL l ps m).length) : (setL l ps m)[i] = bstN (dbN l i) ps m ps.length := by
  unfold setL at h ⊢
  rw [List.getElem_map, dbN_at (by simpa using h)]
/-- The indices of the payments of a class, among the first n. -/
def clsN (ps : List Py) (c : Int × Int × Int) (n : Nat) : List Nat := (List.range n).filter fun i => decide (((pyN ps i).kd, (pyN ps i).tl, (pyN ps i).fl) = c)
theorem clsN_succ (ps : List Py) (c : Int × Int × Int) (n : Nat) : clsN ps c (n + 1) = if ((pyN ps n).kd, (pyN ps n).tl, (pyN ps n).fl) = c then clsN ps c n ++ [n] else clsN ps c n := by
  unfold clsN
  rw [List.range_succ, List.filter_append]
  by_cases h : ((pyN ps n).kd, (pyN ps n).tl, (pyN ps n).fl) = c
  · rw [if_pos h]; simp [h]
  · rw [if_neg h]; simp [h]
theorem clsN_le (ps : List Py) (c : Int × Int × Int) : ∀ n, (clsN ps c n).length ≤ n
  | 0 => Nat.le_refl _
  | n + 1 => by
    rw [clsN_succ]
    have := clsN_le ps c n
    split
    · rw [List.length_append]; simp; omega
    · omega
theorem clsN_lt {ps : List Py} {c : Int × Int × Int} {n i : Nat} (h : i ∈ clsN ps c n) : i < n := by
  unfold clsN at h
  simpa using (List.mem_filter.1 h).1
/-- It is enough to look at the payments of the debt's class. -/
theorem fold_cls (d : Db) (ps : List Py) (m : Int) : ∀ n, (clsN ps (d.kd, d.tl, d.fl) n).foldl (stB d ps m) (-1) = bstN d ps m n
  | 0 => rfl
  | n + 1 => by
    rw [clsN_succ, bstN_succ, ← fold_cls d ps m n]
    by_cases h : ((pyN ps n).kd, (pyN ps n).tl, (pyN ps n).fl) = (d.kd, d.tl, d.fl)
    · rw [if_pos h, List.foldl_append]; rfl
    · rw [if_neg h]
      have hf : fitB d (pyN ps n) m = false := by
        unfold fitB
        rw [decide_eq_false (fun e => h (by rw [e.1, e.2.1, e.2.2])), Bool.false_and]
      unfold stB
      rw [if_neg (fun e => by rw [hf] at e; cases e.1)]
/-- The fold over the first j of a list. -/
def fldN (d : Db) (ps : List Py) (m : Int) (is : List Nat) (j : Nat) : Int := (is.take j).foldl (stB d ps m) (-1)
theorem fldN_succ {d : Db} {ps : List Py} {m : Int} {is : List Nat} {j : Nat} (h : j < is.length) : fldN d ps m is (j + 1) = stB d ps m (fldN d ps m is j) is[j] := by
  unfold fldN
  rw [List.take_succ_eq_append_getElem h, List.foldl_append]; rfl
theorem fldN_end {d : Db} {ps : List Py} {m : Int} {is : List Nat} : fldN d ps m is is.length = is.foldl (stB d ps m) (-1) := by unfold fldN; rw [List.take_length]
theorem fldN_bd {d : Db} {ps : List Py} {m : Int} {is : List Nat} {n : Nat} (h : ∀ i ∈ is, i < n) : ∀ j, j ≤ is.length → -1 ≤ fldN d ps m is j ∧ fldN d ps m is j < (n : Int) ∨ (fldN d ps m is j = -1)
  | 0, _ => .inr rfl
  | j + 1, hj => by
    rw [fldN_succ (by omega)]
    have ih := fldN_bd (d := d) (ps := ps) (m := m) h j (by omega)
    have hi := h _ (List.getElem_mem (show j < is.length by omega))
    unfold stB
    split
    · exact .inl ⟨by omega, by omega⟩
    · exact ih
end Go.Proofs.YtlagoiaiodjmhaaGreatDoor
