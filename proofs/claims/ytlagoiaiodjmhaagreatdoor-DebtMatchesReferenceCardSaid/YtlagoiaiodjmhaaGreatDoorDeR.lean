/- law 18: what the laws DebtLater and DebtOrder say, in plain Lean. -/
import Derived.Test.YtlagoiaiodjmhaaGreatDoorDeK
set_option linter.unusedVariables false
set_option linter.unusedSimpArgs false
namespace Go.Proofs.YtlagoiaiodjmhaaGreatDoor

theorem pyN_app {ps : List Py} {f : Py} {i : Nat} (h : i < ps.length) : pyN (ps ++ [f]) i = pyN ps i := by
  unfold pyN; rw [List.getD_eq_getElem?_getD, List.getD_eq_getElem?_getD, List.getElem?_append_left h]
theorem pyN_end (ps : List Py) (f : Py) : pyN (ps ++ [f]) ps.length = f := by
  unfold pyN; rw [List.getD_eq_getElem?_getD, List.getElem?_append_right (Nat.le_refl _)]; simp
/-- Up to the later moment a settled debt is settled by the same payment. -/
theorem bst_later {d : Db} {ps : List Py} {m m' : Int} {n : Nat} (hm : m ≤ m') (h : 0 ≤ bstN d ps m n) : bstN d ps m' n = bstN d ps m n := by
  have h1 := bst_best d ps m n
  have h2 := bst_best d ps m' n
  rcases h1 with ⟨hb, _⟩ | ⟨i, hb, hi, hf, hmin⟩
  · rw [hb] at h; omega
  refine best_uniq h2 (.inr ⟨i, hb, hi, ?_, fun j hj hfj => ?_⟩)
  · unfold fitB at hf ⊢
    simp only [Bool.and_eq_true, decide_eq_true_eq] at hf ⊢
    obtain ⟨h1, h2, h3⟩ := hf
    exact ⟨h1, h2, by omega⟩
  · by_cases hj2 : fitB d (pyN ps j) m = true
    · exact hmin j hj hj2
    · refine .inl ?_
      unfold fitB at hf hfj hj2
      simp only [Bool.and_eq_true, decide_eq_true_eq] at hf hfj hj2
      obtain ⟨_, _, h3⟩ := hf
      obtain ⟨k1, k2, k3⟩ := hfj
      have : ¬ (pyN ps j).mo ≤ min d.un m := fun e => hj2 ⟨k1, k2, e⟩
      omega
theorem bst_app (d : Db) (ps : List Py) (f : Py) (m : Int) : ∀ n, n ≤ ps.length → bstN d (ps ++ [f]) m n = bstN d ps m n
  | 0, _ => rfl
  | n + 1, h => by
    rw [bstN_succ, bstN_succ, bst_app d ps f m n (by omega)]
    have hb := bst_bd d ps m n
    unfold stB
    rw [pyN_app (show n < ps.length by omega)]
    by_cases h0 : bstN d ps m n < 0
    · simp [h0]
    · rw [pyN_app (show (bstN d ps m n).toNat < ps.length by omega)]
/-- With a further payment at the end. -/
theorem bst_further {d : Db} {ps : List Py} {f : Py} {m : Int} {q : Nat} (h : bstN d ps m ps.length = (q : Int)) :
    bstN d (ps ++ [f]) m (ps ++ [f]).length = (q : Int) ∨ (bstN d (ps ++ [f]) m (ps ++ [f]).length = (ps.length : Int) ∧ f.mo < (pyN ps q).mo) := by
  have hb := bst_bd d ps m ps.length
  rw [List.length_append, List.length_singleton, bstN_succ, bst_app d ps f m ps.length (Nat.le_refl _), h]
  unfold stB
  split
  · rename_i hc
    refine .inr ⟨rfl, ?_⟩
    obtain ⟨_, hc⟩ := hc
    rcases hc with hc | hc
    · omega
    · rw [pyN_end, pyN_app (show (q : Int).toNat < ps.length by omega)] at hc
      simpa using hc
  · exact .inl rfl
/-- The opposite order. -/
theorem setL_rev (l : List Db) (ps : List Py) (m : Int) : setL l.reverse ps m = (setL l ps m).reverse := by unfold setL; rw [List.map_reverse]
theorem vlD_mem {l l' : List Db} {ps : List Py} {m : Int} (h : ∀ d, d ∈ l' ↔ d ∈ l) (h1 : l.length ≤ 1000) (h2 : l'.length ≤ 1000) : vlD l' ps m = vlD l ps m := by
  have e : l'.all dbB = l.all dbB := by
    rw [Bool.eq_iff_iff, List.all_eq_true, List.all_eq_true]
    exact ⟨fun k d hd => k d ((h d).2 hd), fun k d hd => k d ((h d).1 hd)⟩
  unfold vlD
  rw [e, decide_eq_true h1, decide_eq_true h2]
theorem shB_mem {l : List Db} {ps : List Py} {m : Int} {k p : Nat} : shB l (setL l ps m) l.length k p = true ↔ ∃ d ∈ l, bstN d ps m ps.length = (k : Int) ∧ d.pr = (p : Int) := by
  rw [shB_iff]
  constructor
  · rintro ⟨i, hi, h1, h2⟩
    have hi' : i < (setL l ps m).length := by rw [setL_len]; exact hi
    rw [List.getD_eq_getElem?_getD, List.getElem?_eq_getElem hi', Option.getD_some, setL_at hi', dbN_at hi] at h1
    rw [dbN_at hi] at h2
    exact ⟨l[i], List.getElem_mem hi, h1, h2⟩
  · rintro ⟨d, hd, h1, h2⟩
    obtain ⟨i, hi, rfl⟩ := List.getElem_of_mem hd
    have hi' : i < (setL l ps m).length := by rw [setL_len]; exact hi
    refine ⟨i, hi, ?_, by rw [dbN_at hi]; exact h2⟩
    rw [List.getD_eq_getElem?_getD, List.getElem?_eq_getElem hi', Option.getD_some, setL_at hi', dbN_at hi]
    exact h1
theorem spl_mem {l l' : List Db} {ps : List Py} {m P : Int} (h : ∀ d, d ∈ l' ↔ d ∈ l) (h1 : l.length ≤ 1000) (h2 : l'.length ≤ 1000) : splB l' ps m P = splB l ps m P ∧ splL l' ps m P = splL l ps m P ∧ splE l' ps m P = splE l ps m P := by
  have eb : splB l' ps m P = splB l ps m P := by
    have e : prB l' P = prB l P := by
      unfold prB
      rw [Bool.eq_iff_iff, List.all_eq_true, List.all_eq_true]
      exact ⟨fun k d hd => k d ((h d).2 hd), fun k d hd => k d ((h d).1 hd)⟩
    unfold splB
    rw [vlD_mem h h1 h2, e]
  have es : ∀ k p, shB l' (setL l' ps m) l'.length k p = shB l (setL l ps m) l.length k p := fun k p => by
    rw [Bool.eq_iff_iff, shB_mem, shB_mem]
    exact ⟨fun ⟨d, hd, k⟩ => ⟨d, (h d).1 hd, k⟩, fun ⟨d, hd, k⟩ => ⟨d, (h d).2 hd, k⟩⟩
  have ec : ∀ p, cstN l' (setL l' ps m) ps.length p = cstN l (setL l ps m) ps.length p := fun p => by
    unfold cstN
    refine congrArg _ (funext fun k => ?_)
    unfold trmN shrN nSh
    rw [es k p, show shB l' (setL l' ps m) l'.length k = shB l (setL l ps m) l.length k from funext fun p => es k p]
  refine ⟨eb, ?_, ?_⟩
  · unfold splL
    rw [eb]
    split
    · refine List.map_congr_left fun p _ => ?_
      unfold cosT
      rw [ec p]
    · rfl
  · unfold splE
    rw [eb]
theorem rev_mem (l : List Db) : ∀ d, d ∈ l.reverse ↔ d ∈ l := fun _ => List.mem_reverse
theorem two_mem (l : List Db) : ∀ d, d ∈ l ++ l.reverse ↔ d ∈ l := fun d => by rw [List.mem_append, List.mem_reverse, or_self]
end Go.Proofs.YtlagoiaiodjmhaaGreatDoor
