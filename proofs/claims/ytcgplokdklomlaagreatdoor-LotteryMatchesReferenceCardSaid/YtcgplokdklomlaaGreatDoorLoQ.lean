/- The tickets of the requests: in plain Lean. -/
import Derived.Test.YtcgplokdklomlaaGreatDoorLoE
import Derived.Test.YtcgplokdklomlaaGreatDoorMaps
import Derived.Maps.GroupsBeside
import Derived.Maps.RangeWalk
set_option linter.unusedVariables false
set_option linter.unusedSimpArgs false
namespace Go.Proofs.YtcgplokdklomlaaGreatDoor
open Go.RowKit Go.Maps Go.ChangeShapes

def owN (ow : List Nat) (i : Nat) : Nat := ow.getD i 0
/-- The requests of a partner, among the first k. -/
def ownN (ow : List Nat) (p k : Nat) : List Nat := (List.range k).filter fun i => owN ow i == p
theorem ownN_succ (ow : List Nat) (p k : Nat) : ownN ow p (k + 1) = if owN ow k = p then ownN ow p k ++ [k] else ownN ow p k := by
  unfold ownN
  rw [List.range_succ, List.filter_append]
  by_cases h : owN ow k = p
  · rw [if_pos h]; simp [h]
  · rw [if_neg h]; simp [h]
theorem ownN_le (ow : List Nat) (p : Nat) : ∀ k, (ownN ow p k).length ≤ k
  | 0 => Nat.le_refl _
  | k + 1 => by
    rw [ownN_succ]
    have := ownN_le ow p k
    split
    · rw [List.length_append]; simp; omega
    · omega
/-- The j-th request of a partner. -/
theorem ownN_get {ow : List Nat} {p : Nat} : ∀ {k j : Nat} (h : j < (ownN ow p k).length), (ownN ow p k)[j] < k ∧ owN ow (ownN ow p k)[j] = p ∧ (ownN ow p (ownN ow p k)[j]).length = j
  | 0, j, h => absurd h (Nat.not_lt_zero _)
  | k + 1, j, h => by
    by_cases e : owN ow k = p
    · have h1 : ownN ow p (k + 1) = ownN ow p k ++ [k] := by rw [ownN_succ, if_pos e]
      have h2 : j < (ownN ow p k ++ [k]).length := by rw [← h1]; exact h
      have h3 : (ownN ow p (k + 1))[j] = (ownN ow p k ++ [k])[j] := by simp only [h1]
      rw [h3]
      by_cases hj : j < (ownN ow p k).length
      · rw [List.getElem_append_left hj]
        obtain ⟨a, b, c⟩ := ownN_get hj
        exact ⟨by omega, b, c⟩
      · have hj2 : j = (ownN ow p k).length := by rw [List.length_append] at h2; simp at h2; omega
        subst hj2
        rw [List.getElem_append_right (Nat.le_refl _)]
        simp [e]
    · have h1 : ownN ow p (k + 1) = ownN ow p k := by rw [ownN_succ, if_neg e]
      have h2 : j < (ownN ow p k).length := by rw [← h1]; exact h
      have h3 : (ownN ow p (k + 1))[j] = (ownN ow p k)[j] := by simp only [h1]
      rw [h3]
      obtain ⟨a, b, c⟩ := ownN_get h2
      exact ⟨by omega, b, c⟩
/-- Where a request is among those of its partner. -/
theorem ownN_at {ow : List Nat} {i : Nat} : ∀ {k : Nat}, i < k → (ownN ow (owN ow i) k)[(ownN ow (owN ow i) i).length]? = some i
  | 0, h => absurd h (Nat.not_lt_zero _)
  | k + 1, h => by
    rw [ownN_succ]
    by_cases e : i = k
    · subst e
      rw [if_pos rfl, List.getElem?_append_right (Nat.le_refl _)]
      simp
    · have ih := ownN_at (ow := ow) (i := i) (k := k) (by omega)
      split
      · rw [List.getElem?_append_left (List.getElem?_eq_some_iff.1 ih).1]; exact ih
      · exact ih
theorem ownN_ne {ow : List Nat} {i k : Nat} (h : i < k) : ownN ow (owN ow i) k ≠ [] := fun e => by
  have := ownN_at (ow := ow) h
  rw [e] at this
  simp at this
def wtK (sh ow : List Nat) (k p : Nat) : Nat := if ownN ow p k = [] then 0 else sh.getD p 0
/-- The weights of the partners. -/
def wtL (sh ow : List Nat) : List Nat := (List.range sh.length).map (wtK sh ow ow.length)
/-- The merits of a partner's requests. -/
def valL (me ow : List Nat) (p : Nat) : List Nat := (ownN ow p ow.length).map fun i => me.getD i 0
def totN (sh ow : List Nat) (p : Nat) : Nat := sN (wtL sh ow) 720 p
def outN (sh ow me : List Nat) (i : Nat) : Nat := sN (valL me ow (owN ow i)) (totN sh ow (owN ow i)) (ownN ow (owN ow i) i).length
def outL (sh ow me : List Nat) : List Nat := (List.range ow.length).map (outN sh ow me)
theorem wtL_len (sh ow : List Nat) : (wtL sh ow).length = sh.length := by unfold wtL; rw [List.length_map, List.length_range]
theorem valL_len (me ow : List Nat) (p : Nat) : (valL me ow p).length = (ownN ow p ow.length).length := by unfold valL; rw [List.length_map]
theorem outL_len (sh ow me : List Nat) : (outL sh ow me).length = ow.length := by unfold outL; rw [List.length_map, List.length_range]
theorem outL_get {sh ow me : List Nat} {i : Nat} (h : i < (outL sh ow me).length) : (outL sh ow me)[i] = outN sh ow me i := by simp [outL]
theorem wtL_get {sh ow : List Nat} {p : Nat} (h : p < (wtL sh ow).length) : (wtL sh ow)[p] = wtK sh ow ow.length p := by simp [wtL]
theorem wtK_step {sh ow : List Nat} {k p : Nat} : wtK sh ow (k + 1) p = if p = owN ow k then sh.getD p 0 else wtK sh ow k p := by
  unfold wtK
  rw [ownN_succ]
  by_cases e : owN ow k = p
  · rw [if_pos e, if_pos e.symm, if_neg (by simp)]
  · rw [if_neg e, if_neg (fun h : p = owN ow k => e h.symm)]
/-- What is asked of the lists. -/
structure TkOk (sh ow me : List Nat) : Prop where
  s0 : 0 < sh.length
  s16 : sh.length ≤ 16
  sv : ∀ x ∈ sh, 1 ≤ x ∧ x ≤ 1000
  o200 : ow.length ≤ 200
  ov : ∀ x ∈ ow, x < sh.length
  ml : me.length = ow.length
  mv : ∀ x ∈ me, 1 ≤ x ∧ x ≤ 10000
section
variable {sh ow me : List Nat}
theorem getD_mem {l : List Nat} {i : Nat} (h : i < l.length) : l.getD i 0 ∈ l := by rw [List.getD_eq_getElem?_getD, List.getElem?_eq_getElem h]; exact List.getElem_mem h
theorem TkOk.ow_lt (h : TkOk sh ow me) {i : Nat} (hi : i < ow.length) : owN ow i < sh.length := h.ov _ (getD_mem hi)
theorem TkOk.wt_le (h : TkOk sh ow me) : ∀ x ∈ wtL sh ow, x ≤ 1000000000 := fun x hx => by
  obtain ⟨p, hp, rfl⟩ := List.mem_map.1 hx
  unfold wtK
  split
  · omega
  · have := (h.sv _ (getD_mem (by simpa using hp))).2; omega
theorem TkOk.wt_pos (h : TkOk sh ow me) (h0 : 0 < ow.length) : ∃ x ∈ wtL sh ow, 0 < x := by
  refine ⟨wtK sh ow ow.length (owN ow 0), List.mem_map.2 ⟨_, by simpa using h.ow_lt h0, rfl⟩, ?_⟩
  unfold wtK
  rw [if_neg (ownN_ne h0)]
  have := (h.sv _ (getD_mem (h.ow_lt h0))).1
  omega
theorem TkOk.val_le (h : TkOk sh ow me) (p : Nat) : ∀ x ∈ valL me ow p, 1 ≤ x ∧ x ≤ 1000000000 := fun x hx => by
  unfold valL at hx
  obtain ⟨i, hi, rfl⟩ := List.mem_map.1 hx
  have hi' : i < me.length := by
    rw [h.ml]
    unfold ownN at hi
    have := (List.mem_filter.1 hi).1
    simpa using this
  have := h.mv _ (getD_mem hi')
  omega
end
/-- What the map of the requests reads as. -/
structure Grp (D : DataW Unit) (ow : List Nat) (k : Nat) : Prop where
  im : IsMap D
  has : ∀ p : Nat, Maps.has D (.int .i64 (p : Int)) = !(ownN ow p k).isEmpty
  at_ : ∀ p : Nat, ownN ow p k ≠ [] → ∀ z, D.atKey (.int .i64 (p : Int)) z = .slice (lits .i64 (toI (ownN ow p k))) []
  all : ∀ kl, Maps.has D kl = true → ∃ i, i < k ∧ kl = .int .i64 ((owN ow i : Nat) : Int)
theorem Grp.zero (ow : List Nat) : Grp (.map []) ow 0 := ⟨isMap_empty, fun p => rfl, fun p h => absurd rfl h, fun kl h => by cases h⟩
theorem keyP (p : Nat) : WideAt.IsKeyLit (.int .i64 (p : Int)) := keyI_lit _
theorem Grp.step {D : DataW Unit} {ow : List Nat} {k : Nat} (h : Grp D ow k) : Grp (D.put (.int .i64 ((owN ow k : Nat) : Int)) (.slice (lits .i64 (toI (ownN ow (owN ow k) k ++ [k]))) [])) ow (k + 1) := by
  have ne : ∀ p : Nat, p ≠ owN ow k → (Lit.int .i64 (p : Int)) ≠ .int .i64 ((owN ow k : Nat) : Int) := fun p hp e => by
    injection e with _ e
    omega
  refine ⟨h.im.put _ _, fun p => ?_, fun p hp z => ?_, fun kl hk => ?_⟩
  · by_cases e : p = owN ow k
    · subst e
      rw [has_put_same h.im (keyP _), ownN_succ, if_pos rfl]; simp
    · rw [has_put_other (ne p e), h.has p, ownN_succ, if_neg (fun h => e h.symm)]
  · by_cases e : p = owN ow k
    · subst e
      rw [atKey_put_same h.im (keyP _), ownN_succ, if_pos rfl]
    · rw [atKey_put_other (ne p e)]
      rw [ownN_succ, if_neg (fun h => e h.symm)] at hp ⊢
      exact h.at_ p hp z
  · by_cases e : kl = .int .i64 ((owN ow k : Nat) : Int)
    · exact ⟨k, Nat.lt_succ_self _, e⟩
    · rw [has_put_other e] at hk
      obtain ⟨i, hi, rfl⟩ := h.all kl hk
      exact ⟨i, by omega, rfl⟩
theorem lits_inj {l m : List Int} (h : lits (H := Unit) .i64 l = lits .i64 m) : l = m := by
  unfold lits at h
  exact (List.map_inj_right (fun a b e => by injection e with e; injection e)).1 h
/-- What a slice of the map holds. -/
theorem Grp.row {D : DataW Unit} {ow : List Nat} {k p : Nat} (h : Grp D ow k) {w : World} {base e : Nat} {v : Value} {zs : List Int} (hat : D.atKey (.int .i64 (p : Int)) .nil = rowDatum .i64 v zs) (ho : w.ownsInts base e .i64 v zs) : zs = toI (ownN ow p k) := by
  by_cases hne : ownN ow p k = []
  · have h1 := h.has p
    rw [hne] at h1
    rw [atKey_of_not_has (by simpa using h1)] at hat
    rcases ho.datum (H := Unit) with ⟨_, h2⟩ | h2
    · rw [h2, hne]; rfl
    · rw [h2] at hat; cases hat
  · rw [h.at_ p hne] at hat
    rcases ho.datum (H := Unit) with ⟨h2, _⟩ | h2
    · rw [h2] at hat; cases hat
    · rw [h2] at hat
      injection hat with hat
      exact (lits_inj hat).symm
end Go.Proofs.YtcgplokdklomlaaGreatDoor
