/- Slices of slices: that the call builds, and that are read. -/
import Derived.Test.YtbojlmnajndleaaGreatDoorAppend
set_option linter.unusedVariables false
set_option linter.unusedSimpArgs false
namespace Go.Proofs.YtbojlmnajndleaaGreatDoor
open Go.RowKit

def vV (v : Value) : List Value := [v]
theorem vV_len (v : Value) : (vV v).length = 1 := rfl
theorem flat_vV (vs : List Value) : flatV vV vs = vs := by
  induction vs with
  | nil => rfl
  | cons v vs ih =>
    show v :: flatV vV vs = v :: vs
    rw [ih]
/-- A slice whose elements are slices that read as the lists of M. -/
def SliceSS {α : Type} (f : α → List Value) (size : Nat) (w : World) (v : Value) (M : List (List α)) : Prop :=
  ∃ vs : List Value, SliceOf vV 1 w v vs ∧ vs.length = M.length ∧ ∀ (j : Nat) u m, vs[j]? = some u → M[j]? = some m → SliceOf f size w u m
theorem SliceSS.below {α : Type} {f : α → List Value} {size : Nat} {w w' : World} {v : Value} {M : List (List α)} (h : SliceSS f size w v M) (hb : Below w.heap.size w w') : SliceSS f size w' v M := by
  obtain ⟨vs, h1, h2, h3⟩ := h
  exact ⟨vs, h1.below hb, h2, fun j u m a b => (h3 j u m a b).below hb⟩
theorem SliceSS.shape {α : Type} {f : α → List Value} {size : Nat} {w : World} {v : Value} {M : List (List α)} (h : SliceSS f size w v M) : ∃ ao cap, v = .slice ao M.length cap := by
  obtain ⟨vs, h1, h2, _⟩ := h
  obtain ⟨ao, cap, h⟩ := h1.shape
  exact ⟨ao, cap, by rw [h, h2]⟩
theorem SliceSS.nil {α : Type} (f : α → List Value) (size : Nat) (w : World) : SliceSS f size w (.slice none 0 0) [] := ⟨[], .inl ⟨none, rfl, rfl⟩, rfl, fun j u m h => by simp at h⟩
/-- Where the rows of such a slice stand. -/
theorem SliceSS.at_ {α : Type} {f : α → List Value} {size : Nat} {w : World} {ao : Option Addr} {cp : Nat} {M : List (List α)} (h : SliceSS f size w (.slice ao M.length cp) M) :
    0 < M.length → ∃ b off, ao = some ⟨b, off, none⟩ ∧ M.length ≤ cp ∧ cp ≤ maxLen ∧ ∀ j (hj : j < M.length), ∃ u, w.cell? ⟨b, off + j, none⟩ = some u ∧ SliceOf f size w u M[j] := by
  intro h0
  obtain ⟨vs, h1, h2, h3⟩ := h
  obtain ⟨b, off, cap, hv, hb, hn, hm, hc⟩ := h1.some_of_pos (by omega)
  simp only [Value.slice.injEq] at hv
  obtain ⟨rfl, _, rfl⟩ := hv
  refine ⟨b, off, rfl, by omega, hm, fun j hj => ⟨vs[j]'(by omega), ?_, h3 j _ _ (List.getElem?_eq_getElem (by omega)) (List.getElem?_eq_getElem hj)⟩⟩
  have := hc j (by omega) 0 _ rfl
  simpa using this

/-- A slice of slices of the call's own: vs are the rows' slices. -/
structure Nest {α : Type} (f : α → List Value) (size : Nat) (w : World) (B : Nat) (u : Value) (vs : List Value) (M : List (List α)) : Prop where
  len : vs.length = M.length
  outer : OwnS w B 1 u M.length vs
  inner : ∀ (j : Nat) v m, vs[j]? = some v → M[j]? = some m → OwnS w B size v m.length (flatV f m)
  apart : ∀ (j : Nat) v g, vs[j]? = some v → v.ownBlock = some g → u.ownBlock ≠ some g
  pair : ∀ (i j : Nat) v v' g, i ≠ j → vs[i]? = some v → vs[j]? = some v' → v.ownBlock = some g → v'.ownBlock ≠ some g
section
variable {α : Type} {f : α → List Value} {size : Nat} {w W w1 : World} {B : Nat} {u : Value} {vs : List Value} {M : List (List α)}
theorem Nest.nil (f : α → List Value) (size : Nat) (w : World) (B : Nat) : Nest f size w B (.slice none 0 0) [] [] :=
  ⟨rfl, OwnS.nil _ _ _, fun j v m h => by simp at h, fun j v g h => by simp at h, fun i j v v' g _ h => by simp at h⟩
theorem Nest.kept (h : Nest f size w B u vs M) {row : Option Nat} (hg : w.grownBy W row) (hr : ∀ g, row = some g → g < B) : Nest f size W B u vs M := by
  refine ⟨h.len, h.outer.kept hg fun k hk e => ?_, fun j v m a b => (h.inner j v m a b).kept hg fun k hk e => ?_, h.apart, h.pair⟩
  · have := hr k hk; have := (h.outer.lt k e).1; omega
  · have := hr k hk; have := ((h.inner j v m a b).lt k e).1; omega
theorem Nest.below (h : Nest f size w B u vs M) (hb : Below w.heap.size w W) : Nest f size W B u vs M :=
  h.kept (row := none) ⟨hb.os, hb.tape, hb.output, hb.size, fun k hk _ => hb.block k hk⟩ (by simp)
theorem Nest.slice (hf : ∀ a, (f a).length = size) (h : Nest f size w B u vs M) : SliceSS f size w u M := by
  refine ⟨vs, OwnS.slice vV_len (B := B) ?_, h.len, fun j v m a b => OwnS.slice hf (h.inner j v m a b)⟩
  rw [flat_vV, h.len]; exact h.outer
/-- One more row is appended: v, that the call owns. -/
theorem Nest.push (h : Nest f size w B u vs M) (hW : Below w.heap.size w W) {g off cap : Nat} {v : Value} {m : List α} (ho : OwnS w1 B 1 (.slice (some ⟨g, off, none⟩) (M.length + 1) cap) (M.length + 1) (vs ++ [v])) (hg : W.grownBy w1 u.ownBlock) (hat : u.ownBlock = some g ∨ W.heap.size ≤ g)
    (hv : OwnS W B size v m.length (flatV f m)) (hvu : ∀ g, v.ownBlock = some g → u.ownBlock ≠ some g) (hvs : ∀ (j : Nat) v' g, vs[j]? = some v' → v'.ownBlock = some g → v.ownBlock ≠ some g) :
    Nest f size w1 B (.slice (some ⟨g, off, none⟩) (M.length + 1) cap) (vs ++ [v]) (M ++ [m]) := by
  have hb := h.below hW
  have key : ∀ (j : Nat) v', (vs ++ [v])[j]? = some v' → (j < vs.length ∧ vs[j]? = some v') ∨ (j = vs.length ∧ v' = v) := by
    intro j v' hj
    by_cases hl : j < vs.length
    · rw [List.getElem?_append_left hl] at hj; exact .inl ⟨hl, hj⟩
    · have hl2 : j < vs.length + 1 := by
        have := (List.getElem?_eq_some_iff.1 hj).1
        rw [List.length_append] at this; exact this
      have e : j = vs.length := by omega
      subst e
      rw [List.getElem?_append_right (Nat.le_refl _)] at hj
      exact .inr ⟨rfl, by simpa using hj.symm⟩
  refine ⟨by simp [h.len], by rw [List.length_append]; exact ho, fun j v' m' a b => ?_, fun j v' g' a e => ?_, fun i j v1 v2 g' hne a b e => ?_⟩
  · rcases key j v' a with ⟨hl, a'⟩ | ⟨rfl, rfl⟩
    · rw [List.getElem?_append_left (by rw [← h.len]; exact hl)] at b
      exact (hb.inner j v' m' a' b).kept hg fun k hk e => h.apart j v' k a' e hk
    · rw [h.len, List.getElem?_append_right (Nat.le_refl _)] at b
      obtain rfl : m = m' := by simpa using b
      exact hv.kept hg fun k hk e => hvu k e hk
  · intro e2
    obtain rfl : g = g' := by simpa [Value.ownBlock] using e2
    rcases key j v' a with ⟨hl, a'⟩ | ⟨rfl, rfl⟩
    · rcases hat with h1 | h1
      · exact h.apart j v' g a' e h1
      · have hj : j < M.length := by rw [← h.len]; exact hl
        have := ((hb.inner j v' _ a' (List.getElem?_eq_getElem hj)).lt g e).2
        omega
    · rcases hat with h1 | h1
      · exact hvu g e h1
      · have := (hv.lt g e).2
        omega
  · rcases key i v1 a with ⟨hl, a'⟩ | ⟨rfl, rfl⟩
    · rcases key j v2 b with ⟨hl2, b'⟩ | ⟨rfl, rfl⟩
      · exact h.pair i j v1 v2 g' hne a' b' e
      · exact hvs i v1 g' a' e
    · rcases key j v2 b with ⟨hl2, b'⟩ | ⟨rfl, rfl⟩
      · intro e2; exact hvs j v2 g' b' e2 e
      · exact absurd rfl hne
/-- An empty row is appended. -/
theorem Nest.push_nil (h : Nest f size w B u vs M) (hW : Below w.heap.size w W) {g off cap : Nat} (ho : OwnS w1 B 1 (.slice (some ⟨g, off, none⟩) (M.length + 1) cap) (M.length + 1) (vs ++ [.slice none 0 0])) (hg : W.grownBy w1 u.ownBlock) (hat : u.ownBlock = some g ∨ W.heap.size ≤ g) :
    Nest f size w1 B (.slice (some ⟨g, off, none⟩) (M.length + 1) cap) (vs ++ [.slice none 0 0]) (M ++ [[]]) :=
  h.push hW (m := []) ho hg hat (OwnS.nil _ _ _) (fun g e => by simp [Value.ownBlock] at e) (fun j v' g _ e => by simp [Value.ownBlock])
/-- Where the outer slice's cells lie. -/
theorem Nest.spot (h : Nest f size w B u vs M) {q : Nat} (hq : q < M.length) : ∃ gu offu capu v, u = .slice (some ⟨gu, offu, none⟩) M.length capu ∧ vs[q]? = some v ∧ w.cell? ⟨gu, offu + q, none⟩ = some v ∧ w.frozen? ⟨gu, offu + q, none⟩ = false ∧ M.length ≤ capu ∧ capu ≤ maxLen ∧ B ≤ gu := by
  rcases h.outer.2 with ⟨ao, _, h2, _⟩ | ⟨g, off, cap, hv, hb, hlt, hn, hm, hc, hx⟩
  · omega
  · have hq2 : q < vs.length := by rw [h.len]; exact hq
    exact ⟨g, off, cap, vs[q], hv, List.getElem?_eq_getElem hq2, hx q _ (List.getElem?_eq_getElem hq2), (hc q (by omega)).2, hn, hm, hb⟩
theorem OwnS.setOwn {w : World} {B : Nat} {gu offu capu n : Nat} {vs : List Value} (h : OwnS w B 1 (.slice (some ⟨gu, offu, none⟩) n capu) n vs) {q : Nat} (hq : q < n) (x : Value) : OwnS (w.setCell ⟨gu, offu + q, none⟩ x) B 1 (.slice (some ⟨gu, offu, none⟩) n capu) n (vs.set q x) := by
  refine ⟨by rw [List.length_set]; exact h.1, ?_⟩
  rcases h.2 with ⟨ao, hv, h2, _⟩ | ⟨g, off, cap, hv, hb, hlt, hn, hm, hc, hx⟩
  · omega
  · simp only [Value.slice.injEq, Option.some.injEq, Addr.mk.injEq, and_true, true_and] at hv
    obtain ⟨⟨rfl, rfl⟩, rfl⟩ := hv
    have hql : q < vs.length := by rw [h.1]; omega
    have hcell := hx q _ (List.getElem?_eq_getElem hql)
    refine .inr ⟨gu, offu, capu, rfl, hb, by simpa using hlt, hn, hm, fun j hj => ⟨?_, by rw [World.frozen?_setCell]; exact (hc j hj).2⟩, fun j u hu => ?_⟩
    · by_cases e : j = q
      · subst e; rw [World.cell?_setCell_same _ _ _ hcell]; rfl
      · rw [World.cell?_setCell_other _ _ _ _ (by intro e'; injection e'; omega)]; exact (hc j hj).1
    · by_cases e : j = q
      · subst e
        rw [List.getElem?_set_self hql] at hu
        obtain rfl : x = u := by simpa using hu
        exact World.cell?_setCell_same _ _ _ hcell
      · rw [List.getElem?_set_ne (fun e' => e e'.symm)] at hu
        rw [World.cell?_setCell_other _ _ _ _ (by intro e'; injection e'; omega)]
        exact hx j u hu
/-- An element is appended to row q, and the row stored back. -/
theorem Nest.app (h : Nest f size w B u vs M) (hW : Below w.heap.size w W) {q gu offu capu g off cap : Nat} {v : Value} {m : List α} {x : α} {cs : List Value} (hu : u = .slice (some ⟨gu, offu, none⟩) M.length capu) (hq : q < M.length) (hv : vs[q]? = some v) (hm : M[q]? = some m) (hcs : cs = f x)
    (ho : OwnS w1 B size (.slice (some ⟨g, off, none⟩) (m.length + 1) cap) (m.length + 1) (flatV f m ++ cs)) (hg : W.grownBy w1 v.ownBlock) (hat : v.ownBlock = some g ∨ W.heap.size ≤ g) :
    (∃ v0, w1.cell? ⟨gu, offu + q, none⟩ = some v0) ∧ w1.frozen? ⟨gu, offu + q, none⟩ = false ∧
    Nest f size (w1.setCell ⟨gu, offu + q, none⟩ (.slice (some ⟨g, off, none⟩) (m.length + 1) cap)) B u (vs.set q (.slice (some ⟨g, off, none⟩) (m.length + 1) cap)) (M.set q (m ++ [x])) := by
  have hb := h.below hW
  have hov : ∀ k, v.ownBlock = some k → u.ownBlock ≠ some k := fun k e => h.apart q v k hv e
  have ho1 : OwnS w1 B 1 u M.length vs := hb.outer.kept hg fun k hk e => hov k hk e
  have hql : q < vs.length := by rw [h.len]; exact hq
  have hgu : u.ownBlock = some gu := by rw [hu]; rfl
  have hne : g ≠ gu := by
    rintro rfl
    rcases hat with h1 | h1
    · exact hov g h1 hgu
    · have := (hb.outer.lt g hgu).2
      omega
  have hcell : w1.cell? ⟨gu, offu + q, none⟩ = some vs[q] ∧ w1.frozen? ⟨gu, offu + q, none⟩ = false := by
    rcases ho1.2 with ⟨ao, _, h2, _⟩ | ⟨g', off', cap', hv', hb', hlt, hn, hm', hc, hx⟩
    · omega
    · rw [hu] at hv'
      simp only [Value.slice.injEq, Option.some.injEq, Addr.mk.injEq, and_true, true_and] at hv'
      obtain ⟨⟨rfl, rfl⟩, rfl⟩ := hv'
      exact ⟨hx q _ (List.getElem?_eq_getElem hql), (hc q (by omega)).2⟩
  refine ⟨⟨_, hcell.1⟩, hcell.2, ?_⟩
  have hset : w1.grownBy (w1.setCell ⟨gu, offu + q, none⟩ (.slice (some ⟨g, off, none⟩) (m.length + 1) cap)) (some gu) :=
    ⟨rfl, rfl, rfl, by simp, fun k _ hk => Below.heap_setCell _ _ _ _ fun e => hk (by rw [e])⟩
  have ml : ∀ (j : Nat) m', (M.set q (m ++ [x]))[j]? = some m' → (j = q ∧ m' = m ++ [x]) ∨ (j ≠ q ∧ M[j]? = some m') := by
    intro j m' hj
    by_cases e : j = q
    · subst e
      rw [List.getElem?_set_self hq] at hj
      exact .inl ⟨rfl, by simpa using hj.symm⟩
    · rw [List.getElem?_set_ne (fun e' => e e'.symm)] at hj
      exact .inr ⟨e, hj⟩
  have vl : ∀ (j : Nat) v', (vs.set q (.slice (some ⟨g, off, none⟩) (m.length + 1) cap))[j]? = some v' → (j = q ∧ v' = .slice (some ⟨g, off, none⟩) (m.length + 1) cap) ∨ (j ≠ q ∧ vs[j]? = some v') := by
    intro j v' hj
    by_cases e : j = q
    · subst e
      rw [List.getElem?_set_self hql] at hj
      exact .inl ⟨rfl, by simpa using hj.symm⟩
    · rw [List.getElem?_set_ne (fun e' => e e'.symm)] at hj
      exact .inr ⟨e, hj⟩
  refine ⟨by rw [List.length_set, List.length_set]; exact h.len, ?_, fun j v' m' a b => ?_, fun j v' g' a e => ?_, fun i j v1 v2 g' hne' a b e => ?_⟩
  · rw [List.length_set]
    have h1 := ho1
    rw [hu] at h1 ⊢
    exact h1.setOwn hq _
  · rcases vl j v' a with ⟨rfl, rfl⟩ | ⟨hj, a'⟩
    · rcases ml j m' b with ⟨_, rfl⟩ | ⟨h2, _⟩
      · rw [List.length_append, flatV_append, flatV_one, ← hcs]
        exact ho.kept hset fun k hk e => by
          injection hk with hk
          subst hk
          have : g = gu := by simpa [Value.ownBlock] using e
          exact hne this
      · exact absurd rfl h2
    · rcases ml j m' b with ⟨h2, _⟩ | ⟨_, b'⟩
      · exact absurd h2 hj
      · refine ((hb.inner j v' m' a' b').kept hg fun k hk e => h.pair q j v v' k (fun e => hj e.symm) hv a' hk e).kept hset fun k hk e => ?_
        injection hk with hk
        subst hk
        exact h.apart j v' gu a' e hgu
  · rcases vl j v' a with ⟨rfl, rfl⟩ | ⟨hj, a'⟩
    · obtain rfl : g = g' := by simpa [Value.ownBlock] using e
      rw [hgu]
      intro e2
      injection e2 with e2
      exact hne e2.symm
    · exact h.apart j v' g' a' e
  · have fresh : ∀ (j : Nat) v', j ≠ q → vs[j]? = some v' → v'.ownBlock ≠ some g := by
      intro j v' hj a' e
      rcases hat with h1 | h1
      · exact h.pair q j v v' g (fun e => hj e.symm) hv a' h1 e
      · have hjl : j < M.length := by rw [← h.len]; exact (List.getElem?_eq_some_iff.1 a').1
        have := ((hb.inner j v' _ a' (List.getElem?_eq_getElem hjl)).lt g e).2
        omega
    rcases vl i v1 a with ⟨rfl, rfl⟩ | ⟨hi, a'⟩
    · obtain rfl : g = g' := by simpa [Value.ownBlock] using e
      rcases vl j v2 b with ⟨rfl, rfl⟩ | ⟨hj, b'⟩
      · exact absurd rfl hne'
      · exact fresh j v2 hj b'
    · rcases vl j v2 b with ⟨rfl, rfl⟩ | ⟨hj, b'⟩
      · intro e2
        obtain rfl : g = g' := by simpa [Value.ownBlock] using e2
        exact fresh i v1 hi a' e
      · exact h.pair i j v1 v2 g' hne' a' b' e
end
end Go.Proofs.YtbojlmnajndleaaGreatDoor
