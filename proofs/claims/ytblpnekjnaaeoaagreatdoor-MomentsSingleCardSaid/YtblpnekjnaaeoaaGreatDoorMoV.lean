/- moments: collect. -/
import Derived.Test.YtblpnekjnaaeoaaGreatDoorMoU
import Derived.Test.YtblpnekjnaaeoaaGreatDoorMoR
import Derived.RangeFuncNested
import Derived.RangeFuncBound
import Derived.RangeFuncCalls
import Derived.RangeFuncBox
import Derived.RangeFuncLeaves
import Derived.Shelf.Abstract
import Derived.Shelf.RegionOpen
import Derived.WalkKit
import Derived.OwnWalkIn
import Derived.TacticsInMore
import Derived.LoopNIn
import Derived.LoopIn
set_option linter.unusedVariables false
set_option linter.unusedSimpArgs false
namespace Go.Proofs.YtblpnekjnaaeoaaGreatDoor
open Go.RowKit Go.Shelf
attribute [local go_sem] Oper.semAt_some

/-- The variables of collect. -/
structure SI (n₀ C B2 A : Nat) (w0 W : World) (e : Int) (M : List (T3 × T3)) (v : Value) : Prop where
  bel : Below n₀ w0 W
  ce : CE W C e
  b2 : W.cell? ⟨B2, 0, none⟩ = some (.pointer (some ⟨C, 0, none⟩))
  cA : W.cell? ⟨A, 0, none⟩ = some v
  fA : W.frozen? ⟨A, 0, none⟩ = false
  own : OwnS W (A + 1) 6 v M.length (flatV vPr M)
  cel : ∀ k, v.ownBlock = some k → ∃ (p : Addr) (u : Value), p.block = k ∧ W.cell? p = some u
section
variable {n₀ C B2 A B : Nat} {w0 W W' : World} {e : Int} {M : List (T3 × T3)} {v : Value} {row : Option Nat}
theorem SI.lt (h : SI n₀ C B2 A w0 W e M v) : A < W.heap.size := World.block_lt_of_cell? _ _ h.cA
theorem SI.kept (h : SI n₀ C B2 A w0 W e M v) (hb : Below n₀ w0 W') (hg : W.grownBy W' row) (hc : ∀ r, row = some r → ∀ (p : Addr) (u : Value), W.cell? p = some u → p.block ≠ r) : SI n₀ C B2 A w0 W' e M v := by
  have keep : ∀ (p : Addr) (u : Value), W.cell? p = some u → W'.cell? p = some u ∧ W'.frozen? p = W.frozen? p := fun p u hp => by
    have e := hg.block p.block (World.block_lt_of_cell? _ _ hp) (fun e => hc p.block e.symm p u hp rfl)
    exact ⟨(World.cell?_of_block (w := W) (a := p) e).trans hp, World.frozen?_of_block (w := W) (a := p) e⟩
  refine ⟨hb, ⟨(keep _ _ h.ce.c).1, (keep _ _ h.ce.c).2.trans h.ce.f⟩, (keep _ _ h.b2).1, (keep _ _ h.cA).1, (keep _ _ h.cA).2.trans h.fA, h.own.kept hg (fun k hk hv => ?_), fun k hk => ?_⟩
  · obtain ⟨p, u, hp, hcu⟩ := h.cel k hv
    exact hc k hk p u hcu hp
  · obtain ⟨p, u, hp, hcu⟩ := h.cel k hk
    exact ⟨p, u, hp, (keep _ _ hcu).1⟩
theorem not_cells {W : World} {r : Nat} {o : Obj} (ho : W.heap[r]? = some o) (hc : o.isCells = false) : ∀ (p : Addr) (u : Value), W.cell? p = some u → p.block ≠ r := fun p u hp e => by
  unfold World.cell? at hp
  rw [e, ho] at hp
  cases o <;> simp_all [Obj.isCells]
theorem SI.turn (h : SI n₀ C B2 A w0 W e M v) (hn : n₀ ≤ B) (hs : n₀ ≤ w0.heap.size) (hg : W.grownBy W' row) (hr : ∀ r, row = some r → B ≤ r ∧ ∃ o : Obj, W.heap[r]? = some o ∧ o.isCells = false) : SI n₀ C B2 A w0 W' e M v :=
  h.kept (h.bel.grown hg (Nat.le_trans hs h.bel.size) (fun k e => Nat.le_trans hn (hr k e).1)) hg (fun r e => by
    obtain ⟨_, o, ho, hc⟩ := hr r e
    exact not_cells ho hc)
theorem SI.below (h : SI n₀ C B2 A w0 W e M v) (hs : n₀ ≤ w0.heap.size) (hb : Below W.heap.size W W') : SI n₀ C B2 A w0 W' e M v :=
  h.kept (h.bel.trans (hb.mono (Nat.le_trans hs h.bel.size))) (grown_belowM hb none) (fun r e => by cases e)
/-- The cell of the error is turned. -/
theorem SI.grownC {e' : Int} (h : SI n₀ C B2 A w0 W e M v) (hs : n₀ ≤ w0.heap.size) (hn : n₀ ≤ C) (hCB : C < B2) (hBA : B2 < A) (hg : W.grownBy W' (some C)) (hc : CE W' C e') : SI n₀ C B2 A w0 W' e' M v := by
  have keep : ∀ (p : Addr) (u : Value), p.block ≠ C → W.cell? p = some u → W'.cell? p = some u ∧ W'.frozen? p = W.frozen? p := fun p u hne hp => by
    have e := hg.block p.block (World.block_lt_of_cell? _ _ hp) (fun e => hne (by injection e))
    exact ⟨(World.cell?_of_block (w := W) (a := p) e).trans hp, World.frozen?_of_block (w := W) (a := p) e⟩
  refine ⟨h.bel.grown hg (Nat.le_trans hs h.bel.size) (fun k e => by injection e with e; omega), hc, (keep _ _ (by simp only; omega) h.b2).1, (keep _ _ (by simp only; omega) h.cA).1, (keep _ _ (by simp only; omega) h.cA).2.trans h.fA, h.own.kept hg (fun k hk hv => ?_), fun k hk => ?_⟩
  · injection hk with hk
    have := (h.own.lt k hv).1
    omega
  · obtain ⟨p, u, hp, hcu⟩ := h.cel k hk
    have := (h.own.lt k hk).1
    exact ⟨p, u, hp, (keep _ _ (by omega) hcu).1⟩
end
theorem own_cel {W : World} {B g off n cap : Nat} {xs : List Value} (h : OwnS W B 6 (.slice (some ⟨g, off, none⟩) n cap) n xs) (h0 : 0 < n) : ∀ k, (Value.slice (some ⟨g, off, none⟩) n cap).ownBlock = some k → ∃ (p : Addr) (u : Value), p.block = k ∧ W.cell? p = some u := fun k hk => by
  have e : g = k := by simpa [Value.ownBlock] using hk
  subst e
  obtain ⟨_, _, hn, _, hc, _⟩ := h.parts h0
  obtain ⟨u, hu⟩ := Option.isSome_iff_exists.1 (hc 0 (by omega)).1
  exact ⟨⟨g, off + 0, none⟩, u, rfl, hu⟩
/-- One element more. -/
theorem SI.ins {n₀ C B2 A : Nat} {w0 W w1 : World} {e : Int} {M M' : List (T3 × T3)} {v : Value} {g off cap : Nat} (h : SI n₀ C B2 A w0 W e M v) (hs : n₀ ≤ w0.heap.size) (hnC : n₀ ≤ C) (hCB : C < B2) (hBA : B2 < A) (hM : M'.length = M.length + 1)
    (hown : OwnS w1 (A + 1) 6 (.slice (some ⟨g, off, none⟩) (M.length + 1) cap) (M.length + 1) (flatV vPr M')) (hg : W.grownBy w1 v.ownBlock) :
    SI n₀ C B2 A w0 (w1.setCell ⟨A, 0, none⟩ (.slice (some ⟨g, off, none⟩) (M.length + 1) cap)) e M' (.slice (some ⟨g, off, none⟩) (M.length + 1) cap) := by
  have keep : ∀ (p : Addr) (u : Value), p.block ≤ A → W.cell? p = some u → w1.cell? p = some u ∧ w1.frozen? p = W.frozen? p := fun p u hle hp => by
    have e := hg.block p.block (World.block_lt_of_cell? _ _ hp) (fun e => by have := (h.own.lt _ e.symm).1; omega)
    exact ⟨(World.cell?_of_block (w := W) (a := p) e).trans hp, World.frozen?_of_block (w := W) (a := p) e⟩
  have oth : ∀ (p : Addr) (u : Value), p.block < A → W.cell? p = some u → (w1.setCell ⟨A, 0, none⟩ (.slice (some ⟨g, off, none⟩) (M.length + 1) cap)).cell? p = some u := fun p u hlt hp => by
    rw [World.cell?_setCell_other _ _ _ _ (fun e => by rw [← e] at hlt; simp only at hlt; omega)]
    exact (keep p u (by omega) hp).1
  have hA1 := keep _ _ (Nat.le_refl A) h.cA
  rw [← hM] at hown
  refine ⟨(h.bel.grown hg (Nat.le_trans hs h.bel.size) (fun k e => by have := (h.own.lt k e).1; omega)).setCell (p := ⟨A, 0, none⟩) (by simp only; omega) _, ⟨oth _ _ (by simp only; omega) h.ce.c, ?_⟩, oth _ _ (by simp only; omega) h.b2, World.cell?_setCell_same _ _ _ hA1.1, ?_, ?_, fun k hk => ?_⟩
  · rw [World.frozen?_setCell]; exact (keep _ _ (by simp only; omega) h.ce.c).2.trans h.ce.f
  · rw [World.frozen?_setCell]; exact hA1.2.trans h.fA
  · rw [← hM]; exact hown.setCell (p := ⟨A, 0, none⟩) (Nat.lt_succ_self A) _
  · rw [← hM] at hk
    obtain ⟨p, u, hp, hu⟩ := own_cel hown (by omega) k hk
    have h1 := (hown.lt k hk).1
    exact ⟨p, u, hp, by rw [World.cell?_setCell_other _ _ _ _ (fun e => by rw [← e] at hp; simp only at hp; omega)]; exact hu⟩
/-- A weight is written. -/
theorem SI.setW {n₀ C B2 A : Nat} {w0 W : World} {e : Int} {M : List (T3 × T3)} {g off cap k : Nat} (h : SI n₀ C B2 A w0 W e M (.slice (some ⟨g, off, none⟩) M.length cap)) (hs : n₀ ≤ w0.heap.size) (hnC : n₀ ≤ C) (hCB : C < B2) (hBA : B2 < A) (hk : k < M.length) (r : T3) :
    SI n₀ C B2 A w0 (((W.setCell ⟨g, off + k * 6 + 3, none⟩ (.bool r.1)).setCell ⟨g, off + k * 6 + 4, none⟩ (.string r.2.1)).setCell ⟨g, off + k * 6 + 5, none⟩ (.string r.2.2)) e (M.set k (M[k].1, r)) (.slice (some ⟨g, off, none⟩) M.length cap) := by
  have h0 : 0 < M.length := by omega
  have hp := h.own.parts h0
  have hg := grown_setM3 W g (off + k * 6 + 3) (off + k * 6 + 4) (off + k * 6 + 5) (.bool r.1) (.string r.2.1) (.string r.2.2)
  obtain ⟨_, _, hP, _⟩ := h.own.pt rfl hk
  have keep : ∀ (p : Addr) (u : Value), p.block ≤ A → W.cell? p = some u → (((W.setCell ⟨g, off + k * 6 + 3, none⟩ (.bool r.1)).setCell ⟨g, off + k * 6 + 4, none⟩ (.string r.2.1)).setCell ⟨g, off + k * 6 + 5, none⟩ (.string r.2.2)).cell? p = some u := fun p u hle hpu =>
    (World.cell?_of_block (w := W) (a := p) (hg.block p.block (World.block_lt_of_cell? _ _ hpu) (fun e => by injection e with e; omega))).trans hpu
  have frz : ∀ p : Addr, (((W.setCell ⟨g, off + k * 6 + 3, none⟩ (.bool r.1)).setCell ⟨g, off + k * 6 + 4, none⟩ (.string r.2.1)).setCell ⟨g, off + k * 6 + 5, none⟩ (.string r.2.2)).frozen? p = W.frozen? p := fun p => by
    rw [World.frozen?_setCell, World.frozen?_setCell, World.frozen?_setCell]
  have c3 := hP.2.2.2.1
  have c4 := hP.2.2.2.2.1
  have c5 := hP.2.2.2.2.2
  have cell : ∀ x : Nat, (((W.setCell ⟨g, off + k * 6 + 3, none⟩ (.bool r.1)).setCell ⟨g, off + k * 6 + 4, none⟩ (.string r.2.1)).setCell ⟨g, off + k * 6 + 5, none⟩ (.string r.2.2)).cell? ⟨g, x, none⟩ = if x = off + k * 6 + 3 then some (.bool r.1) else if x = off + k * 6 + 4 then some (.string r.2.1) else if x = off + k * 6 + 5 then some (.string r.2.2) else W.cell? ⟨g, x, none⟩ := fun x => by
    by_cases e3 : x = off + k * 6 + 3
    · subst e3
      rw [if_pos rfl, World.cell?_setCell_other _ _ _ _ (by simp), World.cell?_setCell_other _ _ _ _ (by simp)]
      exact World.cell?_setCell_same _ _ _ c3
    · rw [if_neg e3]
      by_cases e4 : x = off + k * 6 + 4
      · subst e4
        rw [if_pos rfl, World.cell?_setCell_other _ _ _ _ (by simp)]
        exact World.cell?_setCell_same _ _ _ (by rw [World.cell?_setCell_other _ _ _ _ (by simp)]; exact c4)
      · rw [if_neg e4]
        by_cases e5 : x = off + k * 6 + 5
        · subst e5
          rw [if_pos rfl]
          exact World.cell?_setCell_same _ _ _ (by rw [World.cell?_setCell_other _ _ _ _ (by simp), World.cell?_setCell_other _ _ _ _ (by simp)]; exact c5)
        · rw [if_neg e5, World.cell?_setCell_other _ _ _ _ (by first | (simp; done) | (simp; omega)), World.cell?_setCell_other _ _ _ _ (by first | (simp; done) | (simp; omega)), World.cell?_setCell_other _ _ _ _ (by first | (simp; done) | (simp; omega))]
  have hgA : A + 1 ≤ g := hp.1
  refine ⟨h.bel.grown hg (Nat.le_trans hs h.bel.size) (fun j e => by injection e with e; omega), ⟨keep _ _ (by simp only; omega) h.ce.c, (frz _).trans h.ce.f⟩, keep _ _ (by simp only; omega) h.b2, keep _ _ (Nat.le_refl _) h.cA, (frz _).trans h.fA, ?_, fun j hj => ?_⟩
  · rw [List.length_set]
    refine ⟨by rw [flatV_length vPr_len, List.length_set], .inr ⟨g, off, cap, rfl, hp.1, by simpa using hp.2.1, hp.2.2.1, hp.2.2.2.1, fun j hj => ⟨?_, (frz _).trans (hp.2.2.2.2.1 j hj).2⟩, fun j u hj => ?_⟩⟩
    · rw [cell]
      split
      · rfl
      · split
        · rfl
        · split
          · rfl
          · exact (hp.2.2.2.2.1 j hj).1
    · have hjl := (List.getElem?_eq_some_iff.1 hj).1
      rw [flatV_length vPr_len, List.length_set] at hjl
      have hdm : j = j / 6 * 6 + j % 6 := by omega
      have hm6 : j % 6 < 6 := Nat.mod_lt _ (by decide)
      have h1 := flatV_get vPr_len (M.set k (M[k].1, r)) (j / 6) (by rw [List.length_set]; omega) (j % 6) hm6
      have h3 := flatV_get vPr_len M (j / 6) (by omega) (j % 6) hm6
      rw [← hdm] at h1 h3
      rw [hj] at h1
      rw [cell]
      by_cases ek : j / 6 = k
      · subst ek
        rw [List.getElem_set_self] at h1
        have hx := hp.2.2.2.2.2 j
        rw [h3] at hx
        obtain ⟨q, hq⟩ : ∃ q, j % 6 = q := ⟨_, rfl⟩
        rw [hq] at h1 hx hm6 hdm
        match q, hm6 with
        | 0, _ => rw [if_neg (by omega), if_neg (by omega), if_neg (by omega)]; exact hx u (h1.symm)
        | 1, _ => rw [if_neg (by omega), if_neg (by omega), if_neg (by omega)]; exact hx u (h1.symm)
        | 2, _ => rw [if_neg (by omega), if_neg (by omega), if_neg (by omega)]; exact hx u (h1.symm)
        | 3, _ => rw [if_pos (by omega)]; exact h1.symm
        | 4, _ => rw [if_neg (by omega), if_pos (by omega)]; exact h1.symm
        | 5, _ => rw [if_neg (by omega), if_neg (by omega), if_pos (by omega)]; exact h1.symm
      · rw [List.getElem_set_ne (fun e => ek e.symm)] at h1
        rw [if_neg (by omega), if_neg (by omega), if_neg (by omega)]
        exact hp.2.2.2.2.2 j u (by rw [h3, ← h1])
  · have e : g = j := by simpa [Value.ownBlock] using hj
    subst e
    exact ⟨⟨g, off + k * 6 + 3, none⟩, _, rfl, by rw [cell, if_pos rfl]⟩
theorem map_encV (l : List PQ) : (l.map fun p => (p.1, rqM p.2)).map encV = l.map encP := by
  rw [List.map_map]; rfl
theorem filt_nz (l : List PQ) : (l.map encP).filter (fun x => !isZ x) = (nzE l).map encP := by
  unfold nzE
  rw [List.filter_map]
  congr 1
  refine List.filter_congr fun p _ => ?_
  show (!decide (rqM p.2 = z3)) = _
  rw [show decide (rqM p.2 = z3) = decide (p.2 = 0) from decide_eq_decide.2 (rq_zero rfl)]
  by_cases h : p.2 = 0 <;> simp [h]
theorem src_hit {l : List PQ} {t : Rat} {k : Nat} (hs : SrtQ l) (h : SrcV (l.map fun p => (p.1, rqM p.2)) t k) : (∃ h : k < (l.map fun p => (p.1, rqM p.2)).length, ((l.map fun p => (p.1, rqM p.2))[k]'h).1 = t) ↔ ∃ p ∈ l, p.1 = t := by
  constructor
  · rintro ⟨hk, e⟩
    rw [List.length_map] at hk
    exact ⟨l[k], List.getElem_mem hk, by simpa using e⟩
  · rintro ⟨p, hp, e⟩
    obtain ⟨j, hj, rfl⟩ := List.getElem_of_mem hp
    obtain ⟨h1, h2, h3⟩ := h
    simp only [List.length_map, List.getElem_map] at h1 h2 h3
    have hkj : k ≤ j := by
      by_cases hlt : j < k
      · have := h2 j hj hlt; rw [e] at this; exact absurd this Rat.lt_irrefl
      · omega
    have e2 : j = k := by
      by_cases hlt : k < j
      · have := List.pairwise_iff_getElem.1 hs k j (by omega) hj hlt
        rw [e] at this
        exact absurd this (h3 k (by omega) (Nat.le_refl _))
      · omega
    subst e2
    exact ⟨by simpa using hj, by simpa using e⟩
theorem srtV_of {l : List PQ} (hs : SrtQ l) : SrtV (l.map fun p => (p.1, rqM p.2)) := fun i j hi hj => by
  simp only [List.length_map] at hj
  simp only [List.getElem_map]
  exact List.pairwise_iff_getElem.1 hs i j (by omega) hj hi
end Go.Proofs.YtblpnekjnaaeoaaGreatDoor
