/- Package field: Interpolate, of points whose numbers are elements. -/
import Derived.Test.YtahlhiiekgnmpabFldF
namespace Go.Proofs.Ytahlhiiekgnmpab
open Go.RowKit

def seenB (ps : List (FP × FP)) : Nat → FP → Bool
  | 0, _ => false
  | k + 1, a => seenB ps k a || decide (px ps k = a)
def twB (ps : List (FP × FP)) : Nat → Bool
  | 0 => false
  | k + 1 => twB ps k || seenB ps k (px ps k)
theorem seenB_iff (ps : List (FP × FP)) (a : FP) : ∀ k, seenB ps k a = true ↔ ∃ j, j < k ∧ px ps j = a
  | 0 => by simp [seenB]
  | k + 1 => by
    have ih := seenB_iff ps a k
    unfold seenB
    rw [Bool.or_eq_true, ih, decide_eq_true_iff]
    constructor
    · rintro (⟨j, h1, h2⟩ | h)
      · exact ⟨j, by omega, h2⟩
      · exact ⟨k, by omega, h⟩
    · rintro ⟨j, h1, h2⟩
      by_cases e : j = k
      · exact .inr (by rw [← e]; exact h2)
      · exact .inl ⟨j, by omega, h2⟩
theorem twB_iff (ps : List (FP × FP)) : ∀ k, twB ps k = true ↔ ∃ p q, p < q ∧ q < k ∧ px ps p = px ps q
  | 0 => by simp [twB]
  | k + 1 => by
    have ih := twB_iff ps k
    unfold twB
    rw [Bool.or_eq_true, ih, seenB_iff]
    constructor
    · rintro (⟨p, q, h1, h2, h3⟩ | ⟨j, h1, h2⟩)
      · exact ⟨p, q, h1, by omega, h3⟩
      · exact ⟨j, k, h1, by omega, h2⟩
    · rintro ⟨p, q, h1, h2, h3⟩
      by_cases e : q = k
      · exact .inr ⟨p, by omega, by rw [← e]; exact h3⟩
      · exact .inl ⟨p, q, h1, by omega, h3⟩
theorem twB_dst (ps : List (FP × FP)) : twB ps ps.length = !dstB ps := by
  rcases Bool.eq_false_or_eq_true (dstB ps) with h | h
  · rw [h]
    have h2 := (dst_iff ps).1 h
    rcases Bool.eq_false_or_eq_true (twB ps ps.length) with h1 | h1
    · obtain ⟨p, q, a, b, c⟩ := (twB_iff ps _).1 h1
      exact absurd c (h2 p q a b)
    · exact h1
  · rw [h]
    rcases Bool.eq_false_or_eq_true (twB ps ps.length) with h1 | h1
    · exact h1
    · exfalso
      have : dstB ps = true := (dst_iff ps).2 fun p q a b c => by
        have := (twB_iff ps ps.length).2 ⟨p, q, a, b, c⟩
        rw [h1] at this; cases this
      rw [h] at this; cases this

/-- What the loops know of memory: the boxes of both arguments, and the values. -/
structure ISt (w wr : World) (ps : List (FP × FP)) (x : FP) (b off cp Bv : Nat) (vl : Nat → FP) : Prop where
  box0 : wr.cell? ⟨w.heap.size, 0, none⟩ = some (.slice (some ⟨b, off, none⟩) ps.length cp)
  box1 : wr.cell? ⟨w.heap.size + 1, 0, none⟩ = some (.int .i64 (va x))
  hv : w.heap.size + 2 ≤ Bv
  hlt : Bv < wr.heap.size
  vals : ∀ j, j < 16 → wr.cell? ⟨Bv, j, none⟩ = some (.int .i64 (va (vl j))) ∧ wr.frozen? ⟨Bv, j, none⟩ = false
  below : Below w.heap.size w wr
theorem ISt.drewN {w wr : World} {ps : List (FP × FP)} {x : FP} {b off cp Bv : Nat} {vl : Nat → FP} (h : ISt w wr ps x b off cp Bv vl) (n : Nat) : ISt w (wr.drewN n) ps x b off cp Bv vl :=
  ⟨h.box0, h.box1, h.hv, h.hlt, h.vals, below_drewN h.below n⟩
theorem ISt.alloc {w wr : World} {ps : List (FP × FP)} {x : FP} {b off cp Bv : Nat} {vl : Nat → FP} (h : ISt w wr ps x b off cp Bv vl) (o : Obj) : ISt w (wr.alloc o) ps x b off cp Bv vl := by
  have h0 := h.below.size
  have hv := h.hv
  have hlt := h.hlt
  refine ⟨?_, ?_, h.hv, by simp; omega, fun j hj => ⟨?_, ?_⟩, h.below.alloc h0 o⟩
  · rw [World.cell?_alloc_past _ _ _ (World.block_lt_of_cell? _ _ h.box0)]; exact h.box0
  · rw [World.cell?_alloc_past _ _ _ (World.block_lt_of_cell? _ _ h.box1)]; exact h.box1
  · rw [World.cell?_alloc_past _ _ _ hlt]; exact (h.vals j hj).1
  · rw [World.frozen?_of_block (w := wr) (a := ⟨Bv, j, none⟩) (Below.heap_alloc wr o Bv hlt)]; exact (h.vals j hj).2
def setV (vl : Nat → FP) (i : Nat) (y : FP) (j : Nat) : FP := if j = i then y else vl j
theorem ISt.set_ {w wr : World} {ps : List (FP × FP)} {x : FP} {b off cp Bv : Nat} {vl : Nat → FP} (h : ISt w wr ps x b off cp Bv vl) {i : Nat} (hi : i < 16) (y : FP) : ISt w (wr.setCell ⟨Bv, i, none⟩ (.int .i64 (va y))) ps x b off cp Bv (setV vl i y) := by
  have hv := h.hv
  refine ⟨?_, ?_, h.hv, by simpa using h.hlt, fun j hj => ⟨?_, ?_⟩, h.below.setCell (by simp only; omega) _⟩
  · rw [World.cell?_setCell_other _ _ _ _ (by intro e; injection e; omega)]; exact h.box0
  · rw [World.cell?_setCell_other _ _ _ _ (by intro e; injection e; omega)]; exact h.box1
  · unfold setV
    by_cases e : j = i
    · subst e
      rw [if_pos rfl]; exact World.cell?_setCell_same _ _ _ (h.vals j hj).1
    · rw [if_neg e, World.cell?_setCell_other _ _ _ _ (by intro e'; injection e'; omega)]
      exact (h.vals j hj).1
  · rw [World.frozen?_setCell]; exact (h.vals j hj).2
theorem ISt.pt {w wr : World} {ps : List (FP × FP)} {x : FP} {b off cp Bv : Nat} {vl : Nat → FP} (h : ISt w wr ps x b off cp Bv vl) 
    (hC : ∀ k, k < ps.length → w.cell? ⟨b, off + k * 2, none⟩ = some (.int .i64 (va (px ps k))) ∧ w.cell? ⟨b, off + k * 2 + 1, none⟩ = some (.int .i64 (va (py ps k)))) :
    ∀ k, k < ps.length → wr.cell? ⟨b, off + k * 2, none⟩ = some (.int .i64 (va (px ps k))) ∧ wr.cell? ⟨b, off + k * 2 + 1, none⟩ = some (.int .i64 (va (py ps k))) :=
  fun k hk => ⟨keep_cell h.below (hC k hk).1, keep_cell h.below (hC k hk).2⟩
end Go.Proofs.Ytahlhiiekgnmpab
