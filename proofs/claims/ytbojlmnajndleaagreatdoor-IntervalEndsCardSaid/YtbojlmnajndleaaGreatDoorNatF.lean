/- natural: div. -/
import Derived.Test.YtbojlmnajndleaaGreatDoorNatE
set_option linter.unusedVariables false
set_option linter.unusedSimpArgs false
namespace Go.Proofs.YtbojlmnajndleaaGreatDoor
open Go.RowKit

/-- Binary search for a quotient's limb. -/
def SearchI (y r lo hi : Nat) : Prop := lo * y ≤ r ∧ r < (hi + 1) * y ∧ 1 ≤ lo ∧ lo ≤ hi ∧ hi ≤ 999999999
theorem SearchI.start {y r : Nat} (h1 : y ≤ r) (h2 : r < Bs * y) : SearchI y r 1 999999999 := by
  refine ⟨by omega, ?_, by omega, by omega, by omega⟩
  rw [Bs_eq] at h2; omega
theorem SearchI.up {y r lo hi mid : Nat} (h : SearchI y r lo hi) (h1 : mid * y ≤ r) (h2 : lo ≤ mid) (h3 : mid ≤ hi) : SearchI y r mid hi := by
  obtain ⟨a, b, c, d, e⟩ := h
  exact ⟨h1, b, by omega, h3, e⟩
theorem SearchI.down {y r lo hi mid : Nat} (h : SearchI y r lo hi) (h1 : r < mid * y) (h2 : lo < mid) (h3 : mid ≤ hi) : SearchI y r lo (mid - 1) := by
  obtain ⟨a, b, c, d, e⟩ := h
  refine ⟨a, ?_, c, by omega, by omega⟩
  have : mid - 1 + 1 = mid := by omega
  rw [this]; exact h1
theorem SearchI.done {y r lo hi : Nat} (h : SearchI y r lo hi) (e : ¬ lo < hi) : lo * y ≤ r ∧ r < (lo + 1) * y ∧ lo < 1000000000 := by
  obtain ⟨a, b, c, d, e'⟩ := h
  obtain rfl : lo = hi := by omega
  exact ⟨a, b, by omega⟩

/-- What div's loop keeps: above place k the quotient is known, and the rest. -/
structure DivI (w : World) (B : Nat) (x : List Nat) (y : Nat) (k : Nat) (q : Value) (qs : List Nat) (r : Nat) : Prop where
  own : OwnS w B 1 q x.length (flatV vN qs)
  lm : Lm qs
  eq : lval (qs.drop k) * y + r = lval (x.drop k)
  lt : r < y
theorem DivI.len {w : World} {B : Nat} {x : List Nat} {y k : Nat} {q : Value} {qs : List Nat} {r : Nat} (h : DivI w B x y k q qs r) : qs.length = x.length := by
  have := h.own.1; rw [flat_vN_len, Nat.mul_one] at this; exact this
theorem DivI.below {w w' : World} {B : Nat} {x : List Nat} {y k : Nat} {q : Value} {qs : List Nat} {r : Nat} (h : DivI w B x y k q qs r) (hb : Below w.heap.size w w') : DivI w' B x y k q qs r :=
  ⟨h.own.below hb, h.lm, h.eq, h.lt⟩
theorem zeros_drop_at (n k : Nat) : lval ((List.replicate n 0).drop k) = 0 := by rw [List.drop_replicate, lval_zeros]
/-- The limb is 0. -/
theorem DivI.skip {w w' : World} {B : Nat} {x : List Nat} {y k : Nat} {q : Value} {qs : List Nat} {r : Nat} (h : DivI w B x y (k + 1) q qs r) (hk : k < x.length) (hb : Below w.heap.size w w') (hz : qs.drop k = 0 :: qs.drop (k + 1)) (hlt : x[k] + Bs * r < y) : DivI w' B x y k q qs (x[k] + Bs * r) := by
  refine ⟨h.own.below hb, h.lm, ?_, hlt⟩
  rw [hz, lval_drop hk, ← h.eq]
  show (0 + Bs * lval (qs.drop (k + 1))) * y + (x[k] + Bs * r) = _
  rw [Nat.zero_add, Nat.mul_add, Nat.mul_assoc]; omega
/-- The limb is t. -/
theorem DivI.put {w : World} {B : Nat} {x : List Nat} {y k : Nat} {g off cap : Nat} {qs : List Nat} {r : Nat} (h : DivI w B x y (k + 1) (.slice (some ⟨g, off, none⟩) x.length cap) qs r) (hk : k < x.length) {t : Nat} (ht : t < 1000000000) (h1 : t * y ≤ x[k] + Bs * r) (h2 : x[k] + Bs * r < (t + 1) * y) :
    DivI (w.setCell ⟨g, off + k, none⟩ (.int .i64 (t : Int))) B x y k (.slice (some ⟨g, off, none⟩) x.length cap) (qs.set k t) (x[k] + Bs * r - t * y) := by
  refine ⟨by rw [flat_vN_set]; exact h.own.setOwn hk _, h.lm.set ht k, ?_, ?_⟩
  · rw [set_drop (by rw [h.len]; exact hk), lval_drop hk]
    exact div_step h.eq rfl h1
  · rw [Nat.add_mul] at h2; omega
theorem DivI.start (w : World) (x : List Nat) (y : Nat) (hy : 0 < y) (hx : x.length ≤ maxLen) : DivI (w.alloc (.cells (madeCells #[.int .i64 0] x.length) 3)) w.heap.size x y x.length (.slice (some ⟨w.heap.size, 0, none⟩) x.length x.length) (List.replicate x.length 0) 0 :=
  ⟨OwnS.made0 w _ _ hx, Lm.zeros _, by rw [zeros_drop_at, List.drop_eq_nil_of_le (Nat.le_refl _)]; simp [lval], hy⟩
theorem DivI.finish {w : World} {B : Nat} {x : List Nat} {y : Nat} {q : Value} {qs : List Nat} {r : Nat} (h : DivI w B x y 0 q qs r) : SliceOf vN 1 w q qs ∧ lval qs = lval x / y ∧ r = lval x % y := by
  have := div_end h.eq h.lt
  rw [List.drop_zero, List.drop_zero] at this
  exact ⟨OwnS.slice vN_len (B := B) (by rw [h.len]; exact h.own), this⟩
/-- Below place k the quotient's row holds zeros. -/
def ZerosTo (qs : List Nat) (k : Nat) : Prop := ∀ j (h : j < qs.length), j < k → qs[j] = 0
theorem zeros_at {qs : List Nat} {k : Nat} (h : ZerosTo qs (k + 1)) (hk : k < qs.length) : qs.drop k = 0 :: qs.drop (k + 1) := by
  rw [List.drop_eq_getElem_cons hk, h k hk (by omega)]
theorem ZerosTo.less {qs : List Nat} {k : Nat} (h : ZerosTo qs (k + 1)) : ZerosTo qs k := fun j hj hk => h j hj (by omega)
theorem ZerosTo.set {qs : List Nat} {k : Nat} (h : ZerosTo qs (k + 1)) (t : Nat) : ZerosTo (qs.set k t) k := fun j hj hk => by
  rw [List.getElem_set_ne (by omega)]; exact h j (by simpa using hj) (by omega)
theorem ZerosTo.start (n : Nat) : ZerosTo (List.replicate n 0) n := fun j hj _ => by simp
def DivPost (w : World) (X y : Nat) (e : Ending) (w' : World) : Prop := ∃ q r, e = .returned (.tuple #[q, r]) ∧ SliceOf vN 1 w' q (lim (X / y)) ∧ SliceOf vN 1 w' r (lim (X % y)) ∧ Below w.heap.size w w'
theorem cons_lim {d r : Nat} : lval (d :: lim r) = d + Bs * r := by show d + Bs * lval (lim r) = _; rw [lval_lim]
end Go.Proofs.YtbojlmnajndleaaGreatDoor
