/- rational: Compare. -/
import Derived.Test.YtcgplokdklomlaaGreatDoorPkI
import Derived.Deep.LoopGhost
import Derived.Deep.CutBlock
set_option linter.unusedVariables false
set_option linter.unusedSimpArgs false
namespace Go.Proofs.YtcgplokdklomlaaGreatDoor
open Go.RowKit

/-- Two naturals in an array of two. -/
structure PC (w : World) (b : Nat) (s t : ByteArray) : Prop where
  c0 : w.cell? ⟨b, 0, none⟩ = some (.string s)
  c1 : w.cell? ⟨b, 1, none⟩ = some (.string t)
  f0 : w.frozen? ⟨b, 0, none⟩ = false
  f1 : w.frozen? ⟨b, 1, none⟩ = false
theorem PC.lt {w : World} {b : Nat} {s t : ByteArray} (h : PC w b s t) : b < w.heap.size := World.block_lt_of_cell? _ _ h.c0
theorem PC.below {w w' : World} {b : Nat} {s t : ByteArray} (h : PC w b s t) (hb : Below w.heap.size w w') : PC w' b s t :=
  ⟨keep_cell hb h.c0, keep_cell hb h.c1, (hb.frozen (p := ⟨b, 0, none⟩) h.lt).trans h.f0, (hb.frozen (p := ⟨b, 1, none⟩) h.lt).trans h.f1⟩
theorem PC.set {w : World} {b : Nat} {s t : ByteArray} (h : PC w b s t) (s' t' : ByteArray) : PC ((w.setCell ⟨b, 0, none⟩ (.string s')).setCell ⟨b, 1, none⟩ (.string t')) b s' t' := by
  have n01 : (⟨b, 0, none⟩ : Addr) ≠ ⟨b, 1, none⟩ := by intro e; injection e with _ e; omega
  refine ⟨?_, ?_, ?_, ?_⟩
  · rw [World.cell?_setCell_other _ _ _ _ n01.symm]; exact World.cell?_setCell_same _ _ _ h.c0
  · exact World.cell?_setCell_same _ _ _ ((World.cell?_setCell_other w ⟨b, 0, none⟩ ⟨b, 1, none⟩ (.string s') n01).trans h.c1)
  · simp only [World.frozen?_setCell]; exact h.f0
  · simp only [World.frozen?_setCell]; exact h.f1
theorem PC.far {w : World} {b c : Nat} {s t : ByteArray} (h : PC w b s t) (hne : b ≠ c) (x y : Value) : PC ((w.setCell ⟨c, 0, none⟩ x).setCell ⟨c, 1, none⟩ y) b s t := by
  have n : ∀ i j, (⟨c, i, none⟩ : Addr) ≠ ⟨b, j, none⟩ := fun i j e => by injection e with e; exact hne e.symm
  refine ⟨?_, ?_, ?_, ?_⟩
  · rw [World.cell?_setCell_other _ _ _ _ (n 1 0), World.cell?_setCell_other _ _ _ _ (n 0 0)]; exact h.c0
  · rw [World.cell?_setCell_other _ _ _ _ (n 1 1), World.cell?_setCell_other _ _ _ _ (n 0 1)]; exact h.c1
  · simp only [World.frozen?_setCell]; exact h.f0
  · simp only [World.frozen?_setCell]; exact h.f1
theorem PC.new_at (w : World) (s t : ByteArray) (T : TypeId) {b : Nat} (hb : w.heap.size = b) : PC (w.alloc (.cells #[.string s, .string t] T)) b s t := by
  subst hb; exact ⟨by simp [go_sem], by simp [go_sem], by simp [go_sem], by simp [go_sem]⟩
/-- Two arrays, behind what was there. -/
structure P2 (w W : World) (B C : Nat) (s t u v : ByteArray) : Prop where
  bel : Below w.heap.size w W
  p : PC W B s t
  q : PC W C u v
  ne : B ≠ C
  hB : w.heap.size ≤ B
  hC : w.heap.size ≤ C
theorem P2.below {w W W' : World} {B C : Nat} {s t u v : ByteArray} (h : P2 w W B C s t u v) (hb : Below W.heap.size W W') : P2 w W' B C s t u v :=
  ⟨bStep h.bel hb, h.p.below hb, h.q.below hb, h.ne, h.hB, h.hC⟩
theorem P2.set {w W : World} {B C : Nat} {s t u v : ByteArray} (h : P2 w W B C s t u v) (s' t' u' v' : ByteArray) :
    P2 w ((((W.setCell ⟨B, 0, none⟩ (.string s')).setCell ⟨B, 1, none⟩ (.string t')).setCell ⟨C, 0, none⟩ (.string u')).setCell ⟨C, 1, none⟩ (.string v')) B C s' t' u' v' :=
  ⟨(((h.bel.setCell (p := ⟨B, 0, none⟩) h.hB _).setCell (p := ⟨B, 1, none⟩) h.hB _).setCell (p := ⟨C, 0, none⟩) h.hC _).setCell (p := ⟨C, 1, none⟩) h.hC _, (h.p.set s' t').far h.ne _ _, (h.q.far h.ne.symm _ _).set u' v', h.ne, h.hB, h.hC⟩
def CqPost (w : World) (z : Int) (e : Ending) (w' : World) : Prop := e = .returned (.int .i64 z) ∧ Below w.heap.size w w'
theorem P2.new {w wc : World} (h : Below w.heap.size w wc) (s t u v : ByteArray) (T T' : TypeId) : P2 w ((wc.alloc (.cells #[.string s, .string t] T)).alloc (.cells #[.string u, .string v] T')).drew wc.heap.size (wc.heap.size + 1) s t u v :=
  ⟨(bAlloc (bAlloc h _) _).drew, ((PC.new_at wc s t T rfl).below (bAlloc (Below.refl _ _) _)).below (Below.refl _ _).drew, (PC.new_at (wc.alloc (.cells #[.string s, .string t] T)) u v T' (by simp)).below (Below.refl _ _).drew, by omega, h.size, by have := h.size; omega⟩
theorem P2.new2 {w wc : World} (h : Below w.heap.size w wc) (s t u v : ByteArray) (T T' : TypeId) : P2 w ((wc.alloc (.cells #[.string u, .string v] T')).alloc (.cells #[.string s, .string t] T)).drew (wc.heap.size + 1) wc.heap.size s t u v :=
  ⟨(bAlloc (bAlloc h _) _).drew, (PC.new_at (wc.alloc (.cells #[.string u, .string v] T')) s t T (by simp)).below (Below.refl _ _).drew, ((PC.new_at wc u v T' rfl).below (bAlloc (Below.refl _ _) _)).below (Below.refl _ _).drew, by omega, by have := h.size; omega, h.size⟩
/-- Both numbers in their variables. -/
structure P3 (w W : World) (g h : Bool) (s1 s2 t1 t2 : ByteArray) : Prop where
  bel : Below w.heap.size w W
  a : RC W w.heap.size g s1 s2
  b : RC W (w.heap.size + 1) h t1 t2
theorem P3.below {w W W' : World} {g h : Bool} {s1 s2 t1 t2 : ByteArray} (p : P3 w W g h s1 s2 t1 t2) (hb : Below W.heap.size W W') : P3 w W' g h s1 s2 t1 t2 := ⟨bStep p.bel hb, p.a.below hb, p.b.below hb⟩
theorem P3.drew {w W : World} {g h : Bool} {s1 s2 t1 t2 : ByteArray} (p : P3 w W g h s1 s2 t1 t2) : P3 w W.drew g h s1 s2 t1 t2 := p.below (Below.refl _ _).drew
theorem P3.setA {w W : World} {g h : Bool} {s1 s2 t1 t2 : ByteArray} (p : P3 w W g h s1 s2 t1 t2) (g' : Bool) (u v : ByteArray) : P3 w (((W.setCell ⟨w.heap.size, 0, none⟩ (.bool g')).setCell ⟨w.heap.size, 1, none⟩ (.string u)).setCell ⟨w.heap.size, 2, none⟩ (.string v)) g' h u v t1 t2 :=
  ⟨bset3 p.bel (Nat.le_refl _) _ _ _, p.a.set3 g' u v, p.b.only (Only2.set3 _ _ _ _ _) (by omega)⟩
theorem P3.setB {w W : World} {g h : Bool} {s1 s2 t1 t2 : ByteArray} (p : P3 w W g h s1 s2 t1 t2) (g' : Bool) (u v : ByteArray) : P3 w (((W.setCell ⟨w.heap.size + 1, 0, none⟩ (.bool g')).setCell ⟨w.heap.size + 1, 1, none⟩ (.string u)).setCell ⟨w.heap.size + 1, 2, none⟩ (.string v)) g g' s1 s2 u v :=
  ⟨bset3 p.bel (by omega) _ _ _, p.a.only (Only2.set3 _ _ _ _ _) (by omega), p.b.set3 g' u v⟩
theorem cmpN_ne_lt {x y : Nat} (h : x < y) : (cmpN x y != 0) = true := by rw [cmpN_lt h]; rfl
theorem num_neg_of {p : Rat} (h : ngQ p = true) : p.num < 0 := by unfold ngQ at h; exact of_decide_eq_true h
theorem num_pos_of {p : Rat} (h : ngQ p = false) : 0 ≤ p.num := by unfold ngQ at h; have := of_decide_eq_false h; omega
theorem cmpQ_np {p q : Rat} (hp : ngQ p = true) (hq : ngQ q = false) : p < q := by
  rw [Rat.lt_iff]
  have h1 := num_neg_of hp
  have h2 := num_pos_of hq
  have h3 : p.num * (q.den : Int) < 0 := Int.mul_neg_of_neg_of_pos h1 (by have := den_pos q; omega)
  have h4 : 0 ≤ q.num * (p.den : Int) := Int.mul_nonneg h2 (by omega)
  omega
theorem valid_hyp {g : Bool} {s t : ByteArray} (hs : s.size ≤ maxLen) (ht : t.size ≤ maxLen) {b : Bool} (h : vldR g s t = b) : Hid (∀ W, LawW W → Calls Tryz.prog 37 #[.agg #[.bool g, .string s, .string t]] W fun e w' => e = .returned (.bool b) ∧ Below W.heap.size W w') := fun W hW => by
  have := rat_valid g s t W hs ht hW
  rw [h] at this; exact this
theorem parts_ne {p q : Rat} (h : p ≠ q) (hg : ngQ p = ngQ q) : ((natS (nmQ p)).toList == (natS (nmQ q)).toList) = false ∨ (((natS (nmQ p)).toList == (natS (nmQ q)).toList) = true ∧ ((natS p.den).toList == (natS q.den).toList) = false) := by
  by_cases h1 : nmQ p = nmQ q
  · refine .inr ⟨by rw [h1]; simp, ?_⟩
    refine beq_eq_false_iff_ne.2 fun e => h (q_ext hg h1 (natS_inj (ba_eq ?_)))
    rwa [ByteArray.toList_eq, ByteArray.toList_eq] at e
  · refine .inl (beq_eq_false_iff_ne.2 fun e => h1 (natS_inj (ba_eq ?_)))
    rwa [ByteArray.toList_eq, ByteArray.toList_eq] at e
end Go.Proofs.YtcgplokdklomlaaGreatDoor
