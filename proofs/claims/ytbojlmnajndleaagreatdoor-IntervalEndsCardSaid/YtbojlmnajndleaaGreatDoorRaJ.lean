/- law 04: head. -/
import Derived.Test.YtbojlmnajndleaaGreatDoorRaI
set_option linter.unusedVariables false
set_option linter.unusedSimpArgs false
namespace Go.Proofs.YtbojlmnajndleaaGreatDoor
open Go.RowKit

/-- The numbers in the variables of a law. -/
def VL (W : World) (L : List (Nat × Bool × ByteArray × ByteArray)) : Prop := ∀ x ∈ L, RC W x.1 x.2.1 x.2.2.1 x.2.2.2
theorem VL.below {W W' : World} {L : List (Nat × Bool × ByteArray × ByteArray)} (h : VL W L) (hb : Below W.heap.size W W') : VL W' L := fun x hx => (h x hx).below hb
theorem VL.nil (W : World) : VL W [] := fun x hx => by simp at hx
theorem VL.cons {W : World} {L : List (Nat × Bool × ByteArray × ByteArray)} {b : Nat} {g : Bool} {s t : ByteArray} (h : VL W L) (r : RC W b g s t) : VL W ((b, g, s, t) :: L) := fun x hx => by
  rcases List.mem_cons.1 hx with e | e
  · rw [e]; exact r
  · exact h x e
theorem VL.push {W W' : World} {L : List (Nat × Bool × ByteArray × ByteArray)} (h : VL W L) (hb : Below W.heap.size W W') (g : Bool) (s t : ByteArray) (T : TypeId) : VL (W'.alloc (.cells #[.bool g, .string s, .string t] T)) ((W'.heap.size, g, s, t) :: L) :=
  ((h.below hb).below (bAlloc (Below.refl _ _) _)).cons (RC.new W' g s t T)
theorem VL.pushAt {W : World} {L : List (Nat × Bool × ByteArray × ByteArray)} (h : VL W L) {b : Nat} (hb : W.heap.size = b) (g : Bool) (s t : ByteArray) (T : TypeId) : VL (W.alloc (.cells #[.bool g, .string s, .string t] T)) ((b, g, s, t) :: L) :=
  (h.below (bAlloc (Below.refl _ _) _)).cons (RC.new_at W g s t T hb)
theorem VL.cells3 {W : World} {L : List (Nat × Bool × ByteArray × ByteArray)} (h : VL W L) {b : Nat} {g : Bool} {s t : ByteArray} (hm : (b, g, s, t) ∈ L) : W.cell? ⟨b, 0, none⟩ = some (.bool g) ∧ W.cell? ⟨b, 1, none⟩ = some (.string s) ∧ W.cell? ⟨b, 2, none⟩ = some (.string t) :=
  ⟨(h _ hm).c0, (h _ hm).c1, (h _ hm).c2⟩
/-- The world of a law with its variables, all below block N. -/
structure VS (w : World) (N : Nat) (W : World) (L : List (Nat × Bool × ByteArray × ByteArray)) : Prop where
  bel : Below w.heap.size w W
  vl : VL W L
  le : N ≤ W.heap.size
  lt : ∀ x ∈ L, x.1 < N
  lo : w.heap.size ≤ N
theorem VS.start {w W : World} {L : List (Nat × Bool × ByteArray × ByteArray)} (hb : Below w.heap.size w W) (hv : VL W L) : VS w W.heap.size W L := ⟨hb, hv, Nat.le_refl _, fun x hx => (hv x hx).lt, hb.size⟩
theorem VS.below {w W W' : World} {N : Nat} {L : List (Nat × Bool × ByteArray × ByteArray)} (h : VS w N W L) (hb : Below W.heap.size W W') : VS w N W' L := ⟨bStep h.bel hb, h.vl.below hb, Nat.le_trans h.le hb.size, h.lt, h.lo⟩
theorem VS.alloc {w W : World} {N : Nat} {L : List (Nat × Bool × ByteArray × ByteArray)} (h : VS w N W L) (o : Obj) : VS w N (W.alloc o) L := h.below (bAlloc (Below.refl _ _) o)
theorem VS.drew {w W : World} {N : Nat} {L : List (Nat × Bool × ByteArray × ByteArray)} (h : VS w N W L) : VS w N W.drew L := h.below (Below.refl _ _).drew
theorem VS.law {w W : World} {N : Nat} {L : List (Nat × Bool × ByteArray × ByteArray)} (h : VS w N W L) (hw : LawW w) : LawW W := hw.below h.bel
/-- A variable that a region makes, before it is set. -/
def ZC (N : Nat) (W : World) (b : Nat) : Prop := RC W b false ⟨#[]⟩ ⟨#[]⟩ ∧ N ≤ b
theorem ZC.new {w W : World} {N : Nat} {L : List (Nat × Bool × ByteArray × ByteArray)} (h : VS w N W L) (T : TypeId) : ZC N (W.alloc (.cells #[.bool false, .string ⟨#[]⟩, .string ⟨#[]⟩] T)) W.heap.size := ⟨RC.new _ _ _ _ _, h.le⟩
theorem ZC.newd {w W : World} {N : Nat} {L : List (Nat × Bool × ByteArray × ByteArray)} (h : VS w N W L) (T : TypeId) : ZC N (W.alloc (.cells #[.bool false, .string ⟨#[]⟩, .string ⟨#[]⟩] T)).drew W.heap.size := ⟨(RC.new _ _ _ _ _).below (Below.refl _ _).drew, h.le⟩
theorem ZC.below {N : Nat} {W W' : World} {b : Nat} (h : ZC N W b) (hb : Below W.heap.size W W') : ZC N W' b := ⟨h.1.below hb, h.2⟩
theorem VS.setZ {w W : World} {N b : Nat} {L : List (Nat × Bool × ByteArray × ByteArray)} (h : VS w N W L) (hz : ZC N W b) (x y z : Value) : VS w N (((W.setCell ⟨b, 0, none⟩ x).setCell ⟨b, 1, none⟩ y).setCell ⟨b, 2, none⟩ z) L :=
  ⟨bset3 h.bel (Nat.le_trans h.lo hz.2) _ _ _, fun v hv => (h.vl v hv).only (Only2.set3 _ _ _ _ _) (by have := h.lt v hv; have := hz.2; omega), by simpa using h.le, h.lt, h.lo⟩
theorem VL.get {W : World} {L : List (Nat × Bool × ByteArray × ByteArray)} (h : VL W L) {b : Nat} {g : Bool} {s t : ByteArray} (hm : (b, g, s, t) ∈ L) : RC W b g s t := h _ hm
def refL : List ByteArray := [⟨#[54, 47, 56]⟩, ⟨#[53, 47, 49]⟩, ⟨#[45, 48]⟩, ⟨#[]⟩, ⟨#[49, 47, 48]⟩, ⟨#[47, 50]⟩, ⟨#[48, 49]⟩]
def refC : Array Value := #[.string ⟨#[54, 47, 56]⟩, .string ⟨#[53, 47, 49]⟩, .string ⟨#[45, 48]⟩, .string ⟨#[]⟩, .string ⟨#[49, 47, 48]⟩, .string ⟨#[47, 50]⟩, .string ⟨#[48, 49]⟩]
end Go.Proofs.YtbojlmnajndleaaGreatDoor
