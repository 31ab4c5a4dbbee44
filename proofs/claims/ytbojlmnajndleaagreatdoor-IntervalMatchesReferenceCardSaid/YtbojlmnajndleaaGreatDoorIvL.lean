/- IntervalEnds. -/
import Derived.Test.YtbojlmnajndleaaGreatDoorIvY
set_option linter.unusedVariables false
set_option linter.unusedSimpArgs false
namespace Go.Proofs.YtbojlmnajndleaaGreatDoor
open Go.RowKit Go.Sort

/-- A variable that a region makes, before it is set. -/
def ZW (u W : World) (b : Nat) : Prop := RC W b false ⟨#[]⟩ ⟨#[]⟩ ∧ u.heap.size ≤ b
theorem ZW.new {u W : World} (h : Below u.heap.size u W) (T : TypeId) : ZW u (W.alloc (.cells #[.bool false, .string ⟨#[]⟩, .string ⟨#[]⟩] T)) W.heap.size := ⟨RC.new _ _ _ _ _, h.size⟩
theorem ZW.newd {u W : World} (h : Below u.heap.size u W) (T : TypeId) : ZW u (W.alloc (.cells #[.bool false, .string ⟨#[]⟩, .string ⟨#[]⟩] T)).drew W.heap.size := ⟨(RC.new _ _ _ _ _).below (Below.refl _ _).drew, h.size⟩
theorem ZW.below {u W W' : World} {b : Nat} (h : ZW u W b) (hb : Below W.heap.size W W') : ZW u W' b := ⟨h.1.below hb, h.2⟩
/-- The region has set its variable. -/
theorem end_new {w u W : World} {L : List (Nat × List Value)} (hv : VB w u L) (h : Below u.heap.size u W) (x : Q3) (T : TypeId) : VB w (W.alloc (.cells #[.bool x.1, .string x.2.1, .string x.2.2] T)) ((W.heap.size, [.bool x.1, .string x.2.1, .string x.2.2]) :: L) ∧ Below u.heap.size u (W.alloc (.cells #[.bool x.1, .string x.2.1, .string x.2.2] T)) :=
  ⟨(hv.below h).push rfl _ T, bAlloc h _⟩
theorem VB.cons {w u W : World} {L : List (Nat × List Value)} {b : Nat} {vs : List Value} (hv : VB w u L) (h : Below u.heap.size u W) (hz : BV W b vs) (hlo : u.heap.size ≤ b) (hlt : b < W.heap.size) : VB w W ((b, vs) :: L) := by
  have h2 := hv.below h
  refine ⟨h2.bel, fun x hx => ?_, fun x hx => ?_, fun x hx => ?_, List.Pairwise.cons (fun y hy => Nat.lt_of_lt_of_le (hv.lt y hy) hlo) hv.ord⟩
  · rcases List.mem_cons.1 hx with rfl | hx
    · exact hz
    · exact h2.all x hx
  · rcases List.mem_cons.1 hx with rfl | hx
    · exact hlt
    · exact h2.lt x hx
  · rcases List.mem_cons.1 hx with rfl | hx
    · exact Nat.le_trans hv.bel.size hlo
    · exact h2.lo x hx
theorem end_set {w u W : World} {L : List (Nat × List Value)} {b : Nat} (hv : VB w u L) (h : Below u.heap.size u W) (hz : ZW u W b) (x : Q3) : VB w (((W.setCell ⟨b, 0, none⟩ (.bool x.1)).setCell ⟨b, 1, none⟩ (.string x.2.1)).setCell ⟨b, 2, none⟩ (.string x.2.2)) ((b, [.bool x.1, .string x.2.1, .string x.2.2]) :: L) ∧ Below u.heap.size u (((W.setCell ⟨b, 0, none⟩ (.bool x.1)).setCell ⟨b, 1, none⟩ (.string x.2.1)).setCell ⟨b, 2, none⟩ (.string x.2.2)) := by
  have hB := bset3 h hz.2 (.bool x.1) (.string x.2.1) (.string x.2.2)
  obtain ⟨z0, z1, z2, f0, f1, f2⟩ := hz.1
  refine ⟨VB.cons hv hB ?_ hz.2 (by simpa using hz.1.lt), hB⟩
  intro i hi
  simp only [List.length_cons, List.length_nil] at hi
  have : i = 0 ∨ i = 1 ∨ i = 2 := by omega
  rcases this with rfl | rfl | rfl
  · exact ⟨by simp [go_sem, z0, z1, z2], by simp [f0]⟩
  · exact ⟨by simp [go_sem, z0, z1, z2], by simp [f1]⟩
  · exact ⟨by simp [go_sem, z0, z1, z2], by simp [f2]⟩
end Go.Proofs.YtbojlmnajndleaaGreatDoor
