/- law 46: the boxes of a law, and its calc. -/
import Derived.Test.YtblpnekjnaaeoaaGreatDoorMqN
set_option linter.unusedVariables false
set_option linter.unusedSimpArgs false
namespace Go.Proofs.YtblpnekjnaaeoaaGreatDoor
open Go.RowKit

/-- The boxes of a law. -/
structure LS0 (w W : World) (l : List (Nat × T3)) : Prop where
  bel : Below w.heap.size w W
  rc : ∀ p ∈ l, RC W p.1 p.2.1 p.2.2.1 p.2.2.2 ∧ w.heap.size ≤ p.1
  nd : (l.map Prod.fst).Nodup
theorem LS0.start (w : World) : LS0 w w [] := ⟨Below.refl _ _, (fun p h => by cases h), List.nodup_nil⟩
theorem LS0.below {w W W' : World} {l : List (Nat × T3)} (h : LS0 w W l) (hb : Below W.heap.size W W') : LS0 w W' l :=
  ⟨bStepM h.bel hb, fun p hp => ⟨(h.rc p hp).1.below hb, (h.rc p hp).2⟩, h.nd⟩
theorem LS0.box {w W : World} {l : List (Nat × T3)} (h : LS0 w W l) (x : T3) (T : TypeId) : LS0 w (W.alloc (.cells #[.bool x.1, .string x.2.1, .string x.2.2] T)) ((W.heap.size, x) :: l) := by
  have hba := bAlloc (Below.refl W.heap.size W) (.cells #[.bool x.1, .string x.2.1, .string x.2.2] T)
  refine ⟨bStepM h.bel hba, fun p hp => ?_, ?_⟩
  · rcases List.mem_cons.1 hp with rfl | hp
    · exact ⟨RC.new W x.1 x.2.1 x.2.2 T, h.bel.size⟩
    · exact ⟨(h.rc p hp).1.below hba, (h.rc p hp).2⟩
  · rw [List.map_cons, List.nodup_cons]
    refine ⟨fun hm => ?_, h.nd⟩
    obtain ⟨p, hp, e⟩ := List.mem_map.1 hm
    have := (h.rc p hp).1.lt
    simp only at e
    omega
/-- The boxes of a law, and the cell of its calc. -/
structure LS (w W : World) (C : Nat) (f : Bool) (l : List (Nat × T3)) : Prop where
  bel : Below w.heap.size w W
  cf : CF W C f
  low : w.heap.size ≤ C
  rc : ∀ p ∈ l, RC W p.1 p.2.1 p.2.2.1 p.2.2.2 ∧ w.heap.size ≤ p.1 ∧ p.1 ≠ C
  nd : (l.map Prod.fst).Nodup
theorem LS0.calc {w W : World} {l : List (Nat × T3)} (h : LS0 w W l) (T : TypeId) : LS w (W.alloc (.cells #[.bool false] T)) W.heap.size false l := by
  have hba := bAlloc (Below.refl W.heap.size W) (.cells #[.bool false] T)
  refine ⟨bStepM h.bel hba, CF.new W T, h.bel.size, fun p hp => ⟨(h.rc p hp).1.below hba, (h.rc p hp).2, ?_⟩, h.nd⟩
  have := (h.rc p hp).1.lt
  omega
theorem LS.below {w W W' : World} {C : Nat} {f : Bool} {l : List (Nat × T3)} (h : LS w W C f l) (hb : Below W.heap.size W W') : LS w W' C f l :=
  ⟨bStepM h.bel hb, h.cf.below hb, h.low, fun p hp => ⟨(h.rc p hp).1.below hb, (h.rc p hp).2⟩, h.nd⟩
theorem LS.grown {w W W' : World} {C : Nat} {f f' : Bool} {l : List (Nat × T3)} (h : LS w W C f l) (hg : W.grownBy W' (some C)) (hc : CF W' C f') : LS w W' C f' l :=
  ⟨h.bel.grown hg h.bel.size (fun k e => by injection e with e; have := h.low; omega), hc, h.low, fun p hp => ⟨(h.rc p hp).1.keptM hg (fun e => (h.rc p hp).2.2 (by injection e)), (h.rc p hp).2⟩, h.nd⟩
theorem LS.box {w W : World} {C : Nat} {f : Bool} {l : List (Nat × T3)} (h : LS w W C f l) (x : T3) (T : TypeId) : LS w (W.alloc (.cells #[.bool x.1, .string x.2.1, .string x.2.2] T)) C f ((W.heap.size, x) :: l) := by
  have hba := bAlloc (Below.refl W.heap.size W) (.cells #[.bool x.1, .string x.2.1, .string x.2.2] T)
  refine ⟨bStepM h.bel hba, h.cf.below hba, h.low, fun p hp => ?_, ?_⟩
  · rcases List.mem_cons.1 hp with rfl | hp
    · have := h.cf.lt
      exact ⟨RC.new W x.1 x.2.1 x.2.2 T, h.bel.size, by simp only; omega⟩
    · exact ⟨(h.rc p hp).1.below hba, (h.rc p hp).2⟩
  · rw [List.map_cons, List.nodup_cons]
    refine ⟨fun hm => ?_, h.nd⟩
    obtain ⟨p, hp, e⟩ := List.mem_map.1 hm
    have := (h.rc p hp).1.lt
    simp only at e
    omega
theorem LS.store {w W : World} {C X : Nat} {f : Bool} {z : T3} {l : List (Nat × T3)} (h : LS w W C f ((X, z) :: l)) (x : T3) : LS w (((W.setCell ⟨X, 0, none⟩ (.bool x.1)).setCell ⟨X, 1, none⟩ (.string x.2.1)).setCell ⟨X, 2, none⟩ (.string x.2.2)) C f ((X, x) :: l) := by
  have hg := grown_setM3 W X 0 1 2 (.bool x.1) (.string x.2.1) (.string x.2.2)
  obtain ⟨h1, h2, h3⟩ := h.rc (X, z) (List.mem_cons_self ..)
  simp only at h1 h2 h3
  have hnd := h.nd
  rw [List.map_cons, List.nodup_cons] at hnd
  refine ⟨h.bel.trans (bSetM3 h2 h1.lt), h.cf.keptM hg (fun e => h3 (by injection e with e; exact e.symm)), h.low, fun p hp => ?_, h.nd⟩
  rcases List.mem_cons.1 hp with rfl | hp
  · exact ⟨h1.set3 x.1 x.2.1 x.2.2, h2, h3⟩
  · obtain ⟨a, b, c⟩ := h.rc p (List.mem_cons_of_mem _ hp)
    refine ⟨a.keptM hg (fun e => hnd.1 ?_), b, c⟩
    injection e with e
    exact List.mem_map.2 ⟨p, hp, e⟩
theorem LS.swap {w W : World} {C : Nat} {f : Bool} {a b : Nat × T3} {l : List (Nat × T3)} (h : LS w W C f (a :: b :: l)) : LS w W C f (b :: a :: l) :=
  ⟨h.bel, h.cf, h.low, fun p hp => h.rc p (by
    rcases List.mem_cons.1 hp with rfl | hp
    · exact List.mem_cons_of_mem _ (List.mem_cons_self ..)
    · rcases List.mem_cons.1 hp with rfl | hp
      · exact List.mem_cons_self ..
      · exact List.mem_cons_of_mem _ (List.mem_cons_of_mem _ hp)), by
    have := h.nd
    simp only [List.map_cons, List.nodup_cons, List.mem_cons] at this ⊢
    obtain ⟨h1, h2, h3⟩ := this
    refine ⟨fun e => ?_, fun e => h1 (Or.inr e), h3⟩
    rcases e with e | e
    · exact h1 (Or.inl e.symm)
    · exact h2 e⟩
end Go.Proofs.YtblpnekjnaaeoaaGreatDoor
