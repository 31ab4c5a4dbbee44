/- IntervalHulls. -/
import Derived.Test.YtbojlmnajndleaaGreatDoorIvL
import Derived.Deep.DeepCutAuto
set_option linter.unusedVariables false
set_option linter.unusedSimpArgs false
namespace Go.Proofs.YtbojlmnajndleaaGreatDoor
open Go.RowKit Go.Sort Go.Deep Go.ChangeShapes Go.WideShapes
/-- The cells of an interval. -/
def IvAt (W : World) (b o : Nat) (a : Q3 × Q3) : Prop := W.cell? ⟨b, o, none⟩ = some (.bool a.1.1) ∧ W.cell? ⟨b, o + 1, none⟩ = some (.string a.1.2.1) ∧ W.cell? ⟨b, o + 2, none⟩ = some (.string a.1.2.2) ∧ W.cell? ⟨b, o + 3, none⟩ = some (.bool a.2.1) ∧ W.cell? ⟨b, o + 4, none⟩ = some (.string a.2.2.1) ∧ W.cell? ⟨b, o + 5, none⟩ = some (.string a.2.2.2)
theorem ivat_of {W : World} {b o : Nat} {a : Q3 × Q3} (h : ∀ j u, (vIv a)[j]? = some u → W.cell? ⟨b, o + j, none⟩ = some u) : IvAt W b o a :=
  ⟨h 0 _ rfl, h 1 _ rfl, h 2 _ rfl, h 3 _ rfl, h 4 _ rfl, h 5 _ rfl⟩
set_option maxRecDepth 100000 in
theorem open_ivs {H : Type} {enc : TypeId × Value → H} {w : World} {r : Reach} {b0 : Nat} {v : Value} {d : DataW H} {p : List MemPlace} (hv : Value.okWide Tryz.prog w r b0 27 v)
    (h : DataW.Trod enc Tryz.prog w 0 (fun _ => true) true 27 v d p) : ∃ l : List (Q3 × Q3), SliceOf vIv 6 w v l := by
  obtain ⟨l, h1, _⟩ := open_sliceOf vIv (fun _ => True) Tryz.underlying27 Tryz.cellsIv (by omega) vIv_len (fun _ _ _ _ h => by
    obtain ⟨a, e⟩ := trod_iv h
    exact ⟨a, trivial, e⟩) hv h
  exact ⟨l, h1⟩
theorem ends_mem {l : List (Q3 × Q3)} {x : Q3} : x ∈ ends l ↔ ∃ a ∈ l, x = a.1 ∨ x = a.2 := by
  unfold ends
  rw [List.mem_flatMap]
  simp only [List.mem_cons, List.not_mem_nil, or_false]
end Go.Proofs.YtbojlmnajndleaaGreatDoor
