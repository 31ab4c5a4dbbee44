/- Arguments of layer 5: intervals, slices of them. -/
import Derived.Test.YtbojlmnajndleaaGreatDoorPkJ
import Derived.Test.YtbojlmnajndleaaGreatDoorIvW
set_option linter.unusedVariables false
set_option linter.unusedSimpArgs false
namespace Go.Proofs.YtbojlmnajndleaaGreatDoor
open Go.RowKit Go.Deep Go.ChangeShapes Go.WideShapes

theorem Tryz.cellsIv : Tryz.prog.cellsOf 26 = 6 := by kernel_rfl
set_option maxRecDepth 100000 in
theorem trod_iv {H : Type} {enc : TypeId × Value → H} {w : World} {b : Nat} {sp : Nat → Bool} {hd : Bool} {n : Nat} {cs : List Value} {y : DataW H × List MemPlace} (h : DataW.trod enc Tryz.prog w b sp hd n 26 cs = some y) :
    ∃ (a : Q3 × Q3), cs = [.bool a.1.1, .string a.1.2.1, .string a.1.2.2, .bool a.2.1, .string a.2.2.1, .string a.2.2.2] := by
  obtain ⟨xs, m, _, _, hl, hx, hi⟩ := DataW.trod_struct Tryz.underlying26 h
  rw [Tryz.cellsIv] at hl
  have hx' : xs.length = 2 := hx
  have e0 : DataW.trod enc Tryz.prog w b sp hd m 24 ((cs.drop 0).take (Tryz.prog.cellsOf 24)) = xs[0]? := hi 0 _ rfl
  have e1 : DataW.trod enc Tryz.prog w b sp hd m 24 ((cs.drop 3).take (Tryz.prog.cellsOf 24)) = xs[1]? := hi 1 _ rfl
  rw [Tryz.cellsRat, List.getElem?_eq_getElem (by omega)] at e0 e1
  match cs, hl with
  | [c0, c1, c2, c3, c4, c5], _ =>
    obtain ⟨g, s, t, _, q0⟩ := trod_rat e0
    obtain ⟨g', s', t', _, q1⟩ := trod_rat e1
    simp at q0 q1
    obtain ⟨rfl, rfl, rfl⟩ := q0
    obtain ⟨rfl, rfl, rfl⟩ := q1
    exact ⟨((g, s, t), (g', s', t')), rfl⟩
set_option maxRecDepth 100000 in
theorem open_iv {H : Type} {enc : TypeId × Value → H} {w : World} {r : Reach} {b0 : Nat} {v : Value} {d : DataW H} {p : List MemPlace} (hv : Value.okWide Tryz.prog w r b0 26 v)
    (h : DataW.Trod enc Tryz.prog w 0 (fun _ => true) true 26 v d p) : ∃ (a : Q3 × Q3), v = iArg a := by
  unfold Value.okWide at hv
  rw [Tryz.underlying26] at hv
  obtain ⟨cs, rfl, _, _⟩ := hv
  obtain ⟨fuel, hf⟩ := h
  obtain ⟨a, e⟩ := trod_iv hf
  refine ⟨a, ?_⟩
  unfold iArg
  congr 1
  rw [← Array.toList_inj]; simpa [Value.cells] using e
set_option maxRecDepth 100000 in
theorem open_q {H : Type} {enc : TypeId × Value → H} {w : World} {r : Reach} {b0 : Nat} {v : Value} {d : DataW H} {p : List MemPlace} (hv : Value.okWide Tryz.prog w r b0 24 v)
    (h : DataW.Trod enc Tryz.prog w 0 (fun _ => true) true 24 v d p) : ∃ (a : Q3), v = qArg a := by
  obtain ⟨g, s, t, _, rfl⟩ := open_rat hv h
  exact ⟨(g, s, t), rfl⟩
end Go.Proofs.YtbojlmnajndleaaGreatDoor
