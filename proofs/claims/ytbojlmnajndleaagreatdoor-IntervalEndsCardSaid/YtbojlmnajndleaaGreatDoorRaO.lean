/- Arguments of layer 4: rational numbers. -/
import Derived.Test.YtbojlmnajndleaaGreatDoorRaI
import Derived.Test.YtbojlmnajndleaaGreatDoorInts
set_option linter.unusedVariables false
set_option linter.unusedSimpArgs false
namespace Go.Proofs.YtbojlmnajndleaaGreatDoor
open Go.RowKit Go.Deep Go.ChangeShapes Go.WideShapes

theorem Tryz.cellsRat : Tryz.prog.cellsOf 24 = 3 := by kernel_rfl
theorem Tryz.cellsNat1 : Tryz.prog.cellsOf 22 = 1 := by kernel_rfl
theorem Tryz.cellsBool1 : Tryz.prog.cellsOf 4 = 1 := by kernel_rfl
set_option maxRecDepth 100000 in
theorem trod_rat {H : Type} {enc : TypeId × Value → H} {w : World} {b : Nat} {sp : Nat → Bool} {hd : Bool} {n : Nat} {cs : List Value} {y : DataW H × List MemPlace} (h : DataW.trod enc Tryz.prog w b sp hd n 24 cs = some y) :
    ∃ (g : Bool) (s t : ByteArray), (s.size ≤ maxLen ∧ t.size ≤ maxLen) ∧ cs = [.bool g, .string s, .string t] := by
  obtain ⟨xs, m, _, _, hl, hx, hi⟩ := DataW.trod_struct Tryz.underlying24 h
  rw [Tryz.cellsRat] at hl
  have hx' : xs.length = 3 := hx
  have e0 : DataW.trod enc Tryz.prog w b sp hd m 4 ((cs.drop 0).take (Tryz.prog.cellsOf 4)) = xs[0]? := hi 0 _ rfl
  have e1 : DataW.trod enc Tryz.prog w b sp hd m 22 ((cs.drop 1).take (Tryz.prog.cellsOf 22)) = xs[1]? := hi 1 _ rfl
  have e2 : DataW.trod enc Tryz.prog w b sp hd m 22 ((cs.drop 2).take (Tryz.prog.cellsOf 22)) = xs[2]? := hi 2 _ rfl
  rw [Tryz.cellsBool1, List.getElem?_eq_getElem (by omega)] at e0
  rw [Tryz.cellsNat1, List.getElem?_eq_getElem (by omega)] at e1 e2
  match cs, hl with
  | [c0, c1, c2], _ =>
    obtain ⟨g, q0, _⟩ := DataW.trod_bool Tryz.underlying4 e0
    obtain ⟨s, q1, _, l1⟩ := DataW.trod_string Tryz.underlying22 e1
    obtain ⟨t, q2, _, l2⟩ := DataW.trod_string Tryz.underlying22 e2
    have r0 : c0 = .bool g := by simpa using q0
    have r1 : c1 = .string s := by simpa using q1
    have r2 : c2 = .string t := by simpa using q2
    exact ⟨g, s, t, ⟨l1, l2⟩, by rw [r0, r1, r2]⟩
set_option maxRecDepth 100000 in
theorem open_rat {H : Type} {enc : TypeId × Value → H} {w : World} {r : Reach} {b0 : Nat} {v : Value} {d : DataW H} {p : List MemPlace} (hv : Value.okWide Tryz.prog w r b0 24 v)
    (h : DataW.Trod enc Tryz.prog w 0 (fun _ => true) true 24 v d p) : ∃ (g : Bool) (s t : ByteArray), (s.size ≤ maxLen ∧ t.size ≤ maxLen) ∧ v = .agg #[.bool g, .string s, .string t] := by
  unfold Value.okWide at hv
  rw [Tryz.underlying24] at hv
  obtain ⟨cs, rfl, _, _⟩ := hv
  obtain ⟨fuel, hf⟩ := h
  obtain ⟨g, s, t, hl, e⟩ := trod_rat hf
  have e' : cs.toList = [.bool g, .string s, .string t] := by simpa [Value.cells] using e
  refine ⟨g, s, t, hl, ?_⟩
  congr 1
  rw [← Array.toList_inj]; exact e'
end Go.Proofs.YtbojlmnajndleaaGreatDoor
