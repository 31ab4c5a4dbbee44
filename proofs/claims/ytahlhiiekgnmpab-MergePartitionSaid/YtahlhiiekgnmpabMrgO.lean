/- Arguments of layer 38: alerts. -/
import Derived.Test.YtahlhiiekgnmpabMrgM
import Derived.Test.YtahlhiiekgnmpabInts
set_option linter.unusedVariables false
set_option linter.unusedSimpArgs false
namespace Go.Proofs.Ytahlhiiekgnmpab
open Go.RowKit Go.Deep Go.ChangeShapes Go.WideShapes

theorem Try.cellsAl : Try.prog.cellsOf 57 = 5 := by kernel_rfl
theorem trod_al {H : Type} {enc : TypeId × Value → H} {w : World} {b : Nat} {sp : Nat → Bool} {hd : Bool} {n : Nat} {cs : List Value} {y : DataW H × List MemPlace} (h : DataW.trod enc Try.prog w b sp hd n 57 cs = some y) : ∃ a : Al, True ∧ cs = vAl a := by
  obtain ⟨xs, m, _, _, hl, hx, hi⟩ := DataW.trod_struct Try.underlying57 h
  rw [Try.cellsAl] at hl
  have hx' : xs.length = 5 := hx
  have e0 : DataW.trod enc Try.prog w b sp hd m 3 ((cs.drop 0).take (Try.prog.cellsOf 3)) = xs[0]? := hi 0 _ rfl
  have e1 : DataW.trod enc Try.prog w b sp hd m 3 ((cs.drop 1).take (Try.prog.cellsOf 3)) = xs[1]? := hi 1 _ rfl
  have e2 : DataW.trod enc Try.prog w b sp hd m 3 ((cs.drop 2).take (Try.prog.cellsOf 3)) = xs[2]? := hi 2 _ rfl
  have e3 : DataW.trod enc Try.prog w b sp hd m 3 ((cs.drop 3).take (Try.prog.cellsOf 3)) = xs[3]? := hi 3 _ rfl
  have e4 : DataW.trod enc Try.prog w b sp hd m 3 ((cs.drop 4).take (Try.prog.cellsOf 3)) = xs[4]? := hi 4 _ rfl
  rw [Try.cells3', List.getElem?_eq_getElem (by omega)] at e0 e1 e2 e3 e4
  match cs, hl with
  | [c0, c1, c2, c3, c4], _ =>
    obtain ⟨a0, _, q0⟩ := trod_int_one e0
    obtain ⟨a1, _, q1⟩ := trod_int_one e1
    obtain ⟨a2, _, q2⟩ := trod_int_one e2
    obtain ⟨a3, _, q3⟩ := trod_int_one e3
    obtain ⟨a4, _, q4⟩ := trod_int_one e4
    have r0 : c0 = .int .i64 a0 := by simpa [vI] using q0
    have r1 : c1 = .int .i64 a1 := by simpa [vI] using q1
    have r2 : c2 = .int .i64 a2 := by simpa [vI] using q2
    have r3 : c3 = .int .i64 a3 := by simpa [vI] using q3
    have r4 : c4 = .int .i64 a4 := by simpa [vI] using q4
    exact ⟨⟨a0, a1, a2, a3, a4⟩, trivial, by rw [r0, r1, r2, r3, r4]; rfl⟩
theorem open_als {H : Type} {enc : TypeId × Value → H} {w : World} {r : Reach} {b0 : Nat} {v : Value} {d : DataW H} {p : List MemPlace} (hv : Value.okWide Try.prog w r b0 42 v)
    (h : DataW.Trod enc Try.prog w 0 (fun _ => true) true 42 v d p) : ∃ l : List Al, SliceOf vAl 5 w v l := by
  obtain ⟨l, h1, _⟩ := open_sliceOf vAl (fun _ => True) Try.underlying42 Try.cellsAl (by omega) vAl_len (fun _ _ _ _ h => trod_al h) hv h
  exact ⟨l, h1⟩
theorem open_al {H : Type} {enc : TypeId × Value → H} {w : World} {r : Reach} {b0 : Nat} {v : Value} {d : DataW H} {p : List MemPlace} (hv : Value.okWide Try.prog w r b0 57 v)
    (h : DataW.Trod enc Try.prog w 0 (fun _ => true) true 57 v d p) : ∃ a : Al, v = .agg #[.int .i64 a.tile, .int .i64 a.cell, .int .i64 a.flt, .int .i64 a.val, .int .i64 a.at_] := by
  unfold Value.okWide at hv
  rw [Try.underlying57] at hv
  obtain ⟨cs, rfl, _, _⟩ := hv
  obtain ⟨fuel, hf⟩ := h
  obtain ⟨q, _, e⟩ := trod_al hf
  have e' : cs.toList = vAl q := by simpa [Value.cells] using e
  refine ⟨q, ?_⟩
  congr 1
  rw [← Array.toList_inj]; exact e'
end Go.Proofs.Ytahlhiiekgnmpab
