/- Arguments of layer 6: a slice of points. -/
import Derived.Test.YtahlhiiekgnmpabInts
namespace Go.Proofs.Ytahlhiiekgnmpab
open Go.RowKit Go.Deep Go.ChangeShapes Go.WideShapes

theorem Try.cellsP2 : Try.prog.cellsOf 39 = 2 := by kernel_rfl
def inP64 (p : Int × Int) : Prop := inI64 p.1 ∧ inI64 p.2
theorem trod_p2 {H : Type} {enc : TypeId × Value → H} {w : World} {b : Nat} {sp : Nat → Bool} {hd : Bool} {n : Nat} {cs : List Value} {y : DataW H × List MemPlace} (h : DataW.trod enc Try.prog w b sp hd n 39 cs = some y) : ∃ p, inP64 p ∧ cs = vP2 p := by
  obtain ⟨xs, m, _, _, hl, hx, hi⟩ := DataW.trod_array Try.underlying39 h
  rw [Try.cellsP2] at hl
  rw [Try.cells3'] at hi
  have e0 := hi 0 (by omega)
  have e1 := hi 1 (by omega)
  match cs, hl with
  | [c0, c1], _ =>
    rw [List.getElem?_eq_getElem (by omega)] at e0 e1
    obtain ⟨a, ha, q0⟩ := trod_int_one e0
    obtain ⟨c, hc, q1⟩ := trod_int_one e1
    have r0 : c0 = .int .i64 a := by simpa [vI] using q0
    have r1 : c1 = .int .i64 c := by simpa [vI] using q1
    exact ⟨(a, c), ⟨ha, hc⟩, by rw [r0, r1]; rfl⟩
theorem open_p2s {H : Type} {enc : TypeId × Value → H} {w : World} {r : Reach} {b0 : Nat} {v : Value} {d : DataW H} {p : List MemPlace} (hv : Value.okWide Try.prog w r b0 34 v)
    (h : DataW.Trod enc Try.prog w 0 (fun _ => true) true 34 v d p) : ∃ l : List (Int × Int), SliceOf vP2 2 w v l ∧ ∀ a ∈ l, inP64 a :=
  open_sliceOf vP2 inP64 Try.underlying34 Try.cellsP2 (by omega) vP2_len (fun _ _ _ _ h => trod_p2 h) hv h
end Go.Proofs.Ytahlhiiekgnmpab
