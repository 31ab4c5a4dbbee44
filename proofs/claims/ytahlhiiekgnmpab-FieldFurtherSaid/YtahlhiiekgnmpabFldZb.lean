/- FieldFurther with its arguments. -/
import Derived.Test.YtahlhiiekgnmpabFldZa
import Derived.Test.YtahlhiiekgnmpabFldO
namespace Go.Proofs.Ytahlhiiekgnmpab
open Go.RowKit Go.ChangeShapes Go.WideShapes

theorem open_p2 {H : Type} {enc : TypeId × Value → H} {w : World} {r : Reach} {b0 : Nat} {v : Value} {d : DataW H} {p : List MemPlace} (hv : Value.okWide Try.prog w r b0 39 v)
    (h : DataW.Trod enc Try.prog w 0 (fun _ => true) true 39 v d p) : ∃ x y : Int, v = .agg #[.int .i64 x, .int .i64 y] := by
  unfold Value.okWide at hv
  rw [Try.underlying39] at hv
  obtain ⟨cs, rfl, _, _⟩ := hv
  obtain ⟨fuel, hf⟩ := h
  obtain ⟨q, _, e⟩ := trod_p2 hf
  have e' : cs.toList = vP2 q := by simpa [Value.cells] using e
  refine ⟨q.1, q.2, ?_⟩
  congr 1
  rw [← Array.toList_inj]; exact e'
end Go.Proofs.Ytahlhiiekgnmpab
