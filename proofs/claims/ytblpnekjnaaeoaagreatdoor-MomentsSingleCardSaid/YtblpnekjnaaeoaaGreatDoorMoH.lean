/- moments: Insert. -/
import Derived.Test.YtblpnekjnaaeoaaGreatDoorMoG
import Derived.Shelf.Spec.SlicesInsertGrow
set_option linter.unusedVariables false
set_option linter.unusedSimpArgs false
namespace Go.Proofs.YtblpnekjnaaeoaaGreatDoor
open Go.RowKit

theorem Tryz.infoPt : (Tryz.prog.info? 41).map (fun i => (i.zero, i.size, i.bytes)) = some (some (.agg #[.bool false, .string ⟨#[]⟩, .string ⟨#[]⟩, .bool false, .string ⟨#[]⟩, .string ⟨#[]⟩]), 6, 80) := by kernel_rfl
theorem vPr_one (x : T3 × T3) : ∀ u ∈ vPr x, u.oneCell' = true := by
  intro u hu
  simp [vPr] at hu
  rcases hu with rfl | rfl | rfl | rfl | rfl | rfl <;> rfl
/-- The variadic argument of one point. -/
def LitP (w : World) (H : Nat) (p : T3 × T3) : Prop := ∃ T, w.heap[H]? = some (.cells #[.bool p.1.1, .string p.1.2.1, .string p.1.2.2, .bool p.2.1, .string p.2.2.1, .string p.2.2.2] T (0, 0))
theorem LitP.cell {w : World} {H : Nat} {p : T3 × T3} (h : LitP w H p) : ∀ j u, (vPr p)[j]? = some u → w.cell? ⟨H, j, none⟩ = some u := by
  obtain ⟨T, h⟩ := h
  intro j u hj
  simp only [World.cell?, h]
  simpa [vPr] using hj
theorem LitP.slice {w : World} {H : Nat} {p : T3 × T3} (h : LitP w H p) : SliceOf vPr 6 w (.slice (some ⟨H, 0, none⟩) 1 1) [p] := by
  refine .inr ⟨H, 0, 1, rfl, ?_, Nat.le_refl _, by show 1 ≤ maxLen; decide, fun i hi j u hu => ?_⟩
  · obtain ⟨T, h⟩ := h
    exact (Array.getElem?_eq_some_iff.1 h).1
  · have hi' : i = 0 := by
      have : i < 1 := hi
      omega
    subst hi'
    have := h.cell j u hu
    rw [show 0 + 0 * 6 + j = j by omega]
    exact this
theorem shape_of {w : World} {b o : Nat} {v : Value} (h : w.cell? ⟨b, o, none⟩ = some v) : ∃ t k, w.shape? b = some (t, k) ∧ k ≠ 0 := by
  unfold World.cell? at h
  unfold World.shape?
  cases hb : w.heap[b]? with
  | none => simp [hb] at h
  | some x =>
    cases x with
    | cells c t f =>
      refine ⟨t, c.size, rfl, ?_⟩
      intro e
      simp [hb] at h
      have := (Array.getElem?_eq_some_iff.1 h).1
      omega
    | _ => simp [hb] at h
theorem Tryz.sizePt (w : World) : (Go.sizeOf 41).run Tryz.prog w = .ok 6 w := by
  obtain ⟨i, hi, _, h1, _⟩ := info_parts Tryz.infoPt
  simp [Go.sizeOf, typeInfo, hi, h1]
set_option maxRecDepth 100000 in
theorem mo_overlaps (w : World) (H b o lb cb : Nat) (p : T3 × T3) (v : Value) (hne : H ≠ b) (hp : LitP w H p) {o' : Nat} (hb : w.cell? ⟨b, o', none⟩ = some v) :
    (callFunc 97 #[.slice (some ⟨H, 0, none⟩) 1 1, .slice (some ⟨b, o, none⟩) lb cb]).run Tryz.prog w = .ok (.value (.bool false)) w := by
  obtain ⟨t, k, hs, hk⟩ := shape_of hb
  obtain ⟨T, hT⟩ := hp
  have hsH : w.shape? H = some (T, 6) := by
    unfold World.shape?
    rw [hT]; rfl
  have hf : ∀ o, w.frozen? ⟨H, o, none⟩ = false := fun o => by
    unfold World.frozen?
    rw [hT]; simp
  rw [run_callFunc_extern Tryz.func97 (by kernel_rfl) (by kernel_rfl) (by kernel_rfl) (e := Extern.SlicesOverlaps.overlaps #[22, 22] #[4]) (by kernel_rfl),
    Lib.run_overlaps_apart w 22 4 41 Tryz.underlying22 6 Tryz.sizePt ⟨H, 0, none⟩ ⟨b, o, none⟩ 1 1 lb cb hne T t 6 k hsH hs hk (hf _) (hf _)]
  rfl
end Go.Proofs.YtblpnekjnaaeoaaGreatDoor
