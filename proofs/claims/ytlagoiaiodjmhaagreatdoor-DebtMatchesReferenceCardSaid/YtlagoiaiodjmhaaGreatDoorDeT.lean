/- law 18: a frame as an argument. -/
import Derived.Test.YtlagoiaiodjmhaaGreatDoorDeO
import Derived.OpenShut
set_option linter.unusedVariables false
set_option linter.unusedSimpArgs false
namespace Go.Proofs.YtlagoiaiodjmhaaGreatDoor
open Go.RowKit Go.Deep Go.ChangeShapes Go.WideShapes

set_option maxRecDepth 100000 in
theorem Tryz.cellsFr : Tryz.prog.cellsOf 25 = 9 := by kernel_rfl
set_option maxRecDepth 100000 in
theorem Tryz.cellsR4 : Tryz.prog.cellsOf 23 = 4 := by kernel_rfl
def vFrL (f : Fr) : List Value := [.int .i64 f.mo, .int .i64 f.tl, .int .i64 f.pr, .int .i64 f.ti, .int .i64 f.fl, .int .i64 f.r0, .int .i64 f.r1, .int .i64 f.r2, .int .i64 f.r3]
set_option maxRecDepth 100000 in
theorem trod_fr {H : Type} {enc : TypeId × Value → H} {w : World} {b : Nat} {sp : Nat → Bool} {hd : Bool} {n : Nat} {cs : List Value} {y : DataW H × List MemPlace} (h : DataW.trod enc Tryz.prog w b sp hd n 25 cs = some y) : ∃ a : Fr, cs = vFrL a := by
  obtain ⟨xs, m, _, _, hl, hx, hi⟩ := DataW.trod_struct Tryz.underlying25 h
  rw [Tryz.cellsFr] at hl
  have hx' : xs.length = 6 := hx
  have e0 : DataW.trod enc Tryz.prog w b sp hd m 3 ((cs.drop 0).take (Tryz.prog.cellsOf 3)) = xs[0]? := hi 0 _ rfl
  have e1 : DataW.trod enc Tryz.prog w b sp hd m 3 ((cs.drop 1).take (Tryz.prog.cellsOf 3)) = xs[1]? := hi 1 _ rfl
  have e2 : DataW.trod enc Tryz.prog w b sp hd m 3 ((cs.drop 2).take (Tryz.prog.cellsOf 3)) = xs[2]? := hi 2 _ rfl
  have e3 : DataW.trod enc Tryz.prog w b sp hd m 3 ((cs.drop 3).take (Tryz.prog.cellsOf 3)) = xs[3]? := hi 3 _ rfl
  have e4 : DataW.trod enc Tryz.prog w b sp hd m 3 ((cs.drop 4).take (Tryz.prog.cellsOf 3)) = xs[4]? := hi 4 _ rfl
  have e5 : DataW.trod enc Tryz.prog w b sp hd m 23 ((cs.drop 5).take (Tryz.prog.cellsOf 23)) = xs[5]? := hi 5 _ rfl
  rw [Tryz.cells3', List.getElem?_eq_getElem (by omega)] at e0 e1 e2 e3 e4
  rw [Tryz.cellsR4, List.getElem?_eq_getElem (by omega)] at e5
  obtain ⟨ys, m2, _, _, _, hy, hj⟩ := DataW.trod_array Tryz.underlying23 e5
  have k0 := hj 0 (by omega)
  have k1 := hj 1 (by omega)
  have k2 := hj 2 (by omega)
  have k3 := hj 3 (by omega)
  rw [Tryz.cells3', List.getElem?_eq_getElem (by omega)] at k0 k1 k2 k3
  match cs, hl with
  | [c0, c1, c2, c3, c4, c5, c6, c7, c8], _ =>
    obtain ⟨a0, _, q0⟩ := trod_int_one e0
    obtain ⟨a1, _, q1⟩ := trod_int_one e1
    obtain ⟨a2, _, q2⟩ := trod_int_one e2
    obtain ⟨a3, _, q3⟩ := trod_int_one e3
    obtain ⟨a4, _, q4⟩ := trod_int_one e4
    obtain ⟨a5, _, q5⟩ := trod_int_one k0
    obtain ⟨a6, _, q6⟩ := trod_int_one k1
    obtain ⟨a7, _, q7⟩ := trod_int_one k2
    obtain ⟨a8, _, q8⟩ := trod_int_one k3
    have r0 : c0 = .int .i64 a0 := by simpa [vI] using q0
    have r1 : c1 = .int .i64 a1 := by simpa [vI] using q1
    have r2 : c2 = .int .i64 a2 := by simpa [vI] using q2
    have r3 : c3 = .int .i64 a3 := by simpa [vI] using q3
    have r4 : c4 = .int .i64 a4 := by simpa [vI] using q4
    have r5 : c5 = .int .i64 a5 := by simpa [vI] using q5
    have r6 : c6 = .int .i64 a6 := by simpa [vI] using q6
    have r7 : c7 = .int .i64 a7 := by simpa [vI] using q7
    have r8 : c8 = .int .i64 a8 := by simpa [vI] using q8
    exact ⟨⟨a0, a1, a2, a3, a4, a5, a6, a7, a8⟩, by rw [r0, r1, r2, r3, r4, r5, r6, r7, r8]; rfl⟩
set_option maxRecDepth 100000 in
theorem open_fr {H : Type} {enc : TypeId × Value → H} {w : World} {r : Reach} {b0 : Nat} {v : Value} {d : DataW H} {p : List MemPlace} (hv : Value.okWide Tryz.prog w r b0 25 v)
    (h : DataW.Trod enc Tryz.prog w 0 (fun _ => true) true 25 v d p) : ∃ f : Fr, v = vFr f := by
  unfold Value.okWide at hv
  rw [Tryz.underlying25] at hv
  obtain ⟨cs, rfl, _, _⟩ := hv
  obtain ⟨fuel, hf⟩ := h
  obtain ⟨q, e⟩ := trod_fr hf
  have e' : cs.toList = vFrL q := by simpa [Value.cells] using e
  refine ⟨q, ?_⟩
  unfold vFr
  congr 1
  rw [← Array.toList_inj]; exact e'
/-- The debts' and payments' cells in a later world. -/
theorem SliceOf.dbAt {w W : World} {ao : Option Addr} {cp : Nat} {l : List Db} {i : Nat} (h : SliceOf vDb 6 w (.slice ao l.length cp) l) (hb : Below w.heap.size w W) (hi : i < l.length) : ∃ b o, ao = some ⟨b, o, none⟩ ∧ (l.length : Int) ≤ (cp : Int) ∧ (cp : Int) ≤ 9223372036854775807 ∧ DbC W b (o + i * 6) l[i] := by
  obtain ⟨b, o, e, _, h1, h2, hc⟩ := SliceOf.at_ (h.below hb) (by omega)
  exact ⟨b, o, e, by omega, by unfold maxLen at h2; omega, db_cells hc hi⟩
theorem SliceOf.pyAt {w W : World} {ao : Option Addr} {cp : Nat} {l : List Py} {i : Nat} (h : SliceOf vPy 4 w (.slice ao l.length cp) l) (hb : Below w.heap.size w W) (hi : i < l.length) : ∃ b o, ao = some ⟨b, o, none⟩ ∧ (l.length : Int) ≤ (cp : Int) ∧ (cp : Int) ≤ 9223372036854775807 ∧ PyC W b (o + i * 4) (pyN l i) := by
  obtain ⟨b, o, e, _, h1, h2, hc⟩ := SliceOf.at_ (h.below hb) (by omega)
  rw [pyN_at hi]
  exact ⟨b, o, e, by omega, by unfold maxLen at h2; omega, py_cells hc hi⟩
theorem SliceOf.inAt {w W : World} {ao : Option Addr} {n cp : Nat} {l : List Int} {i : Nat} (h : SliceOf vI 1 w (.slice ao n cp) l) (hn : l.length = n) (hb : Below w.heap.size w W) (hi : i < n) : ∃ b o, ao = some ⟨b, o, none⟩ ∧ (n : Int) ≤ (cp : Int) ∧ (cp : Int) ≤ 9223372036854775807 ∧ W.cell? ⟨b, o + i, none⟩ = some (.int .i64 (l.getD i 0)) := by
  subst hn
  obtain ⟨b, o, e, _, h1, h2, hc⟩ := SliceOf.at_ (h.below hb) (by omega)
  refine ⟨b, o, e, by omega, by unfold maxLen at h2; omega, ?_⟩
  rw [List.getD_eq_getElem?_getD, List.getElem?_eq_getElem hi]
  exact int_cell hc hi
theorem setL_getD {l : List Db} {ps : List Py} {m : Int} {i : Nat} (h : i < l.length) : (setL l ps m).getD i 0 = bstN l[i] ps m ps.length := by
  have h' : i < (setL l ps m).length := by rw [setL_len]; exact h
  rw [List.getD_eq_getElem?_getD, List.getElem?_eq_getElem h', Option.getD_some, setL_at h', dbN_at h]
end Go.Proofs.YtlagoiaiodjmhaaGreatDoor
