/- law 18: fits; arguments. -/
import Derived.Test.YtlagoiaiodjmhaaGreatDoorDeN
import Derived.Test.YtlagoiaiodjmhaaGreatDoorPkA
set_option linter.unusedVariables false
set_option linter.unusedSimpArgs false
namespace Go.Proofs.YtlagoiaiodjmhaaGreatDoor
open Go.RowKit Go.Deep Go.ChangeShapes Go.WideShapes

set_option maxRecDepth 100000 in
theorem PyC.new_at (w : World) (p : Py) (T : TypeId) {b : Nat} (hb : w.heap.size = b) : PyC (w.alloc (.cells #[.int .i64 p.kd, .int .i64 p.tl, .int .i64 p.fl, .int .i64 p.mo] T)) b 0 p := by
  subst hb; exact PyC.new w p T
set_option maxHeartbeats 4000000 in
set_option maxRecDepth 100000 in
set_option maxRecDepth 100000 in
theorem l18_fits (d : Db) (p : Py) (m : Int) (w : World) : Calls Tryz.prog 22 #[.agg #[.int .i64 d.kd, .int .i64 d.tl, .int .i64 d.fl, .int .i64 d.fr, .int .i64 d.un, .int .i64 d.pr], .agg #[.int .i64 p.kd, .int .i64 p.tl, .int .i64 p.fl, .int .i64 p.mo], .int .i64 m] w fun e w' => e = .returned (.bool (fitB d p m)) ∧ Below w.heap.size w w' := by
  have hD := DbC.new w d 47
  have HB := hide (bAlloc (bAlloc (Below.refl w.heap.size w) (.cells #[.int .i64 d.kd, .int .i64 d.tl, .int .i64 d.fl, .int .i64 d.fr, .int .i64 d.un, .int .i64 d.pr] 47)) (.cells #[.int .i64 p.kd, .int .i64 p.tl, .int .i64 p.fl, .int .i64 p.mo] 49))
  obtain ⟨x0, x1, x2, x3, x4, x5⟩ := hD.keep (bAlloc (Below.refl _ (w.alloc (.cells #[.int .i64 d.kd, .int .i64 d.tl, .int .i64 d.fl, .int .i64 d.fr, .int .i64 d.un, .int .i64 d.pr] 47))) (.cells #[.int .i64 p.kd, .int .i64 p.tl, .int .i64 p.fl, .int .i64 p.mo] 49))
  obtain ⟨y0, y1, y2, y3⟩ := PyC.new_at (w.alloc (.cells #[.int .i64 d.kd, .int .i64 d.tl, .int .i64 d.fl, .int .i64 d.fr, .int .i64 d.un, .int .i64 d.pr] 47)) p 49 (b := w.heap.size + 1) (by simp [go_sem])
  simp only [Nat.zero_add] at x1 x2 x3 x4 x5 y1 y2 y3
  clear hD

  by_cases h0 : d.kd = p.kd
  · have e0 : (d.kd == p.kd) = true := by rw [h0]; simp
    by_cases h1 : d.tl = p.tl
    · have e1 : (d.tl == p.tl) = true := by rw [h1]; simp
      by_cases h2 : d.fl = p.fl
      · have e2 : (d.fl == p.fl) = true := by rw [h2]; simp
        by_cases h3 : d.fr ≤ p.mo
        · have e3 : decide (d.fr ≤ p.mo) = true := decide_eq_true h3
          by_cases h4 : p.mo ≤ min d.un m
          · have e4 : decide (p.mo ≤ min d.un m) = true := decide_eq_true h4
            have hF : fitB d p m = true := by unfold fitB; rw [decide_eq_true ⟨h0, h1, h2⟩, decide_eq_true h3, decide_eq_true h4]; rfl
            rw [hF]
            clear hF h0 h1 h2 h3 h4
            go_enter Tryz.func22, Tryz.ntmps22
            go_wp2_with fail
            go_ret
            exact ⟨rfl, HB.out⟩
          · have e4 : decide (p.mo ≤ min d.un m) = false := decide_eq_false h4
            have hF : fitB d p m = false := by unfold fitB; rw [decide_eq_false h4, Bool.and_false, Bool.and_false]
            rw [hF]
            clear hF h0 h1 h2 h3 h4
            go_enter Tryz.func22, Tryz.ntmps22
            go_wp2_with fail
            go_ret
            exact ⟨rfl, HB.out⟩
        · have e3 : decide (d.fr ≤ p.mo) = false := decide_eq_false h3
          have hF : fitB d p m = false := by unfold fitB; rw [decide_eq_false h3, Bool.false_and, Bool.and_false]
          rw [hF]
          clear hF h0 h1 h2 h3
          go_enter Tryz.func22, Tryz.ntmps22
          go_wp2_with fail
          go_ret
          exact ⟨rfl, HB.out⟩
      · have e2 : (d.fl == p.fl) = false := by simpa using h2
        have hF : fitB d p m = false := by unfold fitB; rw [decide_eq_false (fun e => h2 e.2.2), Bool.false_and]
        rw [hF]
        clear hF h0 h1 h2
        go_enter Tryz.func22, Tryz.ntmps22
        go_wp2_with fail
        go_ret
        exact ⟨rfl, HB.out⟩
    · have e1 : (d.tl == p.tl) = false := by simpa using h1
      have hF : fitB d p m = false := by unfold fitB; rw [decide_eq_false (fun e => h1 e.2.1), Bool.false_and]
      rw [hF]
      clear hF h0 h1
      go_enter Tryz.func22, Tryz.ntmps22
      go_wp2_with fail
      go_ret
      exact ⟨rfl, HB.out⟩
  · have e0 : (d.kd == p.kd) = false := by simpa using h0
    have hF : fitB d p m = false := by unfold fitB; rw [decide_eq_false (fun e => h0 e.1), Bool.false_and]
    rw [hF]
    clear hF h0
    go_enter Tryz.func22, Tryz.ntmps22
    go_wp2_with fail
    go_ret
    exact ⟨rfl, HB.out⟩
set_option maxRecDepth 100000 in
theorem Tryz.cellsdb : Tryz.prog.cellsOf 47 = 6 := by kernel_rfl
set_option maxRecDepth 100000 in
theorem trod_db {H : Type} {enc : TypeId × Value → H} {w : World} {b : Nat} {sp : Nat → Bool} {hd : Bool} {n : Nat} {cs : List Value} {y : DataW H × List MemPlace} (h : DataW.trod enc Tryz.prog w b sp hd n 47 cs = some y) : ∃ a : Db, True ∧ cs = vDb a := by
  obtain ⟨xs, m, _, _, hl, hx, hi⟩ := DataW.trod_struct Tryz.underlying47 h
  rw [Tryz.cellsdb] at hl
  have hx' : xs.length = 6 := hx
  have e0 : DataW.trod enc Tryz.prog w b sp hd m 3 ((cs.drop 0).take (Tryz.prog.cellsOf 3)) = xs[0]? := hi 0 _ rfl
  have e1 : DataW.trod enc Tryz.prog w b sp hd m 3 ((cs.drop 1).take (Tryz.prog.cellsOf 3)) = xs[1]? := hi 1 _ rfl
  have e2 : DataW.trod enc Tryz.prog w b sp hd m 3 ((cs.drop 2).take (Tryz.prog.cellsOf 3)) = xs[2]? := hi 2 _ rfl
  have e3 : DataW.trod enc Tryz.prog w b sp hd m 3 ((cs.drop 3).take (Tryz.prog.cellsOf 3)) = xs[3]? := hi 3 _ rfl
  have e4 : DataW.trod enc Tryz.prog w b sp hd m 3 ((cs.drop 4).take (Tryz.prog.cellsOf 3)) = xs[4]? := hi 4 _ rfl
  have e5 : DataW.trod enc Tryz.prog w b sp hd m 3 ((cs.drop 5).take (Tryz.prog.cellsOf 3)) = xs[5]? := hi 5 _ rfl
  rw [Tryz.cells3', List.getElem?_eq_getElem (by omega)] at e0 e1 e2 e3 e4 e5
  match cs, hl with
  | [c0, c1, c2, c3, c4, c5], _ =>
    obtain ⟨a0, _, q0⟩ := trod_int_one e0
    obtain ⟨a1, _, q1⟩ := trod_int_one e1
    obtain ⟨a2, _, q2⟩ := trod_int_one e2
    obtain ⟨a3, _, q3⟩ := trod_int_one e3
    obtain ⟨a4, _, q4⟩ := trod_int_one e4
    obtain ⟨a5, _, q5⟩ := trod_int_one e5
    have r0 : c0 = .int .i64 a0 := by simpa [vI] using q0
    have r1 : c1 = .int .i64 a1 := by simpa [vI] using q1
    have r2 : c2 = .int .i64 a2 := by simpa [vI] using q2
    have r3 : c3 = .int .i64 a3 := by simpa [vI] using q3
    have r4 : c4 = .int .i64 a4 := by simpa [vI] using q4
    have r5 : c5 = .int .i64 a5 := by simpa [vI] using q5
    exact ⟨⟨a0, a1, a2, a3, a4, a5⟩, trivial, by rw [r0, r1, r2, r3, r4, r5]; rfl⟩
set_option maxRecDepth 100000 in
theorem open_dbs {H : Type} {enc : TypeId × Value → H} {w : World} {r : Reach} {b0 : Nat} {v : Value} {d : DataW H} {p : List MemPlace} (hv : Value.okWide Tryz.prog w r b0 26 v)
    (h : DataW.Trod enc Tryz.prog w 0 (fun _ => true) true 26 v d p) : ∃ l : List Db, SliceOf vDb 6 w v l := by
  obtain ⟨l, h1, _⟩ := open_sliceOf vDb (fun _ => True) Tryz.underlying26 Tryz.cellsdb (by omega) vDb_len (fun _ _ _ _ h => trod_db h) hv h
  exact ⟨l, h1⟩
set_option maxRecDepth 100000 in
theorem open_db {H : Type} {enc : TypeId × Value → H} {w : World} {r : Reach} {b0 : Nat} {v : Value} {d : DataW H} {p : List MemPlace} (hv : Value.okWide Tryz.prog w r b0 47 v)
    (h : DataW.Trod enc Tryz.prog w 0 (fun _ => true) true 47 v d p) : ∃ a : Db, v = .agg #[.int .i64 a.kd, .int .i64 a.tl, .int .i64 a.fl, .int .i64 a.fr, .int .i64 a.un, .int .i64 a.pr] := by
  unfold Value.okWide at hv
  rw [Tryz.underlying47] at hv
  obtain ⟨cs, rfl, _, _⟩ := hv
  obtain ⟨fuel, hf⟩ := h
  obtain ⟨q, _, e⟩ := trod_db hf
  have e' : cs.toList = vDb q := by simpa [Value.cells] using e
  refine ⟨q, ?_⟩
  congr 1
  rw [← Array.toList_inj]; exact e'
set_option maxRecDepth 100000 in
theorem Tryz.cellspy : Tryz.prog.cellsOf 49 = 4 := by kernel_rfl
set_option maxRecDepth 100000 in
theorem trod_py {H : Type} {enc : TypeId × Value → H} {w : World} {b : Nat} {sp : Nat → Bool} {hd : Bool} {n : Nat} {cs : List Value} {y : DataW H × List MemPlace} (h : DataW.trod enc Tryz.prog w b sp hd n 49 cs = some y) : ∃ a : Py, True ∧ cs = vPy a := by
  obtain ⟨xs, m, _, _, hl, hx, hi⟩ := DataW.trod_struct Tryz.underlying49 h
  rw [Tryz.cellspy] at hl
  have hx' : xs.length = 4 := hx
  have e0 : DataW.trod enc Tryz.prog w b sp hd m 3 ((cs.drop 0).take (Tryz.prog.cellsOf 3)) = xs[0]? := hi 0 _ rfl
  have e1 : DataW.trod enc Tryz.prog w b sp hd m 3 ((cs.drop 1).take (Tryz.prog.cellsOf 3)) = xs[1]? := hi 1 _ rfl
  have e2 : DataW.trod enc Tryz.prog w b sp hd m 3 ((cs.drop 2).take (Tryz.prog.cellsOf 3)) = xs[2]? := hi 2 _ rfl
  have e3 : DataW.trod enc Tryz.prog w b sp hd m 3 ((cs.drop 3).take (Tryz.prog.cellsOf 3)) = xs[3]? := hi 3 _ rfl
  rw [Tryz.cells3', List.getElem?_eq_getElem (by omega)] at e0 e1 e2 e3
  match cs, hl with
  | [c0, c1, c2, c3], _ =>
    obtain ⟨a0, _, q0⟩ := trod_int_one e0
    obtain ⟨a1, _, q1⟩ := trod_int_one e1
    obtain ⟨a2, _, q2⟩ := trod_int_one e2
    obtain ⟨a3, _, q3⟩ := trod_int_one e3
    have r0 : c0 = .int .i64 a0 := by simpa [vI] using q0
    have r1 : c1 = .int .i64 a1 := by simpa [vI] using q1
    have r2 : c2 = .int .i64 a2 := by simpa [vI] using q2
    have r3 : c3 = .int .i64 a3 := by simpa [vI] using q3
    exact ⟨⟨a0, a1, a2, a3⟩, trivial, by rw [r0, r1, r2, r3]; rfl⟩
set_option maxRecDepth 100000 in
theorem open_pys {H : Type} {enc : TypeId × Value → H} {w : World} {r : Reach} {b0 : Nat} {v : Value} {d : DataW H} {p : List MemPlace} (hv : Value.okWide Tryz.prog w r b0 27 v)
    (h : DataW.Trod enc Tryz.prog w 0 (fun _ => true) true 27 v d p) : ∃ l : List Py, SliceOf vPy 4 w v l := by
  obtain ⟨l, h1, _⟩ := open_sliceOf vPy (fun _ => True) Tryz.underlying27 Tryz.cellspy (by omega) vPy_len (fun _ _ _ _ h => trod_py h) hv h
  exact ⟨l, h1⟩
set_option maxRecDepth 100000 in
theorem open_py {H : Type} {enc : TypeId × Value → H} {w : World} {r : Reach} {b0 : Nat} {v : Value} {d : DataW H} {p : List MemPlace} (hv : Value.okWide Tryz.prog w r b0 49 v)
    (h : DataW.Trod enc Tryz.prog w 0 (fun _ => true) true 49 v d p) : ∃ a : Py, v = .agg #[.int .i64 a.kd, .int .i64 a.tl, .int .i64 a.fl, .int .i64 a.mo] := by
  unfold Value.okWide at hv
  rw [Tryz.underlying49] at hv
  obtain ⟨cs, rfl, _, _⟩ := hv
  obtain ⟨fuel, hf⟩ := h
  obtain ⟨q, _, e⟩ := trod_py hf
  have e' : cs.toList = vPy q := by simpa [Value.cells] using e
  refine ⟨q, ?_⟩
  congr 1
  rw [← Array.toList_inj]; exact e'
end Go.Proofs.YtlagoiaiodjmhaaGreatDoor
