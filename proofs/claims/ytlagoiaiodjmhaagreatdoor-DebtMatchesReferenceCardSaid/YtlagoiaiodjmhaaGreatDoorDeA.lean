/- debt: within, class.valid, valid. -/
import Derived.Test.YtlagoiaiodjmhaaGreatDoorDeQ
import Derived.Test.YtlagoiaiodjmhaaGreatDoorPkJ
set_option linter.unusedVariables false
set_option linter.unusedSimpArgs false
namespace Go.Proofs.YtlagoiaiodjmhaaGreatDoor
open Go.RowKit

theorem Tryz.infoInt3D : (Tryz.prog.info? 3).map (fun i => (i.zero, i.size, i.bytes)) = some (some (.int .i64 0), 1, 8) := by kernel_rfl
theorem bStepD {w0 w1 w2 : World} (h : Below w0.heap.size w0 w1) (k : Below w1.heap.size w1 w2) : Below w0.heap.size w0 w2 := btrans h h.size k
def vDb (d : Db) : List Value := [.int .i64 d.kd, .int .i64 d.tl, .int .i64 d.fl, .int .i64 d.fr, .int .i64 d.un, .int .i64 d.pr]
def vPy (p : Py) : List Value := [.int .i64 p.kd, .int .i64 p.tl, .int .i64 p.fl, .int .i64 p.mo]
theorem vDb_len (d : Db) : (vDb d).length = 6 := rfl
theorem vPy_len (p : Py) : (vPy p).length = 4 := rfl
/-- The cells of a debt and of a payment. -/
def DbC (w : World) (b o : Nat) (d : Db) : Prop := w.cell? ⟨b, o, none⟩ = some (.int .i64 d.kd) ∧ w.cell? ⟨b, o + 1, none⟩ = some (.int .i64 d.tl) ∧ w.cell? ⟨b, o + 2, none⟩ = some (.int .i64 d.fl) ∧ w.cell? ⟨b, o + 3, none⟩ = some (.int .i64 d.fr) ∧ w.cell? ⟨b, o + 4, none⟩ = some (.int .i64 d.un) ∧ w.cell? ⟨b, o + 5, none⟩ = some (.int .i64 d.pr)
def PyC (w : World) (b o : Nat) (p : Py) : Prop := w.cell? ⟨b, o, none⟩ = some (.int .i64 p.kd) ∧ w.cell? ⟨b, o + 1, none⟩ = some (.int .i64 p.tl) ∧ w.cell? ⟨b, o + 2, none⟩ = some (.int .i64 p.fl) ∧ w.cell? ⟨b, o + 3, none⟩ = some (.int .i64 p.mo)
theorem DbC.keep {W W' : World} {b o : Nat} {d : Db} (h : DbC W b o d) (hb : Below W.heap.size W W') : DbC W' b o d :=
  ⟨keep_cell hb h.1, keep_cell hb h.2.1, keep_cell hb h.2.2.1, keep_cell hb h.2.2.2.1, keep_cell hb h.2.2.2.2.1, keep_cell hb h.2.2.2.2.2⟩
theorem PyC.keep {W W' : World} {b o : Nat} {p : Py} (h : PyC W b o p) (hb : Below W.heap.size W W') : PyC W' b o p :=
  ⟨keep_cell hb h.1, keep_cell hb h.2.1, keep_cell hb h.2.2.1, keep_cell hb h.2.2.2⟩
theorem db_cells {w : World} {b off : Nat} {l : List Db} (h : ∀ i (h : i < l.length) j u, (vDb l[i])[j]? = some u → w.cell? ⟨b, off + i * 6 + j, none⟩ = some u) {k : Nat} (hk : k < l.length) : DbC w b (off + k * 6) l[k] :=
  ⟨by have := h k hk 0 _ rfl; simpa using this, h k hk 1 _ rfl, h k hk 2 _ rfl, h k hk 3 _ rfl, h k hk 4 _ rfl, h k hk 5 _ rfl⟩
theorem py_cells {w : World} {b off : Nat} {l : List Py} (h : ∀ i (h : i < l.length) j u, (vPy l[i])[j]? = some u → w.cell? ⟨b, off + i * 4 + j, none⟩ = some u) {k : Nat} (hk : k < l.length) : PyC w b (off + k * 4) l[k] :=
  ⟨by have := h k hk 0 _ rfl; simpa using this, h k hk 1 _ rfl, h k hk 2 _ rfl, h k hk 3 _ rfl⟩
theorem DbC.new (w : World) (d : Db) (T : TypeId) : DbC (w.alloc (.cells #[.int .i64 d.kd, .int .i64 d.tl, .int .i64 d.fl, .int .i64 d.fr, .int .i64 d.un, .int .i64 d.pr] T)) w.heap.size 0 d := by
  refine ⟨?_, ?_, ?_, ?_, ?_, ?_⟩ <;> simp [go_sem]
theorem PyC.new (w : World) (p : Py) (T : TypeId) : PyC (w.alloc (.cells #[.int .i64 p.kd, .int .i64 p.tl, .int .i64 p.fl, .int .i64 p.mo] T)) w.heap.size 0 p := by
  refine ⟨?_, ?_, ?_, ?_⟩ <;> simp [go_sem]
set_option maxRecDepth 100000 in
theorem de_within (n lo hi : Int) (w : World) : Calls Tryz.prog 27 #[.int .i64 n, .int .i64 lo, .int .i64 hi] w fun e w' => e = .returned (.bool (decide (lo ≤ n) && decide (n ≤ hi))) ∧ w' = w := by
  by_cases h1 : lo ≤ n
  · have d1 : decide (lo ≤ n) = true := decide_eq_true h1
    go_enter Tryz.func27, Tryz.ntmps27
    go_wp2_with fail
    go_ret
    exact ⟨by rw [d1, Bool.true_and]; rfl, rfl⟩
  · have d1 : decide (lo ≤ n) = false := decide_eq_false h1
    go_enter Tryz.func27, Tryz.ntmps27
    go_wp2_with fail
    go_ret
    exact ⟨by first | rfl | (rw [d1, Bool.false_and]; rfl), rfl⟩
set_option maxHeartbeats 2000000 in
set_option maxRecDepth 100000 in
theorem de_cls (k t f : Int) (w : World) : Calls Tryz.prog 28 #[.agg #[.int .i64 k, .int .i64 t, .int .i64 f]] w fun e w' => e = .returned (.bool (clsB k t f)) ∧ Below w.heap.size w w' := by
  have HB := hide (bAlloc (Below.refl w.heap.size w) (.cells #[.int .i64 k, .int .i64 t, .int .i64 f] 65))
  have HW := hide (fun n lo hi W => de_within n lo hi W)
  have c0 : (w.alloc (.cells #[.int .i64 k, .int .i64 t, .int .i64 f] 65)).cell? ⟨w.heap.size, 0, none⟩ = some (.int .i64 k) := by simp [go_sem]
  have c1 : (w.alloc (.cells #[.int .i64 k, .int .i64 t, .int .i64 f] 65)).cell? ⟨w.heap.size, 1, none⟩ = some (.int .i64 t) := by simp [go_sem]
  have c2 : (w.alloc (.cells #[.int .i64 k, .int .i64 t, .int .i64 f] 65)).cell? ⟨w.heap.size, 2, none⟩ = some (.int .i64 f) := by simp [go_sem]
  obtain ⟨p, hp⟩ : ∃ p, (decide ((0 : Int) ≤ t) && decide (t ≤ 5)) = p := ⟨_, rfl⟩
  have HP := hide hp
  have HC : Hid (clsB k t f = (p && (if k = 1 then decide (f = -1) else if k = 2 ∨ k = 3 then decide (0 ≤ f) && decide (f ≤ 7) else false))) := by show _ = _; unfold clsB; rw [hp]
  rw [HC.out]
  clear hp HC
  cases p with
  | false =>
    rw [Bool.false_and]
    go_enter Tryz.func28, Tryz.ntmps28
    go_wp2_with fail
    refine (HW.out _ _ _ _).mono ?_
    rintro e w1 ⟨rfl, rfl⟩
    have hp := HP.out
    rw [hp]
    clear hp
    go_wp2_with fail
    go_ret
    exact ⟨rfl, HB.out⟩
  | true =>
    by_cases k1 : k = 1
    · subst k1
      rw [if_pos rfl, Bool.true_and]
      go_enter Tryz.func28, Tryz.ntmps28
      go_wp2_with fail
      refine (HW.out _ _ _ _).mono ?_
      rintro e w1 ⟨rfl, rfl⟩
      have hp := HP.out
      rw [hp]
      clear hp
      go_wp2_with fail
      go_ret
      refine ⟨?_, HB.out⟩
      first | rfl | (show Ending.returned (.bool (f == -1)) = _; congr 2)
    · by_cases k2 : k = 2 ∨ k = 3
      · rw [if_neg k1, if_pos k2, Bool.true_and]
        have e1 : (k == 1) = false := beq_eq_false_iff_ne.2 k1
        rcases k2 with rfl | rfl
        · go_enter Tryz.func28, Tryz.ntmps28
          go_wp2_with fail
          refine (HW.out _ _ _ _).mono ?_
          rintro e w1 ⟨rfl, rfl⟩
          have hp := HP.out
          rw [hp]
          clear hp
          go_wp2_with fail
          refine (HW.out _ _ _ _).mono ?_
          rintro e w2 ⟨rfl, rfl⟩
          go_wp2_with fail
          go_ret
          exact ⟨rfl, HB.out⟩
        · go_enter Tryz.func28, Tryz.ntmps28
          go_wp2_with fail
          refine (HW.out _ _ _ _).mono ?_
          rintro e w1 ⟨rfl, rfl⟩
          have hp := HP.out
          rw [hp]
          clear hp
          go_wp2_with fail
          refine (HW.out _ _ _ _).mono ?_
          rintro e w2 ⟨rfl, rfl⟩
          go_wp2_with fail
          go_ret
          exact ⟨rfl, HB.out⟩
      · rw [if_neg k1, if_neg k2, Bool.and_false]
        have e1 : (k == 1) = false := beq_eq_false_iff_ne.2 k1
        have e2 : (k == 2) = false := beq_eq_false_iff_ne.2 (fun e => k2 (.inl e))
        have e3 : (k == 3) = false := beq_eq_false_iff_ne.2 (fun e => k2 (.inr e))
        go_enter Tryz.func28, Tryz.ntmps28
        go_wp2_with fail
        refine (HW.out _ _ _ _).mono ?_
        rintro e w1 ⟨rfl, rfl⟩
        have hp := HP.out
        rw [hp]
        clear hp
        go_wp2_with fail
        go_ret
        exact ⟨rfl, HB.out⟩
end Go.Proofs.YtlagoiaiodjmhaaGreatDoor
