/- debt: Split, plain facts and laws of operations. -/
import Derived.Test.YtlagoiaiodjmhaaGreatDoorDeI
set_option linter.unusedVariables false
set_option linter.unusedSimpArgs false
namespace Go.Proofs.YtlagoiaiodjmhaaGreatDoor
open Go.RowKit Go.Maps

def usZ (S : List Int) (n : Nat) (x : Int) : Bool := decide (0 ≤ x) && (List.range n).any fun i => decide (S.getD i 0 = x)
def shZ (l : List Db) (S : List Int) (n : Nat) (x p : Int) : Bool := (List.range n).any fun i => decide (S.getD i 0 = x ∧ (dbN l i).pr = p)
theorem usZ_succ (S : List Int) (n : Nat) (x : Int) : usZ S (n + 1) x = (decide (0 ≤ x) && ((List.range n).any (fun i => decide (S.getD i 0 = x)) || decide (S.getD n 0 = x))) := by
  unfold usZ
  rw [List.range_succ, List.any_append]; simp
theorem shZ_succ (l : List Db) (S : List Int) (n : Nat) (x p : Int) : shZ l S (n + 1) x p = (shZ l S n x p || decide (S.getD n 0 = x ∧ (dbN l n).pr = p)) := by
  unfold shZ
  rw [List.range_succ, List.any_append]; simp
theorem usZ_skip {S : List Int} {n : Nat} (h : S.getD n 0 < 0) (x : Int) : usZ S n x = usZ S (n + 1) x := by
  rw [usZ_succ]
  unfold usZ
  by_cases e : 0 ≤ x
  · rw [decide_eq_false (show ¬ S.getD n 0 = x by omega), Bool.or_false]
  · rw [decide_eq_false e, Bool.false_and, Bool.false_and]
theorem shZ_skip {l : List Db} {S : List Int} {n : Nat} (h : S.getD n 0 < 0) {x : Int} (hx : usZ S n x = true) (p : Int) : shZ l S n x p = shZ l S (n + 1) x p := by
  rw [shZ_succ]
  have h0 : 0 ≤ x := by unfold usZ at hx; rw [Bool.and_eq_true, decide_eq_true_eq] at hx; exact hx.1
  rw [decide_eq_false (fun e => by omega), Bool.or_false]
theorem usZ_step {S : List Int} {n : Nat} (h : 0 ≤ S.getD n 0) (x : Int) : (decide (x = S.getD n 0) || usZ S n x) = usZ S (n + 1) x := by
  rw [usZ_succ]
  unfold usZ
  by_cases e : x = S.getD n 0
  · rw [decide_eq_true e, Bool.true_or, decide_eq_true e.symm, Bool.or_true, decide_eq_true (show 0 ≤ x by omega)]; rfl
  · have e2 : decide (S.getD n 0 = x) = false := decide_eq_false (fun e' => e e'.symm)
    rw [decide_eq_false e, Bool.false_or, e2, Bool.or_false]
theorem usZ_same {S : List Int} {n : Nat} (hu : usZ S n (S.getD n 0) = true) (x : Int) : usZ S n x = usZ S (n + 1) x := by
  have h : 0 ≤ S.getD n 0 := by unfold usZ at hu; rw [Bool.and_eq_true, decide_eq_true_eq] at hu; exact hu.1
  rw [← usZ_step h]
  by_cases e : x = S.getD n 0
  · rw [decide_eq_true e, Bool.true_or, e]; exact hu
  · rw [decide_eq_false e, Bool.false_or]
theorem shZ_none {l : List Db} {S : List Int} {n : Nat} {x : Int} (h0 : 0 ≤ x) (h : usZ S n x = false) (p : Int) : shZ l S n x p = false := by
  unfold usZ at h
  rw [decide_eq_true h0, Bool.true_and, List.any_eq_false] at h
  unfold shZ
  rw [List.any_eq_false]
  intro i hi e
  have e := of_decide_eq_true e
  exact h i hi (decide_eq_true e.1)
theorem shZ_step {l : List Db} {S : List Int} {n : Nat} (y q : Int) : (if y = S.getD n 0 then decide (q = (dbN l n).pr) || shZ l S n (S.getD n 0) q else shZ l S n y q) = shZ l S (n + 1) y q := by
  rw [shZ_succ]
  by_cases e : y = S.getD n 0
  · rw [if_pos e, e, Bool.or_comm]
    congr 1
    exact decide_eq_decide.2 ⟨fun h => ⟨rfl, h.symm⟩, fun h => h.2.symm⟩
  · rw [if_neg e, decide_eq_false (fun h => e h.1.symm), Bool.or_false]
theorem shZ_shB (l : List Db) (S : List Int) (n k p : Nat) : shZ l S n (k : Int) (p : Int) = shB l S n k p := rfl
section
variable {ops : Array Oper} {rest : List Oper} {o : Oper} {a : Act} {Q : Exit → Act → World → Prop}
/-- 'm[k] = v' with what it does known. -/
theorem wpList_mapRun (w : World) (hg : o.guard = none) (m x v : Operand) (T : TypeId) (hop : o.op = Op.mapUpdate T m x v) (key val : Value) (B : Nat) (w1 : World) (hm : a.eval m = .map (some B)) (hx : a.eval x = key) (hv : a.eval v = val)
    (hrun : (Instr.mapUpdate T (.map (some B)) key val).run Tryz.prog w = .ok () w1) (hk : wpList Tryz.prog ops Q rest (a.put o.dst undef) w1) : wpList Tryz.prog ops Q (o :: rest) a w := by
  refine wpList_plain hg fun K' hK' => ?_
  unfold Oper.wp
  simp [execOp, hop, hm, hx, hv, hrun, Result.andThen]
  exact hK' _ _ hk
end
theorem zeroMD (w : World) : (zeroValue 72).run Tryz.prog w = .ok (.map none) w := by kernel_rfl
set_option maxRecDepth 100000 in
theorem map_eq_some (b : Nat) (W : World) : (binOp .eql 72 (.map (some b)) (.map none)).run Tryz.prog W = .ok (.bool false) W := by rfl
set_option maxRecDepth 100000 in
theorem map_eq_none (W : World) : (binOp .eql 72 (.map none) (.map none)).run Tryz.prog W = .ok (.bool true) W := by rfl
theorem Tryz.infoRatD : (Tryz.prog.info? 57).map (fun i => (i.zero, i.size, i.bytes)) = some (some (.agg #[.bool false, .string ⟨#[]⟩, .string ⟨#[]⟩]), 3, 40) := by kernel_rfl
theorem run_make_rat (n : Nat) (hn : n ≤ 1000000) (w : World) : (Instr.makeSlice 38 (.int .i64 (n : Int)) (.int .i64 (n : Int))).run Tryz.prog w = .ok (.slice (some ⟨w.heap.size, 0, none⟩) n n) (w.alloc (.cells (madeCells #[.bool false, .string ⟨#[]⟩, .string ⟨#[]⟩] (n * 3)) 57)) := by
  obtain ⟨i, hi, hz0, hz1, hz2⟩ := info_parts Tryz.infoRatD
  have hr := run_make (P := Tryz.prog) w 38 57 i _ Tryz.underlying38 hi hz0 .i64 .i64 n n (by omega) (Int.le_refl _) (by rw [hz2]; omega) (by omega)
  simp only [Int.toNat_natCast, hz1] at hr
  exact hr
theorem RB.made (w : World) (n : Nat) (T : TypeId) : RB (w.alloc (.cells (madeCells #[.bool false, .string ⟨#[]⟩, .string ⟨#[]⟩] (n * 3)) T)) w.heap.size n (fun _ => (false, ⟨#[]⟩, ⟨#[]⟩)) :=
  ⟨fun i hi => by
    rw [World.cell?_alloc_at _ _ _ _ rfl, World.cell?_alloc_at _ _ _ _ rfl, World.cell?_alloc_at _ _ _ _ rfl]
    have h1 : i * 3 < n * 3 := by omega
    have h2 : i * 3 + 1 < n * 3 := by omega
    have h3 : i * 3 + 2 < n * 3 := by omega
    have h4 : (i * 3 + 1) % 3 = 1 := by omega
    have h5 : (i * 3 + 2) % 3 = 2 := by omega
    simp [madeCells, h1, h2, h3, h4, h5], fun i hi => by simp [go_sem], by simp⟩
end Go.Proofs.YtlagoiaiodjmhaaGreatDoor
