/- law 18: what DebtSplits says, in plain Lean. -/
import Derived.Test.YtlagoiaiodjmhaaGreatDoorDeR
set_option linter.unusedVariables false
set_option linter.unusedSimpArgs false
namespace Go.Proofs.YtlagoiaiodjmhaaGreatDoor

theorem LL_qpos : (0 : Rat) < ((LL : Nat) : Rat) := by
  have := LL_pos
  exact_mod_cast this
theorem cos_div (a : Nat) : cosQ a = ((a : Nat) : Rat) / ((LL : Nat) : Rat) := by
  unfold cosQ ofQ
  rw [Rat.intCast_natCast, Rat.intCast_natCast]
theorem cos_eq0 {a : Nat} (h : cosQ a = 0) : a = 0 := by
  rw [cos_div] at h
  have h0 := LL_qpos
  have h1 : ((a : Nat) : Rat) = 0 := by grind
  exact_mod_cast h1
theorem cos_ge (a : Nat) : 0 ≤ cosQ a := by
  rw [cos_div, Rat.div_def]
  refine Rat.mul_nonneg (by exact_mod_cast Nat.zero_le a) ?_
  exact Rat.le_of_lt (Rat.inv_pos.2 LL_qpos)
theorem cos_ng (a : Nat) : ngQ (cosQ a) = false := by
  unfold ngQ
  exact decide_eq_false (fun h => by have := Rat.num_nonneg.2 (cos_ge a); omega)
theorem cos_le {a b : Nat} (h : a ≤ b) : cosQ a ≤ cosQ b := by
  obtain ⟨c, rfl⟩ : ∃ c, b = a + c := ⟨b - a, by omega⟩
  rw [← cos_add]
  have := cos_ge c
  grind
theorem cos_whole (n : Nat) : cosQ (n * LL) = ofQ (n : Int) 1 := by
  have hs := ofQ_scale (n := (n : Int)) (d := 1) (k := ((LL : Nat) : Int)) (by omega) LL_ne
  rw [Int.one_mul, ← Int.natCast_mul] at hs
  exact hs
theorem rqT_inj {p q : Rat} (h : rqT p = rqT q) : p = q := by
  refine IsQ.inj (rqT_is p) ?_
  rw [h]; exact rqT_is q
/-- Whether one of the first n debts is settled by a payment. -/
def usI (S : List Int) (n k : Nat) : Bool := (List.range n).any fun i => decide (S.getD i 0 = (k : Int))
theorem usI_succ (S : List Int) (n k : Nat) : usI S (n + 1) k = (usI S n k || decide (S.getD n 0 = (k : Int))) := by
  unfold usI
  rw [List.range_succ, List.any_append]; simp
theorem usI_all (l : List Db) (S : List Int) (k : Nat) : usI S l.length k = usdB l S k := rfl
theorem usI_skip {S : List Int} {n : Nat} (h : S.getD n 0 < 0) : usI S (n + 1) = usI S n := by
  funext k
  rw [usI_succ, decide_eq_false (fun e => by omega), Bool.or_false]
theorem usI_old {S : List Int} {n q : Nat} (h : S.getD n 0 = (q : Int)) (hu : usI S n q = true) : usI S (n + 1) = usI S n := by
  funext k
  rw [usI_succ]
  by_cases e : q = k
  · subst e; rw [hu, Bool.true_or]
  · rw [decide_eq_false (fun e' => e (by omega)), Bool.or_false]
theorem usI_new {S : List Int} {n q m : Nat} (h : S.getD n 0 = (q : Int)) (hq : q < m) (hu : usI S n q = false) : (∀ k, usI S (n + 1) k = if k = q then true else usI S n k) ∧ cntN m (usI S (n + 1)) = cntN m (usI S n) + 1 := by
  have e : ∀ k, usI S (n + 1) k = if k = q then true else usI S n k := fun k => by
    rw [usI_succ]
    by_cases e : k = q
    · rw [if_pos e, e, decide_eq_true h, Bool.or_true]
    · rw [if_neg e, decide_eq_false (fun e' => e (by omega)), Bool.or_false]
  exact ⟨e, cntN_new hq hu (by rw [e, if_pos rfl]) (fun i hi => by rw [e, if_neg hi])⟩
/-- Whether a programme has a debt that is settled, among the first n. -/
def berI (l : List Db) (S : List Int) (n p : Nat) : Bool := (List.range n).any fun i => decide ((dbN l i).pr = (p : Int)) && decide (0 ≤ S.getD i 0)
theorem berI_succ (l : List Db) (S : List Int) (n p : Nat) : berI l S (n + 1) p = (berI l S n p || (decide ((dbN l n).pr = (p : Int)) && decide (0 ≤ S.getD n 0))) := by
  unfold berI
  rw [List.range_succ, List.any_append]; simp
theorem cst_ber {l : List Db} {S : List Int} {m p : Nat} (hp : p < 64) (hS : ∀ i, i < l.length → S.getD i 0 < (m : Int)) : decide (cosQ (cstN l S m p) ≠ 0) = berI l S l.length p := by
  rw [Bool.eq_iff_iff, decide_eq_true_eq]
  have h1 : cosQ (cstN l S m p) ≠ 0 ↔ 0 < cstN l S m p := by
    constructor
    · intro h
      refine Nat.pos_of_ne_zero fun e => h ?_
      rw [e]; exact cos_zero
    · intro h e
      rw [cos_eq0 e] at h; omega
  rw [h1, cst_pos hp]
  unfold berI
  rw [List.any_eq_true]
  constructor
  · rintro ⟨k, hk, hs⟩
    obtain ⟨i, hi, h1, h2⟩ := shB_iff.1 hs
    exact ⟨i, List.mem_range.2 hi, by rw [decide_eq_true h2, decide_eq_true (by omega : 0 ≤ S.getD i 0)]; rfl⟩
  · rintro ⟨i, hi, h⟩
    rw [List.mem_range] at hi
    simp only [Bool.and_eq_true, decide_eq_true_eq] at h
    have := hS i hi
    exact ⟨(S.getD i 0).toNat, by omega, shB_iff.2 ⟨i, hi, by omega, h.1⟩⟩
theorem sumN_mem {f : Nat → Nat} {p : Nat} : ∀ {n : Nat}, p < n → f p ≤ sumN n f
  | 0, h => absurd h (Nat.not_lt_zero _)
  | n + 1, h => by
    unfold sumN
    by_cases e : p = n
    · subst e; omega
    · have := sumN_mem (f := f) (n := n) (p := p) (by omega); omega
end Go.Proofs.YtlagoiaiodjmhaaGreatDoor
