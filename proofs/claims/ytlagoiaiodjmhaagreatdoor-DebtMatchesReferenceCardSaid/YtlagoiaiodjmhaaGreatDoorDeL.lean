/- debt: the sums of Split, plain facts. -/
import Derived.Test.YtlagoiaiodjmhaaGreatDoorDeJ
set_option linter.unusedVariables false
set_option linter.unusedSimpArgs false
namespace Go.Proofs.YtlagoiaiodjmhaaGreatDoor
open Go.RowKit Go.Maps

theorem sumN_turn {f g : Nat → Nat} {k c : Nat} (h : ∀ i, i ≠ k → g i = f i) (hk : g k = f k + c) : ∀ {n : Nat}, k < n → sumN n g = sumN n f + c
  | 0, hn => absurd hn (Nat.not_lt_zero _)
  | n + 1, hn => by
    unfold sumN
    by_cases e : k = n
    · subst e
      rw [sumN_congr (g := f) (fun i hi => h i (by omega)), hk]; omega
    · rw [sumN_turn h hk (n := n) (by omega), h n (fun e' => e e'.symm)]; omega
/-- What is borne of the payments that have been gone through. -/
def accN (l : List Db) (S : List Int) (m : Nat) (left : Lit → Bool) (p : Nat) : Nat := sumN m (fun k => if left (kI (k : Int)) then 0 else trmN l S p k)
theorem acc_all (l : List Db) (S : List Int) (m : Nat) {left : Lit → Bool} (h : ∀ kl, left kl = false) (p : Nat) : accN l S m left p = cstN l S m p :=
  sumN_congr fun k _ => by rw [h]; rfl
theorem acc_none {l : List Db} {S : List Int} {m : Nat} {left : Lit → Bool} {p : Nat} (h : ∀ k : Nat, left (kI (k : Int)) = false → shB l S l.length k p = false) : accN l S m left p = 0 := by
  unfold accN
  rw [sumN_congr (g := fun _ => 0) (fun k _ => ?_), sumN_zero]
  by_cases e : left (kI (k : Int)) = true
  · rw [if_pos e]
  · rw [if_neg e]
    unfold trmN
    rw [h k (by simpa using e)]; rfl
theorem kI_same (a b : Int) : (kI a).sameKey (kI b) = decide (a = b) := by
  by_cases e : a = b
  · subst e
    rw [decide_eq_true rfl]
    exact WideAt.sameKey_self (keyI_lit a)
  · rw [decide_eq_false e]
    exact sameKey_ne (fun h => e (kI_inj _ _ h))
theorem acc_step (l : List Db) (S : List Int) {m k : Nat} (hk : k < m) {left : Lit → Bool} (hl : left (kI (k : Int)) = true) (p : Nat) : accN l S m (fun z => left z && !z.sameKey (kI (k : Int))) p = accN l S m left p + trmN l S p k := by
  unfold accN
  refine sumN_turn (k := k) (fun i hi => ?_) ?_ hk
  · show (if (left (kI (i : Int)) && !(kI (i : Int)).sameKey (kI (k : Int))) = true then 0 else trmN l S p i) = _
    rw [kI_same, decide_eq_false (fun e : (i : Int) = (k : Int) => hi (by omega)), Bool.not_false, Bool.and_true]
  · show (if (left (kI (k : Int)) && !(kI (k : Int)).sameKey (kI (k : Int))) = true then 0 else trmN l S p k) = _
    rw [kI_same, decide_eq_true rfl, Bool.not_true, Bool.and_false, hl]; simp
theorem acc_le (l : List Db) (S : List Int) (m : Nat) (left : Lit → Bool) (p : Nat) : accN l S m left p ≤ m * LL := by
  refine sum_le_mul (fun k => ?_) m
  split
  · exact Nat.zero_le _
  · exact trm_le l S p k
def rqT (q : Rat) : Bool × ByteArray × ByteArray := (ngQ q, natS (nmQ q), natS q.den)
theorem rqT_is (q : Rat) : IsQ q (rqT q).1 (rqT q).2.1 (rqT q).2.2 := rfl
/-- A number of LL-ths. -/
def cosQ (a : Nat) : Rat := ofQ ((a : Nat) : Int) ((LL : Nat) : Int)
theorem LL_ne : ((LL : Nat) : Int) ≠ 0 := by have := LL_pos; omega
theorem cos_add (a b : Nat) : cosQ a + cosQ b = cosQ (a + b) := by
  unfold cosQ ofQ
  rw [Rat.div_def, Rat.div_def, Rat.div_def, ← Rat.add_mul, Int.natCast_add, Rat.intCast_add]
theorem cos_zero : cosQ 0 = 0 := by
  unfold cosQ ofQ
  rw [Rat.div_def]
  exact Rat.zero_mul _
theorem cos_one {n : Nat} (h : 1 ≤ n) (h2 : n ≤ 64) : cosQ (LL / n) = ofQ 1 (n : Int) := by
  have h1 := LL_dvd h h2
  have hq : LL / n ≠ 0 := fun e => by rw [e, Nat.mul_zero] at h1; have := LL_pos; omega
  have hs := ofQ_scale (n := 1) (d := (n : Int)) (k := ((LL / n : Nat) : Int)) (by omega) (by omega)
  rw [Int.one_mul, ← Int.natCast_mul, h1] at hs
  exact hs
theorem cos_sz {a : Nat} (h : a ≤ 1001 * LL) : Sz 40 (cosQ a) := by
  obtain ⟨h1, h2⟩ := ofQ_le ((a : Nat) : Int) ((LL : Nat) : Int) LL_ne
  have hc : 1001 * LL < capK 40 := by unfold capK; decide +kernel
  have e1 : ((a : Nat) : Int).natAbs = a := rfl
  have e2 : ((LL : Nat) : Int).natAbs = LL := rfl
  rw [e1] at h1
  rw [e2] at h2
  exact ⟨Nat.lt_of_le_of_lt (Nat.le_trans h1 h) hc, Nat.lt_of_le_of_lt (Nat.le_trans h2 (by omega)) hc⟩
theorem rqT_zero : rqT 0 = (false, ⟨#[48]⟩, ⟨#[49]⟩) := by
  have h := rqV_zero
  unfold rqV at h
  simp only [Value.agg.injEq, Array.mk.injEq, List.cons.injEq, Value.bool.injEq, Value.string.injEq, and_true] at h
  unfold rqT
  rw [h.1, h.2.1, h.2.2]
end Go.Proofs.YtlagoiaiodjmhaaGreatDoor
