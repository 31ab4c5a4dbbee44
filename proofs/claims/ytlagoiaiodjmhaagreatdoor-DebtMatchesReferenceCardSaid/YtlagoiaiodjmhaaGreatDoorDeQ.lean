/- The shares of the programmes: in plain Lean. -/
import Derived.Test.YtlagoiaiodjmhaaGreatDoorDeP
set_option linter.unusedVariables false
set_option linter.unusedSimpArgs false
namespace Go.Proofs.YtlagoiaiodjmhaaGreatDoor

/-- Programme p has one of the first n debts that payment k settles. -/
def shB (l : List Db) (S : List Int) (n k p : Nat) : Bool := (List.range n).any fun i => decide (S.getD i 0 = (k : Int) ∧ (dbN l i).pr = (p : Int))
theorem shB_iff {l : List Db} {S : List Int} {n k p : Nat} : shB l S n k p = true ↔ ∃ i, i < n ∧ S.getD i 0 = (k : Int) ∧ (dbN l i).pr = (p : Int) := by
  unfold shB
  rw [List.any_eq_true]
  constructor
  · rintro ⟨i, hi, h⟩
    exact ⟨i, by simpa using hi, of_decide_eq_true h⟩
  · rintro ⟨i, hi, h⟩
    exact ⟨i, by simpa using hi, decide_eq_true h⟩
theorem shB_succ (l : List Db) (S : List Int) (n k p : Nat) : shB l S (n + 1) k p = (shB l S n k p || decide (S.getD n 0 = (k : Int) ∧ (dbN l n).pr = (p : Int))) := by
  unfold shB
  rw [List.range_succ, List.any_append]; simp
/-- How many of the first m numbers have a property. -/
def cntN : Nat → (Nat → Bool) → Nat
  | 0, _ => 0
  | m + 1, f => cntN m f + if f m then 1 else 0
theorem cntN_le (f : Nat → Bool) : ∀ m, cntN m f ≤ m
  | 0 => Nat.le_refl _
  | m + 1 => by
    unfold cntN
    have := cntN_le f m
    split <;> omega
theorem cntN_congr {f g : Nat → Bool} : ∀ {m : Nat}, (∀ i, i < m → f i = g i) → cntN m f = cntN m g
  | 0, _ => rfl
  | m + 1, h => by unfold cntN; rw [cntN_congr (fun i hi => h i (by omega)), h m (by omega)]
theorem cntN_zero : ∀ m : Nat, cntN m (fun _ => false) = 0
  | 0 => rfl
  | m + 1 => by unfold cntN; rw [cntN_zero m]; rfl
theorem cntN_new {f g : Nat → Bool} {p : Nat} : ∀ {m : Nat}, p < m → f p = false → g p = true → (∀ i, i ≠ p → g i = f i) → cntN m g = cntN m f + 1
  | 0, h, _, _, _ => absurd h (Nat.not_lt_zero _)
  | m + 1, h, h1, h2, h3 => by
    unfold cntN
    by_cases e : p = m
    · subst e
      rw [h1, h2, cntN_congr (fun i hi => h3 i (by omega))]; rfl
    · rw [cntN_new (m := m) (by omega) h1 h2 h3, h3 m (fun e' => e e'.symm)]; omega
theorem cntN_pos {f : Nat → Bool} : ∀ {m : Nat}, (∃ i, i < m ∧ f i = true) → 0 < cntN m f
  | 0, ⟨_, h, _⟩ => absurd h (Nat.not_lt_zero _)
  | m + 1, ⟨i, h, hf⟩ => by
    unfold cntN
    by_cases e : i = m
    · subst e; rw [if_pos hf]; omega
    · have := cntN_pos (f := f) (m := m) ⟨i, by omega, hf⟩; omega
theorem cntN_more {f : Nat → Bool} {m : Nat} (h : ∀ i, m ≤ i → f i = false) : ∀ d, cntN (m + d) f = cntN m f
  | 0 => rfl
  | d + 1 => by
    show cntN (m + d) f + (if f (m + d) then 1 else 0) = _
    rw [cntN_more h d, h (m + d) (by omega)]; rfl
def nSh (l : List Db) (S : List Int) (n k : Nat) : Nat := cntN 64 (shB l S n k)
def LL : Nat := 1182266884102822267511361600
theorem LL_all : (List.range 64).all (fun n => LL % (n + 1) == 0) = true := by decide +kernel
theorem LL_dvd {n : Nat} (h : 1 ≤ n) (h2 : n ≤ 64) : n * (LL / n) = LL := by
  have h1 := List.all_eq_true.1 LL_all (n - 1) (by rw [List.mem_range]; omega)
  rw [show n - 1 + 1 = n by omega] at h1
  exact Nat.mul_div_cancel' (Nat.dvd_of_mod_eq_zero (by simpa using h1))
theorem LL_pos : 0 < LL := by decide +kernel
/-- What one of the programmes that share a payment bears, times LL. -/
def shrN (l : List Db) (S : List Int) (k : Nat) : Nat := LL / nSh l S l.length k
def trmN (l : List Db) (S : List Int) (p k : Nat) : Nat := if shB l S l.length k p then shrN l S k else 0
/-- What a programme bears of the first m payments, times LL. -/
def cstN (l : List Db) (S : List Int) (m p : Nat) : Nat := sumN m (trmN l S p)
theorem shr_le (l : List Db) (S : List Int) (k : Nat) : shrN l S k ≤ LL := Nat.div_le_self _ _
theorem trm_le (l : List Db) (S : List Int) (p k : Nat) : trmN l S p k ≤ LL := by
  unfold trmN
  split
  · exact shr_le l S k
  · omega
theorem sum_le_mul {f : Nat → Nat} {c : Nat} (h : ∀ i, f i ≤ c) : ∀ n, sumN n f ≤ n * c
  | 0 => by simp [sumN]
  | n + 1 => by
    unfold sumN
    have := sum_le_mul h n
    have := h n
    rw [Nat.add_mul]; omega
theorem cst_le (l : List Db) (S : List Int) (m p : Nat) : cstN l S m p ≤ m * LL := sum_le_mul (trm_le l S p) m
theorem nSh_pos {l : List Db} {S : List Int} {n k p : Nat} (hp : p < 64) (h : shB l S n k p = true) : 1 ≤ nSh l S n k := cntN_pos ⟨p, hp, h⟩
theorem nSh_le (l : List Db) (S : List Int) (n k : Nat) : nSh l S n k ≤ 64 := cntN_le _ 64
theorem shr_pos {l : List Db} {S : List Int} {k p : Nat} (hp : p < 64) (h : shB l S l.length k p = true) : 0 < shrN l S k := by
  have h1 := nSh_pos hp h
  have h2 := nSh_le l S l.length k
  have h3 := LL_dvd h1 h2
  refine Nat.pos_of_ne_zero fun e => ?_
  unfold shrN at e
  rw [e, Nat.mul_zero] at h3
  have := LL_pos
  omega
/-- Sums in the other order. -/
theorem sumN_add (f g : Nat → Nat) : ∀ n, sumN n (fun i => f i + g i) = sumN n f + sumN n g
  | 0 => rfl
  | n + 1 => by
    show sumN n (fun i => f i + g i) + (f n + g n) = (sumN n f + f n) + (sumN n g + g n)
    rw [sumN_add f g n]; omega
theorem sumN_swap (f : Nat → Nat → Nat) (m : Nat) : ∀ n, sumN n (fun i => sumN m (f i)) = sumN m (fun k => sumN n (fun i => f i k))
  | 0 => by
    show 0 = sumN m (fun _ => 0)
    rw [sumN_zero]
  | n + 1 => by
    show sumN n (fun i => sumN m (f i)) + sumN m (f n) = sumN m (fun k => sumN n (fun i => f i k) + f n k)
    rw [sumN_swap f m n, sumN_add]
theorem sumN_cnt (f : Nat → Bool) (c : Nat) : ∀ n, sumN n (fun i => if f i then c else 0) = cntN n f * c
  | 0 => by simp [sumN, cntN]
  | n + 1 => by
    show sumN n (fun i => if f i then c else 0) + (if f n then c else 0) = (cntN n f + (if f n then 1 else 0)) * c
    rw [sumN_cnt f c n, Nat.add_mul]
    by_cases e : f n = true
    · rw [if_pos e, if_pos e, Nat.one_mul]
    · rw [if_neg e, if_neg e, Nat.zero_mul]
/-- Whether a payment settles a debt. -/
def usdB (l : List Db) (S : List Int) (k : Nat) : Bool := (List.range l.length).any fun i => decide (S.getD i 0 = (k : Int))
theorem usd_iff {l : List Db} {S : List Int} {k : Nat} : usdB l S k = true ↔ ∃ i, i < l.length ∧ S.getD i 0 = (k : Int) := by
  unfold usdB
  rw [List.any_eq_true]
  constructor
  · rintro ⟨i, hi, h⟩; exact ⟨i, by simpa using hi, of_decide_eq_true h⟩
  · rintro ⟨i, hi, h⟩; exact ⟨i, by simpa using hi, decide_eq_true h⟩
/-- All costs together: one for each payment that settles a debt. -/
theorem cst_sum {l : List Db} {S : List Int} {P : Nat} (hP : P ≤ 64) (hp : ∀ i, i < l.length → ∃ p : Nat, (dbN l i).pr = (p : Int) ∧ p < P) (m : Nat) : sumN P (cstN l S m) = cntN m (usdB l S) * LL := by
  show sumN P (fun p => sumN m (trmN l S p)) = _
  rw [sumN_swap]
  rw [sumN_congr (g := fun k => if usdB l S k then LL else 0) (fun k _ => ?_)]
  · exact sumN_cnt _ _ _
  · show sumN P (fun p => if shB l S l.length k p then shrN l S k else 0) = _
    rw [sumN_cnt]
    have hz : ∀ p, P ≤ p → shB l S l.length k p = false := fun p hpp => by
      rw [Bool.eq_false_iff]
      intro h
      obtain ⟨i, hi, _, h2⟩ := shB_iff.1 h
      obtain ⟨q, hq, hq2⟩ := hp i hi
      omega
    have e : cntN P (shB l S l.length k) = nSh l S l.length k := by
      have := cntN_more hz (64 - P)
      rw [show P + (64 - P) = 64 by omega] at this
      exact this.symm
    rw [e]
    by_cases hu : usdB l S k = true
    · rw [if_pos hu]
      obtain ⟨i, hi, h⟩ := usd_iff.1 hu
      obtain ⟨q, hq, hq2⟩ := hp i hi
      exact LL_dvd (nSh_pos (by omega) (shB_iff.2 ⟨i, hi, h, hq⟩)) (nSh_le _ _ _ _)
    · rw [if_neg hu]
      have : nSh l S l.length k = 0 := by
        unfold nSh
        rw [cntN_congr (g := fun _ => false) (fun p _ => ?_), cntN_zero]
        rw [Bool.eq_false_iff]
        intro h
        obtain ⟨i, hi, h1, _⟩ := shB_iff.1 h
        exact hu (usd_iff.2 ⟨i, hi, h1⟩)
      rw [this, Nat.zero_mul]
theorem cst_pos {l : List Db} {S : List Int} {m p : Nat} (hp : p < 64) : 0 < cstN l S m p ↔ ∃ k, k < m ∧ shB l S l.length k p = true := by
  constructor
  · intro h
    refine Classical.byContradiction fun hn => ?_
    have : cstN l S m p = sumN m (fun _ => 0) := sumN_congr fun k hk => by
      unfold trmN
      rw [if_neg (fun e => hn ⟨k, hk, e⟩)]
    rw [this, sumN_zero] at h
    omega
  · rintro ⟨k, hk, h⟩
    have h1 := shr_pos hp h
    have h2 : ∀ n, k < n → trmN l S p k ≤ sumN n (trmN l S p) := by
      intro n
      induction n with
      | zero => intro h; omega
      | succ n ih =>
        intro hkn
        unfold sumN
        by_cases e : k = n
        · subst e; omega
        · have := ih (by omega); omega
    have h3 := h2 m hk
    have h4 : trmN l S p k = shrN l S k := if_pos h
    unfold cstN
    omega
end Go.Proofs.YtlagoiaiodjmhaaGreatDoor
