/- Numbers of equal digits, powers of ten; products that are too long. -/
import Derived.Test.YtncocgfgbocnkaaGreatDoorRaV
import Derived.Test.YtncocgfgbocnkaaGreatDoorRaN
set_option linter.unusedVariables false
set_option linter.unusedSimpArgs false
namespace Go.Proofs.YtncocgfgbocnkaaGreatDoor
open Go.RowKit

def nin (m : Nat) : Nat := 10 ^ m - 1
theorem ten_pos (m : Nat) : 0 < 10 ^ m := Nat.pow_pos (by decide)
theorem nval_nines (m : Nat) : nval (List.replicate m 57) = nin m := by
  unfold nin
  induction m with
  | zero => rfl
  | succ m ih =>
    rw [List.replicate_succ', nval_snoc, ih, Nat.pow_succ]
    have := ten_pos m
    have e : dvN 57 = 9 := rfl
    omega
theorem natS_nines {m : Nat} (h : 1 ≤ m) : natS (nin m) = bL (List.replicate m 57) := by
  apply ba_eq
  rw [natS_toList, bL_list, ← nval_nines]
  refine dec_nval _ ⟨?_, ?_, ?_⟩
  · simp; omega
  · intro b hb
    rw [List.eq_of_mem_replicate hb]; decide
  · intro e
    obtain ⟨k, rfl⟩ : ∃ k, m = k + 1 := ⟨m - 1, by omega⟩
    rw [List.replicate_succ] at e
    simp at e
theorem natS_tens (k : Nat) : natS (10 ^ k) = bL (49 :: List.replicate k 48) := by
  have hv : nval (49 :: List.replicate k 48) = 10 ^ k := by
    have := nval_append [49] (List.replicate k 48)
    rw [nval_zeros, List.length_replicate] at this
    rw [List.singleton_append] at this
    rw [this]
    show (0 * 10 + 1) * 10 ^ k + 0 = _
    omega
  apply ba_eq
  rw [natS_toList, bL_list, ← hv]
  refine dec_nval _ ⟨by simp, ?_, ?_⟩
  · intro b hb
    rcases List.mem_cons.1 hb with e | e
    · rw [e]; decide
    · rw [List.eq_of_mem_replicate e]; decide
  · intro e
    simp at e
theorem len_eq {x k : Nat} (h1 : 10 ^ k ≤ x) (h2 : x < 10 ^ (k + 1)) : (natS x).size = k + 1 := by
  rw [natS_size]
  have a : (Lib.decDigits x).length ≤ k + 1 := (capK_len (by omega)).2 h2
  by_cases hk : k = 0
  · subst hk
    have := dec_ne_nil x
    have : 0 < (Lib.decDigits x).length := List.length_pos_iff.2 this
    omega
  · have b : ¬ (Lib.decDigits x).length ≤ k := fun h => by
      have := (capK_len (n := x) (k := k) (by omega)).1 h
      unfold capK at this; omega
    omega
theorem nin_mul {m n : Nat} (hm : 1 ≤ m) (hn : 1 ≤ n) : 10 ^ (m + n - 1) ≤ nin m * nin n ∧ nin m * nin n < 10 ^ (m + n) := by
  unfold nin
  obtain ⟨a, rfl⟩ : ∃ a, m = a + 1 := ⟨m - 1, by omega⟩
  obtain ⟨b, rfl⟩ : ∃ b, n = b + 1 := ⟨n - 1, by omega⟩
  have pa := ten_pos a
  have pb := ten_pos b
  obtain ⟨x, hx⟩ : ∃ x, 10 ^ a = x := ⟨_, rfl⟩
  obtain ⟨y, hy⟩ : ∃ y, 10 ^ b = y := ⟨_, rfl⟩
  have e1 : 10 ^ (a + 1 + (b + 1) - 1) = 10 * (x * y) := by
    rw [show a + 1 + (b + 1) - 1 = a + b + 1 by omega, Nat.pow_succ, Nat.pow_add, hx, hy, Nat.mul_comm]
  have e2 : 10 ^ (a + 1 + (b + 1)) = 100 * (x * y) := by
    rw [show a + 1 + (b + 1) = a + b + 1 + 1 by omega, Nat.pow_succ, Nat.pow_succ, Nat.pow_add, hx, hy]; omega
  rw [e1, e2, Nat.pow_succ, Nat.pow_succ, hx, hy]
  rw [hx] at pa
  rw [hy] at pb
  obtain ⟨u, rfl⟩ : ∃ u, x = u + 1 := ⟨x - 1, by omega⟩
  obtain ⟨v, rfl⟩ : ∃ v, y = v + 1 := ⟨y - 1, by omega⟩
  rw [show (u + 1) * 10 - 1 = 10 * u + 9 by omega, show (v + 1) * 10 - 1 = 10 * v + 9 by omega]
  have e3 : (u + 1) * (v + 1) = u * v + u + v + 1 := by rw [Nat.add_mul, Nat.mul_add]; omega
  have e4 : (10 * u + 9) * (10 * v + 9) = 100 * (u * v) + 90 * u + 90 * v + 81 := by
    rw [Nat.add_mul, Nat.mul_add, Nat.mul_add, Nat.mul_mul_mul_comm]; omega
  rw [e3, e4]
  omega
/-- A whole number. -/
theorem isQ_int (z : Int) : IsQ (z : Rat) (decide (z < 0)) (natS z.natAbs) ⟨#[49]⟩ := by
  show rqV (Rat.ofInt z) = _
  unfold rqV ngQ nmQ
  show Value.agg #[.bool (decide (z < 0)), .string (natS z.natAbs), .string (natS 1)] = _
  rw [natS_one]
theorem fit_int {z : Int} (h : z.natAbs < capN) : FitQ (z : Rat) := ⟨h, by show 1 < capN; exact Nat.lt_of_lt_of_le (by decide) (capK_le (a := 1) (by decide))⟩
theorem mul_int (x y : Int) (W : World) (hx : x.natAbs < capN) (hy : y.natAbs < capN) (hW : LawW W) :
    Calls Tryz.prog 29 #[.agg #[.bool (decide (x < 0)), .string (natS x.natAbs), .string ⟨#[49]⟩], .agg #[.bool (decide (y < 0)), .string (natS y.natAbs), .string ⟨#[49]⟩]] W fun e w' => (if x.natAbs * y.natAbs < capN then e = .returned (.tuple #[.agg #[.bool (decide (x * y < 0)), .string (natS (x.natAbs * y.natAbs)), .string ⟨#[49]⟩], .int .i64 0]) else e = .returned (.tuple #[.agg #[.bool false, .string ⟨#[]⟩, .string ⟨#[]⟩], .int .i64 2])) ∧ Below W.heap.size W w' := by
  have h := rat_Mul (x : Rat) (y : Rat) W (fit_int hx) (fit_int hy) hW
  have ex := isQ_int x
  have ey := isQ_int y
  have exy := isQ_int (x * y)
  unfold IsQ at ex ey exy
  rw [ex, ey] at h
  have h1 : 1 < capN := Nat.lt_of_lt_of_le (by decide) (capK_le (a := 1) (by decide))
  have hmf : mulFit (x : Rat) (y : Rat) ↔ x.natAbs * y.natAbs < capN := ⟨fun h => h.1, fun h => ⟨h, h1⟩⟩
  by_cases hc : x.natAbs * y.natAbs < capN
  · rw [mulR_ok (hmf.2 hc)] at h
    simp only [if_pos hc]
    unfold RvPost at h
    rw [← Rat.intCast_mul] at h
    have e2 : rvV (some ((x * y : Int) : Rat)) = .agg #[.bool (decide (x * y < 0)), .string (natS (x.natAbs * y.natAbs)), .string ⟨#[49]⟩] := by
      rw [← Int.natAbs_mul]; exact exy
    rw [e2] at h
    exact h
  · rw [mulR_no (fun h => hc (hmf.1 h))] at h
    simp only [if_neg hc]
    exact h
theorem nin_cap {m : Nat} (h : m ≤ 1000) : nin m < capN := by
  have h1 : 10 ^ m ≤ capN := capK_le (a := m) (b := 1000) h
  have h2 := ten_pos m
  unfold nin
  obtain ⟨c, hc⟩ : ∃ c, capN = c := ⟨_, rfl⟩
  obtain ⟨t, ht⟩ : ∃ t, 10 ^ m = t := ⟨_, rfl⟩
  rw [hc, ht] at h1
  rw [ht] at h2
  rw [hc, ht]
  omega
theorem capK_iff (a b : Nat) : capK a < capK b ↔ a < b := Nat.pow_lt_pow_iff_right (by decide)
theorem tens_cap {k : Nat} : 10 ^ k < capN ↔ k < 1000 := capK_iff k 1000
/-- What the two products of RationalLimit return. -/
def L1 (m n : Nat) (g : Bool) (s t : ByteArray) (k : Int) : Prop := (k = 2 ∧ 1000 < m + n ∧ g = false ∧ s = ⟨#[]⟩ ∧ t = ⟨#[]⟩) ∨ (k = 0 ∧ m + n ≤ 1000 ∧ s.size = m + n)
def L2 (m n : Nat) (g : Bool) (s t : ByteArray) (k : Int) : Prop := (k = 2 ∧ 1001 < m + n ∧ g = false ∧ s = ⟨#[]⟩ ∧ t = ⟨#[]⟩) ∨ (k = 0 ∧ m + n ≤ 1001 ∧ g = true ∧ s.size = m + n - 1)
def RTM (ga : Bool) (sa ta : ByteArray) (gb : Bool) (sb tb : ByteArray) (g : Bool) (s t : ByteArray) (k : Int) : Prop := ∀ W, LawW W → Calls Tryz.prog 29 #[.agg #[.bool ga, .string sa, .string ta], .agg #[.bool gb, .string sb, .string tb]] W fun e w' => e = .returned (.tuple #[.agg #[.bool g, .string s, .string t], .int .i64 k]) ∧ Below W.heap.size W w'
theorem lim_nines {m n : Nat} (hm : 1 ≤ m) (hn : 1 ≤ n) (hm2 : m ≤ 600) (hn2 : n ≤ 600) : ∃ g s t k, RTM false (bL (List.replicate m 57)) ⟨#[49]⟩ false (bL (List.replicate n 57)) ⟨#[49]⟩ g s t k ∧ L1 m n g s t k := by
  have ha : ((nin m : Nat) : Int).natAbs = nin m := Int.natAbs_natCast _
  have hb : ((nin n : Nat) : Int).natAbs = nin n := Int.natAbs_natCast _
  have h := fun W hW => mul_int ((nin m : Nat) : Int) ((nin n : Nat) : Int) W (by rw [ha]; exact nin_cap (by omega)) (by rw [hb]; exact nin_cap (by omega)) hW
  rw [ha, hb, decide_eq_false (by omega), decide_eq_false (by omega), natS_nines hm, natS_nines hn] at h
  have e1 : m + n - 1 + 1 = m + n := by omega
  have e2 : m + n - 1 < 1000 → m + n ≤ 1000 := by omega
  obtain ⟨h1, h2⟩ := nin_mul hm hn
  by_cases hc : nin m * nin n < capN
  · simp only [if_pos hc] at h
    have hmn : m + n ≤ 1000 := e2 (tens_cap.1 (Nat.lt_of_le_of_lt h1 hc))
    refine ⟨_, _, _, _, h, .inr ⟨rfl, hmn, ?_⟩⟩
    have h3 := len_eq (k := m + n - 1) h1 (by rw [e1]; exact h2)
    rw [e1] at h3
    exact h3
  · simp only [if_neg hc] at h
    refine ⟨_, _, _, _, h, .inl ⟨rfl, ?_, rfl, rfl, rfl⟩⟩
    refine Nat.lt_of_not_le fun hle => hc (Nat.lt_of_lt_of_le h2 ?_)
    exact capK_le (a := m + n) hle
theorem lim_tens {m n : Nat} (hm : 1 ≤ m) (hn : 1 ≤ n) (hm2 : m ≤ 600) (hn2 : n ≤ 600) : ∃ g s t k, RTM false (bL (49 :: List.replicate (m - 1) 48)) ⟨#[49]⟩ true (bL (49 :: List.replicate (n - 1) 48)) ⟨#[49]⟩ g s t k ∧ L2 m n g s t k := by
  have ha : ((10 ^ (m - 1) : Nat) : Int).natAbs = 10 ^ (m - 1) := Int.natAbs_natCast _
  have hb : (-((10 ^ (n - 1) : Nat) : Int)).natAbs = 10 ^ (n - 1) := by rw [Int.natAbs_neg]; exact Int.natAbs_natCast _
  have pa := ten_pos (m - 1)
  have pb := ten_pos (n - 1)
  have h := fun W hW => mul_int ((10 ^ (m - 1) : Nat) : Int) (-((10 ^ (n - 1) : Nat) : Int)) W (by rw [ha]; exact tens_cap.2 (by omega)) (by rw [hb]; exact tens_cap.2 (by omega)) hW
  have hpos : ((10 ^ (m - 1) : Nat) : Int) * (-((10 ^ (n - 1) : Nat) : Int)) < 0 := by
    rw [Int.mul_neg]
    have : 0 < ((10 ^ (m - 1) : Nat) : Int) * ((10 ^ (n - 1) : Nat) : Int) := Int.mul_pos (by exact_mod_cast pa) (by exact_mod_cast pb)
    omega
  rw [ha, hb, decide_eq_false (by omega), decide_eq_true (show -((10 ^ (n - 1) : Nat) : Int) < 0 by omega), decide_eq_true hpos, natS_tens, natS_tens, ← Nat.pow_add] at h
  by_cases hc : 10 ^ (m - 1 + (n - 1)) < capN
  · simp only [if_pos hc] at h
    have := tens_cap.1 hc
    refine ⟨_, _, _, _, h, .inr ⟨rfl, by omega, rfl, ?_⟩⟩
    have := len_eq (k := m - 1 + (n - 1)) (Nat.le_refl _) (Nat.pow_lt_pow_right (by decide) (by omega))
    omega
  · simp only [if_neg hc] at h
    have : ¬ m - 1 + (n - 1) < 1000 := fun h => hc (tens_cap.2 h)
    exact ⟨_, _, _, _, h, .inl ⟨rfl, by omega, rfl, rfl, rfl⟩⟩
theorem lim_cmp {m n : Nat} (hm : 1 ≤ m) (hm2 : m ≤ 600) (hn2 : n ≤ 600) (W : World) (hW : LawW W) :
    Calls Tryz.prog 23 #[.agg #[.bool true, .string (bL (49 :: List.replicate (n - 1) 48)), .string ⟨#[49]⟩], .agg #[.bool false, .string (bL (List.replicate m 57)), .string ⟨#[49]⟩]] W fun e w' => e = .returned (.int .i64 (-1)) ∧ Below W.heap.size W w' := by
  have ha : ((nin m : Nat) : Int).natAbs = nin m := Int.natAbs_natCast _
  have hb : (-((10 ^ (n - 1) : Nat) : Int)).natAbs = 10 ^ (n - 1) := by rw [Int.natAbs_neg]; exact Int.natAbs_natCast _
  have pb := ten_pos (n - 1)
  have h := rat_Compare ((-((10 ^ (n - 1) : Nat) : Int) : Int) : Rat) (((nin m : Nat) : Int) : Rat) W (fit_int (by rw [hb]; exact tens_cap.2 (by omega))) (fit_int (by rw [ha]; exact nin_cap (by omega))) hW
  have e1 := isQ_int (-((10 ^ (n - 1) : Nat) : Int))
  have e2 := isQ_int ((nin m : Nat) : Int)
  rw [hb, decide_eq_true (show -((10 ^ (n - 1) : Nat) : Int) < 0 by omega), natS_tens] at e1
  rw [ha, decide_eq_false (by omega), natS_nines hm] at e2
  unfold IsQ at e1 e2
  rw [e1, e2] at h
  have hlt : ((-((10 ^ (n - 1) : Nat) : Int) : Int) : Rat) < (((nin m : Nat) : Int) : Rat) := Rat.intCast_lt_intCast.2 (by omega)
  have hc : cmpQ ((-((10 ^ (n - 1) : Nat) : Int) : Int) : Rat) (((nin m : Nat) : Int) : Rat) = -1 := by unfold cmpQ; rw [if_pos hlt]
  unfold CqPost at h
  rw [hc] at h
  exact h
end Go.Proofs.YtncocgfgbocnkaaGreatDoor
