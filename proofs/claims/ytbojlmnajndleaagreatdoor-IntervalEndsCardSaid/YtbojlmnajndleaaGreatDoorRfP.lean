/- Numerals digit by digit, as the reference of chapter 03 computes: plain laws. -/
import Derived.Test.YtbojlmnajndleaaGreatDoorNatL
set_option linter.unusedVariables false
set_option linter.unusedSimpArgs false
namespace Go.Proofs.YtbojlmnajndleaaGreatDoor
open Go.Lib

theorem nval_at : ∀ (l : List UInt8), (∀ b ∈ l, isDg b = true) → ∀ p (h : p < l.length), dvN (l[l.length - 1 - p]'(by omega)) = nval l / 10 ^ p % 10 := by
  refine snocInd (by intro _ p h; simp at h) ?_
  intro l b ih hd p h
  have hb := dvN_lt (hd b (by simp))
  rw [nval_snoc]
  cases p with
  | zero =>
    simp only [List.length_append, List.length_cons, List.length_nil] at h ⊢
    rw [List.getElem_append_right (by omega)]
    simp only [Nat.pow_zero, Nat.div_one]
    simp
    omega
  | succ p =>
    simp only [List.length_append, List.length_cons, List.length_nil] at h ⊢
    rw [List.getElem_append_left (by omega)]
    have := ih (fun c hc => hd c (by simp [hc])) p (by omega)
    rw [Nat.pow_succ, Nat.mul_comm (10 ^ p) 10, ← Nat.div_div_eq_div_mul, show (nval l * 10 + dvN b) / 10 = nval l by omega, ← this]
    congr 1
    congr 1
    omega
/-- The digit of a numeral at a place from the right. -/
def atN (x p : Nat) : Nat := x / 10 ^ p % 10
theorem atN_lt (x p : Nat) : atN x p < 10 := Nat.mod_lt _ (by decide)
theorem atN_in {x p : Nat} (h : p < (decDigits x).length) : dvN ((decDigits x)[(decDigits x).length - 1 - p]'(by omega)) = atN x p := by
  rw [nval_at _ (dec_digit x) p h, nval_dec]; rfl
theorem dec_lt (x : Nat) : x < 10 ^ (decDigits x).length := (dec_len_le (dec_len_pos x)).1 (Nat.le_refl _)
theorem atN_out {x p : Nat} (h : (decDigits x).length ≤ p) : atN x p = 0 := by
  unfold atN
  rw [Nat.div_eq_of_lt (Nat.lt_of_lt_of_le (dec_lt x) (Nat.pow_le_pow_right (by decide) h))]
theorem atN_mod (x p : Nat) : x % 10 ^ (p + 1) = x % 10 ^ p + 10 ^ p * atN x p := Nat.mod_pow_succ
theorem mod_all {x p : Nat} (h : (decDigits x).length ≤ p) : x % 10 ^ p = x := Nat.mod_eq_of_lt (Nat.lt_of_lt_of_le (dec_lt x) (Nat.pow_le_pow_right (by decide) h))
/-- The value of digits, of which the first is the last of the number. -/
def le10 : List Nat → Nat
  | [] => 0
  | d :: l => d + 10 * le10 l
theorem le10_append (l m : List Nat) : le10 (l ++ m) = le10 l + 10 ^ l.length * le10 m := by
  induction l with
  | nil => simp [le10]
  | cons d l ih => simp only [List.cons_append, le10, ih, List.length_cons, Nat.pow_succ]; rw [Nat.mul_add, Nat.add_assoc, Nat.mul_comm (10 ^ l.length) 10, Nat.mul_assoc]
theorem le10_snoc (l : List Nat) (d : Nat) : le10 (l ++ [d]) = le10 l + 10 ^ l.length * d := by rw [le10_append]; simp [le10]
def D10 (l : List Nat) : Prop := ∀ d ∈ l, d < 10
/-- The bytes that 'text' lays down. -/
def revB (l : List Nat) : List UInt8 := (l.map fun d => UInt8.ofNat (48 + d)).reverse
theorem revB_len (l : List Nat) : (revB l).length = l.length := by simp [revB]
theorem revB_dg {l : List Nat} (h : D10 l) : ∀ b ∈ revB l, isDg b = true := by
  intro b hb
  simp only [revB, List.mem_reverse, List.mem_map] at hb
  obtain ⟨d, hd, rfl⟩ := hb
  exact isDg_ofNat (h d hd)
theorem nval_revB {l : List Nat} (h : D10 l) : nval (revB l) = le10 l := by
  induction l with
  | nil => rfl
  | cons d l ih =>
    have : revB (d :: l) = revB l ++ [UInt8.ofNat (48 + d)] := by simp [revB]
    rw [this, nval_snoc, ih (fun e he => h e (by simp [he])), dvN_ofNat (h d (by simp))]
    simp only [le10]; omega
/-- What 'trimmed' leaves. -/
theorem trim_end {L : List UInt8} (hd : ∀ b ∈ L, isDg b = true) {i : Nat} (hi : i < L.length) (hz : L.take i = List.replicate i 48) (h : L.length ≤ i + 1 ∨ L[i] ≠ 48) : L.drop i = decDigits (nval L) := by
  have e : nval L = nval (L.drop i) := by
    conv => lhs; rw [← List.take_append_drop i L]
    rw [nval_append, hz, nval_zeros]; simp
  rw [e, dec_nval]
  refine ⟨by intro e; have := congrArg List.length e; simp at this; omega, fun b hb => hd b (List.mem_of_mem_drop hb), ?_⟩
  intro hh
  rcases h with h | h
  · simp; omega
  · exfalso
    rw [List.head?_drop, List.getElem?_eq_getElem hi] at hh
    exact h (by simpa using hh)
theorem trim_step {L : List UInt8} {i : Nat} (hi : i < L.length) (hz : L.take i = List.replicate i 48) (h : L[i] = 48) : L.take (i + 1) = List.replicate (i + 1) 48 := by
  rw [List.take_add_one, hz, List.getElem?_eq_getElem hi, h, List.replicate_succ']; rfl
theorem add_step10 {x y i c : Nat} {o : List Nat} (hl : o.length = i) (h : le10 o + c * 10 ^ i = x % 10 ^ i + y % 10 ^ i) :
    le10 (o ++ [(atN x i + atN y i + c) % 10]) + (atN x i + atN y i + c) / 10 * 10 ^ (i + 1) = x % 10 ^ (i + 1) + y % 10 ^ (i + 1) := by
  rw [le10_snoc, hl, atN_mod, atN_mod, Nat.pow_succ]
  have e := Nat.div_add_mod (atN x i + atN y i + c) 10
  generalize (atN x i + atN y i + c) / 10 = q at *
  generalize (atN x i + atN y i + c) % 10 = r at *
  have : 10 ^ i * (10 * q + r) = 10 ^ i * (atN x i + atN y i + c) := by rw [e]
  rw [Nat.mul_add, Nat.mul_add, Nat.mul_add] at this
  rw [show q * (10 ^ i * 10) = 10 ^ i * (10 * q) by rw [Nat.mul_comm q, Nat.mul_assoc]]
  rw [Nat.mul_comm c] at h
  omega
/-- What text's row holds after i rounds. -/
def rowT (l : List Nat) (i : Nat) : List Nat := List.replicate (l.length - i) 0 ++ ((l.take i).map (48 + ·)).reverse
theorem rowT_zero (l : List Nat) : rowT l 0 = List.replicate l.length 0 := by simp [rowT]
theorem rowT_all (l : List Nat) : rowT l l.length = (l.map (48 + ·)).reverse := by simp [rowT]
theorem rowT_step {l : List Nat} {i : Nat} (h : i < l.length) : (rowT l i).set (l.length - 1 - i) (48 + l[i]) = rowT l (i + 1) := by
  unfold rowT
  rw [List.set_append_left _ _ (by simp; omega), List.take_add_one, List.getElem?_eq_getElem h]
  rw [show l.length - i = (l.length - (i + 1)) + 1 by omega, List.replicate_succ', List.set_append_right _ _ (by simp; omega)]
  rw [show l.length - 1 - i - (List.replicate (l.length - (i + 1)) 0).length = 0 by simp; omega]
  simp only [List.set_cons_zero, List.append_assoc, List.singleton_append, List.map_append, List.reverse_append, Option.toList_some, List.map_cons, List.map_nil, List.reverse_cons, List.reverse_nil, List.nil_append]
end Go.Proofs.YtbojlmnajndleaaGreatDoor
