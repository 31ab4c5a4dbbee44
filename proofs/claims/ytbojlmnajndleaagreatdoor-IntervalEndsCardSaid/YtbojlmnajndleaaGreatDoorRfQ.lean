/- Plain laws on numerals for the reference of chapter 03: differences, products, order, quotients. -/
import Derived.Test.YtbojlmnajndleaaGreatDoorRfP
import GoSem.Op.String
set_option linter.unusedVariables false
set_option linter.unusedSimpArgs false
namespace Go.Proofs.YtbojlmnajndleaaGreatDoor
open Go.Lib

theorem le10_lt {l : List Nat} (h : D10 l) : le10 l < 10 ^ l.length := by
  induction l with
  | nil => simp [le10]
  | cons d l ih =>
    have h1 := ih fun e he => h e (by simp [he])
    have h2 := h d (by simp)
    simp only [le10, List.length_cons, Nat.pow_succ]
    omega
theorem sub_step10 {x y i b n : Nat} {o : List Nat} (hl : o.length = i) (hb : b ≤ 1) (h : le10 o + y % 10 ^ i = x % 10 ^ i + b * 10 ^ i) (hn : n + atN y i + b = atN x i + 10) :
    le10 (o ++ [n % 10]) + y % 10 ^ (i + 1) = x % 10 ^ (i + 1) + (1 - n / 10) * 10 ^ (i + 1) := by
  rw [le10_snoc, hl, atN_mod, atN_mod]
  have a := atN_lt x i
  have c := atN_lt y i
  have e := Nat.div_add_mod n 10
  have hq : n / 10 ≤ 1 := by omega
  generalize hqq : 1 - n / 10 = q
  have e2 : n % 10 + atN y i + b = atN x i + 10 * q := by omega
  have e3 : 10 ^ i * (n % 10 + atN y i + b) = 10 ^ i * (atN x i + 10 * q) := by rw [e2]
  rw [Nat.mul_add, Nat.mul_add, Nat.mul_add] at e3
  rw [show q * 10 ^ (i + 1) = 10 ^ i * (10 * q) by rw [Nat.pow_succ, Nat.mul_comm q, Nat.mul_assoc]]
  rw [Nat.mul_comm b] at h
  omega
theorem sub_end10 {x y i b : Nat} {o : List Nat} (hd : D10 o) (hl : o.length = i) (h : le10 o + y % 10 ^ i = x % 10 ^ i + b * 10 ^ i) (hx : x % 10 ^ i = x) (hle : y ≤ x) : le10 o = x - y := by
  have hy : y % 10 ^ i = y := by
    have h1 : x < 10 ^ i := by rw [← hx]; exact Nat.mod_lt _ (Nat.pow_pos (by decide))
    exact Nat.mod_eq_of_lt (by omega)
  rw [hx, hy] at h
  have h1 := le10_lt hd
  rw [hl] at h1
  have : b = 0 := by
    rcases Nat.eq_zero_or_pos b with h2 | h2
    · exact h2
    · exfalso
      have : 1 * 10 ^ i ≤ b * 10 ^ i := Nat.mul_le_mul_right _ h2
      omega
  subst this
  omega
theorem le10_set {l : List Nat} {j v : Nat} (h : j < l.length) : le10 (l.set j (l[j] + v)) = le10 l + v * 10 ^ j := by
  induction l generalizing j with
  | nil => simp at h
  | cons d l ih =>
    cases j with
    | zero => simp [le10]; omega
    | succ j =>
      simp only [List.set_cons_succ, le10, List.getElem_cons_succ]
      rw [ih (by simpa using h), Nat.pow_succ, Nat.mul_add]
      have : 10 * (v * 10 ^ j) = v * (10 ^ j * 10) := by rw [← Nat.mul_assoc, Nat.mul_comm 10 v, Nat.mul_assoc, Nat.mul_comm 10]
      omega
theorem le10_zeros (n : Nat) : le10 (List.replicate n 0) = 0 := by
  induction n with
  | zero => rfl
  | succ n ih => rw [List.replicate_succ]; simp only [le10, ih]
theorem mul_step10 {V x y i k d e : Nat} (h : V = x % 10 ^ i * y + 10 ^ i * (d * (y % 10 ^ k))) (he : atN y k = e) :
    V + d * e * 10 ^ (i + k) = x % 10 ^ i * y + 10 ^ i * (d * (y % 10 ^ (k + 1))) := by
  rw [h, atN_mod y k, he, Nat.pow_add, Nat.mul_add d, Nat.mul_add (10 ^ i)]
  have : d * e * (10 ^ i * 10 ^ k) = 10 ^ i * (d * (10 ^ k * e)) := by
    rw [Nat.mul_comm (10 ^ k) e, ← Nat.mul_assoc d e, ← Nat.mul_assoc (d * e), Nat.mul_comm (d * e) (10 ^ i), Nat.mul_assoc]
  omega
theorem mul_row10 {V x y i d : Nat} (h : V = x % 10 ^ i * y + 10 ^ i * (d * y)) (hd : atN x i = d) : V = x % 10 ^ (i + 1) * y := by
  rw [h, atN_mod x i, hd, Nat.add_mul, Nat.mul_assoc]
theorem le10_take {l : List Nat} {i : Nat} (h : i < l.length) : le10 (l.take (i + 1)) = le10 (l.take i) + 10 ^ i * l[i] := by
  rw [List.take_succ_eq_append_getElem h, le10_snoc, List.length_take, Nat.min_eq_left (by omega)]
theorem out_step10 {S o : List Nat} {i c : Nat} (hi : i < S.length) (hl : o.length = i) (h : le10 o + c * 10 ^ i = le10 (S.take i)) :
    le10 (o ++ [(S[i] + c) % 10]) + (S[i] + c) / 10 * 10 ^ (i + 1) = le10 (S.take (i + 1)) := by
  rw [le10_take hi, le10_snoc, hl]
  have e := Nat.div_add_mod (S[i] + c) 10
  generalize (S[i] + c) / 10 = q at *
  generalize (S[i] + c) % 10 = r at *
  have e3 : 10 ^ i * (10 * q + r) = 10 ^ i * (S[i] + c) := by rw [e]
  rw [Nat.mul_add, Nat.mul_add] at e3
  rw [show q * 10 ^ (i + 1) = 10 ^ i * (10 * q) by rw [Nat.pow_succ, Nat.mul_comm q, Nat.mul_assoc]]
  rw [Nat.mul_comm c] at h
  omega
theorem out_end10 {S o : List Nat} {c V : Nat} (hl : o.length = S.length) (h : le10 o + c * 10 ^ S.length = le10 (S.take S.length)) (hV : le10 S = V) (hlt : V < 10 ^ S.length) : le10 o = V := by
  rw [List.take_length, hV] at h
  have : c = 0 := by
    rcases Nat.eq_zero_or_pos c with h2 | h2
    · exact h2
    · exfalso
      have : 1 * 10 ^ S.length ≤ c * 10 ^ S.length := Nat.mul_le_mul_right _ h2
      omega
  subst this
  omega
theorem of_step10 {n m i : Nat} {o : List Nat} (hl : o.length = i) (h : le10 o + m * 10 ^ i = n) : le10 (o ++ [m % 10]) + m / 10 * 10 ^ (i + 1) = n := by
  rw [le10_snoc, hl, ← h]
  have e := Nat.div_add_mod m 10
  generalize m / 10 = q at *
  generalize m % 10 = r at *
  subst e
  rw [show q * 10 ^ (i + 1) = 10 ^ i * (10 * q) by rw [Nat.pow_succ, Nat.mul_comm q, Nat.mul_assoc], Nat.mul_comm (10 * q + r), Nat.mul_add]
  omega
theorem nval_cons (b : UInt8) (l : List UInt8) : nval (b :: l) = dvN b * 10 ^ l.length + nval l := by
  have := nval_append [b] l
  simpa [nval] using this
theorem less_digits : ∀ (l m : List UInt8), l.length = m.length → (∀ b ∈ l, isDg b = true) → (∀ b ∈ m, isDg b = true) → Op.bytesLess l m = decide (nval l < nval m)
  | [], [], _, _, _ => rfl
  | a :: l, b :: m, hlen, hl, hm => by
    have hlen' : l.length = m.length := by simpa using hlen
    have hl' : ∀ c ∈ l, isDg c = true := fun c hc => hl c (by simp [hc])
    have hm' : ∀ c ∈ m, isDg c = true := fun c hc => hm c (by simp [hc])
    have ih := less_digits l m hlen' hl' hm'
    have ha := isDg_iff.1 (hl a (by simp))
    have hb := isDg_iff.1 (hm b (by simp))
    have h1 := nval_lt l hl'
    have h2 := nval_lt m hm'
    rw [Op.bytesLess, ih, nval_cons, nval_cons, ← hlen']
    rw [← hlen'] at h2
    generalize 10 ^ l.length = p at *
    rcases Nat.lt_trichotomy a.toNat b.toNat with h | h | h
    · have e1 : decide (a < b) = true := decide_eq_true (by rw [UInt8.lt_iff_toNat_lt]; exact h)
      rw [e1, Bool.true_or]
      refine (decide_eq_true ?_).symm
      have : (dvN a + 1) * p ≤ dvN b * p := Nat.mul_le_mul_right _ (by unfold dvN; omega)
      rw [Nat.add_mul] at this
      omega
    · have e0 : a = b := UInt8.toNat_inj.1 h
      subst e0
      have e1 : decide (a < a) = false := decide_eq_false (by rw [UInt8.lt_iff_toNat_lt]; omega)
      rw [e1, Bool.false_or, beq_self_eq_true, Bool.true_and]
      congr 1
      exact propext ⟨fun h => by omega, fun h => by omega⟩
    · have e1 : decide (a < b) = false := decide_eq_false (by rw [UInt8.lt_iff_toNat_lt]; omega)
      have e2 : (a == b) = false := by
        rw [beq_eq_false_iff_ne]; intro e; subst e; omega
      rw [e1, e2, Bool.false_or, Bool.false_and]
      refine (decide_eq_false ?_).symm
      have : (dvN b + 1) * p ≤ dvN a * p := Nat.mul_le_mul_right _ (by unfold dvN; omega)
      rw [Nat.add_mul] at this
      omega
theorem len_lt_lt {x y : Nat} (h : (decDigits x).length < (decDigits y).length) : x < y := by
  have h1 := dec_lt x
  have h2 : 10 ^ ((decDigits y).length - 1) ≤ y := by
    rcases Nat.lt_or_ge y (10 ^ ((decDigits y).length - 1)) with h3 | h3
    · exfalso
      have := dec_len_pos x
      have := (dec_len_le (n := y) (k := (decDigits y).length - 1) (by omega)).2 h3
      omega
    · exact h3
  have h3 : 10 ^ (decDigits x).length ≤ 10 ^ ((decDigits y).length - 1) := Nat.pow_le_pow_right (by decide) (by omega)
  omega
theorem nval_take_all (x : Nat) : nval ((decDigits x).take (decDigits x).length) = x := by rw [List.take_length, nval_dec]
theorem nval_take_succ {l : List UInt8} {i : Nat} (h : i < l.length) : nval (l.take (i + 1)) = nval (l.take i) * 10 + dvN l[i] := by
  rw [List.take_succ_eq_append_getElem h, nval_snoc]
theorem quo_step {X q r y d n : Nat} (h : q * y + r = X) (hn : n * y ≤ r * 10 + d) : (q * 10 + n) * y + (r * 10 + d - n * y) = X * 10 + d := by
  rw [Nat.add_mul, ← h]
  have : q * 10 * y = q * y * 10 := by rw [Nat.mul_assoc, Nat.mul_comm 10 y, ← Nat.mul_assoc]
  omega
theorem quo_le {r y d n : Nat} (hr : r < y) (hd : d < 10) (hn : n * y ≤ r * 10 + d) : n ≤ 9 := by
  rcases Nat.lt_or_ge 9 n with h | h
  · exfalso
    have : 10 * y ≤ n * y := Nat.mul_le_mul_right _ h
    omega
  · exact h
end Go.Proofs.YtbojlmnajndleaaGreatDoor
