/- NatP, NatL, NatA, NatB, Nest in one text. -/
import Derived.Lib.ItoaNum
import Derived.Test.YtblpnekjnaaeoaaGreatDoorPkA
set_option linter.unusedVariables false
set_option linter.unusedSimpArgs false
namespace Go.Proofs.YtblpnekjnaaeoaaGreatDoor
open Go.Lib

theorem snocInd {α : Type} {P : List α → Prop} (h0 : P []) (h1 : ∀ l a, P l → P (l ++ [a])) (l : List α) : P l := by
  have key : ∀ m : List α, P m.reverse := by
    intro m
    induction m with
    | nil => exact h0
    | cons a m ih => rw [List.reverse_cons]; exact h1 _ _ ih
  have := key l.reverse
  rwa [List.reverse_reverse] at this

/-- What a byte counts as a digit. -/
def dvN (b : UInt8) : Nat := b.toNat - 48
def isDg (b : UInt8) : Bool := decide (48 ≤ b.toNat) && decide (b.toNat ≤ 57)
theorem isDg_iff {b : UInt8} : isDg b = true ↔ 48 ≤ b.toNat ∧ b.toNat ≤ 57 := by simp [isDg]
/-- The number that a row of digits spells. -/
def nval (l : List UInt8) : Nat := l.foldl (fun a b => a * 10 + dvN b) 0
theorem nval_snoc (l : List UInt8) (b : UInt8) : nval (l ++ [b]) = nval l * 10 + dvN b := by simp [nval, List.foldl_append]
theorem nval_append (l m : List UInt8) : nval (l ++ m) = nval l * 10 ^ m.length + nval m := by
  refine snocInd (P := fun m => nval (l ++ m) = nval l * 10 ^ m.length + nval m) (by simp [nval]) (fun m b ih => ?_) m
  rw [← List.append_assoc, nval_snoc, ih, nval_snoc, List.length_append, List.length_singleton, Nat.pow_succ, Nat.add_mul, Nat.add_assoc, Nat.mul_assoc]
theorem dvN_lt {b : UInt8} (h : isDg b = true) : dvN b < 10 := by have := isDg_iff.1 h; unfold dvN; omega
theorem dvN_ofNat {d : Nat} (h : d < 10) : dvN (UInt8.ofNat (48 + d)) = d := by
  unfold dvN; rw [UInt8.toNat_ofNat']; omega
theorem isDg_ofNat {d : Nat} (h : d < 10) : isDg (UInt8.ofNat (48 + d)) = true := by
  rw [isDg_iff, UInt8.toNat_ofNat']; omega
theorem ofNat_dvN {b : UInt8} (h : isDg b = true) : UInt8.ofNat (48 + dvN b) = b := by
  have h := isDg_iff.1 h
  apply UInt8.toNat_inj.1
  rw [UInt8.toNat_ofNat']; unfold dvN; omega
theorem nval_lt : ∀ (l : List UInt8), (∀ b ∈ l, isDg b = true) → nval l < 10 ^ l.length := by
  refine snocInd (fun _ => by simp [nval]) (fun l b ih => ?_)
  · intro h
    have h1 := ih fun c hc => h c (List.mem_append_left _ hc)
    have h2 := dvN_lt (h b (by simp))
    rw [nval_snoc, List.length_append, List.length_singleton, Nat.pow_succ]
    omega
theorem dec_digit (n : Nat) : ∀ b ∈ decDigits n, isDg b = true := by
  induction n using Nat.strongRecOn with
  | _ n ih =>
    intro b hb
    rw [decDigits] at hb
    split at hb
    · rename_i h
      simp only [List.mem_singleton] at hb
      rw [hb]; exact isDg_ofNat h
    · rename_i h
      rcases List.mem_append.1 hb with hb | hb
      · exact ih _ (by omega) b hb
      · simp only [List.mem_singleton] at hb
        rw [hb]; exact isDg_ofNat (Nat.mod_lt _ (by omega))
theorem nval_dec (n : Nat) : nval (decDigits n) = n := by
  induction n using Nat.strongRecOn with
  | _ n ih =>
    rw [decDigits]
    split
    · rename_i h
      have := nval_snoc [] (UInt8.ofNat (48 + n))
      rw [List.nil_append] at this
      rw [this, dvN_ofNat h]; simp [nval]
    · rename_i h
      rw [nval_snoc, ih _ (by omega), dvN_ofNat (Nat.mod_lt _ (by omega))]
      omega
theorem dec_ne_nil (n : Nat) : decDigits n ≠ [] := by
  intro e
  have h1 := decDigits_length n
  rw [e] at h1
  have h2 := nDigits_pos n
  rw [List.length_nil] at h1
  omega
theorem dec_small {n : Nat} (h : n < 10) : decDigits n = [UInt8.ofNat (48 + n)] := by rw [decDigits, dif_pos h]
theorem dec_big {n : Nat} (h : ¬ n < 10) : decDigits n = decDigits (n / 10) ++ [UInt8.ofNat (48 + n % 10)] := by rw [decDigits, dif_neg h]
theorem dec_step {a d : Nat} (ha : 1 ≤ a) (hd : d < 10) : decDigits (a * 10 + d) = decDigits a ++ [UInt8.ofNat (48 + d)] := by
  rw [dec_big (by omega)]
  have e1 : (a * 10 + d) / 10 = a := by omega
  have e2 : (a * 10 + d) % 10 = d := by omega
  rw [e1, e2]

/-- A numeral: at least one byte, all digits, no zero ahead of others. -/
def numeral (l : List UInt8) : Prop := l ≠ [] ∧ (∀ b ∈ l, isDg b = true) ∧ (l.head? = some 48 → l.length = 1)
theorem head_append {l m : List UInt8} (h : l ≠ []) : (l ++ m).head? = l.head? := by
  cases l with
  | nil => exact absurd rfl h
  | cons a l => rfl
theorem numeral_pos {l : List UInt8} (h : numeral l) (h1 : l.head? ≠ some 48) : 1 ≤ nval l := by
  obtain ⟨hn, hd, _⟩ := h
  cases l with
  | nil => exact absurd rfl hn
  | cons b l =>
    have hb := isDg_iff.1 (hd b (by simp))
    have hb48 : b.toNat ≠ 48 := by
      intro e
      apply h1
      have : b = 48 := UInt8.toNat_inj.1 (by rw [e]; rfl)
      rw [this]; rfl
    have e : nval (b :: l) = dvN b * 10 ^ l.length + nval l := by
      have := nval_append [b] l
      simpa [nval] using this
    have h10 : 1 ≤ 10 ^ l.length := Nat.one_le_pow _ _ (by omega)
    have hdv : 1 ≤ dvN b := by unfold dvN; omega
    have : 1 * 1 ≤ dvN b * 10 ^ l.length := Nat.mul_le_mul hdv h10
    rw [e]; omega
theorem dec_nval : ∀ (l : List UInt8), numeral l → decDigits (nval l) = l := by
  refine snocInd (fun h => absurd rfl h.1) (fun l b ih => ?_)
  · intro h
    have hb : isDg b = true := h.2.1 b (by simp)
    rw [nval_snoc]
    by_cases hl : l = []
    · subst hl
      show decDigits (0 * 10 + dvN b) = [b]
      rw [Nat.zero_mul, Nat.zero_add, dec_small (dvN_lt hb), ofNat_dvN hb]
    · have h0 : l.head? ≠ some 48 := by
        intro e
        have := h.2.2 (by rw [head_append hl]; exact e)
        rw [List.length_append, List.length_singleton] at this
        exact hl (List.eq_nil_of_length_eq_zero (by omega))
      have hnl : numeral l := ⟨hl, fun c hc => h.2.1 c (List.mem_append_left _ hc), fun e => absurd e h0⟩
      rw [dec_step (numeral_pos hnl h0) (dvN_lt hb), ih hnl, ofNat_dvN hb]
theorem dec_head {n : Nat} (h : 1 ≤ n) : (decDigits n).head? ≠ some 48 := by
  induction n using Nat.strongRecOn with
  | _ n ih =>
    by_cases h1 : n < 10
    · rw [dec_small h1]
      simp only [List.head?_cons, ne_eq, Option.some.injEq]
      intro e
      have := congrArg UInt8.toNat e
      rw [UInt8.toNat_ofNat'] at this
      have e2 : (48 : UInt8).toNat = 48 := rfl
      omega
    · rw [dec_big h1, head_append (dec_ne_nil _)]
      exact ih _ (by omega) (by omega)
theorem dec_numeral (n : Nat) : numeral (decDigits n) := by
  refine ⟨dec_ne_nil n, dec_digit n, fun e => ?_⟩
  by_cases h : 1 ≤ n
  · exact absurd e (dec_head h)
  · obtain rfl : n = 0 := by omega
    rw [dec_small (by omega)]; rfl
theorem dec_inj {a b : Nat} (h : decDigits a = decDigits b) : a = b := by
  have := congrArg nval h
  rwa [nval_dec, nval_dec] at this
theorem dec_len_le {n k : Nat} (hk : 1 ≤ k) : (decDigits n).length ≤ k ↔ n < 10 ^ k := by
  rw [decDigits_length]
  constructor
  · intro h; exact Nat.lt_of_lt_of_le (lt_pow_nDigits n) (Nat.pow_le_pow_right (by omega) h)
  · intro h
    by_cases h1 : nDigits n ≤ k
    · exact h1
    · exfalso
      have hd := dec_numeral n
      by_cases h0 : 1 ≤ n
      · -- the digits but the last one spell at least 10 ^ (length - 2)
        have key : ∀ m, 1 ≤ m → 10 ^ (nDigits m - 1) ≤ m := by
          intro m
          induction m using Nat.strongRecOn with
          | _ m ih =>
            intro hm
            by_cases h10 : m < 10
            · rw [nDigits_small h10]; simpa using hm
            · rw [nDigits_big h10]
              have h3 := ih (m / 10) (by omega) (by omega)
              have h4 := nDigits_pos (m / 10)
              have e : nDigits (m / 10) + 1 - 1 = (nDigits (m / 10) - 1) + 1 := by omega
              rw [e, Nat.pow_succ]
              omega
        have h2 := key n h0
        have h3 : 10 ^ k ≤ 10 ^ (nDigits n - 1) := Nat.pow_le_pow_right (by omega) (by omega)
        omega
      · obtain rfl : n = 0 := by omega
        have : nDigits 0 = 1 := nDigits_small (by omega)
        omega
theorem dec_len_pos (n : Nat) : 1 ≤ (decDigits n).length := by rw [decDigits_length]; exact nDigits_pos n
/-- Digits with zeros ahead. -/
theorem nval_zeros (k : Nat) : nval (List.replicate k 48) = 0 := by
  induction k with
  | zero => rfl
  | succ k ih => rw [List.replicate_succ', nval_snoc, ih]; rfl
theorem zeros_digit (k : Nat) : ∀ b ∈ List.replicate k (48 : UInt8), isDg b = true := by
  intro b hb
  rw [List.eq_of_mem_replicate hb]; rfl
theorem dec_join {a d k : Nat} (ha : 1 ≤ a) (hd : d < 10 ^ k) (hk : 1 ≤ k) : decDigits (a * 10 ^ k + d) = decDigits a ++ (List.replicate (k - (decDigits d).length) 48 ++ decDigits d) := by
  have hl := (dec_len_le (n := d) hk).2 hd
  have hnum : numeral (decDigits a ++ (List.replicate (k - (decDigits d).length) 48 ++ decDigits d)) := by
    refine ⟨by simp [dec_ne_nil], fun b hb => ?_, fun e => ?_⟩
    · rcases List.mem_append.1 hb with h | h
      · exact dec_digit a b h
      · rcases List.mem_append.1 h with h | h
        · exact zeros_digit _ b h
        · exact dec_digit d b h
    · rw [head_append (dec_ne_nil a)] at e
      exact absurd e (dec_head ha)
  have := dec_nval _ hnum
  rw [← this]
  congr 1
  rw [nval_append, nval_append, nval_zeros, nval_dec, nval_dec, List.length_append, List.length_replicate]
  have e : k - (decDigits d).length + (decDigits d).length = k := by omega
  rw [e]; omega

/-- A string of digits. -/
def natS (n : Nat) : ByteArray := ⟨(decDigits n).toArray⟩
theorem natS_toList (n : Nat) : (natS n).data.toList = decDigits n := rfl
theorem natS_size (n : Nat) : (natS n).size = (decDigits n).length := by
  show (decDigits n).toArray.size = _
  simp
theorem natS_inj {a b : Nat} (h : natS a = natS b) : a = b := dec_inj (by rw [← natS_toList, ← natS_toList, h])
theorem ba_eq {a b : ByteArray} (h : a.data.toList = b.data.toList) : a = b := by
  cases a with | mk x => cases b with | mk y => simp at h; rw [h]
/-- The strings that are natural numbers. -/
def vldN (s : ByteArray) : Bool := decide (1 ≤ s.size) && decide (s.size ≤ 1000) && s.data.toList.all isDg && (decide (s.data.toList.head? ≠ some 48) || decide (s.size = 1))
theorem ba_size (s : ByteArray) : s.size = s.data.toList.length := rfl
theorem vldN_iff {s : ByteArray} : vldN s = true ↔ s.size ≤ 1000 ∧ numeral s.data.toList := by
  unfold vldN numeral
  simp only [Bool.and_eq_true, decide_eq_true_eq, List.all_eq_true, Bool.or_eq_true]
  rw [ba_size]
  constructor
  · rintro ⟨⟨⟨h1, h2⟩, h3⟩, h4⟩
    refine ⟨h2, ⟨fun e => ?_, h3, fun e => ?_⟩⟩
    · rw [e] at h1; simp at h1
    · rcases h4 with h4 | h4
      · exact absurd e h4
      · exact h4
  · rintro ⟨h2, h1, h3, h4⟩
    refine ⟨⟨⟨?_, h2⟩, h3⟩, ?_⟩
    · cases hl : s.data.toList with
      | nil => exact absurd hl h1
      | cons a l => simp
    · by_cases e : s.data.toList.head? = some 48
      · exact .inr (h4 e)
      · exact .inl e
/-- A valid string is the numeral of its number. -/
theorem vldN_natS {s : ByteArray} (h : vldN s = true) : natS (nval s.data.toList) = s := by
  apply ba_eq
  rw [natS_toList]
  exact dec_nval _ (vldN_iff.1 h).2
/-- A natural number of the document is less than this one. -/
def capK (k : Nat) : Nat := 10 ^ k
def capN : Nat := capK 1000
theorem capK_pos (k : Nat) : 0 < capK k := Nat.pow_pos (by decide)
theorem capK_len {n k : Nat} (hk : 1 ≤ k) : (decDigits n).length ≤ k ↔ n < capK k := dec_len_le hk
theorem capN_pos : 0 < capN := capK_pos 1000
theorem capN_len {n : Nat} : (decDigits n).length ≤ 1000 ↔ n < capN := capK_len (by decide)
theorem natS_vldN {n : Nat} : vldN (natS n) = true ↔ n < capN := by
  rw [vldN_iff, natS_size, capN_len]
  exact ⟨fun h => h.1, fun h => ⟨h, by rw [natS_toList]; exact dec_numeral n⟩⟩
theorem vldN_obtain {s : ByteArray} (h : vldN s = true) : ∃ n, n < capN ∧ s = natS n := by
  have e := vldN_natS h
  exact ⟨nval s.data.toList, natS_vldN.1 (by rw [e]; exact h), e.symm⟩
end Go.Proofs.YtblpnekjnaaeoaaGreatDoor
namespace Go.Proofs.YtblpnekjnaaeoaaGreatDoor

def Bs : Nat := 1000000000
theorem Bs_eq : Bs = 1000000000 := rfl
theorem Bs_pos : 0 < Bs := by rw [Bs_eq]; omega
theorem Bs_pow_pos (n : Nat) : 0 < Bs ^ n := Nat.pow_pos Bs_pos
theorem Bs_ten (n : Nat) : Bs ^ n = 10 ^ (9 * n) := by rw [Nat.pow_mul]; rfl
/-- The limbs of a number, without zeros at the end. -/
def lim (n : Nat) : List Nat := if h : n = 0 then [] else n % Bs :: lim (n / Bs)
termination_by n
decreasing_by exact Nat.div_lt_self (by omega) (by rw [Bs_eq]; omega)
theorem lim_zero : lim 0 = [] := by rw [lim, dif_pos rfl]
theorem lim_step {n : Nat} (h : n ≠ 0) : lim n = n % Bs :: lim (n / Bs) := by rw [lim, dif_neg h]
def lval : List Nat → Nat
  | [] => 0
  | d :: l => d + Bs * lval l
def Lm (l : List Nat) : Prop := ∀ d ∈ l, d < Bs
theorem lval_append (l m : List Nat) : lval (l ++ m) = lval l + Bs ^ l.length * lval m := by
  induction l with
  | nil => simp [lval]
  | cons d l ih =>
    show d + Bs * lval (l ++ m) = d + Bs * lval l + Bs ^ (l.length + 1) * lval m
    rw [ih, Nat.mul_add, Nat.pow_succ, Nat.mul_comm (Bs ^ l.length) Bs, Nat.mul_assoc, Nat.add_assoc]
theorem lval_one (d : Nat) : lval [d] = d := by simp [lval]
theorem lval_lt {l : List Nat} (h : Lm l) : lval l < Bs ^ l.length := by
  induction l with
  | nil => simp [lval]
  | cons d l ih =>
    have h1 := ih fun e he => h e (List.mem_cons_of_mem _ he)
    have h2 := h d (by simp)
    show d + Bs * lval l < Bs ^ (l.length + 1)
    rw [Nat.pow_succ, Nat.mul_comm (Bs ^ l.length) Bs]
    have h3 : Bs * lval l + Bs ≤ Bs * Bs ^ l.length := by
      rw [← Nat.mul_succ]; exact Nat.mul_le_mul_left _ h1
    omega
theorem lval_lim (n : Nat) : lval (lim n) = n := by
  induction n using Nat.strongRecOn with
  | _ n ih =>
    by_cases h : n = 0
    · subst h; rw [lim_zero]; rfl
    · rw [lim_step h]
      show n % Bs + Bs * lval (lim (n / Bs)) = n
      rw [ih _ (Nat.div_lt_self (by omega) (by rw [Bs_eq]; omega))]
      exact Nat.mod_add_div n Bs
theorem lim_Lm (n : Nat) : Lm (lim n) := by
  induction n using Nat.strongRecOn with
  | _ n ih =>
    by_cases h : n = 0
    · subst h; rw [lim_zero]; intro d hd; simp at hd
    · rw [lim_step h]
      intro d hd
      rcases List.mem_cons.1 hd with e | e
      · rw [e]; exact Nat.mod_lt _ Bs_pos
      · exact ih _ (Nat.div_lt_self (by omega) (by rw [Bs_eq]; omega)) d e
/-- Limbs without a zero at the end are those of their number. -/
theorem lim_lval : ∀ {l : List Nat}, Lm l → l.getLast? ≠ some 0 → lim (lval l) = l
  | [], _, _ => lim_zero
  | [d], h, h0 => by
    have hd := h d (by simp)
    have h1 : d ≠ 0 := by intro e; apply h0; rw [e]; rfl
    rw [lval_one, lim_step h1, Nat.mod_eq_of_lt hd, Nat.div_eq_of_lt hd, lim_zero]
  | d :: e :: l, h, h0 => by
    have hd := h d (by simp)
    have ht : Lm (e :: l) := fun x hx => h x (List.mem_cons_of_mem _ hx)
    have h0' : (e :: l).getLast? ≠ some 0 := by
      intro x; apply h0; rw [← x]; simp [List.getLast?_cons_cons]
    have ih := lim_lval ht h0'
    have hp : lval (e :: l) ≠ 0 := by
      intro x
      rw [x, lim_zero] at ih
      cases ih
    show lim (d + Bs * lval (e :: l)) = d :: e :: l
    have hne : d + Bs * lval (e :: l) ≠ 0 := by
      have := Nat.mul_pos Bs_pos (by omega : 0 < lval (e :: l))
      omega
    rw [lim_step hne, Nat.add_mul_mod_self_left, Nat.mod_eq_of_lt hd, Nat.add_mul_div_left _ _ Bs_pos, Nat.div_eq_of_lt hd, Nat.zero_add, ih]
theorem lim_last {n : Nat} : (lim n).getLast? ≠ some 0 := by
  induction n using Nat.strongRecOn with
  | _ n ih =>
    by_cases h : n = 0
    · subst h; rw [lim_zero]; simp
    · rw [lim_step h]
      by_cases h2 : n / Bs = 0
      · rw [h2, lim_zero]
        simp only [List.getLast?_singleton, ne_eq, Option.some.injEq]
        have := Nat.mod_add_div n Bs
        rw [h2] at this
        omega
      · have := ih (n / Bs) (Nat.div_lt_self (by omega) (by rw [Bs_eq]; omega))
        rw [lim_step h2] at this ⊢
        rw [List.getLast?_cons_cons]
        exact this
theorem lim_low {n : Nat} (h : n ≠ 0) : Bs ^ ((lim n).length - 1) ≤ n := by
  induction n using Nat.strongRecOn with
  | _ n ih =>
    rw [lim_step h, List.length_cons, Nat.add_sub_cancel]
    by_cases h2 : n / Bs = 0
    · rw [h2, lim_zero]; simp; omega
    · have h3 := ih (n / Bs) (Nat.div_lt_self (by omega) (by rw [Bs_eq]; omega)) h2
      have h4 : 1 ≤ (lim (n / Bs)).length := by
        rw [lim_step h2]; simp
      have e : (lim (n / Bs)).length = ((lim (n / Bs)).length - 1) + 1 := by omega
      rw [e, Nat.pow_succ]
      exact Nat.le_trans (Nat.mul_le_mul_right _ h3) (Nat.div_mul_le_self n Bs)
theorem lim_lt (n : Nat) : n < Bs ^ (lim n).length := by
  have := lval_lt (lim_Lm n)
  rwa [lval_lim] at this
theorem lim_len_le {n k : Nat} (h : n < Bs ^ k) : (lim n).length ≤ k := by
  by_cases h0 : n = 0
  · subst h0; rw [lim_zero]; simp
  · have h1 := lim_low h0
    by_cases h2 : (lim n).length ≤ k
    · exact h2
    · exfalso
      have h3 : Bs ^ k ≤ Bs ^ ((lim n).length - 1) := Nat.pow_le_pow_right Bs_pos (by omega)
      omega
theorem lim_len_lt {a b : Nat} (h : (lim a).length < (lim b).length) : a < b := by
  have h0 : b ≠ 0 := by intro e; subst e; rw [lim_zero] at h; simp at h
  have h1 := lim_lt a
  have h2 := lim_low h0
  have h3 : Bs ^ (lim a).length ≤ Bs ^ ((lim b).length - 1) := Nat.pow_le_pow_right Bs_pos (by omega)
  omega

/-- Parts of a list of limbs. -/
theorem Lm.take {l : List Nat} (h : Lm l) (k : Nat) : Lm (l.take k) := fun d hd => h d (List.mem_of_mem_take hd)
theorem Lm.drop {l : List Nat} (h : Lm l) (k : Nat) : Lm (l.drop k) := fun d hd => h d (List.mem_of_mem_drop hd)
theorem Lm.append {l m : List Nat} (h : Lm l) (h' : Lm m) : Lm (l ++ m) := fun d hd => (List.mem_append.1 hd).elim (h d) (h' d)
theorem Lm.one {d : Nat} (h : d < Bs) : Lm [d] := fun e he => by simp at he; rw [he]; exact h
theorem Lm.nil : Lm [] := fun d hd => by simp at hd
theorem Lm.zeros (k : Nat) : Lm (List.replicate k 0) := fun d hd => by rw [List.eq_of_mem_replicate hd]; exact Bs_pos
theorem Lm.set {l : List Nat} (h : Lm l) {d : Nat} (hd : d < Bs) (k : Nat) : Lm (l.set k d) := fun e he => by
  rcases List.mem_or_eq_of_mem_set he with h1 | h1
  · exact h e h1
  · rw [h1]; exact hd
theorem lval_zeros (k : Nat) : lval (List.replicate k 0) = 0 := by
  induction k with
  | zero => rfl
  | succ k ih => rw [List.replicate_succ]; show 0 + Bs * lval _ = 0; rw [ih]; rfl
theorem lval_split (l : List Nat) (k : Nat) : lval l = lval (l.take k) + Bs ^ (l.take k).length * lval (l.drop k) := by
  rw [← lval_append, List.take_append_drop]
theorem lval_take_succ {l : List Nat} {k : Nat} (h : k < l.length) : lval (l.take (k + 1)) = lval (l.take k) + Bs ^ k * l[k] := by
  rw [List.take_succ_eq_append_getElem h, lval_append, lval_one, List.length_take]
  have e : min k l.length = k := by omega
  rw [e]
theorem lval_drop {l : List Nat} {k : Nat} (h : k < l.length) : lval (l.drop k) = l[k] + Bs * lval (l.drop (k + 1)) := by
  rw [List.drop_eq_getElem_cons h]; rfl
theorem take_last {l : List Nat} {k : Nat} (h : k < l.length) : (l.take (k + 1)).getLast? = some l[k] := by
  rw [List.take_succ_eq_append_getElem h, List.getLast?_concat]
/-- What 'trimmed' finds. -/
theorem trim_done {l : List Nat} (hl : Lm l) {k : Nat} (hk : k ≤ l.length) (hv : lval (l.take k) = lval l) (h : ∀ j (hj : j < l.length), k = j + 1 → l[j] ≠ 0) : l.take k = lim (lval l) := by
  rw [← hv]
  refine (lim_lval (hl.take k) ?_).symm
  cases k with
  | zero => simp
  | succ k =>
    rw [take_last (by omega)]
    intro e
    injection e with e
    exact h k (by omega) rfl e

/-- Comparing limbs. -/
def cmpN (x y : Nat) : Int := if x < y then -1 else if y < x then 1 else 0
theorem cmpN_lt {x y : Nat} (h : x < y) : cmpN x y = -1 := by unfold cmpN; rw [if_pos h]
theorem cmpN_gt {x y : Nat} (h : y < x) : cmpN x y = 1 := by unfold cmpN; rw [if_neg (by omega), if_pos h]
theorem cmpN_eq (x : Nat) : cmpN x x = 0 := by unfold cmpN; rw [if_neg (by omega), if_neg (by omega)]
theorem cmpN_neg {x y : Nat} : cmpN x y < 0 ↔ x < y := by unfold cmpN; split; simp [*]; split <;> omega
theorem cmpN_le {x y : Nat} : cmpN x y ≤ 0 ↔ x ≤ y := by unfold cmpN; split; omega; split <;> omega
theorem drop_lt {l m : List Nat} (hl : Lm l) {i : Nat} (h1 : i < l.length) (h2 : i < m.length) (e : l.drop (i + 1) = m.drop (i + 1)) (hd : l[i] < m[i]) : lval l < lval m := by
  rw [lval_split l i, lval_split m i, lval_drop h1, lval_drop h2, e, List.length_take, List.length_take]
  have e1 : min i l.length = i := by omega
  have e2 : min i m.length = i := by omega
  rw [e1, e2]
  have h3 := lval_lt (hl.take i)
  rw [List.length_take, e1] at h3
  generalize lval (m.drop (i + 1)) = t
  have h4 : Bs ^ i * (l[i] + Bs * t) + Bs ^ i ≤ Bs ^ i * (m[i] + Bs * t) := by
    rw [← Nat.mul_succ]; exact Nat.mul_le_mul_left _ (by omega)
  omega

/-- A number out of signed limbs. -/
def sumB (f : Nat → Int) : Nat → Int
  | 0 => 0
  | n + 1 => sumB f n + f n * (Bs : Int) ^ n
theorem sumB_add (f g : Nat → Int) (n : Nat) : sumB (fun i => f i + g i) n = sumB f n + sumB g n := by
  induction n with
  | zero => rfl
  | succ n ih => show sumB _ n + (f n + g n) * _ = sumB f n + f n * _ + (sumB g n + g n * _); rw [ih, Int.add_mul]; omega
theorem sumB_sub (f g : Nat → Int) (n : Nat) : sumB (fun i => f i - g i) n = sumB f n - sumB g n := by
  induction n with
  | zero => rfl
  | succ n ih => show sumB _ n + (f n - g n) * _ = sumB f n + f n * _ - (sumB g n + g n * _); rw [ih, Int.sub_mul]; omega
theorem sumB_mul (q : Int) (f : Nat → Int) (n : Nat) : sumB (fun i => q * f i) n = q * sumB f n := by
  induction n with
  | zero => simp [sumB]
  | succ n ih => show sumB _ n + (q * f n) * _ = q * (sumB f n + f n * _); rw [ih, Int.mul_add, Int.mul_assoc]
/-- The limb at a place; 0 beyond the last one. -/
def limbN (l : List Nat) (i : Nat) : Int := (l.getD i 0 : Nat)
theorem limbN_in {l : List Nat} {i : Nat} (h : i < l.length) : limbN l i = (l[i] : Int) := by unfold limbN; simp [List.getD, h]
theorem limbN_out {l : List Nat} {i : Nat} (h : l.length ≤ i) : limbN l i = 0 := by
  unfold limbN
  have : l[i]? = none := List.getElem?_eq_none h
  simp [List.getD, this]
theorem limbN_bd {l : List Nat} (hl : Lm l) (i : Nat) : 0 ≤ limbN l i ∧ limbN l i < 1000000000 := by
  by_cases h : i < l.length
  · rw [limbN_in h]
    have := hl l[i] (List.getElem_mem h)
    rw [Bs_eq] at this; omega
  · rw [limbN_out (by omega)]; omega
theorem sumB_take (l : List Nat) (n : Nat) : sumB (limbN l) n = (lval (l.take n) : Int) := by
  induction n with
  | zero => simp [sumB, lval]
  | succ n ih =>
    show sumB _ n + _ = _
    rw [ih]
    by_cases h : n < l.length
    · rw [lval_take_succ h, limbN_in h]
      have e : (((Bs ^ n : Nat)) : Int) = (Bs : Int) ^ n := by simp
      rw [Int.natCast_add, Int.natCast_mul, e, Int.mul_comm]
    · rw [limbN_out (by omega), List.take_of_length_le (by omega), List.take_of_length_le (by omega)]; simp
theorem sumB_all {l : List Nat} {n : Nat} (h : l.length ≤ n) : sumB (limbN l) n = (lval l : Int) := by rw [sumB_take, List.take_of_length_le h]
/-- One step of a carry. -/
theorem carry_step {f : Nat → Int} {o : List Nat} {i : Nat} {c : Int} (hi : i < o.length) (h : (lval (o.take i) : Int) + c * (Bs : Int) ^ i = sumB f i) {d : Nat} {c' : Int} (e : f i + c = (d : Int) + 1000000000 * c') :
    (lval ((o.set i d).take (i + 1)) : Int) + c' * (Bs : Int) ^ (i + 1) = sumB f (i + 1) := by
  have hi' : i < (o.set i d).length := by rw [List.length_set]; exact hi
  rw [lval_take_succ hi', List.getElem_set_self, List.take_set_of_le (Nat.le_refl _)]
  show _ = sumB f i + f i * _
  rw [← h]
  have e1 : (((Bs ^ i : Nat)) : Int) = (Bs : Int) ^ i := by simp
  have e2 : (Bs : Int) ^ (i + 1) = (Bs : Int) ^ i * 1000000000 := by rw [Int.pow_succ]; rfl
  rw [Int.natCast_add, Int.natCast_mul, e1, e2]
  have e3 : f i = (d : Int) + 1000000000 * c' - c := by omega
  rw [e3]
  generalize (Bs : Int) ^ i = p
  generalize (lval (o.take i) : Int) = v
  have : ((d : Int) + 1000000000 * c' - c) * p = (d : Int) * p + 1000000000 * (c' * p) - c * p := by
    rw [Int.sub_mul, Int.add_mul, Int.mul_assoc]
  rw [this, Int.mul_comm p d]
  have : c' * (p * 1000000000) = 1000000000 * (c' * p) := by rw [← Int.mul_assoc, Int.mul_comm]
  rw [this]
  omega
theorem carry_end {f : Nat → Int} {o : List Nat} {n V : Nat} {c : Int} (hn : o.length = n) (ho : Lm o) (h : (lval (o.take n) : Int) + c * (Bs : Int) ^ n = sumB f n) (hV : sumB f n = (V : Int)) (hlt : V < Bs ^ n) : lval o = V := by
  rw [List.take_of_length_le (by omega), hV] at h
  have h1 := lval_lt ho
  rw [hn] at h1
  have e1 : (((Bs ^ n : Nat)) : Int) = (Bs : Int) ^ n := by simp
  rw [← e1] at h
  generalize Bs ^ n = p at *
  have hc : c = 0 := by
    rcases Int.lt_trichotomy c 0 with hc | hc | hc
    · exfalso
      have h2 : c * (p : Int) ≤ (-1) * (p : Int) := Int.mul_le_mul_of_nonneg_right (by omega) (by omega)
      omega
    · exact hc
    · exfalso
      have h2 : 1 * (p : Int) ≤ c * (p : Int) := Int.mul_le_mul_of_nonneg_right (by omega) (by omega)
      omega
  subst hc
  omega

/-- Division, limb by limb. -/
theorem div_step {y q r r' d t X : Nat} (hq : q * y + r = X) (hr' : r' = d + Bs * r) (ht : t * y ≤ r') : (t + Bs * q) * y + (r' - t * y) = d + Bs * X := by
  rw [Nat.add_mul, Nat.mul_assoc, ← hq, Nat.mul_add]
  omega
theorem div_end {y q r X : Nat} (h : q * y + r = X) (hr : r < y) : q = X / y ∧ r = X % y := by
  have hy : 0 < y := by omega
  constructor
  · rw [← h, Nat.add_comm, Nat.mul_comm, Nat.add_mul_div_left _ _ hy, Nat.div_eq_of_lt hr, Nat.zero_add]
  · rw [← h, Nat.add_comm, Nat.mul_comm, Nat.add_mul_mod_self_left, Nat.mod_eq_of_lt hr]
theorem set_drop {l : List Nat} {i d : Nat} (h : i < l.length) : (l.set i d).drop i = d :: l.drop (i + 1) := by
  have h' : i < (l.set i d).length := by rw [List.length_set]; exact h
  rw [List.drop_eq_getElem_cons h', List.getElem_set_self, List.drop_set_of_lt (by omega)]
end Go.Proofs.YtblpnekjnaaeoaaGreatDoor
namespace Go.Proofs.YtblpnekjnaaeoaaGreatDoor
open Go.RowKit

def vN (x : Nat) : List Value := [.int .i64 (x : Int)]
theorem vN_len (x : Nat) : (vN x).length = 1 := rfl
theorem vN_one (a : Nat) : ∀ u ∈ vN a, u.oneCell' = true := by intro u hu; simp [vN] at hu; subst hu; rfl
theorem nat_cell {w : World} {b off : Nat} {l : List Nat} (h : ∀ i (h : i < l.length) j u, (vN l[i])[j]? = some u → w.cell? ⟨b, off + i * 1 + j, none⟩ = some u) {k : Nat} (hk : k < l.length) : w.cell? ⟨b, off + k, none⟩ = some (.int .i64 (l[k] : Int)) := by
  have := h k hk 0 _ rfl
  simpa using this
set_option maxHeartbeats 400000 in
theorem limb_any (l : List Nat) (v : Value) (i : Nat) (w : World) (h : SliceOf vN 1 w v l) (hl : l.length ≤ 1000000) (hi : i ≤ 1000000) :
    Calls Tryz.prog 118 #[v, .int .i64 (i : Int)] w fun e w' => e = .returned (.int .i64 (limbN l i)) ∧ w = w' := by
  by_cases hlt : i < l.length
  · obtain ⟨b, off, cap, rfl, hb, h1, h2, hc⟩ := h.some_of_pos (by omega)
    have c0 := nat_cell hc hlt
    have hx : limbN l i = (l[i] : Int) := limbN_in hlt
    have H := hide hx
    have hi0 : (0 : Int) ≤ (i : Int) := by omega
    have hi1 : (i : Int) < (l.length : Int) := by omega
    have hi2 : decide ((l.length : Int) ≤ (i : Int)) = false := by simp; omega
    have hi3 : decide (l.length ≤ i) = false := by simp; omega
    clear hx
    go_enter Tryz.func118, Tryz.ntmps118
    go_wp2_with fail
    go_ret
    exact ⟨ret_int H.out.symm, rfl⟩
  · obtain ⟨ao, cap, rfl⟩ := h.shape
    have hx : limbN l i = 0 := limbN_out (by omega)
    have H := hide hx
    have hi1 : (l.length : Int) ≤ (i : Int) := by omega
    clear hx
    go_enter Tryz.func118, Tryz.ntmps118
    go_wp2_with fail
    go_ret
    exact ⟨ret_int H.out.symm, rfl⟩

theorem trim_stop {l : List Nat} (hl : Lm l) {j : Nat} (hj : j < l.length) (hv : lval (l.take (j + 1)) = lval l) (h : l[j] ≠ 0) : l.take (j + 1) = lim (lval l) :=
  trim_done hl (by omega) hv fun j' hj' e => by obtain rfl : j = j' := by omega
                                                exact h
theorem trim_none {l : List Nat} (hl : Lm l) (hv : lval (l.take 0) = lval l) : l.take 0 = lim (lval l) :=
  trim_done hl (by omega) hv fun j' hj' e => by omega
/-- The prefix of a slice. -/
theorem SliceOf.take {α : Type} {f : α → List Value} {size : Nat} {w : World} {b off cap : Nat} {l : List α} (h : SliceOf f size w (.slice (some ⟨b, off, none⟩) l.length cap) l) (k : Nat) (hk : k ≤ l.length) : SliceOf f size w (.slice (some ⟨b, off, none⟩) k cap) (l.take k) := by
  by_cases h0 : 0 < l.length
  · obtain ⟨b', off', cap', e, hb, h1, h2, hc⟩ := h.some_of_pos h0
    simp only [Value.slice.injEq, Option.some.injEq, Addr.mk.injEq, and_true, true_and] at e
    obtain ⟨⟨rfl, rfl⟩, rfl⟩ := e
    have e1 : (l.take k).length = k := by rw [List.length_take]; omega
    refine .inr ⟨b, off, cap, by rw [e1], hb, by omega, h2, fun i hi j u hu => hc i (by omega) j u ?_⟩
    rw [List.getElem_take] at hu
    exact hu
  · obtain rfl : l = [] := List.eq_nil_of_length_eq_zero (by omega)
    obtain rfl : k = 0 := by simp at hk; exact hk
    rcases h with ⟨ao, e, _⟩ | ⟨b', off', cap', e, hb, h1, h2, hc⟩
    · simp only [Value.slice.injEq] at e
      obtain ⟨rfl, _, rfl⟩ := e
      exact .inl ⟨_, rfl, rfl⟩
    · simp only [Value.slice.injEq, Option.some.injEq, Addr.mk.injEq, and_true, true_and] at e
      obtain ⟨⟨rfl, rfl⟩, rfl⟩ := e
      exact .inr ⟨b, off, cap, rfl, hb, h1, h2, fun i hi => by simp at hi⟩

set_option maxHeartbeats 400000 in
theorem trimmed_any (l : List Nat) (v : Value) (w : World) (h : SliceOf vN 1 w v l) (hl : l.length ≤ 1000000) (hm : Lm l) :
    Calls Tryz.prog 107 #[v] w fun e w' => (∃ v', e = .returned v' ∧ SliceOf vN 1 w v' (lim (lval l)) ∧ v'.ownBlock = v.ownBlock) ∧ w = w' := by
  by_cases h0 : 0 < l.length
  · obtain ⟨b, off, cap, rfl, hb, h1, h2, hc⟩ := h.some_of_pos h0
    have HL := hide hm
    have HS := hide h
    have HCP := hide h2
    clear h hm h2
    go_enter Tryz.func107, Tryz.ntmps107
    go_wp2_with fail
    go_loop [3] (fun i => ∃ k : Nat, k ≤ l.length ∧ i = .int .i64 (k : Int) ∧ lval (l.take k) = lval l) (fun i => (intOf i).toNat)
    case atStart => exact ⟨l.length, Nat.le_refl _, rfl, by rw [List.take_length]⟩
    case round =>
      obtain ⟨k, hk, rfl, hv⟩ := hrel
      have HV := hide hv
      clear hv
      by_cases hk0 : 0 < k
      · obtain ⟨j, rfl⟩ : ∃ j, k = j + 1 := ⟨k - 1, by omega⟩
        have c0 := nat_cell hc (show j < l.length by omega)
        have e1 : IntKind.i64.wrap (((j + 1 : Nat) : Int) - 1) = (j : Int) := by rw [IntWalk.i64_in _ (by omega)]; omega
        have hj0 : (0 : Int) ≤ (j : Int) := by omega
        have hj1 : (j : Int) < (l.length : Int) := by omega
        obtain ⟨x, hx⟩ : ∃ x, l[j] = x := ⟨_, rfl⟩
        have HX := hide hx
        rw [hx] at c0
        clear hx
        have hjc : ((j + 1 : Nat) : Int) = (j : Int) + 1 := by omega
        rw [hjc]
        have hsub : (j : Int) + 1 - 1 = (j : Int) := by omega
        by_cases hz : x = 0
        · subst hz
          go_wp2_with fail
          go_round
          case rel =>
            refine ⟨j, by omega, by first | rfl | go_num, ?_⟩
            have := lval_take_succ (l := l) (k := j) (by omega)
            rw [HX.out, Nat.mul_zero] at this
            have hv := HV.out
            omega
          case measure => (simp [intOf]; try omega)
        · have hz1 : ((x : Int) == 0) = false := beq_eq_false_iff_ne.2 (by omega)
          have hz2 : (x == 0) = false := beq_eq_false_iff_ne.2 hz
          go_wp2_with fail
          go_ret
          exact ⟨⟨_, rfl, by rw [← trim_stop HL.out (by omega) HV.out (by rw [HX.out]; exact hz)]; exact HS.out.take (j + 1) (by omega), rfl⟩, rfl⟩
      · obtain rfl : k = 0 := by omega
        go_wp2_with fail
        go_ret
        exact ⟨⟨_, rfl, by rw [← trim_none HL.out HV.out]; exact HS.out.take 0 (by omega), rfl⟩, rfl⟩
  · obtain rfl : l = [] := List.eq_nil_of_length_eq_zero (by omega)
    obtain ⟨ao, cap, rfl⟩ := h.shape
    have HS := hide h
    have HE : Hid (lim (lval []) = []) := lim_zero
    clear h
    go_enter Tryz.func107, Tryz.ntmps107
    go_wp2_with fail
    go_loop [3] (fun i => i = .int .i64 0) (fun i => (intOf i).toNat)
    case atStart => rfl
    case round =>
      obtain rfl := hrel
      go_wp2_with fail
      go_ret
      exact ⟨⟨_, rfl, by rw [HE.out]; exact HS.out, rfl⟩, rfl⟩
end Go.Proofs.YtblpnekjnaaeoaaGreatDoor
namespace Go.Proofs.YtblpnekjnaaeoaaGreatDoor
open Go.RowKit

theorem cmp_len_lt {a b : Nat} (h : (lim a).length < (lim b).length) : (-1 : Int) = cmpN a b := (cmpN_lt (lim_len_lt h)).symm
theorem cmp_len_gt {a b : Nat} (h : (lim b).length < (lim a).length) : (1 : Int) = cmpN a b := (cmpN_gt (lim_len_lt h)).symm
theorem cmp_drop_lt {a b i : Nat} (h1 : i < (lim a).length) (h2 : i < (lim b).length) (e : (lim a).drop (i + 1) = (lim b).drop (i + 1)) (h : (lim a)[i] < (lim b)[i]) : (-1 : Int) = cmpN a b := by
  have := drop_lt (lim_Lm a) h1 h2 e h
  rw [lval_lim, lval_lim] at this
  exact (cmpN_lt this).symm
theorem cmp_drop_gt {a b i : Nat} (h1 : i < (lim a).length) (h2 : i < (lim b).length) (e : (lim a).drop (i + 1) = (lim b).drop (i + 1)) (h : (lim b)[i] < (lim a)[i]) : (1 : Int) = cmpN a b := by
  have := drop_lt (lim_Lm b) h2 h1 e.symm h
  rw [lval_lim, lval_lim] at this
  exact (cmpN_gt this).symm
theorem cmp_all {a b : Nat} (e : (lim a).drop 0 = (lim b).drop 0) : (0 : Int) = cmpN a b := by
  have : lval (lim a) = lval (lim b) := by simpa using congrArg lval e
  rw [lval_lim, lval_lim] at this
  rw [this, cmpN_eq]
theorem drop_same {l m : List Nat} {i : Nat} (h1 : i < l.length) (h2 : i < m.length) (e : l.drop (i + 1) = m.drop (i + 1)) (h : l[i] = m[i]) : l.drop i = m.drop i := by
  rw [List.drop_eq_getElem_cons h1, List.drop_eq_getElem_cons h2, e, h]

def CmpPost (w : World) (a b : Nat) (e : Ending) (w' : World) : Prop := e = .returned (.int .i64 (cmpN a b)) ∧ ∃ m, w.drewN m = w'
theorem cmp_post {w : World} {a b : Nat} {x : Int} {m : Nat} (h : x = cmpN a b) : CmpPost w a b (.returned (.int .i64 x)) (w.drewN m) := ⟨by rw [h], m, rfl⟩
theorem cmp_post0 {w : World} {a b : Nat} {x : Int} (h : x = cmpN a b) : CmpPost w a b (.returned (.int .i64 x)) w := ⟨by rw [h], 0, rfl⟩

set_option maxHeartbeats 800000 in
theorem compare_any (a b : Nat) (u v : Value) (w : World) (hu : SliceOf vN 1 w u (lim a)) (hv : SliceOf vN 1 w v (lim b)) (ha : (lim a).length ≤ 1000000) (hb : (lim b).length ≤ 1000000) :
    Calls Tryz.prog 87 #[u, v] w (CmpPost w a b) := by
  have HA : ∀ k (h : k < (lim a).length), ∃ bb off cap, u = .slice (some ⟨bb, off, none⟩) (lim a).length cap ∧ w.cell? ⟨bb, off + k, none⟩ = some (.int .i64 ((lim a)[k] : Int)) := fun k h => by
    obtain ⟨bb, off, cap, e, _, _, _, hc⟩ := hu.some_of_pos (by omega)
    exact ⟨bb, off, cap, e, nat_cell hc h⟩
  have HB : ∀ k (h : k < (lim b).length), ∃ bb off cap, v = .slice (some ⟨bb, off, none⟩) (lim b).length cap ∧ w.cell? ⟨bb, off + k, none⟩ = some (.int .i64 ((lim b)[k] : Int)) := fun k h => by
    obtain ⟨bb, off, cap, e, _, _, _, hc⟩ := hv.some_of_pos (by omega)
    exact ⟨bb, off, cap, e, nat_cell hc h⟩
  have HHA := hide HA
  have HHB := hide HB
  obtain ⟨ao, cp, rfl⟩ := hu.shape
  obtain ⟨ao', cp', rfl⟩ := hv.shape
  clear hu hv HA HB
  rcases Nat.lt_trichotomy (lim a).length (lim b).length with hlt | heq | hgt
  · have H := hide (cmp_len_lt hlt)
    have h1 : ((lim a).length : Int) < ((lim b).length : Int) := by omega
    have h2 : (((lim a).length : Int) != ((lim b).length : Int)) = true := by simp; omega
    have h3 : (((lim a).length : Int) == ((lim b).length : Int)) = false := by simp; omega
    have h4 : ((lim a).length == (lim b).length) = false := by simp; omega
    have h5 : ((lim a).length != (lim b).length) = true := by simp; omega
    have h6 : decide ((lim a).length < (lim b).length) = true := by simp; omega
    clear HHA HHB hlt
    go_enter Tryz.func87, Tryz.ntmps87
    go_wp2_with fail
    go_ret
    exact cmp_post0 H.out
  · rw [heq]
    obtain ⟨n, hm⟩ : ∃ n, (lim b).length = n := ⟨_, rfl⟩
    have HN : Hid ((lim a).length = n) := heq.trans hm
    have HM := hide hm
    rw [hm] at hb ⊢
    clear hm heq ha
    have hnn : ((n : Int) == (n : Int)) = true := by simp
    have hnm : ((n : Int) != (n : Int)) = false := by simp
    have hs : IntKind.i64.wrap ((n : Int) - 1) = (n : Int) - 1 := IntWalk.i64_in _ (by omega)
    have H0 : Hid ((lim a).drop n = (lim b).drop n) := by
      show _ = _
      rw [List.drop_eq_nil_of_le (by have := HN.out; omega), List.drop_eq_nil_of_le (by have := HM.out; omega)]
    go_enter Tryz.func87, Tryz.ntmps87
    go_wp2_with fail
    clear hs
    go_loopw [5] (fun i wx => ∃ k m : Nat, k ≤ n ∧ i = .int .i64 ((k : Int) - 1) ∧ wx = w.drewN m ∧ (lim a).drop k = (lim b).drop k) (fun i _ => (intOf i + 1).toNat)
    case atStart => exact ⟨n, 0, Nat.le_refl _, rfl, rfl, H0.out⟩
    case round =>
      obtain ⟨k, m, hk, rfl, rfl, hd⟩ := hrel
      have HD := hide hd
      clear hd H0
      by_cases hk0 : 0 < k
      · obtain ⟨j, rfl⟩ : ∃ j, k = j + 1 := ⟨k - 1, by omega⟩
        obtain ⟨b1, o1, cp1, e1, c1⟩ := HHA.out j (by have := HN.out; omega)
        obtain ⟨b2, o2, cp2, e2, c2⟩ := HHB.out j (by have := HM.out; omega)
        simp only [Value.slice.injEq] at e1 e2
        obtain ⟨rfl, _, rfl⟩ := e1
        obtain ⟨rfl, _, rfl⟩ := e2
        have hj1 : (j : Int) < (n : Int) := by omega
        have hj0 : (0 : Int) ≤ (j : Int) := by omega
        have hjc : ((j + 1 : Nat) : Int) - 1 = (j : Int) := by omega
        rw [hjc]
        have hjn : j < (lim a).length := by have := HN.out; omega
        have hjm : j < (lim b).length := by have := HM.out; omega
        obtain ⟨x, hx⟩ : ∃ x, (lim a)[j] = x := ⟨_, rfl⟩
        obtain ⟨y, hy⟩ : ∃ x, (lim b)[j] = x := ⟨_, rfl⟩
        have HX := hide hx
        have HY := hide hy
        rw [hx] at c1
        rw [hy] at c2
        clear hx hy
        rcases Nat.lt_trichotomy x y with hlt | heq | hgt
        · have H := hide (cmp_drop_lt hjn hjm HD.out (by rw [HX.out, HY.out]; exact hlt))
          have q1 : ((x : Int) != (y : Int)) = true := by simp; omega
          have q2 : ((x : Int) == (y : Int)) = false := by simp; omega
          have q3 : (x == y) = false := by simp; omega
          have q4 : (x : Int) < (y : Int) := by omega
          clear hlt
          go_wp2_with fail
          go_quiet (fail)
          go_wp2_with fail
          go_quiet (fail)
          go_wp2_with fail
          go_ret
          first | exact cmp_post H.out | (simp only [World.drewN_drewN]; exact cmp_post H.out)
        · subst heq
          have H := hide (drop_same hjn hjm HD.out (by rw [HX.out, HY.out]))
          have q1 : ((x : Int) != (x : Int)) = false := by simp
          have q2 : ((x : Int) == (x : Int)) = true := by simp
          have q3 : (x == x) = true := by simp
          have q5 : IntKind.i64.wrap ((j : Int) - 1) = (j : Int) - 1 := IntWalk.i64_in _ (by omega)
          go_wp2_with fail
          go_quiet (fail)
          go_wp2_with fail
          go_roundw
          case rel => exact ⟨j, _, by omega, rfl, by first | rfl | exact World.drewN_drewN _ _ _, H.out⟩
          case measure => (simp [intOf]; try omega)
        · have H := hide (cmp_drop_gt hjn hjm HD.out (by rw [HX.out, HY.out]; exact hgt))
          have q1 : ((x : Int) != (y : Int)) = true := by simp; omega
          have q2 : ((x : Int) == (y : Int)) = false := by simp; omega
          have q3 : (x == y) = false := by simp; omega
          have q4 : (y : Int) ≤ (x : Int) := by omega
          have q5 : ¬ (x : Int) < (y : Int) := by omega
          clear hgt
          go_wp2_with fail
          go_quiet (fail)
          go_wp2_with fail
          go_quiet (fail)
          go_wp2_with fail
          go_ret
          first | exact cmp_post H.out | (simp only [World.drewN_drewN]; exact cmp_post H.out)
      · obtain rfl : k = 0 := by omega
        have H := hide (cmp_all HD.out)
        go_wp2_with fail
        go_ret
        exact cmp_post H.out
  · have H := hide (cmp_len_gt hgt)
    have h1 : ((lim b).length : Int) < ((lim a).length : Int) := by omega
    have h2 : (((lim a).length : Int) != ((lim b).length : Int)) = true := by simp; omega
    have h3 : (((lim a).length : Int) == ((lim b).length : Int)) = false := by simp; omega
    have h4 : ((lim a).length == (lim b).length) = false := by simp; omega
    have h5 : ((lim a).length != (lim b).length) = true := by simp; omega
    have h6 : decide ((lim a).length < (lim b).length) = false := by simp; omega
    clear HHA HHB hgt
    go_enter Tryz.func87, Tryz.ntmps87
    go_wp2_with fail
    go_ret
    exact cmp_post0 H.out

set_option maxHeartbeats 400000 in
set_option maxRecDepth 100000 in
theorem addf_any (l m : List Nat) (u v : Value) (i c1 c2 : Nat) (w : World) (hu : SliceOf vN 1 w u l) (hv : SliceOf vN 1 w v m) (hl : l.length ≤ 1000000) (hm : m.length ≤ 1000000) (hi : i ≤ 1000000) (hL : Lm l) (hM : Lm m)
    (h1 : w.cell? ⟨c1, 0, none⟩ = some u) (h2 : w.cell? ⟨c2, 0, none⟩ = some v) :
    Calls Tryz.prog 142 #[.int .i64 (i : Int), .pointer (some ⟨c1, 0, none⟩), .pointer (some ⟨c2, 0, none⟩)] w fun e w' => e = .returned (.int .i64 (limbN l i + limbN m i)) ∧ ∃ n, w.drewN n = w' := by
  have q1 := limbN_bd hL i
  have q2 := limbN_bd hM i
  have q3 : IntKind.i64.wrap (limbN l i + limbN m i) = limbN l i + limbN m i := IntWalk.i64_in _ (by omega)
  have HU := hide hu
  have HV := hide hv
  clear hu hv hL hM
  go_enter Tryz.func142, Tryz.ntmps142
  go_wp2_with fail
  go_quiet ((go_at_call 118; exact qt_same (limb_any _ _ i _ (by first | exact HU.out.below (below_drewN (Below.refl _ _) _) | exact HV.out.below (below_drewN (Below.refl _ _) _)) (by first | exact hl | exact hm) hi)))
  go_wp2_with fail
  go_ret
  exact ⟨rfl, _, rfl⟩

set_option maxHeartbeats 400000 in
set_option maxRecDepth 100000 in
theorem subf_any (l m : List Nat) (u v : Value) (i c1 c2 : Nat) (w : World) (hu : SliceOf vN 1 w u l) (hv : SliceOf vN 1 w v m) (hl : l.length ≤ 1000000) (hm : m.length ≤ 1000000) (hi : i < l.length) (hL : Lm l) (hM : Lm m)
    (h1 : w.cell? ⟨c1, 0, none⟩ = some u) (h2 : w.cell? ⟨c2, 0, none⟩ = some v) :
    Calls Tryz.prog 117 #[.int .i64 (i : Int), .pointer (some ⟨c1, 0, none⟩), .pointer (some ⟨c2, 0, none⟩)] w fun e w' => e = .returned (.int .i64 (limbN l i - limbN m i)) ∧ ∃ n, w.drewN n = w' := by
  have q1 := limbN_bd hL i
  have q2 := limbN_bd hM i
  have q3 : IntKind.i64.wrap (limbN l i - limbN m i) = limbN l i - limbN m i := IntWalk.i64_in _ (by omega)
  obtain ⟨b, off, cap, rfl, _, _, _, hc⟩ := hu.some_of_pos (by omega)
  have c0 := nat_cell hc hi
  rw [← limbN_in hi] at c0
  have HV := hide hv
  have hi0 : (0 : Int) ≤ (i : Int) := by omega
  have hi1 : (i : Int) < (l.length : Int) := by omega
  have hi2 : i ≤ 1000000 := by omega
  clear hu hv hL hM hc
  go_enter Tryz.func117, Tryz.ntmps117
  go_wp2_with fail
  go_quiet ((go_at_call 118; exact qt_same (limb_any m v i _ (HV.out.below (below_drewN (Below.refl _ _) _)) hm hi2)))
  go_wp2_with fail
  go_ret
  exact ⟨rfl, _, rfl⟩

set_option maxHeartbeats 400000 in
set_option maxRecDepth 100000 in
theorem timesf_any (l : List Nat) (u : Value) (q : Nat) (i c1 c2 : Nat) (w : World) (hu : SliceOf vN 1 w u l) (hl : l.length ≤ 1000000) (hi : i ≤ 1000000) (hL : Lm l) (hq : q < 1000000000)
    (h1 : w.cell? ⟨c1, 0, none⟩ = some (.int .i64 (q : Int))) (h2 : w.cell? ⟨c2, 0, none⟩ = some u) :
    Calls Tryz.prog 136 #[.int .i64 (i : Int), .pointer (some ⟨c1, 0, none⟩), .pointer (some ⟨c2, 0, none⟩)] w fun e w' => e = .returned (.int .i64 ((q : Int) * limbN l i)) ∧ ∃ n, w.drewN n = w' := by
  have q1 := limbN_bd hL i
  have q3 : IntKind.i64.wrap ((q : Int) * limbN l i) = (q : Int) * limbN l i := by
    have h3 : 0 ≤ (q : Int) * limbN l i := Int.mul_nonneg (by omega) q1.1
    have h4 : (q : Int) * limbN l i ≤ 1000000000 * 1000000000 := Int.mul_le_mul (by omega) (by omega) q1.1 (by omega)
    exact IntWalk.i64_in _ (by omega)
  have HU := hide hu
  clear hu hL
  go_enter Tryz.func136, Tryz.ntmps136
  go_wp2_with fail
  go_quiet ((go_at_call 118; exact qt_same (limb_any l u i _ (HU.out.below (below_drewN (Below.refl _ _) _)) hl hi)))
  go_wp2_with fail
  go_ret
  exact ⟨rfl, _, rfl⟩
end Go.Proofs.YtblpnekjnaaeoaaGreatDoor
namespace Go.Proofs.YtblpnekjnaaeoaaGreatDoor
open Go.RowKit

def vV (v : Value) : List Value := [v]
theorem vV_len (v : Value) : (vV v).length = 1 := rfl
theorem flat_vV (vs : List Value) : flatV vV vs = vs := by
  induction vs with
  | nil => rfl
  | cons v vs ih =>
    show v :: flatV vV vs = v :: vs
    rw [ih]
/-- A slice whose elements are slices that read as the lists of M. -/
def SliceSS {α : Type} (f : α → List Value) (size : Nat) (w : World) (v : Value) (M : List (List α)) : Prop :=
  ∃ vs : List Value, SliceOf vV 1 w v vs ∧ vs.length = M.length ∧ ∀ (j : Nat) u m, vs[j]? = some u → M[j]? = some m → SliceOf f size w u m
theorem SliceSS.below {α : Type} {f : α → List Value} {size : Nat} {w w' : World} {v : Value} {M : List (List α)} (h : SliceSS f size w v M) (hb : Below w.heap.size w w') : SliceSS f size w' v M := by
  obtain ⟨vs, h1, h2, h3⟩ := h
  exact ⟨vs, h1.below hb, h2, fun j u m a b => (h3 j u m a b).below hb⟩
theorem SliceSS.shape {α : Type} {f : α → List Value} {size : Nat} {w : World} {v : Value} {M : List (List α)} (h : SliceSS f size w v M) : ∃ ao cap, v = .slice ao M.length cap := by
  obtain ⟨vs, h1, h2, _⟩ := h
  obtain ⟨ao, cap, h⟩ := h1.shape
  exact ⟨ao, cap, by rw [h, h2]⟩
theorem SliceSS.nil {α : Type} (f : α → List Value) (size : Nat) (w : World) : SliceSS f size w (.slice none 0 0) [] := ⟨[], .inl ⟨none, rfl, rfl⟩, rfl, fun j u m h => by simp at h⟩
/-- Where the rows of such a slice stand. -/
theorem SliceSS.at_ {α : Type} {f : α → List Value} {size : Nat} {w : World} {ao : Option Addr} {cp : Nat} {M : List (List α)} (h : SliceSS f size w (.slice ao M.length cp) M) :
    0 < M.length → ∃ b off, ao = some ⟨b, off, none⟩ ∧ M.length ≤ cp ∧ cp ≤ maxLen ∧ ∀ j (hj : j < M.length), ∃ u, w.cell? ⟨b, off + j, none⟩ = some u ∧ SliceOf f size w u M[j] := by
  intro h0
  obtain ⟨vs, h1, h2, h3⟩ := h
  obtain ⟨b, off, cap, hv, hb, hn, hm, hc⟩ := h1.some_of_pos (by omega)
  simp only [Value.slice.injEq] at hv
  obtain ⟨rfl, _, rfl⟩ := hv
  refine ⟨b, off, rfl, by omega, hm, fun j hj => ⟨vs[j]'(by omega), ?_, h3 j _ _ (List.getElem?_eq_getElem (by omega)) (List.getElem?_eq_getElem hj)⟩⟩
  have := hc j (by omega) 0 _ rfl
  simpa using this

/-- A slice of slices of the call's own: vs are the rows' slices. -/
structure Nest {α : Type} (f : α → List Value) (size : Nat) (w : World) (B : Nat) (u : Value) (vs : List Value) (M : List (List α)) : Prop where
  len : vs.length = M.length
  outer : OwnS w B 1 u M.length vs
  inner : ∀ (j : Nat) v m, vs[j]? = some v → M[j]? = some m → OwnS w B size v m.length (flatV f m)
  apart : ∀ (j : Nat) v g, vs[j]? = some v → v.ownBlock = some g → u.ownBlock ≠ some g
  pair : ∀ (i j : Nat) v v' g, i ≠ j → vs[i]? = some v → vs[j]? = some v' → v.ownBlock = some g → v'.ownBlock ≠ some g
section
variable {α : Type} {f : α → List Value} {size : Nat} {w W w1 : World} {B : Nat} {u : Value} {vs : List Value} {M : List (List α)}
theorem Nest.nil (f : α → List Value) (size : Nat) (w : World) (B : Nat) : Nest f size w B (.slice none 0 0) [] [] :=
  ⟨rfl, OwnS.nil _ _ _, fun j v m h => by simp at h, fun j v g h => by simp at h, fun i j v v' g _ h => by simp at h⟩
theorem Nest.kept (h : Nest f size w B u vs M) {row : Option Nat} (hg : w.grownBy W row) (hr : ∀ g, row = some g → g < B) : Nest f size W B u vs M := by
  refine ⟨h.len, h.outer.kept hg fun k hk e => ?_, fun j v m a b => (h.inner j v m a b).kept hg fun k hk e => ?_, h.apart, h.pair⟩
  · have := hr k hk; have := (h.outer.lt k e).1; omega
  · have := hr k hk; have := ((h.inner j v m a b).lt k e).1; omega
theorem Nest.below (h : Nest f size w B u vs M) (hb : Below w.heap.size w W) : Nest f size W B u vs M :=
  h.kept (row := none) ⟨hb.os, hb.tape, hb.output, hb.size, fun k hk _ => hb.block k hk⟩ (by simp)
theorem Nest.slice (hf : ∀ a, (f a).length = size) (h : Nest f size w B u vs M) : SliceSS f size w u M := by
  refine ⟨vs, OwnS.slice vV_len (B := B) ?_, h.len, fun j v m a b => OwnS.slice hf (h.inner j v m a b)⟩
  rw [flat_vV, h.len]; exact h.outer
/-- One more row is appended: v, that the call owns. -/
theorem Nest.push (h : Nest f size w B u vs M) (hW : Below w.heap.size w W) {g off cap : Nat} {v : Value} {m : List α} (ho : OwnS w1 B 1 (.slice (some ⟨g, off, none⟩) (M.length + 1) cap) (M.length + 1) (vs ++ [v])) (hg : W.grownBy w1 u.ownBlock) (hat : u.ownBlock = some g ∨ W.heap.size ≤ g)
    (hv : OwnS W B size v m.length (flatV f m)) (hvu : ∀ g, v.ownBlock = some g → u.ownBlock ≠ some g) (hvs : ∀ (j : Nat) v' g, vs[j]? = some v' → v'.ownBlock = some g → v.ownBlock ≠ some g) :
    Nest f size w1 B (.slice (some ⟨g, off, none⟩) (M.length + 1) cap) (vs ++ [v]) (M ++ [m]) := by
  have hb := h.below hW
  have key : ∀ (j : Nat) v', (vs ++ [v])[j]? = some v' → (j < vs.length ∧ vs[j]? = some v') ∨ (j = vs.length ∧ v' = v) := by
    intro j v' hj
    by_cases hl : j < vs.length
    · rw [List.getElem?_append_left hl] at hj; exact .inl ⟨hl, hj⟩
    · have hl2 : j < vs.length + 1 := by
        have := (List.getElem?_eq_some_iff.1 hj).1
        rw [List.length_append] at this; exact this
      have e : j = vs.length := by omega
      subst e
      rw [List.getElem?_append_right (Nat.le_refl _)] at hj
      exact .inr ⟨rfl, by simpa using hj.symm⟩
  refine ⟨by simp [h.len], by rw [List.length_append]; exact ho, fun j v' m' a b => ?_, fun j v' g' a e => ?_, fun i j v1 v2 g' hne a b e => ?_⟩
  · rcases key j v' a with ⟨hl, a'⟩ | ⟨rfl, rfl⟩
    · rw [List.getElem?_append_left (by rw [← h.len]; exact hl)] at b
      exact (hb.inner j v' m' a' b).kept hg fun k hk e => h.apart j v' k a' e hk
    · rw [h.len, List.getElem?_append_right (Nat.le_refl _)] at b
      obtain rfl : m = m' := by simpa using b
      exact hv.kept hg fun k hk e => hvu k e hk
  · intro e2
    obtain rfl : g = g' := by simpa [Value.ownBlock] using e2
    rcases key j v' a with ⟨hl, a'⟩ | ⟨rfl, rfl⟩
    · rcases hat with h1 | h1
      · exact h.apart j v' g a' e h1
      · have hj : j < M.length := by rw [← h.len]; exact hl
        have := ((hb.inner j v' _ a' (List.getElem?_eq_getElem hj)).lt g e).2
        omega
    · rcases hat with h1 | h1
      · exact hvu g e h1
      · have := (hv.lt g e).2
        omega
  · rcases key i v1 a with ⟨hl, a'⟩ | ⟨rfl, rfl⟩
    · rcases key j v2 b with ⟨hl2, b'⟩ | ⟨rfl, rfl⟩
      · exact h.pair i j v1 v2 g' hne a' b' e
      · exact hvs i v1 g' a' e
    · rcases key j v2 b with ⟨hl2, b'⟩ | ⟨rfl, rfl⟩
      · intro e2; exact hvs j v2 g' b' e2 e
      · exact absurd rfl hne
theorem OwnS.setOwn {w : World} {B : Nat} {gu offu capu n : Nat} {vs : List Value} (h : OwnS w B 1 (.slice (some ⟨gu, offu, none⟩) n capu) n vs) {q : Nat} (hq : q < n) (x : Value) : OwnS (w.setCell ⟨gu, offu + q, none⟩ x) B 1 (.slice (some ⟨gu, offu, none⟩) n capu) n (vs.set q x) := by
  refine ⟨by rw [List.length_set]; exact h.1, ?_⟩
  rcases h.2 with ⟨ao, hv, h2, _⟩ | ⟨g, off, cap, hv, hb, hlt, hn, hm, hc, hx⟩
  · omega
  · simp only [Value.slice.injEq, Option.some.injEq, Addr.mk.injEq, and_true, true_and] at hv
    obtain ⟨⟨rfl, rfl⟩, rfl⟩ := hv
    have hql : q < vs.length := by rw [h.1]; omega
    have hcell := hx q _ (List.getElem?_eq_getElem hql)
    refine .inr ⟨gu, offu, capu, rfl, hb, by simpa using hlt, hn, hm, fun j hj => ⟨?_, by rw [World.frozen?_setCell]; exact (hc j hj).2⟩, fun j u hu => ?_⟩
    · by_cases e : j = q
      · subst e; rw [World.cell?_setCell_same _ _ _ hcell]; rfl
      · rw [World.cell?_setCell_other _ _ _ _ (by intro e'; injection e'; omega)]; exact (hc j hj).1
    · by_cases e : j = q
      · subst e
        rw [List.getElem?_set_self hql] at hu
        obtain rfl : x = u := by simpa using hu
        exact World.cell?_setCell_same _ _ _ hcell
      · rw [List.getElem?_set_ne (fun e' => e e'.symm)] at hu
        rw [World.cell?_setCell_other _ _ _ _ (by intro e'; injection e'; omega)]
        exact hx j u hu
/-- An element is appended to row q, and the row stored back. -/
theorem Nest.app (h : Nest f size w B u vs M) (hW : Below w.heap.size w W) {q gu offu capu g off cap : Nat} {v : Value} {m : List α} {x : α} {cs : List Value} (hu : u = .slice (some ⟨gu, offu, none⟩) M.length capu) (hq : q < M.length) (hv : vs[q]? = some v) (hm : M[q]? = some m) (hcs : cs = f x)
    (ho : OwnS w1 B size (.slice (some ⟨g, off, none⟩) (m.length + 1) cap) (m.length + 1) (flatV f m ++ cs)) (hg : W.grownBy w1 v.ownBlock) (hat : v.ownBlock = some g ∨ W.heap.size ≤ g) :
    (∃ v0, w1.cell? ⟨gu, offu + q, none⟩ = some v0) ∧ w1.frozen? ⟨gu, offu + q, none⟩ = false ∧
    Nest f size (w1.setCell ⟨gu, offu + q, none⟩ (.slice (some ⟨g, off, none⟩) (m.length + 1) cap)) B u (vs.set q (.slice (some ⟨g, off, none⟩) (m.length + 1) cap)) (M.set q (m ++ [x])) := by
  have hb := h.below hW
  have hov : ∀ k, v.ownBlock = some k → u.ownBlock ≠ some k := fun k e => h.apart q v k hv e
  have ho1 : OwnS w1 B 1 u M.length vs := hb.outer.kept hg fun k hk e => hov k hk e
  have hql : q < vs.length := by rw [h.len]; exact hq
  have hgu : u.ownBlock = some gu := by rw [hu]; rfl
  have hne : g ≠ gu := by
    rintro rfl
    rcases hat with h1 | h1
    · exact hov g h1 hgu
    · have := (hb.outer.lt g hgu).2
      omega
  have hcell : w1.cell? ⟨gu, offu + q, none⟩ = some vs[q] ∧ w1.frozen? ⟨gu, offu + q, none⟩ = false := by
    rcases ho1.2 with ⟨ao, _, h2, _⟩ | ⟨g', off', cap', hv', hb', hlt, hn, hm', hc, hx⟩
    · omega
    · rw [hu] at hv'
      simp only [Value.slice.injEq, Option.some.injEq, Addr.mk.injEq, and_true, true_and] at hv'
      obtain ⟨⟨rfl, rfl⟩, rfl⟩ := hv'
      exact ⟨hx q _ (List.getElem?_eq_getElem hql), (hc q (by omega)).2⟩
  refine ⟨⟨_, hcell.1⟩, hcell.2, ?_⟩
  have hset : w1.grownBy (w1.setCell ⟨gu, offu + q, none⟩ (.slice (some ⟨g, off, none⟩) (m.length + 1) cap)) (some gu) :=
    ⟨rfl, rfl, rfl, by simp, fun k _ hk => Below.heap_setCell _ _ _ _ fun e => hk (by rw [e])⟩
  have ml : ∀ (j : Nat) m', (M.set q (m ++ [x]))[j]? = some m' → (j = q ∧ m' = m ++ [x]) ∨ (j ≠ q ∧ M[j]? = some m') := by
    intro j m' hj
    by_cases e : j = q
    · subst e
      rw [List.getElem?_set_self hq] at hj
      exact .inl ⟨rfl, by simpa using hj.symm⟩
    · rw [List.getElem?_set_ne (fun e' => e e'.symm)] at hj
      exact .inr ⟨e, hj⟩
  have vl : ∀ (j : Nat) v', (vs.set q (.slice (some ⟨g, off, none⟩) (m.length + 1) cap))[j]? = some v' → (j = q ∧ v' = .slice (some ⟨g, off, none⟩) (m.length + 1) cap) ∨ (j ≠ q ∧ vs[j]? = some v') := by
    intro j v' hj
    by_cases e : j = q
    · subst e
      rw [List.getElem?_set_self hql] at hj
      exact .inl ⟨rfl, by simpa using hj.symm⟩
    · rw [List.getElem?_set_ne (fun e' => e e'.symm)] at hj
      exact .inr ⟨e, hj⟩
  refine ⟨by rw [List.length_set, List.length_set]; exact h.len, ?_, fun j v' m' a b => ?_, fun j v' g' a e => ?_, fun i j v1 v2 g' hne' a b e => ?_⟩
  · rw [List.length_set]
    have h1 := ho1
    rw [hu] at h1 ⊢
    exact h1.setOwn hq _
  · rcases vl j v' a with ⟨rfl, rfl⟩ | ⟨hj, a'⟩
    · rcases ml j m' b with ⟨_, rfl⟩ | ⟨h2, _⟩
      · rw [List.length_append, flatV_append, flatV_one, ← hcs]
        exact ho.kept hset fun k hk e => by
          injection hk with hk
          subst hk
          have : g = gu := by simpa [Value.ownBlock] using e
          exact hne this
      · exact absurd rfl h2
    · rcases ml j m' b with ⟨h2, _⟩ | ⟨_, b'⟩
      · exact absurd h2 hj
      · refine ((hb.inner j v' m' a' b').kept hg fun k hk e => h.pair q j v v' k (fun e => hj e.symm) hv a' hk e).kept hset fun k hk e => ?_
        injection hk with hk
        subst hk
        exact h.apart j v' gu a' e hgu
  · rcases vl j v' a with ⟨rfl, rfl⟩ | ⟨hj, a'⟩
    · obtain rfl : g = g' := by simpa [Value.ownBlock] using e
      rw [hgu]
      intro e2
      injection e2 with e2
      exact hne e2.symm
    · exact h.apart j v' g' a' e
  · have fresh : ∀ (j : Nat) v', j ≠ q → vs[j]? = some v' → v'.ownBlock ≠ some g := by
      intro j v' hj a' e
      rcases hat with h1 | h1
      · exact h.pair q j v v' g (fun e => hj e.symm) hv a' h1 e
      · have hjl : j < M.length := by rw [← h.len]; exact (List.getElem?_eq_some_iff.1 a').1
        have := ((hb.inner j v' _ a' (List.getElem?_eq_getElem hjl)).lt g e).2
        omega
    rcases vl i v1 a with ⟨rfl, rfl⟩ | ⟨hi, a'⟩
    · obtain rfl : g = g' := by simpa [Value.ownBlock] using e
      rcases vl j v2 b with ⟨rfl, rfl⟩ | ⟨hj, b'⟩
      · exact absurd rfl hne'
      · exact fresh j v2 hj b'
    · rcases vl j v2 b with ⟨rfl, rfl⟩ | ⟨hj, b'⟩
      · intro e2
        obtain rfl : g = g' := by simpa [Value.ownBlock] using e2
        exact fresh i v1 hi a' e
      · exact h.pair i j v1 v2 g' hne' a' b' e
end
end Go.Proofs.YtblpnekjnaaeoaaGreatDoor
