/- Plain numerals: the digits of a number, their value, when a list of bytes is a numeral without zeros ahead. -/
import Derived.Lib.ItoaNum
set_option linter.unusedVariables false
set_option linter.unusedSimpArgs false
namespace Go.Proofs.YtbojlmnajndleaaGreatDoor
open Go.Lib

theorem snocInd {α : Type} {P : List α → Prop} (h0 : P []) (h1 : ∀ l a, P l → P (l ++ [a])) (l : List α) : P l := by
  have key : ∀ m : List α, P m.reverse := by
    intro m
    induction m with
    | nil => exact h0
    | cons a m ih => rw [List.reverse_cons]; exact h1 _ _ ih
  have := key l.reverse
  rwa [List.reverse_reverse] at this

/-- What a byte counts as a digit. -/
def dvN (b : UInt8) : Nat := b.toNat - 48
def isDg (b : UInt8) : Bool := decide (48 ≤ b.toNat) && decide (b.toNat ≤ 57)
theorem isDg_iff {b : UInt8} : isDg b = true ↔ 48 ≤ b.toNat ∧ b.toNat ≤ 57 := by simp [isDg]
/-- The number that a row of digits spells. -/
def nval (l : List UInt8) : Nat := l.foldl (fun a b => a * 10 + dvN b) 0
theorem nval_nil : nval [] = 0 := rfl
theorem nval_snoc (l : List UInt8) (b : UInt8) : nval (l ++ [b]) = nval l * 10 + dvN b := by simp [nval, List.foldl_append]
theorem nval_append (l m : List UInt8) : nval (l ++ m) = nval l * 10 ^ m.length + nval m := by
  refine snocInd (P := fun m => nval (l ++ m) = nval l * 10 ^ m.length + nval m) (by simp [nval]) (fun m b ih => ?_) m
  rw [← List.append_assoc, nval_snoc, ih, nval_snoc, List.length_append, List.length_singleton, Nat.pow_succ, Nat.add_mul, Nat.add_assoc, Nat.mul_assoc]
theorem dvN_lt {b : UInt8} (h : isDg b = true) : dvN b < 10 := by have := isDg_iff.1 h; unfold dvN; omega
theorem dvN_ofNat {d : Nat} (h : d < 10) : dvN (UInt8.ofNat (48 + d)) = d := by
  unfold dvN; rw [UInt8.toNat_ofNat']; omega
theorem isDg_ofNat {d : Nat} (h : d < 10) : isDg (UInt8.ofNat (48 + d)) = true := by
  rw [isDg_iff, UInt8.toNat_ofNat']; omega
theorem ofNat_dvN {b : UInt8} (h : isDg b = true) : UInt8.ofNat (48 + dvN b) = b := by
  have h := isDg_iff.1 h
  apply UInt8.toNat_inj.1
  rw [UInt8.toNat_ofNat']; unfold dvN; omega
theorem nval_lt : ∀ (l : List UInt8), (∀ b ∈ l, isDg b = true) → nval l < 10 ^ l.length := by
  refine snocInd (fun _ => by simp [nval]) (fun l b ih => ?_)
  · intro h
    have h1 := ih fun c hc => h c (List.mem_append_left _ hc)
    have h2 := dvN_lt (h b (by simp))
    rw [nval_snoc, List.length_append, List.length_singleton, Nat.pow_succ]
    omega
theorem dec_digit (n : Nat) : ∀ b ∈ decDigits n, isDg b = true := by
  induction n using Nat.strongRecOn with
  | _ n ih =>
    intro b hb
    rw [decDigits] at hb
    split at hb
    · rename_i h
      simp only [List.mem_singleton] at hb
      rw [hb]; exact isDg_ofNat h
    · rename_i h
      rcases List.mem_append.1 hb with hb | hb
      · exact ih _ (by omega) b hb
      · simp only [List.mem_singleton] at hb
        rw [hb]; exact isDg_ofNat (Nat.mod_lt _ (by omega))
theorem nval_dec (n : Nat) : nval (decDigits n) = n := by
  induction n using Nat.strongRecOn with
  | _ n ih =>
    rw [decDigits]
    split
    · rename_i h
      have := nval_snoc [] (UInt8.ofNat (48 + n))
      rw [List.nil_append] at this
      rw [this, dvN_ofNat h]; simp [nval]
    · rename_i h
      rw [nval_snoc, ih _ (by omega), dvN_ofNat (Nat.mod_lt _ (by omega))]
      omega
theorem dec_ne_nil (n : Nat) : decDigits n ≠ [] := by
  intro e
  have h1 := decDigits_length n
  rw [e] at h1
  have h2 := nDigits_pos n
  rw [List.length_nil] at h1
  omega
theorem dec_small {n : Nat} (h : n < 10) : decDigits n = [UInt8.ofNat (48 + n)] := by rw [decDigits, dif_pos h]
theorem dec_big {n : Nat} (h : ¬ n < 10) : decDigits n = decDigits (n / 10) ++ [UInt8.ofNat (48 + n % 10)] := by rw [decDigits, dif_neg h]
theorem dec_step {a d : Nat} (ha : 1 ≤ a) (hd : d < 10) : decDigits (a * 10 + d) = decDigits a ++ [UInt8.ofNat (48 + d)] := by
  rw [dec_big (by omega)]
  have e1 : (a * 10 + d) / 10 = a := by omega
  have e2 : (a * 10 + d) % 10 = d := by omega
  rw [e1, e2]

/-- A numeral: at least one byte, all digits, no zero ahead of others. -/
def numeral (l : List UInt8) : Prop := l ≠ [] ∧ (∀ b ∈ l, isDg b = true) ∧ (l.head? = some 48 → l.length = 1)
theorem head_append {l m : List UInt8} (h : l ≠ []) : (l ++ m).head? = l.head? := by
  cases l with
  | nil => exact absurd rfl h
  | cons a l => rfl
theorem numeral_pos {l : List UInt8} (h : numeral l) (h1 : l.head? ≠ some 48) : 1 ≤ nval l := by
  obtain ⟨hn, hd, _⟩ := h
  cases l with
  | nil => exact absurd rfl hn
  | cons b l =>
    have hb := isDg_iff.1 (hd b (by simp))
    have hb48 : b.toNat ≠ 48 := by
      intro e
      apply h1
      have : b = 48 := UInt8.toNat_inj.1 (by rw [e]; rfl)
      rw [this]; rfl
    have e : nval (b :: l) = dvN b * 10 ^ l.length + nval l := by
      have := nval_append [b] l
      simpa [nval] using this
    have h10 : 1 ≤ 10 ^ l.length := Nat.one_le_pow _ _ (by omega)
    have hdv : 1 ≤ dvN b := by unfold dvN; omega
    have : 1 * 1 ≤ dvN b * 10 ^ l.length := Nat.mul_le_mul hdv h10
    rw [e]; omega
theorem dec_nval : ∀ (l : List UInt8), numeral l → decDigits (nval l) = l := by
  refine snocInd (fun h => absurd rfl h.1) (fun l b ih => ?_)
  · intro h
    have hb : isDg b = true := h.2.1 b (by simp)
    rw [nval_snoc]
    by_cases hl : l = []
    · subst hl
      show decDigits (0 * 10 + dvN b) = [b]
      rw [Nat.zero_mul, Nat.zero_add, dec_small (dvN_lt hb), ofNat_dvN hb]
    · have h0 : l.head? ≠ some 48 := by
        intro e
        have := h.2.2 (by rw [head_append hl]; exact e)
        rw [List.length_append, List.length_singleton] at this
        exact hl (List.eq_nil_of_length_eq_zero (by omega))
      have hnl : numeral l := ⟨hl, fun c hc => h.2.1 c (List.mem_append_left _ hc), fun e => absurd e h0⟩
      rw [dec_step (numeral_pos hnl h0) (dvN_lt hb), ih hnl, ofNat_dvN hb]
theorem dec_head {n : Nat} (h : 1 ≤ n) : (decDigits n).head? ≠ some 48 := by
  induction n using Nat.strongRecOn with
  | _ n ih =>
    by_cases h1 : n < 10
    · rw [dec_small h1]
      simp only [List.head?_cons, ne_eq, Option.some.injEq]
      intro e
      have := congrArg UInt8.toNat e
      rw [UInt8.toNat_ofNat'] at this
      have e2 : (48 : UInt8).toNat = 48 := rfl
      omega
    · rw [dec_big h1, head_append (dec_ne_nil _)]
      exact ih _ (by omega) (by omega)
theorem dec_numeral (n : Nat) : numeral (decDigits n) := by
  refine ⟨dec_ne_nil n, dec_digit n, fun e => ?_⟩
  by_cases h : 1 ≤ n
  · exact absurd e (dec_head h)
  · obtain rfl : n = 0 := by omega
    rw [dec_small (by omega)]; rfl
theorem dec_inj {a b : Nat} (h : decDigits a = decDigits b) : a = b := by
  have := congrArg nval h
  rwa [nval_dec, nval_dec] at this
theorem dec_len_le {n k : Nat} (hk : 1 ≤ k) : (decDigits n).length ≤ k ↔ n < 10 ^ k := by
  rw [decDigits_length]
  constructor
  · intro h; exact Nat.lt_of_lt_of_le (lt_pow_nDigits n) (Nat.pow_le_pow_right (by omega) h)
  · intro h
    by_cases h1 : nDigits n ≤ k
    · exact h1
    · exfalso
      have hd := dec_numeral n
      by_cases h0 : 1 ≤ n
      · -- the digits but the last one spell at least 10 ^ (length - 2)
        have key : ∀ m, 1 ≤ m → 10 ^ (nDigits m - 1) ≤ m := by
          intro m
          induction m using Nat.strongRecOn with
          | _ m ih =>
            intro hm
            by_cases h10 : m < 10
            · rw [nDigits_small h10]; simpa using hm
            · rw [nDigits_big h10]
              have h3 := ih (m / 10) (by omega) (by omega)
              have h4 := nDigits_pos (m / 10)
              have e : nDigits (m / 10) + 1 - 1 = (nDigits (m / 10) - 1) + 1 := by omega
              rw [e, Nat.pow_succ]
              omega
        have h2 := key n h0
        have h3 : 10 ^ k ≤ 10 ^ (nDigits n - 1) := Nat.pow_le_pow_right (by omega) (by omega)
        omega
      · obtain rfl : n = 0 := by omega
        have : nDigits 0 = 1 := nDigits_small (by omega)
        omega
theorem dec_len_pos (n : Nat) : 1 ≤ (decDigits n).length := by rw [decDigits_length]; exact nDigits_pos n
theorem dec_len_low {n : Nat} (h : 1 ≤ n) : 10 ^ ((decDigits n).length - 1) ≤ n := by
  by_cases h1 : 10 ^ ((decDigits n).length - 1) ≤ n
  · exact h1
  · exfalso
    have hp := dec_len_pos n
    by_cases h2 : 1 ≤ (decDigits n).length - 1
    · have := (dec_len_le h2).2 (by omega : n < 10 ^ ((decDigits n).length - 1))
      omega
    · have : (decDigits n).length - 1 = 0 := by omega
      rw [this] at h1
      simp at h1; omega

/-- Digits with zeros ahead. -/
theorem nval_zeros (k : Nat) : nval (List.replicate k 48) = 0 := by
  induction k with
  | zero => rfl
  | succ k ih => rw [List.replicate_succ', nval_snoc, ih]; rfl
theorem zeros_digit (k : Nat) : ∀ b ∈ List.replicate k (48 : UInt8), isDg b = true := by
  intro b hb
  rw [List.eq_of_mem_replicate hb]; rfl
theorem dec_join {a d k : Nat} (ha : 1 ≤ a) (hd : d < 10 ^ k) (hk : 1 ≤ k) : decDigits (a * 10 ^ k + d) = decDigits a ++ (List.replicate (k - (decDigits d).length) 48 ++ decDigits d) := by
  have hl := (dec_len_le (n := d) hk).2 hd
  have hnum : numeral (decDigits a ++ (List.replicate (k - (decDigits d).length) 48 ++ decDigits d)) := by
    refine ⟨by simp [dec_ne_nil], fun b hb => ?_, fun e => ?_⟩
    · rcases List.mem_append.1 hb with h | h
      · exact dec_digit a b h
      · rcases List.mem_append.1 h with h | h
        · exact zeros_digit _ b h
        · exact dec_digit d b h
    · rw [head_append (dec_ne_nil a)] at e
      exact absurd e (dec_head ha)
  have := dec_nval _ hnum
  rw [← this]
  congr 1
  rw [nval_append, nval_append, nval_zeros, nval_dec, nval_dec, List.length_append, List.length_replicate]
  have e : k - (decDigits d).length + (decDigits d).length = k := by omega
  rw [e]; omega

/-- A string of digits. -/
def natS (n : Nat) : ByteArray := ⟨(decDigits n).toArray⟩
theorem natS_toList (n : Nat) : (natS n).data.toList = decDigits n := rfl
theorem natS_size (n : Nat) : (natS n).size = (decDigits n).length := by
  show (decDigits n).toArray.size = _
  simp
theorem natS_inj {a b : Nat} (h : natS a = natS b) : a = b := dec_inj (by rw [← natS_toList, ← natS_toList, h])
theorem ba_eq {a b : ByteArray} (h : a.data.toList = b.data.toList) : a = b := by
  cases a with | mk x => cases b with | mk y => simp at h; rw [h]
/-- The strings that are natural numbers. -/
def vldN (s : ByteArray) : Bool := decide (1 ≤ s.size) && decide (s.size ≤ 1000) && s.data.toList.all isDg && (decide (s.data.toList.head? ≠ some 48) || decide (s.size = 1))
theorem ba_size (s : ByteArray) : s.size = s.data.toList.length := rfl
theorem vldN_iff {s : ByteArray} : vldN s = true ↔ s.size ≤ 1000 ∧ numeral s.data.toList := by
  unfold vldN numeral
  simp only [Bool.and_eq_true, decide_eq_true_eq, List.all_eq_true, Bool.or_eq_true]
  rw [ba_size]
  constructor
  · rintro ⟨⟨⟨h1, h2⟩, h3⟩, h4⟩
    refine ⟨h2, ⟨fun e => ?_, h3, fun e => ?_⟩⟩
    · rw [e] at h1; simp at h1
    · rcases h4 with h4 | h4
      · exact absurd e h4
      · exact h4
  · rintro ⟨h2, h1, h3, h4⟩
    refine ⟨⟨⟨?_, h2⟩, h3⟩, ?_⟩
    · cases hl : s.data.toList with
      | nil => exact absurd hl h1
      | cons a l => simp
    · by_cases e : s.data.toList.head? = some 48
      · exact .inr (h4 e)
      · exact .inl e
/-- A valid string is the numeral of its number. -/
theorem vldN_natS {s : ByteArray} (h : vldN s = true) : natS (nval s.data.toList) = s := by
  apply ba_eq
  rw [natS_toList]
  exact dec_nval _ (vldN_iff.1 h).2
/-- A natural number of the document is less than this one. -/
def capK (k : Nat) : Nat := 10 ^ k
def capN : Nat := capK 1000
theorem capK_pos (k : Nat) : 0 < capK k := Nat.pow_pos (by decide)
theorem capK_len {n k : Nat} (hk : 1 ≤ k) : (decDigits n).length ≤ k ↔ n < capK k := dec_len_le hk
theorem capN_pos : 0 < capN := capK_pos 1000
theorem capN_len {n : Nat} : (decDigits n).length ≤ 1000 ↔ n < capN := capK_len (by decide)
theorem natS_vldN {n : Nat} : vldN (natS n) = true ↔ n < capN := by
  rw [vldN_iff, natS_size, capN_len]
  exact ⟨fun h => h.1, fun h => ⟨h, by rw [natS_toList]; exact dec_numeral n⟩⟩
theorem vldN_obtain {s : ByteArray} (h : vldN s = true) : ∃ n, n < capN ∧ s = natS n := by
  have e := vldN_natS h
  exact ⟨nval s.data.toList, natS_vldN.1 (by rw [e]; exact h), e.symm⟩
end Go.Proofs.YtbojlmnajndleaaGreatDoor
