/- RfQ, RaP, RfA in one text. -/
import Derived.Test.YtblpnekjnaaeoaaGreatDoorPkF
import GoSem.Op.String
import Derived.Test.YtblpnekjnaaeoaaGreatDoorPkE
set_option linter.unusedVariables false
set_option linter.unusedSimpArgs false
namespace Go.Proofs.YtblpnekjnaaeoaaGreatDoor
open Go.Lib

theorem le10_lt {l : List Nat} (h : D10 l) : le10 l < 10 ^ l.length := by
  induction l with
  | nil => simp [le10]
  | cons d l ih =>
    have h1 := ih fun e he => h e (by simp [he])
    have h2 := h d (by simp)
    simp only [le10, List.length_cons, Nat.pow_succ]
    omega
theorem sub_step10 {x y i b n : Nat} {o : List Nat} (hl : o.length = i) (hb : b ≤ 1) (h : le10 o + y % 10 ^ i = x % 10 ^ i + b * 10 ^ i) (hn : n + atN y i + b = atN x i + 10) :
    le10 (o ++ [n % 10]) + y % 10 ^ (i + 1) = x % 10 ^ (i + 1) + (1 - n / 10) * 10 ^ (i + 1) := by
  rw [le10_snoc, hl, atN_mod, atN_mod]
  have a := atN_lt x i
  have c := atN_lt y i
  have e := Nat.div_add_mod n 10
  have hq : n / 10 ≤ 1 := by omega
  generalize hqq : 1 - n / 10 = q
  have e2 : n % 10 + atN y i + b = atN x i + 10 * q := by omega
  have e3 : 10 ^ i * (n % 10 + atN y i + b) = 10 ^ i * (atN x i + 10 * q) := by rw [e2]
  rw [Nat.mul_add, Nat.mul_add, Nat.mul_add] at e3
  rw [show q * 10 ^ (i + 1) = 10 ^ i * (10 * q) by rw [Nat.pow_succ, Nat.mul_comm q, Nat.mul_assoc]]
  rw [Nat.mul_comm b] at h
  omega
theorem sub_end10 {x y i b : Nat} {o : List Nat} (hd : D10 o) (hl : o.length = i) (h : le10 o + y % 10 ^ i = x % 10 ^ i + b * 10 ^ i) (hx : x % 10 ^ i = x) (hle : y ≤ x) : le10 o = x - y := by
  have hy : y % 10 ^ i = y := by
    have h1 : x < 10 ^ i := by rw [← hx]; exact Nat.mod_lt _ (Nat.pow_pos (by decide))
    exact Nat.mod_eq_of_lt (by omega)
  rw [hx, hy] at h
  have h1 := le10_lt hd
  rw [hl] at h1
  have : b = 0 := by
    rcases Nat.eq_zero_or_pos b with h2 | h2
    · exact h2
    · exfalso
      have : 1 * 10 ^ i ≤ b * 10 ^ i := Nat.mul_le_mul_right _ h2
      omega
  subst this
  omega
theorem le10_set {l : List Nat} {j v : Nat} (h : j < l.length) : le10 (l.set j (l[j] + v)) = le10 l + v * 10 ^ j := by
  induction l generalizing j with
  | nil => simp at h
  | cons d l ih =>
    cases j with
    | zero => simp [le10]; omega
    | succ j =>
      simp only [List.set_cons_succ, le10, List.getElem_cons_succ]
      rw [ih (by simpa using h), Nat.pow_succ, Nat.mul_add]
      have : 10 * (v * 10 ^ j) = v * (10 ^ j * 10) := by rw [← Nat.mul_assoc, Nat.mul_comm 10 v, Nat.mul_assoc, Nat.mul_comm 10]
      omega
theorem le10_zeros (n : Nat) : le10 (List.replicate n 0) = 0 := by
  induction n with
  | zero => rfl
  | succ n ih => rw [List.replicate_succ]; simp only [le10, ih]
theorem mul_step10 {V x y i k d e : Nat} (h : V = x % 10 ^ i * y + 10 ^ i * (d * (y % 10 ^ k))) (he : atN y k = e) :
    V + d * e * 10 ^ (i + k) = x % 10 ^ i * y + 10 ^ i * (d * (y % 10 ^ (k + 1))) := by
  rw [h, atN_mod y k, he, Nat.pow_add, Nat.mul_add d, Nat.mul_add (10 ^ i)]
  have : d * e * (10 ^ i * 10 ^ k) = 10 ^ i * (d * (10 ^ k * e)) := by
    rw [Nat.mul_comm (10 ^ k) e, ← Nat.mul_assoc d e, ← Nat.mul_assoc (d * e), Nat.mul_comm (d * e) (10 ^ i), Nat.mul_assoc]
  omega
theorem mul_row10 {V x y i d : Nat} (h : V = x % 10 ^ i * y + 10 ^ i * (d * y)) (hd : atN x i = d) : V = x % 10 ^ (i + 1) * y := by
  rw [h, atN_mod x i, hd, Nat.add_mul, Nat.mul_assoc]
theorem le10_take {l : List Nat} {i : Nat} (h : i < l.length) : le10 (l.take (i + 1)) = le10 (l.take i) + 10 ^ i * l[i] := by
  rw [List.take_succ_eq_append_getElem h, le10_snoc, List.length_take, Nat.min_eq_left (by omega)]
theorem out_step10 {S o : List Nat} {i c : Nat} (hi : i < S.length) (hl : o.length = i) (h : le10 o + c * 10 ^ i = le10 (S.take i)) :
    le10 (o ++ [(S[i] + c) % 10]) + (S[i] + c) / 10 * 10 ^ (i + 1) = le10 (S.take (i + 1)) := by
  rw [le10_take hi, le10_snoc, hl]
  have e := Nat.div_add_mod (S[i] + c) 10
  generalize (S[i] + c) / 10 = q at *
  generalize (S[i] + c) % 10 = r at *
  have e3 : 10 ^ i * (10 * q + r) = 10 ^ i * (S[i] + c) := by rw [e]
  rw [Nat.mul_add, Nat.mul_add] at e3
  rw [show q * 10 ^ (i + 1) = 10 ^ i * (10 * q) by rw [Nat.pow_succ, Nat.mul_comm q, Nat.mul_assoc]]
  rw [Nat.mul_comm c] at h
  omega
theorem out_end10 {S o : List Nat} {c V : Nat} (hl : o.length = S.length) (h : le10 o + c * 10 ^ S.length = le10 (S.take S.length)) (hV : le10 S = V) (hlt : V < 10 ^ S.length) : le10 o = V := by
  rw [List.take_length, hV] at h
  have : c = 0 := by
    rcases Nat.eq_zero_or_pos c with h2 | h2
    · exact h2
    · exfalso
      have : 1 * 10 ^ S.length ≤ c * 10 ^ S.length := Nat.mul_le_mul_right _ h2
      omega
  subst this
  omega
theorem of_step10 {n m i : Nat} {o : List Nat} (hl : o.length = i) (h : le10 o + m * 10 ^ i = n) : le10 (o ++ [m % 10]) + m / 10 * 10 ^ (i + 1) = n := by
  rw [le10_snoc, hl, ← h]
  have e := Nat.div_add_mod m 10
  generalize m / 10 = q at *
  generalize m % 10 = r at *
  subst e
  rw [show q * 10 ^ (i + 1) = 10 ^ i * (10 * q) by rw [Nat.pow_succ, Nat.mul_comm q, Nat.mul_assoc], Nat.mul_comm (10 * q + r), Nat.mul_add]
  omega
theorem nval_cons (b : UInt8) (l : List UInt8) : nval (b :: l) = dvN b * 10 ^ l.length + nval l := by
  have := nval_append [b] l
  simpa [nval] using this
theorem less_digits : ∀ (l m : List UInt8), l.length = m.length → (∀ b ∈ l, isDg b = true) → (∀ b ∈ m, isDg b = true) → Op.bytesLess l m = decide (nval l < nval m)
  | [], [], _, _, _ => rfl
  | a :: l, b :: m, hlen, hl, hm => by
    have hlen' : l.length = m.length := by simpa using hlen
    have hl' : ∀ c ∈ l, isDg c = true := fun c hc => hl c (by simp [hc])
    have hm' : ∀ c ∈ m, isDg c = true := fun c hc => hm c (by simp [hc])
    have ih := less_digits l m hlen' hl' hm'
    have ha := isDg_iff.1 (hl a (by simp))
    have hb := isDg_iff.1 (hm b (by simp))
    have h1 := nval_lt l hl'
    have h2 := nval_lt m hm'
    rw [Op.bytesLess, ih, nval_cons, nval_cons, ← hlen']
    rw [← hlen'] at h2
    generalize 10 ^ l.length = p at *
    rcases Nat.lt_trichotomy a.toNat b.toNat with h | h | h
    · have e1 : decide (a < b) = true := decide_eq_true (by rw [UInt8.lt_iff_toNat_lt]; exact h)
      rw [e1, Bool.true_or]
      refine (decide_eq_true ?_).symm
      have : (dvN a + 1) * p ≤ dvN b * p := Nat.mul_le_mul_right _ (by unfold dvN; omega)
      rw [Nat.add_mul] at this
      omega
    · have e0 : a = b := UInt8.toNat_inj.1 h
      subst e0
      have e1 : decide (a < a) = false := decide_eq_false (by rw [UInt8.lt_iff_toNat_lt]; omega)
      rw [e1, Bool.false_or, beq_self_eq_true, Bool.true_and]
      congr 1
      exact propext ⟨fun h => by omega, fun h => by omega⟩
    · have e1 : decide (a < b) = false := decide_eq_false (by rw [UInt8.lt_iff_toNat_lt]; omega)
      have e2 : (a == b) = false := by
        rw [beq_eq_false_iff_ne]; intro e; subst e; omega
      rw [e1, e2, Bool.false_or, Bool.false_and]
      refine (decide_eq_false ?_).symm
      have : (dvN b + 1) * p ≤ dvN a * p := Nat.mul_le_mul_right _ (by unfold dvN; omega)
      rw [Nat.add_mul] at this
      omega
theorem len_lt_lt {x y : Nat} (h : (decDigits x).length < (decDigits y).length) : x < y := by
  have h1 := dec_lt x
  have h2 : 10 ^ ((decDigits y).length - 1) ≤ y := by
    rcases Nat.lt_or_ge y (10 ^ ((decDigits y).length - 1)) with h3 | h3
    · exfalso
      have := dec_len_pos x
      have := (dec_len_le (n := y) (k := (decDigits y).length - 1) (by omega)).2 h3
      omega
    · exact h3
  have h3 : 10 ^ (decDigits x).length ≤ 10 ^ ((decDigits y).length - 1) := Nat.pow_le_pow_right (by decide) (by omega)
  omega
theorem nval_take_all (x : Nat) : nval ((decDigits x).take (decDigits x).length) = x := by rw [List.take_length, nval_dec]
theorem nval_take_succ {l : List UInt8} {i : Nat} (h : i < l.length) : nval (l.take (i + 1)) = nval (l.take i) * 10 + dvN l[i] := by
  rw [List.take_succ_eq_append_getElem h, nval_snoc]
theorem quo_step {X q r y d n : Nat} (h : q * y + r = X) (hn : n * y ≤ r * 10 + d) : (q * 10 + n) * y + (r * 10 + d - n * y) = X * 10 + d := by
  rw [Nat.add_mul, ← h]
  have : q * 10 * y = q * y * 10 := by rw [Nat.mul_assoc, Nat.mul_comm 10 y, ← Nat.mul_assoc]
  omega
theorem quo_le {r y d n : Nat} (hr : r < y) (hd : d < 10) (hn : n * y ≤ r * 10 + d) : n ≤ 9 := by
  rcases Nat.lt_or_ge 9 n with h | h
  · exfalso
    have : 10 * y ≤ n * y := Nat.mul_le_mul_right _ h
    omega
  · exact h
end Go.Proofs.YtblpnekjnaaeoaaGreatDoor
namespace Go.Proofs.YtblpnekjnaaeoaaGreatDoor
open Go.Lib

/-- The quotient of two naturals with a sign. -/
def mkQ (g : Bool) (n d : Nat) : Rat := mkRat (if g then -(n : Int) else (n : Int)) d
/-- The sign of a number. -/
def ngQ (q : Rat) : Bool := decide (q.num < 0)
def nmQ (q : Rat) : Nat := q.num.natAbs
theorem den_pos (q : Rat) : 0 < q.den := Nat.pos_of_ne_zero q.den_nz
theorem sgn_num (q : Rat) : (if ngQ q then -(nmQ q : Int) else (nmQ q : Int)) = q.num := by
  unfold ngQ nmQ
  by_cases h : q.num < 0
  · rw [decide_eq_true h, if_pos rfl]; omega
  · rw [decide_eq_false h, if_neg (by decide)]; omega
theorem mkQ_self (q : Rat) : mkQ (ngQ q) (nmQ q) q.den = q := by
  unfold mkQ; rw [sgn_num, Rat.mkRat_self]
theorem nmQ_zero {q : Rat} : nmQ q = 0 ↔ q = 0 := by
  unfold nmQ
  rw [← Rat.num_eq_zero]; omega
theorem ngQ_zero : ngQ 0 = false := by decide
theorem den_zero : (0 : Rat).den = 1 := rfl
theorem red (q : Rat) : Nat.gcd (nmQ q) q.den = 1 := q.reduced
/-- What the parts of a number in lowest terms are. -/
def LowQ (g : Bool) (n d : Nat) : Prop := 0 < d ∧ Nat.gcd n d = 1 ∧ (n = 0 → g = false)
theorem LowQ.of (q : Rat) : LowQ (ngQ q) (nmQ q) q.den := ⟨den_pos q, red q, fun h => by rw [nmQ_zero.1 h]; rfl⟩
theorem mkQ_low {g : Bool} {n d : Nat} (h : LowQ g n d) : ngQ (mkQ g n d) = g ∧ nmQ (mkQ g n d) = n ∧ (mkQ g n d).den = d := by
  obtain ⟨h1, h2, h3⟩ := h
  have hd : d ≠ 0 := by omega
  have e : ∀ (z : Int) (hz : z.natAbs = n), mkRat z d = ⟨z, d, hd, by subst hz; exact h2⟩ := fun z hz => by
    rw [← Rat.normalize_eq_mkRat hd, Rat.normalize_eq]
    apply Rat.ext <;> simp [hz, h2]
  unfold mkQ
  cases g with
  | false =>
    simp only [Bool.false_eq_true, if_false]
    rw [e _ (by omega)]
    refine ⟨?_, ?_, rfl⟩
    · unfold ngQ; exact decide_eq_false (by show ¬ ((n : Int) < 0); omega)
    · unfold nmQ; simp
  | true =>
    simp only [if_true]
    have hn : n ≠ 0 := fun hn => by simpa using h3 hn
    rw [e _ (by omega)]
    refine ⟨?_, ?_, rfl⟩
    · unfold ngQ; exact decide_eq_true (by show (-(n : Int) < 0); omega)
    · unfold nmQ; simp
theorem low_eq {g : Bool} {n d : Nat} (h : LowQ g n d) : ∃ q : Rat, g = ngQ q ∧ n = nmQ q ∧ d = q.den := by
  obtain ⟨a, b, c⟩ := mkQ_low h
  exact ⟨_, a.symm, b.symm, c.symm⟩
theorem q_ext {p q : Rat} (h1 : ngQ p = ngQ q) (h2 : nmQ p = nmQ q) (h3 : p.den = q.den) : p = q := by
  rw [← mkQ_self p, ← mkQ_self q, h1, h2, h3]
/-- What 'lowest' returns. -/
theorem lowest_eq {g : Bool} {n d : Nat} (hd : 0 < d) (hn : 0 < n) : LowQ g (n / Nat.gcd n d) (d / Nat.gcd n d) ∧ mkQ g (n / Nat.gcd n d) (d / Nat.gcd n d) = mkQ g n d := by
  have hg : 0 < Nat.gcd n d := Nat.gcd_pos_of_pos_left _ hn
  obtain ⟨a, ha⟩ := Nat.gcd_dvd_left n d
  obtain ⟨b, hb⟩ := Nat.gcd_dvd_right n d
  have ea : n / Nat.gcd n d = a := by
    conv => lhs; arg 1; rw [ha]
    exact Nat.mul_div_cancel_left a hg
  have eb : d / Nat.gcd n d = b := by
    conv => lhs; arg 1; rw [hb]
    exact Nat.mul_div_cancel_left b hg
  have hb0 : 0 < b := by
    rcases Nat.eq_zero_or_pos b with h | h
    · rw [h, Nat.mul_zero] at hb; omega
    · exact h
  have ha0 : 0 < a := by
    rcases Nat.eq_zero_or_pos a with h | h
    · rw [h, Nat.mul_zero] at ha; omega
    · exact h
  refine ⟨⟨by omega, ?_, fun h => by omega⟩, ?_⟩
  · rw [ea, eb]
    have h := Nat.gcd_div (k := Nat.gcd n d) (m := n) (n := d) (Nat.gcd_dvd_left n d) (Nat.gcd_dvd_right n d)
    rw [ea, eb] at h
    rw [h]; exact Nat.div_self hg
  · rw [ea, eb]
    unfold mkQ
    rw [Rat.mkRat_eq_iff (by omega) (by omega)]
    generalize hG : Nat.gcd n d = G at *
    have ha' : (n : Int) = (G : Int) * (a : Int) := by rw [← Int.natCast_mul, ← ha]
    have hb' : (d : Int) = (G : Int) * (b : Int) := by rw [← Int.natCast_mul, ← hb]
    cases g with
    | false => simp only [Bool.false_eq_true, if_false]; rw [ha', hb']; grind
    | true => simp only [if_true]; rw [ha', hb']; grind
theorem mkQ_zero (g : Bool) (d : Nat) : mkQ g 0 d = 0 := by unfold mkQ; cases g <;> simp
theorem mkQ_div (g : Bool) (n d : Nat) (hd : 0 < d) : mkQ g n d = (if g then -(n : Rat) else (n : Rat)) / (d : Rat) := by
  unfold mkQ
  rw [Rat.mkRat_eq_div]
  cases g <;> simp [Rat.intCast_natCast]
theorem q_div (q : Rat) : q = (if ngQ q then -(nmQ q : Rat) else (nmQ q : Rat)) / (q.den : Rat) := by
  have := mkQ_div (ngQ q) (nmQ q) q.den (den_pos q)
  rw [mkQ_self] at this
  exact this
theorem den_ne (q : Rat) : (q.den : Rat) ≠ 0 := by
  have := den_pos q
  intro h
  have : q.den = 0 := by exact_mod_cast h
  omega
/-- The sum of numbers of one sign, and of two signs. -/
theorem add_same {p q : Rat} (h : ngQ p = ngQ q) : mkQ (ngQ p) (nmQ p * q.den + nmQ q * p.den) (p.den * q.den) = p + q := by
  have hp := den_ne p
  have hq := den_ne q
  rw [mkQ_div _ _ _ (Nat.mul_pos (den_pos p) (den_pos q))]
  conv => rhs; rw [q_div p, q_div q, ← h]
  cases ngQ p <;> simp <;> grind
theorem add_left {p q : Rat} (h : ngQ p ≠ ngQ q) (hle : nmQ q * p.den ≤ nmQ p * q.den) : mkQ (ngQ p) (nmQ p * q.den - nmQ q * p.den) (p.den * q.den) = p + q := by
  have hp := den_ne p
  have hq := den_ne q
  rw [mkQ_div _ _ _ (Nat.mul_pos (den_pos p) (den_pos q))]
  have e : ngQ q = !ngQ p := by revert h; cases ngQ p <;> cases ngQ q <;> simp
  have ec : ((nmQ p * q.den - nmQ q * p.den : Nat) : Rat) = (nmQ p : Rat) * (q.den : Rat) - (nmQ q : Rat) * (p.den : Rat) := by
    obtain ⟨k, hk⟩ := Nat.exists_eq_add_of_le hle
    rw [hk, Nat.add_sub_cancel_left]
    have : ((nmQ p * q.den : Nat) : Rat) = ((nmQ q * p.den + k : Nat) : Rat) := by rw [hk]
    simp only [Rat.natCast_mul, Rat.natCast_add] at this
    grind
  rw [ec]
  conv => rhs; rw [q_div p, q_div q, e]
  cases ngQ p <;> simp <;> grind
theorem add_right {p q : Rat} (h : ngQ p ≠ ngQ q) (hle : nmQ p * q.den ≤ nmQ q * p.den) : mkQ (ngQ q) (nmQ q * p.den - nmQ p * q.den) (p.den * q.den) = p + q := by
  rw [Rat.add_comm, Nat.mul_comm p.den]
  exact add_left (fun e => h e.symm) hle
theorem mul_mk (p q : Rat) : mkQ (ngQ p != ngQ q) (nmQ p * nmQ q) (p.den * q.den) = p * q := by
  have hp := den_ne p
  have hq := den_ne q
  rw [mkQ_div _ _ _ (Nat.mul_pos (den_pos p) (den_pos q))]
  conv => rhs; rw [q_div p, q_div q]
  cases ngQ p <;> cases ngQ q <;> simp <;> grind
theorem neg_parts (q : Rat) : ngQ (-q) = (!ngQ q && decide (nmQ q ≠ 0)) ∧ nmQ (-q) = nmQ q ∧ (-q).den = q.den := by
  refine ⟨?_, ?_, rfl⟩
  · unfold ngQ nmQ
    rw [Rat.neg_num]
    by_cases h : q.num < 0
    · rw [decide_eq_true h, decide_eq_false (by omega)]; rfl
    · by_cases h0 : q.num = 0
      · rw [h0]; rfl
      · rw [decide_eq_false h, decide_eq_true (show -q.num < 0 by omega), decide_eq_true (by omega)]; rfl
  · unfold nmQ; rw [Rat.neg_num]; omega
theorem inv_parts {q : Rat} (h : q ≠ 0) : ngQ q⁻¹ = ngQ q ∧ nmQ q⁻¹ = q.den ∧ q⁻¹.den = nmQ q := by
  have hn : 0 < nmQ q := by
    rcases Nat.eq_zero_or_pos (nmQ q) with h0 | h0
    · exact absurd (nmQ_zero.1 h0) h
    · exact h0
  have hl : LowQ (ngQ q) q.den (nmQ q) := ⟨hn, by rw [Nat.gcd_comm]; exact red q, fun h0 => by have := den_pos q; omega⟩
  have e : q⁻¹ = mkQ (ngQ q) q.den (nmQ q) := by
    rw [mkQ_div _ _ _ hn]
    have hd := den_ne q
    have hn' : (nmQ q : Rat) ≠ 0 := by
      intro h0
      have : nmQ q = 0 := by exact_mod_cast h0
      omega
    conv => lhs; rw [q_div q]
    cases ngQ q <;> simp <;> grind
  rw [e]
  exact mkQ_low hl
/-- The order. -/
def cmpQ (p q : Rat) : Int := if p < q then -1 else if q < p then 1 else 0
theorem cmpQ_eq (p : Rat) : cmpQ p p = 0 := by unfold cmpQ; rw [if_neg Rat.lt_irrefl, if_neg Rat.lt_irrefl]
theorem cmpQ_lt {p q : Rat} (h : p < q) : cmpQ p q = -1 := if_pos h
theorem cmpQ_gt {p q : Rat} (h : q < p) : cmpQ p q = 1 := by unfold cmpQ; rw [if_neg (by grind), if_pos h]
theorem cmpQ_zero {p q : Rat} : cmpQ p q = 0 ↔ p = q := by
  unfold cmpQ
  by_cases h : p < q
  · rw [if_pos h]; constructor
    · intro h; omega
    · intro e; subst e; exact absurd h Rat.lt_irrefl
  · by_cases h' : q < p
    · rw [if_neg h, if_pos h']; constructor
      · intro h; omega
      · intro e; subst e; exact absurd h' Rat.lt_irrefl
    · rw [if_neg h, if_neg h']; constructor
      · intro _; grind
      · intro _; rfl
theorem cmpQ_neg {p q : Rat} : cmpQ p q < 0 ↔ p < q := by
  unfold cmpQ
  by_cases h : p < q
  · rw [if_pos h]; simp [h]
  · rw [if_neg h]; constructor
    · intro h'; split at h' <;> omega
    · intro h'; exact absurd h' h
theorem cmpQ_le {p q : Rat} : cmpQ p q ≤ 0 ↔ p ≤ q := by
  unfold cmpQ
  by_cases h : p < q
  · rw [if_pos h]; constructor
    · intro _; grind
    · intro _; omega
  · rw [if_neg h]
    by_cases h' : q < p
    · rw [if_pos h']; constructor
      · intro h; omega
      · intro h; grind
    · rw [if_neg h']; constructor
      · intro _; grind
      · intro _; omega
theorem cmpQ_flip (p q : Rat) : cmpQ q p = -cmpQ p q := by
  unfold cmpQ
  by_cases h : p < q
  · rw [if_pos h, if_neg (by grind), if_pos h]; rfl
  · by_cases h' : q < p
    · rw [if_pos h', if_neg h, if_pos h']
    · rw [if_neg h', if_neg h, if_neg h, if_neg h']; rfl
theorem cmpQ_neg_neg (p q : Rat) : cmpQ (-q) (-p) = cmpQ p q := by
  unfold cmpQ
  have e1 : (-q < -p) ↔ (p < q) := by constructor <;> intro h <;> grind
  have e2 : (-p < -q) ↔ (q < p) := by constructor <;> intro h <;> grind
  simp only [e1, e2]
/-- The order of two fractions by their cross products. -/
def cmpX (a b c d : Nat) : Int := if a * d < c * b then -1 else if c * b < a * d then 1 else 0
theorem cmpX_q {p q : Rat} (hp : ngQ p = false) (hq : ngQ q = false) : cmpX (nmQ p) p.den (nmQ q) q.den = cmpQ p q := by
  have e1 : ∀ p : Rat, ngQ p = false → (nmQ p : Int) = p.num := fun p hp => by
    have := sgn_num p
    rw [hp, if_neg (by decide)] at this
    exact this
  have key : ∀ p q : Rat, ngQ p = false → ngQ q = false → (p < q ↔ nmQ p * q.den < nmQ q * p.den) := fun p q hp hq => by
    rw [Rat.lt_iff, ← e1 p hp, ← e1 q hq, ← Int.natCast_mul, ← Int.natCast_mul]; omega
  unfold cmpX cmpQ
  simp only [← key p q hp hq, ← key q p hq hp]
theorem cmpX_self (a b : Nat) : cmpX a b a b = 0 := by unfold cmpX; rw [if_neg (Nat.lt_irrefl _), if_neg (Nat.lt_irrefl _)]
theorem cross_lt {a b c d : Nat} (hb : 0 < b) (hd : 0 < d) (h : a / b < c / d) : a * d < c * b := by
  have h1 : a < b * (a / b + 1) := by have := Nat.div_add_mod a b; have := Nat.mod_lt a hb; rw [Nat.mul_add]; omega
  have h2 : d * (c / d) ≤ c := Nat.mul_div_le c d
  have h3 : a * d < b * (a / b + 1) * d := Nat.mul_lt_mul_of_pos_right h1 hd
  have h4 : b * (a / b + 1) ≤ b * (c / d) := Nat.mul_le_mul_left _ h
  have h5 : b * (a / b + 1) * d ≤ b * (c / d) * d := Nat.mul_le_mul_right _ h4
  have h6 : b * (c / d) * d = d * (c / d) * b := by grind
  have h7 : d * (c / d) * b ≤ c * b := Nat.mul_le_mul_right _ h2
  omega
theorem cmpX_div_lt {a b c d : Nat} (hb : 0 < b) (hd : 0 < d) (h : a / b < c / d) : cmpX a b c d = -1 := if_pos (cross_lt hb hd h)
theorem cmpX_div_gt {a b c d : Nat} (hb : 0 < b) (hd : 0 < d) (h : c / d < a / b) : cmpX a b c d = 1 := by
  have := cross_lt hd hb h
  unfold cmpX
  rw [if_neg (by omega), if_pos this]
theorem cross_rest {a b c d : Nat} (h : a / b = c / d) : a * d + (c % d) * b = c * b + (a % b) * d := by
  have h1 := Nat.div_add_mod a b
  have h2 := Nat.div_add_mod c d
  generalize a / b = m at *
  generalize c / d = k at *
  generalize a % b = r at *
  generalize c % d = s at *
  subst h
  subst h1
  subst h2
  grind
theorem cmpX_rest {a b c d : Nat} (h : a / b = c / d) : cmpX a b c d = cmpX d (c % d) b (a % b) := by
  have := cross_rest h
  unfold cmpX
  rw [Nat.mul_comm d (a % b), Nat.mul_comm b (c % d)]
  have e1 : (a * d < c * b) ↔ (a % b * d < c % d * b) := by omega
  have e2 : (c * b < a * d) ↔ (c % d * b < a % b * d) := by omega
  simp only [e1, e2]
theorem cmpX_zero_left {a b c d : Nat} (h : a / b = c / d) (hb : 0 < b) (hr : a % b = 0) (hne : cmpX a b c d ≠ 0) : cmpX a b c d = -1 := by
  rw [cmpX_rest h, hr] at hne ⊢
  unfold cmpX at *
  rw [Nat.mul_zero] at *
  by_cases h0 : 0 < b * (c % d)
  · rw [if_pos h0]
  · rw [if_neg h0, if_neg (by omega)] at hne
    exact absurd rfl hne
theorem cmpX_zero_right {a b c d : Nat} (h : a / b = c / d) (hd : 0 < d) (hr : 0 < a % b) (hs : c % d = 0) : cmpX a b c d = 1 := by
  rw [cmpX_rest h, hs]
  unfold cmpX
  have := Nat.mul_pos hd hr
  rw [Nat.mul_zero, if_neg (by omega), if_pos this]
end Go.Proofs.YtblpnekjnaaeoaaGreatDoor
namespace Go.Proofs.YtblpnekjnaaeoaaGreatDoor
open Go.RowKit

set_option maxHeartbeats 1000000 in
set_option maxRecDepth 100000 in
theorem ref_at_out (s : ByteArray) (p : Nat) (w : World) (h : s.size ≤ p) :
    Calls Tryz.prog 144 #[.string s, .int .i64 (p : Int)] w fun e w' => e = .returned (.int .i64 0) ∧ w' = w := by
  have h1 : decide ((s.size : Int) ≤ (p : Int)) = true := decide_eq_true (by omega)
  go_enter Tryz.func144, Tryz.ntmps144
  go_wp2_with fail
  go_ret
  exact ⟨rfl, rfl⟩
set_option maxHeartbeats 1000000 in
set_option maxRecDepth 100000 in
theorem ref_at_in (s : ByteArray) (p k : Nat) (w : World) (hs : s.size ≤ maxLen) (h : s.size = k + 1 + p) (d : Nat) (hd : (s[k]'(by omega)).toNat = 48 + d) (h9 : d < 10) :
    Calls Tryz.prog 144 #[.string s, .int .i64 (p : Int)] w fun e w' => e = .returned (.int .i64 (d : Int)) ∧ w' = w := by
  unfold maxLen at hs
  have h1 : decide ((s.size : Int) ≤ (p : Int)) = false := decide_eq_false (by omega)
  have q1 : IntKind.i64.wrap ((s.size : Int) - 1) = (s.size : Int) - 1 := IntWalk.i64_in _ (by omega)
  have q2 : IntKind.i64.wrap ((s.size : Int) - 1 - (p : Int)) = (k : Int) := by rw [show (s.size : Int) - 1 - (p : Int) = (k : Int) by omega]; exact IntWalk.i64_in _ (by omega)
  go_enter Tryz.func144, Tryz.ntmps144
  go_wp2_with fail
  go_ret
  refine ⟨?_, rfl⟩
  show Ending.returned (.int .i64 (48 + (d : Int) - 48)) = _
  rw [show 48 + (d : Int) - 48 = (d : Int) by omega]
theorem natS_at {x i : Nat} (h : i < (natS x).size) : (natS x)[i] = (Lib.decDigits x)[i]'(by rw [← natS_size]; exact h) := rfl
theorem ref_at (x p : Nat) (w : World) (hx : x < capN) :
    Calls Tryz.prog 144 #[.string (natS x), .int .i64 (p : Int)] w fun e w' => e = .returned (.int .i64 (atN x p : Int)) ∧ w' = w := by
  have hsz : (natS x).size ≤ 1000 := by rw [natS_size]; exact capN_len.2 hx
  by_cases h : p < (natS x).size
  · have h' : p < (Lib.decDigits x).length := by rw [← natS_size]; exact h
    have e := atN_in h'
    have hi : (Lib.decDigits x).length - 1 - p < (Lib.decDigits x).length := by omega
    have hdg := isDg_iff.1 (dec_digit x _ (List.getElem_mem hi))
    refine ref_at_in (natS x) p ((natS x).size - 1 - p) w (by unfold maxLen; omega) (by omega) (atN x p) ?_ (atN_lt x p)
    rw [← e]
    rw [natS_at]
    simp only [natS_size]
    unfold dvN; omega
  · have h' : (Lib.decDigits x).length ≤ p := by rw [← natS_size]; omega
    rw [atN_out h']
    exact ref_at_out (natS x) p w (by omega)
theorem ext_drop (s : ByteArray) (k : Nat) : (s.extract k s.size).data.toList = s.data.toList.drop k := by
  rw [ByteArray.data_extract, Array.toList_extract]
  simp only [List.extract]
  exact List.take_of_length_le (by rw [List.length_drop, ← ba_size]; exact Nat.le_refl _)
theorem ext_end {s : ByteArray} {k n : Nat} (h : s.data.toList.drop k = Lib.decDigits n) : s.extract k s.size = natS n := by
  apply ba_eq; rw [ext_drop, h]; rfl
set_option maxHeartbeats 1000000 in
set_option maxRecDepth 100000 in
theorem ref_trimmed (s : ByteArray) (w : World) (hs : s.size ≤ maxLen) (h0 : 0 < s.size) (hd : ∀ b ∈ s.data.toList, isDg b = true) :
    Calls Tryz.prog 132 #[.string s] w fun e w' => e = .returned (.string (natS (nval s.data.toList))) ∧ w' = w := by
  unfold maxLen at hs
  go_enter Tryz.func132, Tryz.ntmps132
  go_wp2_with fail
  go_loop [3] (fun i => ∃ k : Nat, k < s.size ∧ i = .int .i64 (k : Int) ∧ s.data.toList.take k = List.replicate k 48) (fun i => s.size - (intOf i).toNat)
  case atStart => exact ⟨0, h0, rfl, by simp⟩
  case round =>
    obtain ⟨k, hk, rfl, hz⟩ := hrel
    have HZ := hide hz
    have HD := hide hd
    have e1 : IntKind.i64.wrap ((k : Int) + 1) = (k : Int) + 1 := IntWalk.i64_in _ (by omega)
    have hk' : k < s.data.toList.length := hk
    have fin : (s.data.toList.length ≤ k + 1 ∨ s.data.toList[k] ≠ 48) → s.data.toList.drop k = Lib.decDigits (nval s.data.toList) := fun h => trim_end hd hk' hz h
    have FIN := hide fin
    clear hz hd fin
    by_cases hl : k + 1 < s.size
    · have f1 : decide ((k : Int) + 1 < (s.size : Int)) = true := decide_eq_true (by omega)
      by_cases hc : s[k].toNat = 48
      · have q2 : ((s[k].toNat : Int) == 48) = true := by simp; omega
        go_wp2_with fail
        go_round
        case rel => exact ⟨k + 1, by omega, by first | rfl | go_num, trim_step hk' HZ.out (UInt8.toNat_inj.1 hc)⟩
        case measure => (simp [intOf]; try omega)
      · have q2 : ((s[k].toNat : Int) == 48) = false := by simp; omega
        go_wp2_with fail
        go_ret
        exact ⟨congrArg (fun b => Ending.returned (.string b)) (ext_end (FIN.out (.inr fun e => hc (by show (s.data.toList[k]).toNat = 48; rw [e]; rfl)))), rfl⟩
    · have f1 : decide ((k : Int) + 1 < (s.size : Int)) = false := decide_eq_false (by omega)
      go_wp2_with fail
      go_ret
      exact ⟨congrArg (fun b => Ending.returned (.string b)) (ext_end (FIN.out (.inl (by rw [← ba_size]; omega)))), rfl⟩
end Go.Proofs.YtblpnekjnaaeoaaGreatDoor
