/- RfQ, RaP, RfA in one text. -/
import Derived.Test.YtblpnekjnaaeoaaGreatDoorPkF
import GoSem.Op.String
import Derived.Test.YtblpnekjnaaeoaaGreatDoorPkE
set_option linter.unusedVariables false
set_option linter.unusedSimpArgs false
namespace Go.Proofs.YtblpnekjnaaeoaaGreatDoor
open Go.Lib

end Go.Proofs.YtblpnekjnaaeoaaGreatDoor
namespace Go.Proofs.YtblpnekjnaaeoaaGreatDoor
open Go.Lib

/-- The quotient of two naturals with a sign. -/
def mkQ (g : Bool) (n d : Nat) : Rat := mkRat (if g then -(n : Int) else (n : Int)) d
/-- The sign of a number. -/
def ngQ (q : Rat) : Bool := decide (q.num < 0)
def nmQ (q : Rat) : Nat := q.num.natAbs
theorem den_pos (q : Rat) : 0 < q.den := Nat.pos_of_ne_zero q.den_nz
theorem sgn_num (q : Rat) : (if ngQ q then -(nmQ q : Int) else (nmQ q : Int)) = q.num := by
  unfold ngQ nmQ
  by_cases h : q.num < 0
  · rw [decide_eq_true h, if_pos rfl]; omega
  · rw [decide_eq_false h, if_neg (by decide)]; omega
theorem mkQ_self (q : Rat) : mkQ (ngQ q) (nmQ q) q.den = q := by
  unfold mkQ; rw [sgn_num, Rat.mkRat_self]
theorem nmQ_zero {q : Rat} : nmQ q = 0 ↔ q = 0 := by
  unfold nmQ
  rw [← Rat.num_eq_zero]; omega
theorem ngQ_zero : ngQ 0 = false := by decide
theorem den_zero : (0 : Rat).den = 1 := rfl
theorem red (q : Rat) : Nat.gcd (nmQ q) q.den = 1 := q.reduced
/-- What the parts of a number in lowest terms are. -/
def LowQ (g : Bool) (n d : Nat) : Prop := 0 < d ∧ Nat.gcd n d = 1 ∧ (n = 0 → g = false)
theorem LowQ.of (q : Rat) : LowQ (ngQ q) (nmQ q) q.den := ⟨den_pos q, red q, fun h => by rw [nmQ_zero.1 h]; rfl⟩
theorem mkQ_low {g : Bool} {n d : Nat} (h : LowQ g n d) : ngQ (mkQ g n d) = g ∧ nmQ (mkQ g n d) = n ∧ (mkQ g n d).den = d := by
  obtain ⟨h1, h2, h3⟩ := h
  have hd : d ≠ 0 := by omega
  have e : ∀ (z : Int) (hz : z.natAbs = n), mkRat z d = ⟨z, d, hd, by subst hz; exact h2⟩ := fun z hz => by
    rw [← Rat.normalize_eq_mkRat hd, Rat.normalize_eq]
    apply Rat.ext <;> simp [hz, h2]
  unfold mkQ
  cases g with
  | false =>
    simp only [Bool.false_eq_true, if_false]
    rw [e _ (by omega)]
    refine ⟨?_, ?_, rfl⟩
    · unfold ngQ; exact decide_eq_false (by show ¬ ((n : Int) < 0); omega)
    · unfold nmQ; simp
  | true =>
    simp only [if_true]
    have hn : n ≠ 0 := fun hn => by simpa using h3 hn
    rw [e _ (by omega)]
    refine ⟨?_, ?_, rfl⟩
    · unfold ngQ; exact decide_eq_true (by show (-(n : Int) < 0); omega)
    · unfold nmQ; simp
theorem low_eq {g : Bool} {n d : Nat} (h : LowQ g n d) : ∃ q : Rat, g = ngQ q ∧ n = nmQ q ∧ d = q.den := by
  obtain ⟨a, b, c⟩ := mkQ_low h
  exact ⟨_, a.symm, b.symm, c.symm⟩
theorem q_ext {p q : Rat} (h1 : ngQ p = ngQ q) (h2 : nmQ p = nmQ q) (h3 : p.den = q.den) : p = q := by
  rw [← mkQ_self p, ← mkQ_self q, h1, h2, h3]
/-- What 'lowest' returns. -/
theorem lowest_eq {g : Bool} {n d : Nat} (hd : 0 < d) (hn : 0 < n) : LowQ g (n / Nat.gcd n d) (d / Nat.gcd n d) ∧ mkQ g (n / Nat.gcd n d) (d / Nat.gcd n d) = mkQ g n d := by
  have hg : 0 < Nat.gcd n d := Nat.gcd_pos_of_pos_left _ hn
  obtain ⟨a, ha⟩ := Nat.gcd_dvd_left n d
  obtain ⟨b, hb⟩ := Nat.gcd_dvd_right n d
  have ea : n / Nat.gcd n d = a := by
    conv => lhs; arg 1; rw [ha]
    exact Nat.mul_div_cancel_left a hg
  have eb : d / Nat.gcd n d = b := by
    conv => lhs; arg 1; rw [hb]
    exact Nat.mul_div_cancel_left b hg
  have hb0 : 0 < b := by
    rcases Nat.eq_zero_or_pos b with h | h
    · rw [h, Nat.mul_zero] at hb; omega
    · exact h
  have ha0 : 0 < a := by
    rcases Nat.eq_zero_or_pos a with h | h
    · rw [h, Nat.mul_zero] at ha; omega
    · exact h
  refine ⟨⟨by omega, ?_, fun h => by omega⟩, ?_⟩
  · rw [ea, eb]
    have h := Nat.gcd_div (k := Nat.gcd n d) (m := n) (n := d) (Nat.gcd_dvd_left n d) (Nat.gcd_dvd_right n d)
    rw [ea, eb] at h
    rw [h]; exact Nat.div_self hg
  · rw [ea, eb]
    unfold mkQ
    rw [Rat.mkRat_eq_iff (by omega) (by omega)]
    generalize hG : Nat.gcd n d = G at *
    have ha' : (n : Int) = (G : Int) * (a : Int) := by rw [← Int.natCast_mul, ← ha]
    have hb' : (d : Int) = (G : Int) * (b : Int) := by rw [← Int.natCast_mul, ← hb]
    cases g with
    | false => simp only [Bool.false_eq_true, if_false]; rw [ha', hb']; grind
    | true => simp only [if_true]; rw [ha', hb']; grind
theorem mkQ_zero (g : Bool) (d : Nat) : mkQ g 0 d = 0 := by unfold mkQ; cases g <;> simp
theorem mkQ_div (g : Bool) (n d : Nat) (hd : 0 < d) : mkQ g n d = (if g then -(n : Rat) else (n : Rat)) / (d : Rat) := by
  unfold mkQ
  rw [Rat.mkRat_eq_div]
  cases g <;> simp [Rat.intCast_natCast]
theorem q_div (q : Rat) : q = (if ngQ q then -(nmQ q : Rat) else (nmQ q : Rat)) / (q.den : Rat) := by
  have := mkQ_div (ngQ q) (nmQ q) q.den (den_pos q)
  rw [mkQ_self] at this
  exact this
theorem den_ne (q : Rat) : (q.den : Rat) ≠ 0 := by
  have := den_pos q
  intro h
  have : q.den = 0 := by exact_mod_cast h
  omega
/-- The sum of numbers of one sign, and of two signs. -/
theorem add_same {p q : Rat} (h : ngQ p = ngQ q) : mkQ (ngQ p) (nmQ p * q.den + nmQ q * p.den) (p.den * q.den) = p + q := by
  have hp := den_ne p
  have hq := den_ne q
  rw [mkQ_div _ _ _ (Nat.mul_pos (den_pos p) (den_pos q))]
  conv => rhs; rw [q_div p, q_div q, ← h]
  cases ngQ p <;> simp <;> grind
theorem add_left {p q : Rat} (h : ngQ p ≠ ngQ q) (hle : nmQ q * p.den ≤ nmQ p * q.den) : mkQ (ngQ p) (nmQ p * q.den - nmQ q * p.den) (p.den * q.den) = p + q := by
  have hp := den_ne p
  have hq := den_ne q
  rw [mkQ_div _ _ _ (Nat.mul_pos (den_pos p) (den_pos q))]
  have e : ngQ q = !ngQ p := by revert h; cases ngQ p <;> cases ngQ q <;> simp
  have ec : ((nmQ p * q.den - nmQ q * p.den : Nat) : Rat) = (nmQ p : Rat) * (q.den : Rat) - (nmQ q : Rat) * (p.den : Rat) := by
    obtain ⟨k, hk⟩ := Nat.exists_eq_add_of_le hle
    rw [hk, Nat.add_sub_cancel_left]
    have : ((nmQ p * q.den : Nat) : Rat) = ((nmQ q * p.den + k : Nat) : Rat) := by rw [hk]
    simp only [Rat.natCast_mul, Rat.natCast_add] at this
    grind
  rw [ec]
  conv => rhs; rw [q_div p, q_div q, e]
  cases ngQ p <;> simp <;> grind
theorem add_right {p q : Rat} (h : ngQ p ≠ ngQ q) (hle : nmQ p * q.den ≤ nmQ q * p.den) : mkQ (ngQ q) (nmQ q * p.den - nmQ p * q.den) (p.den * q.den) = p + q := by
  rw [Rat.add_comm, Nat.mul_comm p.den]
  exact add_left (fun e => h e.symm) hle
theorem mul_mk (p q : Rat) : mkQ (ngQ p != ngQ q) (nmQ p * nmQ q) (p.den * q.den) = p * q := by
  have hp := den_ne p
  have hq := den_ne q
  rw [mkQ_div _ _ _ (Nat.mul_pos (den_pos p) (den_pos q))]
  conv => rhs; rw [q_div p, q_div q]
  cases ngQ p <;> cases ngQ q <;> simp <;> grind
theorem neg_parts (q : Rat) : ngQ (-q) = (!ngQ q && decide (nmQ q ≠ 0)) ∧ nmQ (-q) = nmQ q ∧ (-q).den = q.den := by
  refine ⟨?_, ?_, rfl⟩
  · unfold ngQ nmQ
    rw [Rat.neg_num]
    by_cases h : q.num < 0
    · rw [decide_eq_true h, decide_eq_false (by omega)]; rfl
    · by_cases h0 : q.num = 0
      · rw [h0]; rfl
      · rw [decide_eq_false h, decide_eq_true (show -q.num < 0 by omega), decide_eq_true (by omega)]; rfl
  · unfold nmQ; rw [Rat.neg_num]; omega
/-- The order. -/
def cmpQ (p q : Rat) : Int := if p < q then -1 else if q < p then 1 else 0
theorem cmpQ_eq (p : Rat) : cmpQ p p = 0 := by unfold cmpQ; rw [if_neg Rat.lt_irrefl, if_neg Rat.lt_irrefl]
theorem cmpQ_lt {p q : Rat} (h : p < q) : cmpQ p q = -1 := if_pos h
theorem cmpQ_gt {p q : Rat} (h : q < p) : cmpQ p q = 1 := by unfold cmpQ; rw [if_neg (by grind), if_pos h]
theorem cmpQ_zero {p q : Rat} : cmpQ p q = 0 ↔ p = q := by
  unfold cmpQ
  by_cases h : p < q
  · rw [if_pos h]; constructor
    · intro h; omega
    · intro e; subst e; exact absurd h Rat.lt_irrefl
  · by_cases h' : q < p
    · rw [if_neg h, if_pos h']; constructor
      · intro h; omega
      · intro e; subst e; exact absurd h' Rat.lt_irrefl
    · rw [if_neg h, if_neg h']; constructor
      · intro _; grind
      · intro _; rfl
theorem cmpQ_neg {p q : Rat} : cmpQ p q < 0 ↔ p < q := by
  unfold cmpQ
  by_cases h : p < q
  · rw [if_pos h]; simp [h]
  · rw [if_neg h]; constructor
    · intro h'; split at h' <;> omega
    · intro h'; exact absurd h' h
theorem cmpQ_le {p q : Rat} : cmpQ p q ≤ 0 ↔ p ≤ q := by
  unfold cmpQ
  by_cases h : p < q
  · rw [if_pos h]; constructor
    · intro _; grind
    · intro _; omega
  · rw [if_neg h]
    by_cases h' : q < p
    · rw [if_pos h']; constructor
      · intro h; omega
      · intro h; grind
    · rw [if_neg h']; constructor
      · intro _; grind
      · intro _; omega
theorem cmpQ_neg_neg (p q : Rat) : cmpQ (-q) (-p) = cmpQ p q := by
  unfold cmpQ
  have e1 : (-q < -p) ↔ (p < q) := by constructor <;> intro h <;> grind
  have e2 : (-p < -q) ↔ (q < p) := by constructor <;> intro h <;> grind
  simp only [e1, e2]
/-- The order of two fractions by their cross products. -/
def cmpX (a b c d : Nat) : Int := if a * d < c * b then -1 else if c * b < a * d then 1 else 0
theorem cmpX_q {p q : Rat} (hp : ngQ p = false) (hq : ngQ q = false) : cmpX (nmQ p) p.den (nmQ q) q.den = cmpQ p q := by
  have e1 : ∀ p : Rat, ngQ p = false → (nmQ p : Int) = p.num := fun p hp => by
    have := sgn_num p
    rw [hp, if_neg (by decide)] at this
    exact this
  have key : ∀ p q : Rat, ngQ p = false → ngQ q = false → (p < q ↔ nmQ p * q.den < nmQ q * p.den) := fun p q hp hq => by
    rw [Rat.lt_iff, ← e1 p hp, ← e1 q hq, ← Int.natCast_mul, ← Int.natCast_mul]; omega
  unfold cmpX cmpQ
  simp only [← key p q hp hq, ← key q p hq hp]
theorem cross_lt {a b c d : Nat} (hb : 0 < b) (hd : 0 < d) (h : a / b < c / d) : a * d < c * b := by
  have h1 : a < b * (a / b + 1) := by have := Nat.div_add_mod a b; have := Nat.mod_lt a hb; rw [Nat.mul_add]; omega
  have h2 : d * (c / d) ≤ c := Nat.mul_div_le c d
  have h3 : a * d < b * (a / b + 1) * d := Nat.mul_lt_mul_of_pos_right h1 hd
  have h4 : b * (a / b + 1) ≤ b * (c / d) := Nat.mul_le_mul_left _ h
  have h5 : b * (a / b + 1) * d ≤ b * (c / d) * d := Nat.mul_le_mul_right _ h4
  have h6 : b * (c / d) * d = d * (c / d) * b := by grind
  have h7 : d * (c / d) * b ≤ c * b := Nat.mul_le_mul_right _ h2
  omega
theorem cmpX_div_lt {a b c d : Nat} (hb : 0 < b) (hd : 0 < d) (h : a / b < c / d) : cmpX a b c d = -1 := if_pos (cross_lt hb hd h)
theorem cmpX_div_gt {a b c d : Nat} (hb : 0 < b) (hd : 0 < d) (h : c / d < a / b) : cmpX a b c d = 1 := by
  have := cross_lt hd hb h
  unfold cmpX
  rw [if_neg (by omega), if_pos this]
theorem cross_rest {a b c d : Nat} (h : a / b = c / d) : a * d + (c % d) * b = c * b + (a % b) * d := by
  have h1 := Nat.div_add_mod a b
  have h2 := Nat.div_add_mod c d
  generalize a / b = m at *
  generalize c / d = k at *
  generalize a % b = r at *
  generalize c % d = s at *
  subst h
  subst h1
  subst h2
  grind
theorem cmpX_rest {a b c d : Nat} (h : a / b = c / d) : cmpX a b c d = cmpX d (c % d) b (a % b) := by
  have := cross_rest h
  unfold cmpX
  rw [Nat.mul_comm d (a % b), Nat.mul_comm b (c % d)]
  have e1 : (a * d < c * b) ↔ (a % b * d < c % d * b) := by omega
  have e2 : (c * b < a * d) ↔ (c % d * b < a % b * d) := by omega
  simp only [e1, e2]
theorem cmpX_zero_left {a b c d : Nat} (h : a / b = c / d) (hb : 0 < b) (hr : a % b = 0) (hne : cmpX a b c d ≠ 0) : cmpX a b c d = -1 := by
  rw [cmpX_rest h, hr] at hne ⊢
  unfold cmpX at *
  rw [Nat.mul_zero] at *
  by_cases h0 : 0 < b * (c % d)
  · rw [if_pos h0]
  · rw [if_neg h0, if_neg (by omega)] at hne
    exact absurd rfl hne
theorem cmpX_zero_right {a b c d : Nat} (h : a / b = c / d) (hd : 0 < d) (hr : 0 < a % b) (hs : c % d = 0) : cmpX a b c d = 1 := by
  rw [cmpX_rest h, hs]
  unfold cmpX
  have := Nat.mul_pos hd hr
  rw [Nat.mul_zero, if_neg (by omega), if_pos this]
end Go.Proofs.YtblpnekjnaaeoaaGreatDoor
namespace Go.Proofs.YtblpnekjnaaeoaaGreatDoor
open Go.RowKit

end Go.Proofs.YtblpnekjnaaeoaaGreatDoor
