/- The field's functions in plain Lean: what each computes of integers, as elements. No program in sight. -/
import Derived.Test.YtahlhiiekgnmpabFldP
namespace Go.Proofs.Ytahlhiiekgnmpab

def inF (a : Int) : Bool := decide (0 ≤ a ∧ a < 2147483647)
theorem inF_yes {a : Int} : inF a = true ↔ 0 ≤ a ∧ a < 2147483647 := by unfold inF; simp
theorem inF_no {a : Int} : inF a = false ↔ ¬ (0 ≤ a ∧ a < 2147483647) := by unfold inF; simp only [decide_eq_false_iff_not]
theorem inF_va (x : FP) : inF (va x) = true := inF_yes.2 (va_bd x)
theorem inF_el {a : Int} (h : inF a = true) : ∃ x : FP, a = va x := ⟨el a, (va_el (inF_yes.1 h).1 (inF_yes.1 h).2).symm⟩
def allF (l : List Int) : Bool := l.all inF
theorem allF_el {l : List Int} (h : allF l = true) : ∃ xs : List FP, l = xs.map va := by
  induction l with
  | nil => exact ⟨[], rfl⟩
  | cons a l ih =>
    have h' : inF a = true ∧ allF l = true := by simpa [allF] using h
    obtain ⟨x, hx⟩ := inF_el h'.1
    obtain ⟨xs, hxs⟩ := ih h'.2
    exact ⟨x :: xs, by rw [hx, hxs]; rfl⟩
theorem allF_va (xs : List FP) : allF (xs.map va) = true := by
  induction xs with
  | nil => rfl
  | cons x xs ih => show (inF (va x) && allF (xs.map va)) = true; rw [inF_va, ih]; rfl

theorem tmod_va {n : Int} (h : 0 ≤ n) : n.tmod 2147483647 = va (el n) := by
  rw [Int.tmod_eq_emod_of_nonneg h, emod_va]
theorem sum_va (x y : FP) : (va x + va y).tmod 2147483647 = va (x + y) := by
  have := va_bd x
  have := va_bd y
  rw [tmod_va (by omega), el_add, el_va, el_va]
theorem prod_va (x y : FP) : (va x * va y).tmod 2147483647 = va (x * y) := by
  rw [tmod_va (Int.mul_nonneg (va_bd x).1 (va_bd y).1), el_mul, el_va, el_va]
theorem minus_va (x y : FP) : (va x - va y + 2147483647).tmod 2147483647 = va (x - y) := by
  have := va_bd x
  have := va_bd y
  rw [tmod_va (by omega), el_add, el_sub, el_va, el_va, el_P]
  congr 1
  grind
theorem horner_va (x y z : FP) : (va x * va y + va z).tmod 2147483647 = va (x * y + z) := by
  have h1 := Int.mul_nonneg (va_bd x).1 (va_bd y).1
  have h2 := va_bd z
  rw [tmod_va (by omega), el_add, el_mul, el_va, el_va, el_va]
theorem mul_bd {a b : Int} (h1 : 0 ≤ a ∧ a < 2147483647) (h2 : 0 ≤ b ∧ b < 2147483647) : 0 ≤ a * b ∧ a * b ≤ 4611686014132420609 := by
  refine ⟨Int.mul_nonneg h1.1 h2.1, ?_⟩
  have e1 := Int.mul_le_mul_of_nonneg_right (show a ≤ 2147483647 by omega) h2.1
  omega
theorem va_mul_bd (x y : FP) : 0 ≤ va x * va y ∧ va x * va y ≤ 4611686014132420609 := mul_bd (va_bd x) (va_bd y)

/-! ### Euclid's algorithm -/
def Euc (a r s u v : Int) : Prop :=
  0 ≤ u ∧ u < r ∧ r ≤ 2147483647 ∧ el r = el s * el a ∧ el u = el v * el a ∧ Int.gcd r u = 1 ∧
  ∃ S V : Int, 0 ≤ S ∧ 0 ≤ V ∧ S ≤ 2147483647 ∧ V ≤ 2147483647 ∧ S * u + V * r = 2147483647 ∧ ((s = -S ∧ v = V) ∨ (s = S ∧ v = -V))
theorem gcd_P {a : Int} (h0 : 0 < a) (h1 : a < 2147483647) : Int.gcd 2147483647 a = 1 := by
  obtain ⟨n, rfl⟩ := Int.eq_ofNat_of_zero_le (Int.le_of_lt h0)
  have e : Int.gcd 2147483647 (n : Int) = Nat.gcd 2147483647 n := Int.gcd_natCast_natCast 2147483647 n
  rw [e]
  clear e
  rcases primeP.dv _ (Nat.gcd_dvd_left 2147483647 n) with h | h
  · exact h
  · have h3 := Nat.gcd_dvd_right 2147483647 n
    rw [h] at h3
    have := Nat.le_of_dvd (by omega) h3
    omega
theorem Euc.start {a : Int} (h0 : 0 < a) (h1 : a < 2147483647) : Euc a 2147483647 0 a 1 := by
  refine ⟨by omega, by omega, by omega, ?_, ?_, gcd_P h0 h1, 0, 1, by omega, by omega, by omega, by omega, by omega, .inl ⟨rfl, rfl⟩⟩
  · rw [el_P, el_zero]; grind
  · rw [el_one]; grind
theorem Euc.step {a r s u v : Int} (h : Euc a r s u v) (hu : 0 < u) :
    Euc a u v (r - r.tdiv u * u) (s - r.tdiv u * v) ∧ 0 ≤ r.tdiv u * u ∧ r.tdiv u * u ≤ r ∧ -2147483647 ≤ r.tdiv u * v ∧ r.tdiv u * v ≤ 2147483647 ∧ -2147483647 ≤ s ∧ s ≤ 2147483647 ∧ 0 ≤ r.tdiv u ∧ r.tdiv u ≤ 2147483647 := by
  obtain ⟨h0, hr, hrP, er, eu, hg, S, V, hS, hV, hS1, hV1, hsum, hsg⟩ := h
  have e : r.tdiv u = r / u := Int.tdiv_eq_ediv_of_nonneg (by omega)
  have hm : r - r / u * u = r % u := by
    have := Int.mul_ediv_add_emod r u
    rw [Int.mul_comm] at this
    omega
  have hm0 := Int.emod_nonneg r (show u ≠ 0 by omega)
  have hm1 := Int.emod_lt_of_pos r hu
  have hq0 : 0 ≤ r / u := Int.ediv_nonneg (by omega) (by omega)
  have hq1 : r / u ≤ r := Int.ediv_le_self _ (by omega)
  rw [e]
  generalize r / u = q at *
  have hqV : 0 ≤ q * V := Int.mul_nonneg hq0 hV
  have hsum2 : V * (r - q * u) + (S + q * V) * u = 2147483647 := by grind
  have h1 : 0 ≤ V * (r - q * u) := Int.mul_nonneg hV (by omega)
  have h2 : (S + q * V) * 1 ≤ (S + q * V) * u := Int.mul_le_mul_of_nonneg_left (by omega) (by omega)
  have hW : S + q * V ≤ 2147483647 := by omega
  refine ⟨⟨by omega, by omega, by omega, eu, ?_, ?_, V, S + q * V, hV, by omega, hV1, hW, hsum2, ?_⟩, ?_, ?_, ?_, ?_, ?_, ?_, hq0, by omega⟩
  · rw [el_sub, el_sub, el_mul, el_mul, er, eu]; grind
  · rw [Int.gcd_comm]
    have h3 : Int.gcd (r - q * u) u = Int.gcd r u := by
      rw [show r - q * u = r + u * (-q) by grind]
      simp
    rw [h3]; exact hg
  · rcases hsg with ⟨rfl, rfl⟩ | ⟨rfl, rfl⟩
    · exact .inr ⟨rfl, by omega⟩
    · exact .inl ⟨rfl, by grind⟩
  · have := Int.mul_nonneg hq0 h0; exact this
  · omega
  · rcases hsg with ⟨rfl, rfl⟩ | ⟨rfl, rfl⟩
    · omega
    · have : q * -V = -(q * V) := by grind
      omega
  · rcases hsg with ⟨rfl, rfl⟩ | ⟨rfl, rfl⟩
    · omega
    · have : q * -V = -(q * V) := by grind
      omega
  · omega
  · omega
theorem Euc.done {a r s v : Int} (h : Euc a r s 0 v) : (s.tmod 2147483647 + 2147483647).tmod 2147483647 = va (el a)⁻¹ ∧ -2147483647 < s.tmod 2147483647 ∧ s.tmod 2147483647 < 2147483647 := by
  obtain ⟨h0, hr, hrP, er, eu, hg, S, V, hS, hV, hS1, hV1, hsum, hsg⟩ := h
  have hr1 : r = 1 := by
    have : Int.gcd r 0 = r.natAbs := by simp
    omega
  have hb : -2147483647 < s.tmod 2147483647 ∧ s.tmod 2147483647 < 2147483647 := by
    have h1 := Int.tmod_lt_of_pos s (show (0 : Int) < 2147483647 by omega)
    have h2 := Int.lt_tmod_of_pos s (show (0 : Int) < 2147483647 by omega)
    omega
  refine ⟨?_, hb.1, hb.2⟩
  rw [tmod_va (by omega), el_add, el_tmod, el_P]
  congr 1
  rw [hr1, el_one] at er
  have hne : el a ≠ 0 := by
    intro e
    rw [e] at er
    have := Lean.Grind.Field.zero_ne_one (α := FP)
    grind
  have := Lean.Grind.Field.mul_inv_cancel hne
  grind

/-! ### Polynomials -/
theorem evalP_snoc (x c : FP) : ∀ cs : List FP, evalP (cs ++ [c]) x = evalP cs x + c * x ^ cs.length
  | [] => by show c + x * 0 = 0 + c * x ^ 0; rw [Lean.Grind.Semiring.pow_zero]; grind
  | d :: cs => by
    show d + x * evalP (cs ++ [c]) x = d + x * evalP cs x + c * x ^ (cs.length + 1)
    rw [evalP_snoc x c cs, Lean.Grind.Semiring.pow_succ]; grind
theorem evalP_drop {x : FP} {cs : List FP} {k : Nat} (h : k < cs.length) : evalP (cs.drop k) x = cs[k] + x * evalP (cs.drop (k + 1)) x := by
  rw [List.drop_eq_getElem_cons h]; rfl
theorem pow_even (a : FP) (n : Nat) : (a * a) ^ n = a ^ (2 * n) := by
  induction n with
  | zero => rfl
  | succ n ih => rw [show 2 * (n + 1) = 2 * n + 1 + 1 by omega, Lean.Grind.Semiring.pow_succ, Lean.Grind.Semiring.pow_succ, Lean.Grind.Semiring.pow_succ, ih]; grind
end Go.Proofs.Ytahlhiiekgnmpab
