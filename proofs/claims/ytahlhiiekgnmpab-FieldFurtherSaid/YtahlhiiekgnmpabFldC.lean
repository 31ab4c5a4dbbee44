/- Package field and its reference: Add, Mul, Inverse, power, Eval. -/
import Derived.Test.YtahlhiiekgnmpabFldB
namespace Go.Proofs.Ytahlhiiekgnmpab
open Go.RowKit

/-- An error's number: 0, or ErrArg. -/
def eC (b : Bool) : Int := if b then 0 else 1
def addV (a b : Int) : Int := if inF a && inF b then va (el a + el b) else 0
def mulV (a b : Int) : Int := if inF a && inF b then va (el a * el b) else 0
def twoE (a b : Int) : Int := eC (inF a && inF b)
def invV (a : Int) : Int := if inF a then va (el a)⁻¹ else 0
def invE (a : Int) : Int := if inF a then (if a = 0 then 14 else 0) else 1

theorem sum_va' (x y : FP) : (va x + va y) % 2147483647 = va (x + y) := by
  have := va_bd x
  have := va_bd y
  rw [← sum_va, Int.tmod_eq_emod_of_nonneg (by omega)]
theorem prod_va' (x y : FP) : (va x * va y) % 2147483647 = va (x * y) := by
  rw [← prod_va, Int.tmod_eq_emod_of_nonneg (va_mul_bd x y).1]
theorem horner_va' (x y z : FP) : (va x * va y + va z) % 2147483647 = va (x * y + z) := by
  have := va_mul_bd x y
  have := va_bd z
  rw [← horner_va, Int.tmod_eq_emod_of_nonneg (by omega)]
theorem allF_two (a b : Int) : allF [a, b] = (inF a && inF b) := by simp [allF]

theorem fld_add_ok (x y : FP) (w : World) : Calls Try.prog 37 #[.int .i64 (va x), .int .i64 (va y)] w fun e w' => e = .returned (.tuple #[.int .i64 (va (x + y)), .int .i64 0]) ∧ Below w.heap.size w w' := by
  have hx := va_bd x
  have hy := va_bd y
  have hm := sum_va x y
  have hm' := sum_va' x y
  have hl := slice_lit vI_len w [va x, va y] 3 (by simp [maxLen])
  have hw : IntKind.i64.wrap (va x + va y) = va x + va y := IntWalk.i64_in _ (by omega)
  have HL := hide hl
  clear hl
  go_enter Try.func37, Try.ntmps37
  go_wp2_with fail
  refine (fld_elements_at [va x, va y] true _ _ HL.out (by rw [allF_two, inF_va, inF_va]; rfl)).mono ?_
  rintro e w' ⟨rfl, rfl⟩
  go_wp2_with fail
  go_ret2
  exact ⟨by first | rfl | exact ret_v2 hm rfl, (Below.refl _ _).alloc (Nat.le_refl _) _⟩
theorem fld_add_bad (a b : Int) (w : World) (h : (inF a && inF b) = false) : Calls Try.prog 37 #[.int .i64 a, .int .i64 b] w fun e w' => e = .returned (.tuple #[.int .i64 0, .int .i64 1]) ∧ Below w.heap.size w w' := by
  have HL := hide (slice_lit vI_len w [a, b] 3 (by simp [maxLen]))
  rw [← allF_two] at h
  have H := hide h
  clear h
  go_enter Try.func37, Try.ntmps37
  go_wp2_with fail
  refine (fld_elements_at [a, b] false _ _ HL.out H.out).mono ?_
  rintro e w' ⟨rfl, rfl⟩
  go_wp2_with fail
  go_ret2
  exact ⟨rfl, (Below.refl _ _).alloc (Nat.le_refl _) _⟩
theorem fld_add (a b : Int) (w : World) : Calls Try.prog 37 #[.int .i64 a, .int .i64 b] w fun e w' => e = .returned (.tuple #[.int .i64 (addV a b), .int .i64 (twoE a b)]) ∧ Below w.heap.size w w' := by
  unfold addV twoE
  rcases Bool.eq_false_or_eq_true (inF a && inF b) with h | h
  · rw [h]
    have h' : inF a = true ∧ inF b = true := by simpa using h
    obtain ⟨x, rfl⟩ := inF_el h'.1
    obtain ⟨y, rfl⟩ := inF_el h'.2
    rw [el_va, el_va]
    exact fld_add_ok x y w
  · rw [h]
    exact fld_add_bad a b w h
theorem fld_mul_ok (x y : FP) (w : World) : Calls Try.prog 38 #[.int .i64 (va x), .int .i64 (va y)] w fun e w' => e = .returned (.tuple #[.int .i64 (va (x * y)), .int .i64 0]) ∧ Below w.heap.size w w' := by
  have hb := va_mul_bd x y
  have hm := prod_va x y
  have hm' := prod_va' x y
  have hl := slice_lit vI_len w [va x, va y] 3 (by simp [maxLen])
  have hw : IntKind.i64.wrap (va x * va y) = va x * va y := IntWalk.i64_in _ (by omega)
  have HL := hide hl
  clear hl
  go_enter Try.func38, Try.ntmps38
  go_wp2_with fail
  refine (fld_elements_at [va x, va y] true _ _ HL.out (by rw [allF_two, inF_va, inF_va]; rfl)).mono ?_
  rintro e w' ⟨rfl, rfl⟩
  go_wp2_with fail
  go_ret2
  exact ⟨by first | rfl | exact ret_v2 hm rfl, (Below.refl _ _).alloc (Nat.le_refl _) _⟩
theorem fld_mul_bad (a b : Int) (w : World) (h : (inF a && inF b) = false) : Calls Try.prog 38 #[.int .i64 a, .int .i64 b] w fun e w' => e = .returned (.tuple #[.int .i64 0, .int .i64 1]) ∧ Below w.heap.size w w' := by
  have HL := hide (slice_lit vI_len w [a, b] 3 (by simp [maxLen]))
  rw [← allF_two] at h
  have H := hide h
  clear h
  go_enter Try.func38, Try.ntmps38
  go_wp2_with fail
  refine (fld_elements_at [a, b] false _ _ HL.out H.out).mono ?_
  rintro e w' ⟨rfl, rfl⟩
  go_wp2_with fail
  go_ret2
  exact ⟨rfl, (Below.refl _ _).alloc (Nat.le_refl _) _⟩
theorem fld_mul (a b : Int) (w : World) : Calls Try.prog 38 #[.int .i64 a, .int .i64 b] w fun e w' => e = .returned (.tuple #[.int .i64 (mulV a b), .int .i64 (twoE a b)]) ∧ Below w.heap.size w w' := by
  unfold mulV twoE
  rcases Bool.eq_false_or_eq_true (inF a && inF b) with h | h
  · rw [h]
    have h' : inF a = true ∧ inF b = true := by simpa using h
    obtain ⟨x, rfl⟩ := inF_el h'.1
    obtain ⟨y, rfl⟩ := inF_el h'.2
    rw [el_va, el_va]
    exact fld_mul_ok x y w
  · rw [h]
    exact fld_mul_bad a b w h

theorem invE_ok {a : Int} (h0 : 0 < a) (h1 : a < 2147483647) : invE a = 0 := by unfold invE; rw [if_pos (inF_yes.2 ⟨by omega, h1⟩), if_neg (by omega)]
theorem invV_ok {a : Int} (h0 : 0 < a) (h1 : a < 2147483647) : invV a = va (el a)⁻¹ := by unfold invV; rw [if_pos (inF_yes.2 ⟨by omega, h1⟩)]
theorem invV_zero : invV 0 = 0 := by
  have : (0 : FP)⁻¹ = 0 := finInv_zero
  unfold invV; rw [if_pos (inF_yes.2 (by omega)), el_zero, this, va_zero]
theorem invE_zero : invE 0 = 14 := by unfold invE; rw [if_pos (inF_yes.2 (by omega)), if_pos rfl]
theorem invV_bad {a : Int} (h : inF a = false) : invV a = 0 := by unfold invV; rw [h]; rfl
theorem invE_bad {a : Int} (h : inF a = false) : invE a = 1 := by unfold invE; rw [h]; rfl

theorem fld_Inverse (a : Int) (w : World) : Calls Try.prog 19 #[.int .i64 a] w fun e w' => e = .returned (.tuple #[.int .i64 (invV a), .int .i64 (invE a)]) ∧ w = w' := by
  rcases Bool.eq_false_or_eq_true (inF a) with h | h
  · obtain ⟨h0, h1⟩ := inF_yes.1 h
    by_cases hz : a = 0
    · subst hz
      have E1 := hide invV_zero
      have E2 := hide invE_zero
      have H := hide h
      clear h
      go_enter Try.func19, Try.ntmps19
      go_wp2_with fail
      refine (fld_element_at 0 true _ H.out).mono ?_
      rintro e w' ⟨rfl, rfl⟩
      go_wp2_with fail
      go_ret2
      exact ⟨ret_v2 E1.out.symm E2.out.symm, rfl⟩
    · have E1 := hide (invV_ok (a := a) (by omega) h1)
      have E2 := hide (invE_ok (a := a) (by omega) h1)
      have H := hide h
      clear h
      have hz' : (a == 0) = false := beq_eq_false_iff_ne.2 hz
      go_enter Try.func19, Try.ntmps19
      go_wp2_with fail
      refine (fld_element_at a true _ H.out).mono ?_
      rintro e w' ⟨rfl, rfl⟩
      go_wp2_with fail
      refine (fld_inverse a _ (by omega) h1).mono ?_
      rintro e w' ⟨rfl, rfl⟩
      go_wp2_with fail
      go_ret2
      exact ⟨ret_v2 E1.out.symm E2.out.symm, rfl⟩
  · have E1 := hide (invV_bad h)
    have E2 := hide (invE_bad h)
    have H := hide h
    clear h
    go_enter Try.func19, Try.ntmps19
    go_wp2_with fail
    refine (fld_element_at a false _ H.out).mono ?_
    rintro e w' ⟨rfl, rfl⟩
    go_wp2_with fail
    go_ret2
    exact ⟨ret_v2 E1.out.symm E2.out.symm, rfl⟩

theorem pow_step_odd (o b : FP) {m : Int} (h0 : 0 < m) (h : m % 2 = 1) : o * b ^ m.toNat = (o * b) * (b * b) ^ (m / 2).toNat := by
  rw [pow_even, show m.toNat = 2 * (m / 2).toNat + 1 by omega, Lean.Grind.Semiring.pow_succ]; grind
theorem pow_step_even (o b : FP) {m : Int} (h0 : 0 < m) (h : m % 2 = 0) : o * b ^ m.toNat = o * (b * b) ^ (m / 2).toNat := by
  rw [pow_even, show m.toNat = 2 * (m / 2).toNat by omega]

end Go.Proofs.Ytahlhiiekgnmpab
