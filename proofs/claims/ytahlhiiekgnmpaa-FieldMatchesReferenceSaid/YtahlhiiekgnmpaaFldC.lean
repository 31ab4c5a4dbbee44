/- Package field and its reference: Add, Mul, Inverse, power, Eval. -/
import Derived.Test.YtahlhiiekgnmpaaFldB
namespace Go.Proofs.Ytahlhiiekgnmpaa
open Go.RowKit

/-- An error's number: 0, or ErrArg. -/
def eC (b : Bool) : Int := if b then 0 else 1
def addV (a b : Int) : Int := if inF a && inF b then va (el a + el b) else 0
def mulV (a b : Int) : Int := if inF a && inF b then va (el a * el b) else 0
def twoE (a b : Int) : Int := eC (inF a && inF b)
def invV (a : Int) : Int := if inF a then va (el a)⁻¹ else 0
def invE (a : Int) : Int := if inF a then (if a = 0 then 14 else 0) else 1

theorem sum_va' (x y : FP) : (va x + va y) % 2147483647 = va (x + y) := by
  have := va_bd x
  have := va_bd y
  rw [← sum_va, Int.tmod_eq_emod_of_nonneg (by omega)]
theorem prod_va' (x y : FP) : (va x * va y) % 2147483647 = va (x * y) := by
  rw [← prod_va, Int.tmod_eq_emod_of_nonneg (va_mul_bd x y).1]
theorem horner_va' (x y z : FP) : (va x * va y + va z) % 2147483647 = va (x * y + z) := by
  have := va_mul_bd x y
  have := va_bd z
  rw [← horner_va, Int.tmod_eq_emod_of_nonneg (by omega)]
theorem allF_two (a b : Int) : allF [a, b] = (inF a && inF b) := by simp [allF]

theorem fld_add_ok (x y : FP) (w : World) : Calls Try.prog 40 #[.int .i64 (va x), .int .i64 (va y)] w fun e w' => e = .returned (.tuple #[.int .i64 (va (x + y)), .int .i64 0]) ∧ Below w.heap.size w w' := by
  have hx := va_bd x
  have hy := va_bd y
  have hm := sum_va x y
  have hm' := sum_va' x y
  have hl := slice_lit vI_len w [va x, va y] 3 (by simp [maxLen])
  have hw : IntKind.i64.wrap (va x + va y) = va x + va y := IntWalk.i64_in _ (by omega)
  have HL := hide hl
  clear hl
  go_enter Try.func40, Try.ntmps40
  go_wp2_with fail
  refine (fld_elements_at [va x, va y] true _ _ HL.out (by rw [allF_two, inF_va, inF_va]; rfl)).mono ?_
  rintro e w' ⟨rfl, rfl⟩
  go_wp2_with fail
  go_ret2
  exact ⟨by first | rfl | exact ret_v2 hm rfl, (Below.refl _ _).alloc (Nat.le_refl _) _⟩
theorem fld_add_bad (a b : Int) (w : World) (h : (inF a && inF b) = false) : Calls Try.prog 40 #[.int .i64 a, .int .i64 b] w fun e w' => e = .returned (.tuple #[.int .i64 0, .int .i64 1]) ∧ Below w.heap.size w w' := by
  have HL := hide (slice_lit vI_len w [a, b] 3 (by simp [maxLen]))
  rw [← allF_two] at h
  have H := hide h
  clear h
  go_enter Try.func40, Try.ntmps40
  go_wp2_with fail
  refine (fld_elements_at [a, b] false _ _ HL.out H.out).mono ?_
  rintro e w' ⟨rfl, rfl⟩
  go_wp2_with fail
  go_ret2
  exact ⟨rfl, (Below.refl _ _).alloc (Nat.le_refl _) _⟩
theorem fld_add (a b : Int) (w : World) : Calls Try.prog 40 #[.int .i64 a, .int .i64 b] w fun e w' => e = .returned (.tuple #[.int .i64 (addV a b), .int .i64 (twoE a b)]) ∧ Below w.heap.size w w' := by
  unfold addV twoE
  rcases Bool.eq_false_or_eq_true (inF a && inF b) with h | h
  · rw [h]
    have h' : inF a = true ∧ inF b = true := by simpa using h
    obtain ⟨x, rfl⟩ := inF_el h'.1
    obtain ⟨y, rfl⟩ := inF_el h'.2
    rw [el_va, el_va]
    exact fld_add_ok x y w
  · rw [h]
    exact fld_add_bad a b w h
theorem fld_mul_ok (x y : FP) (w : World) : Calls Try.prog 42 #[.int .i64 (va x), .int .i64 (va y)] w fun e w' => e = .returned (.tuple #[.int .i64 (va (x * y)), .int .i64 0]) ∧ Below w.heap.size w w' := by
  have hb := va_mul_bd x y
  have hm := prod_va x y
  have hm' := prod_va' x y
  have hl := slice_lit vI_len w [va x, va y] 3 (by simp [maxLen])
  have hw : IntKind.i64.wrap (va x * va y) = va x * va y := IntWalk.i64_in _ (by omega)
  have HL := hide hl
  clear hl
  go_enter Try.func42, Try.ntmps42
  go_wp2_with fail
  refine (fld_elements_at [va x, va y] true _ _ HL.out (by rw [allF_two, inF_va, inF_va]; rfl)).mono ?_
  rintro e w' ⟨rfl, rfl⟩
  go_wp2_with fail
  go_ret2
  exact ⟨by first | rfl | exact ret_v2 hm rfl, (Below.refl _ _).alloc (Nat.le_refl _) _⟩
theorem fld_mul_bad (a b : Int) (w : World) (h : (inF a && inF b) = false) : Calls Try.prog 42 #[.int .i64 a, .int .i64 b] w fun e w' => e = .returned (.tuple #[.int .i64 0, .int .i64 1]) ∧ Below w.heap.size w w' := by
  have HL := hide (slice_lit vI_len w [a, b] 3 (by simp [maxLen]))
  rw [← allF_two] at h
  have H := hide h
  clear h
  go_enter Try.func42, Try.ntmps42
  go_wp2_with fail
  refine (fld_elements_at [a, b] false _ _ HL.out H.out).mono ?_
  rintro e w' ⟨rfl, rfl⟩
  go_wp2_with fail
  go_ret2
  exact ⟨rfl, (Below.refl _ _).alloc (Nat.le_refl _) _⟩
theorem fld_mul (a b : Int) (w : World) : Calls Try.prog 42 #[.int .i64 a, .int .i64 b] w fun e w' => e = .returned (.tuple #[.int .i64 (mulV a b), .int .i64 (twoE a b)]) ∧ Below w.heap.size w w' := by
  unfold mulV twoE
  rcases Bool.eq_false_or_eq_true (inF a && inF b) with h | h
  · rw [h]
    have h' : inF a = true ∧ inF b = true := by simpa using h
    obtain ⟨x, rfl⟩ := inF_el h'.1
    obtain ⟨y, rfl⟩ := inF_el h'.2
    rw [el_va, el_va]
    exact fld_mul_ok x y w
  · rw [h]
    exact fld_mul_bad a b w h

theorem ref06_add_ok (x y : FP) (w : World) : Calls Try.prog 41 #[.int .i64 (va x), .int .i64 (va y)] w fun e w' => e = .returned (.tuple #[.int .i64 (va (x + y)), .int .i64 0]) ∧ w = w' := by
  have hx := va_bd x
  have hy := va_bd y
  have hm := sum_va x y
  have hm' := sum_va' x y
  have hw : IntKind.i64.wrap (va x + va y) = va x + va y := IntWalk.i64_in _ (by omega)
  go_enter Try.func41, Try.ntmps41
  go_wp2_with fail
  refine (ref06_in_at (va x) true _ (inF_va x)).mono ?_
  rintro e w' ⟨rfl, rfl⟩
  go_wp2_with fail
  refine (ref06_in_at (va y) true _ (inF_va y)).mono ?_
  rintro e w' ⟨rfl, rfl⟩
  go_wp2_with fail
  go_ret2
  first | done | exact ⟨rfl, rfl⟩ | exact ⟨ret_v2 hm rfl, rfl⟩
theorem ref06_add_bad (a b : Int) (w : World) (h : (inF a && inF b) = false) : Calls Try.prog 41 #[.int .i64 a, .int .i64 b] w fun e w' => e = .returned (.tuple #[.int .i64 0, .int .i64 1]) ∧ w = w' := by
  rcases Bool.eq_false_or_eq_true (inF a) with h1 | h1
  · have h2 : inF b = false := by simpa [h1] using h
    clear h
    have H1 := hide h1
    have H2 := hide h2
    clear h1 h2
    go_enter Try.func41, Try.ntmps41
    go_wp2_with fail
    refine (ref06_in_at a true _ H1.out).mono ?_
    rintro e w' ⟨rfl, rfl⟩
    go_wp2_with fail
    refine (ref06_in_at b false _ H2.out).mono ?_
    rintro e w' ⟨rfl, rfl⟩
    go_wp2_with fail
    go_ret2
    exact ⟨rfl, rfl⟩
  · have H1 := hide h1
    clear h1 h
    go_enter Try.func41, Try.ntmps41
    go_wp2_with fail
    refine (ref06_in_at a false _ H1.out).mono ?_
    rintro e w' ⟨rfl, rfl⟩
    go_wp2_with fail
    go_ret2
    exact ⟨rfl, rfl⟩
theorem ref06_add (a b : Int) (w : World) : Calls Try.prog 41 #[.int .i64 a, .int .i64 b] w fun e w' => e = .returned (.tuple #[.int .i64 (addV a b), .int .i64 (twoE a b)]) ∧ w = w' := by
  unfold addV twoE
  rcases Bool.eq_false_or_eq_true (inF a && inF b) with h | h
  · rw [h]
    have h' : inF a = true ∧ inF b = true := by simpa using h
    obtain ⟨x, rfl⟩ := inF_el h'.1
    obtain ⟨y, rfl⟩ := inF_el h'.2
    rw [el_va, el_va]
    exact ref06_add_ok x y w
  · rw [h]
    exact ref06_add_bad a b w h
theorem ref06_Mul_ok (x y : FP) (w : World) : Calls Try.prog 43 #[.int .i64 (va x), .int .i64 (va y)] w fun e w' => e = .returned (.tuple #[.int .i64 (va (x * y)), .int .i64 0]) ∧ w = w' := by
  go_enter Try.func43, Try.ntmps43
  go_wp2_with fail
  refine (ref06_in_at (va x) true _ (inF_va x)).mono ?_
  rintro e w' ⟨rfl, rfl⟩
  go_wp2_with fail
  refine (ref06_in_at (va y) true _ (inF_va y)).mono ?_
  rintro e w' ⟨rfl, rfl⟩
  go_wp2_with fail
  refine (ref06_mul x y _).mono ?_
  rintro e w' ⟨rfl, rfl⟩
  go_wp2_with fail
  go_ret2
  exact ⟨rfl, rfl⟩
theorem ref06_Mul_bad (a b : Int) (w : World) (h : (inF a && inF b) = false) : Calls Try.prog 43 #[.int .i64 a, .int .i64 b] w fun e w' => e = .returned (.tuple #[.int .i64 0, .int .i64 1]) ∧ w = w' := by
  rcases Bool.eq_false_or_eq_true (inF a) with h1 | h1
  · have h2 : inF b = false := by simpa [h1] using h
    clear h
    have H1 := hide h1
    have H2 := hide h2
    clear h1 h2
    go_enter Try.func43, Try.ntmps43
    go_wp2_with fail
    refine (ref06_in_at a true _ H1.out).mono ?_
    rintro e w' ⟨rfl, rfl⟩
    go_wp2_with fail
    refine (ref06_in_at b false _ H2.out).mono ?_
    rintro e w' ⟨rfl, rfl⟩
    go_wp2_with fail
    go_ret2
    exact ⟨rfl, rfl⟩
  · have H1 := hide h1
    clear h1 h
    go_enter Try.func43, Try.ntmps43
    go_wp2_with fail
    refine (ref06_in_at a false _ H1.out).mono ?_
    rintro e w' ⟨rfl, rfl⟩
    go_wp2_with fail
    go_ret2
    exact ⟨rfl, rfl⟩
theorem ref06_Mul (a b : Int) (w : World) : Calls Try.prog 43 #[.int .i64 a, .int .i64 b] w fun e w' => e = .returned (.tuple #[.int .i64 (mulV a b), .int .i64 (twoE a b)]) ∧ w = w' := by
  unfold mulV twoE
  rcases Bool.eq_false_or_eq_true (inF a && inF b) with h | h
  · rw [h]
    have h' : inF a = true ∧ inF b = true := by simpa using h
    obtain ⟨x, rfl⟩ := inF_el h'.1
    obtain ⟨y, rfl⟩ := inF_el h'.2
    rw [el_va, el_va]
    exact ref06_Mul_ok x y w
  · rw [h]
    exact ref06_Mul_bad a b w h

theorem invE_ok {a : Int} (h0 : 0 < a) (h1 : a < 2147483647) : invE a = 0 := by unfold invE; rw [if_pos (inF_yes.2 ⟨by omega, h1⟩), if_neg (by omega)]
theorem invV_ok {a : Int} (h0 : 0 < a) (h1 : a < 2147483647) : invV a = va (el a)⁻¹ := by unfold invV; rw [if_pos (inF_yes.2 ⟨by omega, h1⟩)]
theorem invV_zero : invV 0 = 0 := by
  have : (0 : FP)⁻¹ = 0 := finInv_zero
  unfold invV; rw [if_pos (inF_yes.2 (by omega)), el_zero, this, va_zero]
theorem invE_zero : invE 0 = 14 := by unfold invE; rw [if_pos (inF_yes.2 (by omega)), if_pos rfl]
theorem invV_bad {a : Int} (h : inF a = false) : invV a = 0 := by unfold invV; rw [h]; rfl
theorem invE_bad {a : Int} (h : inF a = false) : invE a = 1 := by unfold invE; rw [h]; rfl

theorem fld_Inverse (a : Int) (w : World) : Calls Try.prog 44 #[.int .i64 a] w fun e w' => e = .returned (.tuple #[.int .i64 (invV a), .int .i64 (invE a)]) ∧ w = w' := by
  rcases Bool.eq_false_or_eq_true (inF a) with h | h
  · obtain ⟨h0, h1⟩ := inF_yes.1 h
    by_cases hz : a = 0
    · subst hz
      have E1 := hide invV_zero
      have E2 := hide invE_zero
      have H := hide h
      clear h
      go_enter Try.func44, Try.ntmps44
      go_wp2_with fail
      refine (fld_element_at 0 true _ H.out).mono ?_
      rintro e w' ⟨rfl, rfl⟩
      go_wp2_with fail
      go_ret2
      exact ⟨ret_v2 E1.out.symm E2.out.symm, rfl⟩
    · have E1 := hide (invV_ok (a := a) (by omega) h1)
      have E2 := hide (invE_ok (a := a) (by omega) h1)
      have H := hide h
      clear h
      have hz' : (a == 0) = false := beq_eq_false_iff_ne.2 hz
      go_enter Try.func44, Try.ntmps44
      go_wp2_with fail
      refine (fld_element_at a true _ H.out).mono ?_
      rintro e w' ⟨rfl, rfl⟩
      go_wp2_with fail
      refine (fld_inverse a _ (by omega) h1).mono ?_
      rintro e w' ⟨rfl, rfl⟩
      go_wp2_with fail
      go_ret2
      exact ⟨ret_v2 E1.out.symm E2.out.symm, rfl⟩
  · have E1 := hide (invV_bad h)
    have E2 := hide (invE_bad h)
    have H := hide h
    clear h
    go_enter Try.func44, Try.ntmps44
    go_wp2_with fail
    refine (fld_element_at a false _ H.out).mono ?_
    rintro e w' ⟨rfl, rfl⟩
    go_wp2_with fail
    go_ret2
    exact ⟨ret_v2 E1.out.symm E2.out.symm, rfl⟩

theorem pow_step_odd (o b : FP) {m : Int} (h0 : 0 < m) (h : m % 2 = 1) : o * b ^ m.toNat = (o * b) * (b * b) ^ (m / 2).toNat := by
  rw [pow_even, show m.toNat = 2 * (m / 2).toNat + 1 by omega, Lean.Grind.Semiring.pow_succ]; grind
theorem pow_step_even (o b : FP) {m : Int} (h0 : 0 < m) (h : m % 2 = 0) : o * b ^ m.toNat = o * (b * b) ^ (m / 2).toNat := by
  rw [pow_even, show m.toNat = 2 * (m / 2).toNat by omega]

set_option maxHeartbeats 1000000 in
theorem ref06_power (x : FP) (n : Int) (w : World) (h0 : 0 ≤ n) (h1 : n ≤ 9223372036854775807) : Calls Try.prog 76 #[.int .i64 (va x), .int .i64 n] w fun e w' => e = .returned (.int .i64 (va (x ^ n.toNat))) ∧ w = w' := by
  have H1 := hide va_one
  have H0 : Hid ((1 : FP) * x ^ n.toNat = x ^ n.toNat) := by show (1 : FP) * _ = _; grind
  go_enter Try.func76, Try.ntmps76
  go_wp2_with fail
  go_loop [0, 1, 5] (fun a m o => ∃ (b : FP) (k : Int) (r : FP), a = .int .i64 (va b) ∧ m = .int .i64 k ∧ o = .int .i64 (va r) ∧ 0 ≤ k ∧ k ≤ 9223372036854775807 ∧ r * b ^ k.toNat = x ^ n.toNat) (fun _ m _ => (intOf m).toNat)
  case atStart => exact ⟨x, n, 1, rfl, rfl, by rw [H1.out], h0, h1, H0.out⟩
  case round =>
    obtain ⟨b, k, r, rfl, rfl, rfl, k0, k1, hinv⟩ := hrel
    have HI := hide hinv
    clear hinv
    by_cases hk : 0 < k
    · by_cases hodd : k % 2 = 1
      · have HS := hide ((pow_step_odd r b hk hodd).symm.trans HI.out)
        clear HI
        have hk2 : 0 ≤ k / 2 ∧ k / 2 < k := by omega
        have hb : (k % 2 == 1) = true := by rw [hodd]; rfl
        go_wp2_with fail
        refine (ref06_mul r b _).mono ?_
        rintro e w' ⟨rfl, rfl⟩
        go_wp2_with fail
        refine (ref06_mul b b _).mono ?_
        rintro e w' ⟨rfl, rfl⟩
        go_wp2_with fail
        go_round
        case rel => exact ⟨_, _, _, rfl, rfl, rfl, by omega, by omega, HS.out⟩
        case measure => simp [intOf]; omega
      · have HS := hide ((pow_step_even r b hk (by omega)).symm.trans HI.out)
        clear HI
        have hk2 : 0 ≤ k / 2 ∧ k / 2 < k := by omega
        have hb : (k % 2 == 1) = false := by simpa using hodd
        go_wp2_with fail
        refine (ref06_mul b b _).mono ?_
        rintro e w' ⟨rfl, rfl⟩
        go_wp2_with fail
        go_round
        case rel => exact ⟨_, _, _, rfl, rfl, rfl, by omega, by omega, HS.out⟩
        case measure => simp [intOf]; omega
    · obtain rfl : k = 0 := by omega
      have HE : Hid (va r = va (x ^ n.toNat)) := by
        show va r = _
        rw [← HI.out, show (0 : Int).toNat = 0 from rfl, Lean.Grind.Semiring.pow_zero]; congr 1; grind
      go_wp2_with fail
      go_ret
      exact ⟨ret_int HE.out, rfl⟩
theorem ref06_power_inv (x : FP) (w : World) (hx : x ≠ 0) : Calls Try.prog 76 #[.int .i64 (va x), .int .i64 2147483645] w fun e w' => e = .returned (.int .i64 (va x⁻¹)) ∧ w = w' := by
  rw [finInv_pow x hx]
  exact ref06_power x 2147483645 w (by omega) (by omega)

theorem ref06_Inverse (a : Int) (w : World) : Calls Try.prog 45 #[.int .i64 a] w fun e w' => e = .returned (.tuple #[.int .i64 (invV a), .int .i64 (invE a)]) ∧ w = w' := by
  rcases Bool.eq_false_or_eq_true (inF a) with h | h
  · obtain ⟨h0, h1⟩ := inF_yes.1 h
    by_cases hz : a = 0
    · subst hz
      have E1 := hide invV_zero
      have E2 := hide invE_zero
      have H := hide h
      clear h
      go_enter Try.func45, Try.ntmps45
      go_wp2_with fail
      refine (ref06_in_at 0 true _ H.out).mono ?_
      rintro e w' ⟨rfl, rfl⟩
      go_wp2_with fail
      go_ret2
      exact ⟨ret_v2 E1.out.symm E2.out.symm, rfl⟩
    · have E1 := hide (invV_ok (a := a) (by omega) h1)
      have E2 := hide (invE_ok (a := a) (by omega) h1)
      have hz' : (a == 0) = false := beq_eq_false_iff_ne.2 hz
      obtain ⟨x, rfl⟩ := inF_el h
      have hx : x ≠ 0 := fun e => hz (by rw [e, va_zero])
      have H := hide h
      clear h
      rw [el_va] at E1
      go_enter Try.func45, Try.ntmps45
      go_wp2_with fail
      refine (ref06_in_at (va x) true _ H.out).mono ?_
      rintro e w' ⟨rfl, rfl⟩
      go_wp2_with fail
      refine (ref06_power_inv x _ hx).mono ?_
      rintro e w' ⟨rfl, rfl⟩
      go_wp2_with fail
      go_ret2
      exact ⟨ret_v2 E1.out.symm E2.out.symm, rfl⟩
  · have E1 := hide (invV_bad h)
    have E2 := hide (invE_bad h)
    have H := hide h
    clear h
    go_enter Try.func45, Try.ntmps45
    go_wp2_with fail
    refine (ref06_in_at a false _ H.out).mono ?_
    rintro e w' ⟨rfl, rfl⟩
    go_wp2_with fail
    go_ret2
    exact ⟨ret_v2 E1.out.symm E2.out.symm, rfl⟩
end Go.Proofs.Ytahlhiiekgnmpaa
