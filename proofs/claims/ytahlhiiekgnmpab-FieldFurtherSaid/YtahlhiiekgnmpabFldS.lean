/- The laws of layer 6: FieldInverts. -/
import Derived.Test.YtahlhiiekgnmpabFldR
namespace Go.Proofs.Ytahlhiiekgnmpab
open Go.RowKit

theorem va_ne {x : FP} (h : x ≠ 0) : va x ≠ 0 := fun e => h (va_inj (by rw [e, va_zero]))
theorem va_pos {x : FP} (h : x ≠ 0) : 0 < va x := by
  have := va_bd x
  have := va_ne h
  omega
theorem fld_inv_ok (x : FP) (w : World) (h : x ≠ 0) : Calls Try.prog 19 #[.int .i64 (va x)] w fun e w' => e = .returned (.tuple #[.int .i64 (va x⁻¹), .int .i64 0]) ∧ w = w' := by
  have e1 := invV_ok (va_pos h) (va_bd x).2
  have e2 := invE_ok (va_pos h) (va_bd x).2
  rw [el_va] at e1
  exact fld_inv_at (va x) (va x⁻¹) 0 w ⟨e1, e2⟩
theorem inv_ne {x : FP} (h : x ≠ 0) : x⁻¹ ≠ 0 := by
  have h1 := Lean.Grind.Field.mul_inv_cancel h
  intro e
  rw [e] at h1
  have := Lean.Grind.Field.zero_ne_one (α := FP)
  grind
theorem mul_ne {x y : FP} (hx : x ≠ 0) (hy : y ≠ 0) : x * y ≠ 0 := fun e => hy (mul_zero_or e hx)

set_option maxHeartbeats 4000000 in
set_option maxRecDepth 100000 in
theorem fieldInverts_yes (x y : FP) (w : World) (hx : x ≠ 0) (hy : y ≠ 0) :
    Calls Try.prog 4 #[.int .i64 (va x), .int .i64 (va y)] w fun e w' => e = .returned (.bool true) ∧ Below w.heap.size w w' := by
  have m1 := Lean.Grind.Field.mul_inv_cancel hx
  have m2 := Lean.Grind.Field.mul_inv_cancel hy
  have m3 := Lean.Grind.Field.mul_inv_cancel (inv_ne hx)
  have m4 := Lean.Grind.Field.mul_inv_cancel (mul_ne hx hy)
  have t1 : (va (x * x⁻¹) == 1) = true := by rw [m1, va_one]; rfl
  have t2 : (va x⁻¹⁻¹ == va x) = true := beq_va (by grind)
  have t3 : (va (x * y)⁻¹ == va (x⁻¹ * y⁻¹)) = true := beq_va (by grind)
  have t4 : 0 < va (x * y) := va_pos (mul_ne hx hy)
  have t5 : (va x == 0) = false := beq_eq_false_iff_ne.2 (va_ne hx)
  have t6 : (va y == 0) = false := beq_eq_false_iff_ne.2 (va_ne hy)
  have n1 := hide (inv_ne hx)
  have n2 := hide (mul_ne hx hy)
  have n3 := hide hx
  have n4 := hide hy
  clear m1 m2 m3 m4 hx hy
  go_enter Try.func4, Try.ntmps4
  go_wp2_with fail
  refine (law06_head _).mono ?_
  rintro e w1 ⟨rfl, hb⟩
  have B := hide hb
  clear hb
  go_wp2_with fail
  have hs : SliceOf vI 1 (w1.alloc (.cells #[.int .i64 (va x), .int .i64 (va y)] 3)) (.slice (some ⟨w1.heap.size, 0, none⟩) 2 2) ([x, y].map va) := slice_lit vI_len w1 ([x, y].map va) 3 (by simp [maxLen])
  refine (law06_in_at _ true _ _ hs (allF_va _)).mono ?_
  rintro e w' ⟨rfl, rfl⟩
  replace B := hide (bstep B.out (bAlloc (Below.refl _ w1) (.cells #[.int .i64 (va x), .int .i64 (va y)] 3)))
  obtain ⟨w2, hw2⟩ : ∃ w2, w1.alloc (.cells #[.int .i64 (va x), .int .i64 (va y)] 3) = w2 := ⟨_, rfl⟩
  rw [hw2] at B ⊢
  clear hs hw2
  go_wp2_with fail
  refine (fld_inv_ok x _ n3.out).mono ?_
  rintro e w' ⟨rfl, rfl⟩
  go_wp2_with fail
  refine (fld_inv_ok y _ n4.out).mono ?_
  rintro e w' ⟨rfl, rfl⟩
  go_wp2_with fail
  refine (fld_inv_ok x⁻¹ _ n1.out).mono ?_
  rintro e w' ⟨rfl, rfl⟩
  go_wp2_with fail
  refine (law06_mul x y _).mono ?_
  rintro e w3 ⟨rfl, hb⟩
  replace B := hide (bstep B.out hb)
  clear hb
  go_wp2_with fail
  refine (fld_inv_ok (x * y) _ n2.out).mono ?_
  rintro e w' ⟨rfl, rfl⟩
  go_wp2_with fail
  refine (law06_mul x x⁻¹ _).mono ?_
  rintro e w4 ⟨rfl, hb⟩
  replace B := hide (bstep B.out hb)
  clear hb
  go_wp2_with fail
  refine (law06_mul x⁻¹ y⁻¹ _).mono ?_
  rintro e w5 ⟨rfl, hb⟩
  replace B := hide (bstep B.out hb)
  clear hb
  go_wp2_with fail
  go_ret
  exact ⟨rfl, B.out⟩
theorem fieldInverts_no (a b : Int) (w : World) (p : Bool) (hp : allF [a, b] = p) (h : p = false ∨ (p = true ∧ a = 0) ∨ (p = true ∧ a ≠ 0 ∧ b = 0)) :
    Calls Try.prog 4 #[.int .i64 a, .int .i64 b] w fun e w' => e = .returned (.bool true) ∧ Below w.heap.size w w' := by
  have H := hide hp
  clear hp
  rcases h with rfl | ⟨rfl, rfl⟩ | ⟨rfl, h1, rfl⟩
  all_goals
    try have h1' : (a == 0) = false := beq_eq_false_iff_ne.2 ‹_›
    go_enter Try.func4, Try.ntmps4
    go_wp2_with fail
    refine (law06_head _).mono ?_
    rintro e w1 ⟨rfl, hb⟩
    have B := hide hb
    clear hb
    go_wp2_with fail
    refine (law06_in_at _ _ _ _ (slice_lit vI_len w1 [_, _] 3 (by simp [maxLen])) H.out).mono ?_
    rintro e w' ⟨rfl, rfl⟩
    go_wp2_with fail
    go_ret
    exact ⟨rfl, bAlloc B.out _⟩
theorem fieldInverts_walk (a b : Int) (w : World) :
    Calls Try.prog 4 #[.int .i64 a, .int .i64 b] w fun e w' => e = .returned (.bool true) ∧ Below w.heap.size w w' := by
  rcases Bool.eq_false_or_eq_true (allF [a, b]) with h | h
  · by_cases ha : a = 0
    · exact fieldInverts_no a b w true h (.inr (.inl ⟨rfl, ha⟩))
    · by_cases hb : b = 0
      · exact fieldInverts_no a b w true h (.inr (.inr ⟨rfl, ha, hb⟩))
      · have h' : inF a = true ∧ inF b = true := by simpa [allF] using h
        obtain ⟨x, rfl⟩ := inF_el h'.1
        obtain ⟨y, rfl⟩ := inF_el h'.2
        exact fieldInverts_yes x y w (fun e => ha (by rw [e, va_zero])) (fun e => hb (by rw [e, va_zero]))
  · exact fieldInverts_no a b w false h (.inl rfl)
end Go.Proofs.Ytahlhiiekgnmpab
