/- law 03: head, few. -/
import Derived.Test.YtbefdlncpobmlaaGreatDoorNatX
namespace Go.Proofs.YtbefdlncpobmlaaGreatDoor
open Go.RowKit

theorem lit_nat {b : ByteArray} {n : Nat} (h : vldN b = true) (hn : nval b.data.toList = n) : natS n = b := by
  rw [← hn]; exact vldN_natS h
theorem lit_cap {b : ByteArray} {n : Nat} (h : vldN b = true) (hn : nval b.data.toList = n) : n < capN := natS_vldN.1 (by rw [lit_nat h hn]; exact h)
/-- A call of two literals that returns a literal. -/
theorem lit_ok {F : FuncId} {a b r : ByteArray} {x y n : Nat} (hc : ∀ w, x < capN → y < capN → LawW w → Calls Tryz.prog F #[.string (natS x), .string (natS y)] w (OkPost w n))
    (ha : vldN a = true) (hx : nval a.data.toList = x) (hb : vldN b = true) (hy : nval b.data.toList = y) (hr : vldN r = true) (hn : nval r.data.toList = n) (w : World) (hw : LawW w) :
    Calls Tryz.prog F #[.string a, .string b] w fun e w' => e = .returned (.tuple #[.string r, .int .i64 0]) ∧ Below w.heap.size w w' := by
  have := hc w (lit_cap ha hx) (lit_cap hb hy) hw
  rw [lit_nat ha hx, lit_nat hb hy] at this
  refine this.mono fun e w' h => ?_
  obtain ⟨he, hb⟩ := h
  rw [lit_nat hr hn] at he
  exact ⟨he, hb⟩

theorem head_A1 (w : World) (hw : LawW w) : Calls Tryz.prog 7 #[.string ⟨#[57, 57, 57]⟩, .string ⟨#[49]⟩] w fun e w' => e = .returned (.tuple #[.string ⟨#[49, 48, 48, 48]⟩, .int .i64 0]) ∧ Below w.heap.size w w' :=
  lit_ok (n := 999 + 1) (fun w hx hy hw => (nat_add 999 1 w hx hy hw).mono fun _ _ h => h.ok (lit_cap (b := ⟨#[49, 48, 48, 48]⟩) (by decide +kernel) (by decide +kernel))) (by decide +kernel) (by decide +kernel) (by decide +kernel) (by decide +kernel) (by decide +kernel) (by decide +kernel) w hw

theorem head_S1 (w : World) (hw : LawW w) : Calls Tryz.prog 9 #[.string ⟨#[49, 48, 48, 48]⟩, .string ⟨#[49]⟩] w fun e w' => e = .returned (.tuple #[.string ⟨#[57, 57, 57]⟩, .int .i64 0]) ∧ Below w.heap.size w w' :=
  lit_ok (n := 1000 - 1) (fun w hx hy hw => nat_sub 1000 1 w hx hy (by decide) hw) (by decide +kernel) (by decide +kernel) (by decide +kernel) (by decide +kernel) (by decide +kernel) (by decide +kernel) w hw

theorem head_M1 (w : World) (hw : LawW w) : Calls Tryz.prog 11 #[.string ⟨#[49, 50, 51, 52, 53, 54, 55, 56, 57, 48, 49, 50, 51, 52, 53, 54, 55, 56, 57, 48]⟩, .string ⟨#[49, 48]⟩] w fun e w' => e = .returned (.tuple #[.string ⟨#[49, 50, 51, 52, 53, 54, 55, 56, 57, 48, 49, 50, 51, 52, 53, 54, 55, 56, 57, 48, 48]⟩, .int .i64 0]) ∧ Below w.heap.size w w' :=
  lit_ok (n := 12345678901234567890 * 10) (fun w hx hy hw => (nat_mul 12345678901234567890 10 w hx hy hw).mono fun _ _ h => h.ok (lit_cap (b := ⟨#[49, 50, 51, 52, 53, 54, 55, 56, 57, 48, 49, 50, 51, 52, 53, 54, 55, 56, 57, 48, 48]⟩) (by decide +kernel) (by decide +kernel))) (by decide +kernel) (by decide +kernel) (by decide +kernel) (by decide +kernel) (by decide +kernel) (by decide +kernel) w hw

theorem head_G1 (w : World) (hw : LawW w) : Calls Tryz.prog 15 #[.string ⟨#[49, 50]⟩, .string ⟨#[49, 56]⟩] w fun e w' => e = .returned (.tuple #[.string ⟨#[54]⟩, .int .i64 0]) ∧ Below w.heap.size w w' :=
  lit_ok (n := Nat.gcd 12 18) (fun w hx hy hw => nat_gcd 12 18 w hx hy hw) (by decide +kernel) (by decide +kernel) (by decide +kernel) (by decide +kernel) (by decide +kernel) (by decide +kernel) w hw

theorem head_G2 (w : World) (hw : LawW w) : Calls Tryz.prog 15 #[.string ⟨#[48]⟩, .string ⟨#[53]⟩] w fun e w' => e = .returned (.tuple #[.string ⟨#[53]⟩, .int .i64 0]) ∧ Below w.heap.size w w' :=
  lit_ok (n := Nat.gcd 0 5) (fun w hx hy hw => nat_gcd 0 5 w hx hy hw) (by decide +kernel) (by decide +kernel) (by decide +kernel) (by decide +kernel) (by decide +kernel) (by decide +kernel) w hw

theorem head_S2 (w : World) : Calls Tryz.prog 9 #[.string ⟨#[49]⟩, .string ⟨#[50]⟩] w (RangePost w) := by
  have := nat_sub_less 1 2 w (lit_cap (b := ⟨#[49]⟩) (by decide +kernel) (by decide +kernel)) (lit_cap (b := ⟨#[50]⟩) (by decide +kernel) (by decide +kernel)) (by decide)
  rw [lit_nat (b := ⟨#[49]⟩) (by decide +kernel) (by decide +kernel), lit_nat (b := ⟨#[50]⟩) (by decide +kernel) (by decide +kernel)] at this
  exact this

theorem head_D1 (w : World) (hw : LawW w) : Calls Tryz.prog 13 #[.string ⟨#[49, 48, 48, 48]⟩, .string ⟨#[55]⟩] w fun e w' => e = .returned (.tuple #[.string ⟨#[49, 52, 50]⟩, .string ⟨#[54]⟩, .int .i64 0]) ∧ Below w.heap.size w w' := by
  have := nat_div 1000 7 w (lit_cap (b := ⟨#[49, 48, 48, 48]⟩) (by decide +kernel) (by decide +kernel)) (lit_cap (b := ⟨#[55]⟩) (by decide +kernel) (by decide +kernel)) (by decide) hw
  rw [lit_nat (b := ⟨#[49, 48, 48, 48]⟩) (by decide +kernel) (by decide +kernel), lit_nat (b := ⟨#[55]⟩) (by decide +kernel) (by decide +kernel)] at this
  refine this.mono fun e w' h => ?_
  obtain ⟨he, hb⟩ := h
  rw [lit_nat (b := ⟨#[49, 52, 50]⟩) (by decide +kernel) (by decide +kernel), lit_nat (b := ⟨#[54]⟩) (by decide +kernel) (by decide +kernel)] at he
  exact ⟨he, hb⟩

theorem head_D2 (w : World) : Calls Tryz.prog 13 #[.string ⟨#[55]⟩, .string ⟨#[48]⟩] w (Err3Post w 14) := by
  have := nat_div_zero 7 w (lit_cap (b := ⟨#[55]⟩) (by decide +kernel) (by decide +kernel))
  rw [lit_nat (b := ⟨#[55]⟩) (by decide +kernel) (by decide +kernel)] at this
  exact this

theorem head_I1 (w : World) (hw : LawW w) : Calls Tryz.prog 19 #[.string ⟨#[49, 48, 48, 48, 48, 48, 48, 48, 48, 48, 48, 48, 49]⟩] w fun e w' => e = .returned (.tuple #[.int .i64 0, .int .i64 9]) ∧ Below w.heap.size w w' := by
  have := nat_int 1000000000001 w (lit_cap (b := ⟨#[49, 48, 48, 48, 48, 48, 48, 48, 48, 48, 48, 48, 49]⟩) (by decide +kernel) (by decide +kernel)) hw
  rw [lit_nat (b := ⟨#[49, 48, 48, 48, 48, 48, 48, 48, 48, 48, 48, 48, 49]⟩) (by decide +kernel) (by decide +kernel), if_neg (by decide), if_neg (by decide)] at this
  exact this
theorem head_I2 (w : World) : Calls Tryz.prog 19 #[.string ⟨#[48, 48, 55]⟩] w fun e w' => e = .returned (.tuple #[.int .i64 0, .int .i64 1]) ∧ Below w.heap.size w w' :=
  nat_int_bad _ w (by decide) (by decide +kernel)
theorem head_C1 (w : World) : Calls Tryz.prog 23 #[.string ⟨#[57]⟩, .string ⟨#[49, 48]⟩] w fun e w' => e = .returned (.int .i64 (-1)) ∧ Below w.heap.size w w' := by
  have := nat_compare 9 10 w (lit_cap (b := ⟨#[57]⟩) (by decide +kernel) (by decide +kernel)) (lit_cap (b := ⟨#[49, 48]⟩) (by decide +kernel) (by decide +kernel))
  rw [lit_nat (b := ⟨#[57]⟩) (by decide +kernel) (by decide +kernel), lit_nat (b := ⟨#[49, 48]⟩) (by decide +kernel) (by decide +kernel), cmpN_lt (by decide)] at this
  exact this
theorem head_C2 (w : World) : Calls Tryz.prog 23 #[.string ⟨#[48, 55]⟩, .string ⟨#[56]⟩] w fun e w' => e = .returned (.int .i64 0) ∧ Below w.heap.size w w' :=
  nat_compare_bad _ _ w (by decide) (by decide) (.inl (by decide +kernel))

set_option maxHeartbeats 4000000 in
set_option maxRecDepth 100000 in
theorem law03_head (w : World) (hw : LawW w) : Calls Tryz.prog 5 #[] w fun e w' => e = .returned (.bool true) ∧ Below w.heap.size w w' := by
  have HB0 : Hid (Below w.heap.size w w) := Below.refl _ _
  have HW := hide hw
  clear hw
  go_enter Tryz.func5, Tryz.ntmps5
  go_wp2_with fail
  refine (head_A1 _ (HW.out.below HB0.out)).mono ?_
  rintro e w1 ⟨rfl, hb⟩
  have HB1 := hide (bStep HB0.out hb)
  clear hb
  go_wp2_with fail
  refine (head_S1 _ (HW.out.below HB1.out)).mono ?_
  rintro e w2 ⟨rfl, hb⟩
  have HB2 := hide (bStep HB1.out hb)
  clear hb
  go_wp2_with fail
  refine (head_S2 _).mono ?_
  rintro e w3 ⟨rfl, hb⟩
  have HB3 := hide (bStep HB2.out hb)
  clear hb
  go_wp2_with fail
  refine (head_M1 _ (HW.out.below HB3.out)).mono ?_
  rintro e w4 ⟨rfl, hb⟩
  have HB4 := hide (bStep HB3.out hb)
  clear hb
  go_wp2_with fail
  refine (head_D1 _ (HW.out.below HB4.out)).mono ?_
  rintro e w5 ⟨rfl, hb⟩
  have HB5 := hide (bStep HB4.out hb)
  clear hb
  go_wp2_with fail
  refine (head_D2 _).mono ?_
  rintro e w6 ⟨rfl, hb⟩
  have HB6 := hide (bStep HB5.out hb)
  clear hb
  go_wp2_with fail
  refine (head_G1 _ (HW.out.below HB6.out)).mono ?_
  rintro e w7 ⟨rfl, hb⟩
  have HB7 := hide (bStep HB6.out hb)
  clear hb
  go_wp2_with fail
  refine (head_G2 _ (HW.out.below HB7.out)).mono ?_
  rintro e w8 ⟨rfl, hb⟩
  have HB8 := hide (bStep HB7.out hb)
  clear hb
  go_wp2_with fail
  refine (nat_of_neg (-1) _ (by decide)).mono ?_
  rintro e w9 ⟨rfl, rfl⟩
  go_wp2_with fail
  refine (head_I1 _ (HW.out.below HB8.out)).mono ?_
  rintro e w10 ⟨rfl, hb⟩
  have HB10 := hide (bStep HB8.out hb)
  clear hb
  go_wp2_with fail
  refine (head_I2 _).mono ?_
  rintro e w11 ⟨rfl, hb⟩
  have HB11 := hide (bStep HB10.out hb)
  clear hb
  go_wp2_with fail
  refine (head_C1 _).mono ?_
  rintro e w12 ⟨rfl, hb⟩
  have HB12 := hide (bStep HB11.out hb)
  clear hb
  go_wp2_with fail
  refine (head_C2 _).mono ?_
  rintro e w13 ⟨rfl, hb⟩
  have HB13 := hide (bStep HB12.out hb)
  clear hb
  go_wp2_with fail
  go_ret
  exact ⟨rfl, HB13.out⟩
end Go.Proofs.YtbefdlncpobmlaaGreatDoor
