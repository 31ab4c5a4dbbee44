/- law 03: head, few. -/
import Derived.Test.YtbojlmnajndleaaGreatDoorNatX
set_option linter.unusedVariables false
set_option linter.unusedSimpArgs false
namespace Go.Proofs.YtbojlmnajndleaaGreatDoor
open Go.RowKit

theorem lit_nat {b : ByteArray} {n : Nat} (h : vldN b = true) (hn : nval b.data.toList = n) : natS n = b := by
  rw [← hn]; exact vldN_natS h
theorem lit_cap {b : ByteArray} {n : Nat} (h : vldN b = true) (hn : nval b.data.toList = n) : n < capN := natS_vldN.1 (by rw [lit_nat h hn]; exact h)
/-- A call of two literals that returns a literal. -/
theorem lit_ok {F : FuncId} {a b r : ByteArray} {x y n : Nat} (hc : ∀ w, x < capN → y < capN → LawW w → Calls Tryz.prog F #[.string (natS x), .string (natS y)] w (OkPost w n))
    (ha : vldN a = true) (hx : nval a.data.toList = x) (hb : vldN b = true) (hy : nval b.data.toList = y) (hr : vldN r = true) (hn : nval r.data.toList = n) (w : World) (hw : LawW w) :
    Calls Tryz.prog F #[.string a, .string b] w fun e w' => e = .returned (.tuple #[.string r, .int .i64 0]) ∧ Below w.heap.size w w' := by
  have := hc w (lit_cap ha hx) (lit_cap hb hy) hw
  rw [lit_nat ha hx, lit_nat hb hy] at this
  refine this.mono fun e w' h => ?_
  obtain ⟨he, hb⟩ := h
  rw [lit_nat hr hn] at he
  exact ⟨he, hb⟩

theorem head_A1 (w : World) (hw : LawW w) : Calls Tryz.prog 64 #[.string ⟨#[57, 57, 57]⟩, .string ⟨#[49]⟩] w fun e w' => e = .returned (.tuple #[.string ⟨#[49, 48, 48, 48]⟩, .int .i64 0]) ∧ Below w.heap.size w w' :=
  lit_ok (n := 999 + 1) (fun w hx hy hw => (nat_add 999 1 w hx hy hw).mono fun _ _ h => h.ok (lit_cap (b := ⟨#[49, 48, 48, 48]⟩) (by decide +kernel) (by decide +kernel))) (by decide +kernel) (by decide +kernel) (by decide +kernel) (by decide +kernel) (by decide +kernel) (by decide +kernel) w hw

theorem head_S1 (w : World) (hw : LawW w) : Calls Tryz.prog 45 #[.string ⟨#[49, 48, 48, 48]⟩, .string ⟨#[49]⟩] w fun e w' => e = .returned (.tuple #[.string ⟨#[57, 57, 57]⟩, .int .i64 0]) ∧ Below w.heap.size w w' :=
  lit_ok (n := 1000 - 1) (fun w hx hy hw => nat_sub 1000 1 w hx hy (by decide) hw) (by decide +kernel) (by decide +kernel) (by decide +kernel) (by decide +kernel) (by decide +kernel) (by decide +kernel) w hw

theorem head_M1 (w : World) (hw : LawW w) : Calls Tryz.prog 63 #[.string ⟨#[49, 50, 51, 52, 53, 54, 55, 56, 57, 48, 49, 50, 51, 52, 53, 54, 55, 56, 57, 48]⟩, .string ⟨#[49, 48]⟩] w fun e w' => e = .returned (.tuple #[.string ⟨#[49, 50, 51, 52, 53, 54, 55, 56, 57, 48, 49, 50, 51, 52, 53, 54, 55, 56, 57, 48, 48]⟩, .int .i64 0]) ∧ Below w.heap.size w w' :=
  lit_ok (n := 12345678901234567890 * 10) (fun w hx hy hw => (nat_mul 12345678901234567890 10 w hx hy hw).mono fun _ _ h => h.ok (lit_cap (b := ⟨#[49, 50, 51, 52, 53, 54, 55, 56, 57, 48, 49, 50, 51, 52, 53, 54, 55, 56, 57, 48, 48]⟩) (by decide +kernel) (by decide +kernel))) (by decide +kernel) (by decide +kernel) (by decide +kernel) (by decide +kernel) (by decide +kernel) (by decide +kernel) w hw

theorem head_G1 (w : World) (hw : LawW w) : Calls Tryz.prog 58 #[.string ⟨#[49, 50]⟩, .string ⟨#[49, 56]⟩] w fun e w' => e = .returned (.tuple #[.string ⟨#[54]⟩, .int .i64 0]) ∧ Below w.heap.size w w' :=
  lit_ok (n := Nat.gcd 12 18) (fun w hx hy hw => nat_gcd 12 18 w hx hy hw) (by decide +kernel) (by decide +kernel) (by decide +kernel) (by decide +kernel) (by decide +kernel) (by decide +kernel) w hw

theorem head_G2 (w : World) (hw : LawW w) : Calls Tryz.prog 58 #[.string ⟨#[48]⟩, .string ⟨#[53]⟩] w fun e w' => e = .returned (.tuple #[.string ⟨#[53]⟩, .int .i64 0]) ∧ Below w.heap.size w w' :=
  lit_ok (n := Nat.gcd 0 5) (fun w hx hy hw => nat_gcd 0 5 w hx hy hw) (by decide +kernel) (by decide +kernel) (by decide +kernel) (by decide +kernel) (by decide +kernel) (by decide +kernel) w hw

theorem head_S2 (w : World) : Calls Tryz.prog 45 #[.string ⟨#[49]⟩, .string ⟨#[50]⟩] w (RangePost w) := by
  have := nat_sub_less 1 2 w (lit_cap (b := ⟨#[49]⟩) (by decide +kernel) (by decide +kernel)) (lit_cap (b := ⟨#[50]⟩) (by decide +kernel) (by decide +kernel)) (by decide)
  rw [lit_nat (b := ⟨#[49]⟩) (by decide +kernel) (by decide +kernel), lit_nat (b := ⟨#[50]⟩) (by decide +kernel) (by decide +kernel)] at this
  exact this

theorem head_D1 (w : World) (hw : LawW w) : Calls Tryz.prog 60 #[.string ⟨#[49, 48, 48, 48]⟩, .string ⟨#[55]⟩] w fun e w' => e = .returned (.tuple #[.string ⟨#[49, 52, 50]⟩, .string ⟨#[54]⟩, .int .i64 0]) ∧ Below w.heap.size w w' := by
  have := nat_div 1000 7 w (lit_cap (b := ⟨#[49, 48, 48, 48]⟩) (by decide +kernel) (by decide +kernel)) (lit_cap (b := ⟨#[55]⟩) (by decide +kernel) (by decide +kernel)) (by decide) hw
  rw [lit_nat (b := ⟨#[49, 48, 48, 48]⟩) (by decide +kernel) (by decide +kernel), lit_nat (b := ⟨#[55]⟩) (by decide +kernel) (by decide +kernel)] at this
  refine this.mono fun e w' h => ?_
  obtain ⟨he, hb⟩ := h
  rw [lit_nat (b := ⟨#[49, 52, 50]⟩) (by decide +kernel) (by decide +kernel), lit_nat (b := ⟨#[54]⟩) (by decide +kernel) (by decide +kernel)] at he
  exact ⟨he, hb⟩

theorem head_D2 (w : World) : Calls Tryz.prog 60 #[.string ⟨#[55]⟩, .string ⟨#[48]⟩] w (Err3Post w 14) := by
  have := nat_div_zero 7 w (lit_cap (b := ⟨#[55]⟩) (by decide +kernel) (by decide +kernel))
  rw [lit_nat (b := ⟨#[55]⟩) (by decide +kernel) (by decide +kernel)] at this
  exact this

theorem head_C1 (w : World) : Calls Tryz.prog 43 #[.string ⟨#[57]⟩, .string ⟨#[49, 48]⟩] w fun e w' => e = .returned (.int .i64 (-1)) ∧ Below w.heap.size w w' := by
  have := nat_compare 9 10 w (lit_cap (b := ⟨#[57]⟩) (by decide +kernel) (by decide +kernel)) (lit_cap (b := ⟨#[49, 48]⟩) (by decide +kernel) (by decide +kernel))
  rw [lit_nat (b := ⟨#[57]⟩) (by decide +kernel) (by decide +kernel), lit_nat (b := ⟨#[49, 48]⟩) (by decide +kernel) (by decide +kernel), cmpN_lt (by decide)] at this
  exact this
theorem head_C2 (w : World) : Calls Tryz.prog 43 #[.string ⟨#[48, 55]⟩, .string ⟨#[56]⟩] w fun e w' => e = .returned (.int .i64 0) ∧ Below w.heap.size w w' :=
  nat_compare_bad _ _ w (by decide) (by decide) (.inl (by decide +kernel))

end Go.Proofs.YtbojlmnajndleaaGreatDoor
