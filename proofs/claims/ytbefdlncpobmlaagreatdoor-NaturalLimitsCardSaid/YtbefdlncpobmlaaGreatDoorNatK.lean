/- law 03: calls by letters. -/
import Derived.Test.YtbefdlncpobmlaaGreatDoorNatJ
namespace Go.Proofs.YtbefdlncpobmlaaGreatDoor
open Go.RowKit

/-- A call of two strings that returns a string and no error, in whatever world of the law. -/
def OkCall (F : FuncId) (a b r : ByteArray) : Prop := ∀ W, LawW W → Calls Tryz.prog F #[.string a, .string b] W fun e w' => e = .returned (.tuple #[.string r, .int .i64 0]) ∧ Below W.heap.size W w'
def OkValid (a : ByteArray) (v : Bool) : Prop := ∀ W, Calls Tryz.prog 21 #[.string a] W fun e w' => e = .returned (.bool v) ∧ Below W.heap.size W w'
def OkComp (a b : ByteArray) (z : Int) : Prop := ∀ W, Calls Tryz.prog 23 #[.string a, .string b] W fun e w' => e = .returned (.int .i64 z) ∧ Below W.heap.size W w'
def OkDiv (a b q r : ByteArray) : Prop := ∀ W, LawW W → Calls Tryz.prog 13 #[.string a, .string b] W fun e w' => e = .returned (.tuple #[.string q, .string r, .int .i64 0]) ∧ Below W.heap.size W w'
theorem OkPost.call {F : FuncId} {a b : ByteArray} {n : Nat} (h : ∀ W, LawW W → Calls Tryz.prog F #[.string a, .string b] W (OkPost W n)) : OkCall F a b (natS n) := h
theorem ok_add {x y n : Nat} (hx : x < capN) (hy : y < capN) (e : x + y = n) (hn : n < capN) : OkCall 7 (natS x) (natS y) (natS n) := fun W hW => by
  subst e; exact (nat_add x y W hx hy hW).mono fun _ _ h => h.ok hn
theorem ok_mul {x y n : Nat} (hx : x < capN) (hy : y < capN) (e : x * y = n) (hn : n < capN) : OkCall 11 (natS x) (natS y) (natS n) := fun W hW => by
  subst e; exact (nat_mul x y W hx hy hW).mono fun _ _ h => h.ok hn
theorem ok_sub {x y n : Nat} (hx : x < capN) (hy : y < capN) (e : x = n + y) : OkCall 9 (natS x) (natS y) (natS n) := fun W hW => by
  have := nat_sub x y W hx hy (by omega) hW
  rw [show x - y = n by omega] at this
  exact this
theorem ok_gcd {x y n : Nat} (hx : x < capN) (hy : y < capN) (e : Nat.gcd x y = n) : OkCall 15 (natS x) (natS y) (natS n) := fun W hW => by
  subst e; exact nat_gcd x y W hx hy hW
theorem ok_valid {x : Nat} (hx : x < capN) : OkValid (natS x) true := fun W => nat_valid x W hx
theorem ok_comp {x y : Nat} (hx : x < capN) (hy : y < capN) : OkComp (natS x) (natS y) (cmpN x y) := fun W => nat_compare x y W hx hy
theorem ok_div {x y q r : Nat} (hx : x < capN) (hy : y < capN) (h0 : 0 < y) (hq : x / y = q) (hr : x % y = r) : OkDiv (natS x) (natS y) (natS q) (natS r) := fun W hW => by
  subst hq hr; exact nat_div x y W hx hy h0 hW
theorem one_lit : (⟨#[49]⟩ : ByteArray) = natS 1 := (lit_nat (by decide +kernel) (by decide +kernel)).symm
theorem zero_lit : (⟨#[48]⟩ : ByteArray) = natS 0 := natS_zero.symm
end Go.Proofs.YtbefdlncpobmlaaGreatDoor
