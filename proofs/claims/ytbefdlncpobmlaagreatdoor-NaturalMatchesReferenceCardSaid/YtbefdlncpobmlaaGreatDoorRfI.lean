/- Chapter 03: both implementations return the same, by letters. -/
import Derived.Test.YtbefdlncpobmlaaGreatDoorRfH
import Derived.Test.YtbefdlncpobmlaaGreatDoorNatK
namespace Go.Proofs.YtbefdlncpobmlaaGreatDoor
open Go.RowKit

def Res2 (F : FuncId) (a b s : ByteArray) (z : Int) : Prop := ∀ W, LawW W → Calls Tryz.prog F #[.string a, .string b] W fun e w' => e = .returned (.tuple #[.string s, .int .i64 z]) ∧ Below W.heap.size W w'
def Res3 (F : FuncId) (a b s t : ByteArray) (z : Int) : Prop := ∀ W, LawW W → Calls Tryz.prog F #[.string a, .string b] W fun e w' => e = .returned (.tuple #[.string s, .string t, .int .i64 z]) ∧ Below W.heap.size W w'
def ResI (F : FuncId) (a b : ByteArray) (z : Int) : Prop := ∀ W, Calls Tryz.prog F #[.string a, .string b] W fun e w' => e = .returned (.int .i64 z) ∧ Below W.heap.size W w'
def ResB (F : FuncId) (a : ByteArray) (z : Bool) : Prop := ∀ W, Calls Tryz.prog F #[.string a] W fun e w' => e = .returned (.bool z) ∧ Below W.heap.size W w'
def ResOf (F : FuncId) (n : Int) (s : ByteArray) (z : Int) : Prop := ∀ W, LawW W → Calls Tryz.prog F #[.int .i64 n] W fun e w' => e = .returned (.tuple #[.string s, .int .i64 z]) ∧ Below W.heap.size W w'
def ResInt (F : FuncId) (a : ByteArray) (m z : Int) : Prop := ∀ W, LawW W → Calls Tryz.prog F #[.string a] W fun e w' => e = .returned (.tuple #[.int .i64 m, .int .i64 z]) ∧ Below W.heap.size W w'
theorem TextPost.both (n : Nat) : ∃ s z, ∀ w e w', TextPost w n e w' → e = .returned (.tuple #[.string s, .int .i64 z]) ∧ Below w.heap.size w w' := by
  by_cases h : n < capN
  · exact ⟨natS n, 0, fun w e w' ⟨hb, hr⟩ => by
      rcases hr with ⟨_, rfl⟩ | ⟨h', _⟩
      · exact ⟨rfl, hb⟩
      · exact absurd h h'⟩
  · exact ⟨⟨#[]⟩, 2, fun w e w' ⟨hb, hr⟩ => by
      rcases hr with ⟨h', _⟩ | ⟨_, rfl⟩
      · exact absurd h' h
      · exact ⟨rfl, hb⟩⟩
theorem nat_lt80 {x : Nat} (h : (natS x).size ≤ 80) : x < capK 999 := Nat.lt_of_lt_of_le ((capK_len (k := 80) (by decide)).1 (by rw [← natS_size]; exact h)) (capK_le (by decide))
theorem agree_Add (a b : ByteArray) (ha : a.size ≤ maxLen) (hb : b.size ≤ maxLen) : ∃ s z, Res2 7 a b s z ∧ Res2 8 a b s z := by
  rcases good_or_bad a b with ⟨x, y, hx, hy, rfl, rfl⟩ | h
  · obtain ⟨s, z, hT⟩ := TextPost.both (x + y)
    exact ⟨s, z, fun W hW => (nat_add x y W hx hy hW).mono (hT _), fun W hW => (ref_Add x y W hx hy).mono (hT _)⟩
  · exact ⟨⟨#[]⟩, 1, fun W _ => nat_add_bad a b W ha hb h, fun W _ => ref_Add_bad a b W ha hb h⟩
theorem agree_Mul (a b : ByteArray) (ha : a.size ≤ maxLen) (hb : b.size ≤ maxLen) : ∃ s z, Res2 11 a b s z ∧ Res2 12 a b s z := by
  rcases good_or_bad a b with ⟨x, y, hx, hy, rfl, rfl⟩ | h
  · obtain ⟨s, z, hT⟩ := TextPost.both (x * y)
    exact ⟨s, z, fun W hW => (nat_mul x y W hx hy hW).mono (hT _), fun W hW => (ref_Mul x y W hx hy).mono (hT _)⟩
  · exact ⟨⟨#[]⟩, 1, fun W _ => nat_mul_bad a b W ha hb h, fun W _ => ref_Mul_bad a b W ha hb h⟩
theorem agree_Sub (a b : ByteArray) (ha : a.size ≤ maxLen) (hb : b.size ≤ maxLen) : ∃ s z, Res2 9 a b s z ∧ Res2 10 a b s z := by
  rcases good_or_bad a b with ⟨x, y, hx, hy, rfl, rfl⟩ | h
  · by_cases hlt : x < y
    · exact ⟨⟨#[]⟩, 9, fun W _ => nat_sub_less x y W hx hy hlt, fun W _ => ref_Sub_less x y W hx hy hlt⟩
    · exact ⟨natS (x - y), 0, fun W hW => nat_sub x y W hx hy (by omega) hW, fun W _ => ref_Sub x y W hx hy (by omega)⟩
  · exact ⟨⟨#[]⟩, 1, fun W _ => nat_sub_bad a b W ha hb h, fun W _ => ref_Sub_bad a b W ha hb h⟩
theorem agree_Div (a b : ByteArray) (ha : a.size ≤ maxLen) (hb : b.size ≤ maxLen) (h80 : b.size ≤ 80) : ∃ s t z, Res3 13 a b s t z ∧ Res3 14 a b s t z := by
  rcases good_or_bad a b with ⟨x, y, hx, hy, rfl, rfl⟩ | h
  · by_cases h0 : 0 < y
    · exact ⟨natS (x / y), natS (x % y), 0, fun W hW => nat_div x y W hx hy h0 hW, fun W _ => ref_Div x y W hx (nat_lt80 h80) h0⟩
    · obtain rfl : y = 0 := by omega
      refine ⟨⟨#[]⟩, ⟨#[]⟩, 14, fun W _ => ?_, fun W _ => ?_⟩
      · rw [natS_zero]; exact nat_div_zero x W hx
      · rw [natS_zero]; exact ref_Div_zero x W hx
  · exact ⟨⟨#[]⟩, ⟨#[]⟩, 1, fun W _ => nat_div_bad a b W ha hb h, fun W _ => ref_Div_bad a b W ha hb h⟩
theorem agree_Gcd (a b : ByteArray) (ha : a.size ≤ maxLen) (hb : b.size ≤ maxLen) (a80 : a.size ≤ 80) (b80 : b.size ≤ 80) : ∃ s z, Res2 15 a b s z ∧ Res2 16 a b s z := by
  rcases good_or_bad a b with ⟨x, y, hx, hy, rfl, rfl⟩ | h
  · exact ⟨natS (Nat.gcd x y), 0, fun W hW => nat_gcd x y W hx hy hW, fun W _ => ref_Gcd x y W (nat_lt80 a80) (nat_lt80 b80)⟩
  · exact ⟨⟨#[]⟩, 1, fun W _ => nat_gcd_bad a b W ha hb h, fun W _ => ref_Gcd_bad a b W ha hb h⟩
theorem agree_Compare (a b : ByteArray) (ha : a.size ≤ maxLen) (hb : b.size ≤ maxLen) : ∃ z, ResI 23 a b z ∧ ResI 24 a b z := by
  rcases good_or_bad a b with ⟨x, y, hx, hy, rfl, rfl⟩ | h
  · exact ⟨cmpN x y, fun W => nat_compare x y W hx hy, fun W => ref_Compare x y W hx hy⟩
  · exact ⟨0, fun W => nat_compare_bad a b W ha hb h, fun W => ref_Compare_bad a b W ha hb h⟩
theorem few1_slice_at (w : World) (a : ByteArray) (T : TypeId) {s : Nat} (hs : w.heap.size = s) : SliceOf vSt 1 (w.alloc (.cells #[.string a] T)) (.slice (some ⟨s, 0, none⟩) 1 1) [a] := by
  subst hs; exact few1_slice w a T
theorem agree_Valid (a : ByteArray) (ha : a.size ≤ maxLen) : ∃ z, ResB 21 a z ∧ ResB 22 a z :=
  ⟨vldN a, fun W => valid_any a W ha, fun W => (ref_valid a W ha).mono fun _ _ ⟨h1, h2⟩ => ⟨h1, by subst h2; exact Below.refl _ _⟩⟩
theorem agree_Of (n : Int) (hn : n ≤ 9223372036854775807) : ∃ s z, ResOf 17 n s z ∧ ResOf 18 n s z := by
  by_cases h : n < 0
  · exact ⟨⟨#[]⟩, 9, fun W _ => (nat_of_neg n W h).mono fun _ _ ⟨h1, h2⟩ => ⟨h1, by subst h2; exact Below.refl _ _⟩, fun W _ => (ref_Of_neg n W h).mono fun _ _ ⟨h1, h2⟩ => ⟨h1, by subst h2; exact Below.refl _ _⟩⟩
  · refine ⟨natS n.toNat, 0, fun W hW => nat_of n W (by omega) hn hW, fun W _ => ?_⟩
    have := ref_Of n.toNat W (by omega)
    rw [show ((n.toNat : Nat) : Int) = n by omega] at this
    exact this
theorem agree_Int (a : ByteArray) (ha : a.size ≤ maxLen) : ∃ m z, ResInt 19 a m z ∧ ResInt 20 a m z := by
  rcases Bool.eq_false_or_eq_true (vldN a) with h | h
  · obtain ⟨x, hx, rfl⟩ := vldN_obtain h
    exact ⟨_, _, fun W hW => nat_int x W hx hW, fun W _ => ref_Int x W hx⟩
  · exact ⟨0, 1, fun W _ => nat_int_bad a W ha h, fun W _ => ref_Int_bad a W ha h⟩
end Go.Proofs.YtbefdlncpobmlaaGreatDoor
