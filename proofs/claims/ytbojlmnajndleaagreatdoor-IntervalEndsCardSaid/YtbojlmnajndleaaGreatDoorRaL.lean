/- RationalInts. -/
import Derived.Test.YtbojlmnajndleaaGreatDoorRaJ
import Derived.Test.YtbojlmnajndleaaGreatDoorRaK
import Derived.BigGuard
set_option linter.unusedVariables false
set_option linter.unusedSimpArgs false
namespace Go.Proofs.YtbojlmnajndleaaGreatDoor
open Go.RowKit Go.Sort

theorem mkQ_le (g : Bool) (n d : Nat) (hd : 0 < d) : nmQ (mkQ g n d) ≤ n ∧ (mkQ g n d).den ≤ d := by
  by_cases hn : n = 0
  · subst hn
    rw [mkQ_zero]
    exact ⟨Nat.le_of_eq (nmQ_zero.2 rfl), by show 1 ≤ d; omega⟩
  · obtain ⟨hl, he⟩ := lowest_eq (g := g) hd (by omega : 0 < n)
    obtain ⟨_, b, c⟩ := mkQ_low hl
    rw [he] at b c
    rw [b, c]
    exact ⟨Nat.div_le_self _ _, Nat.div_le_self _ _⟩
theorem ofQ_le (n d : Int) (hd : d ≠ 0) : nmQ (ofQ n d) ≤ n.natAbs ∧ (ofQ n d).den ≤ d.natAbs := by
  rw [← mkQ_ofQ n d hd]
  exact mkQ_le _ _ _ (by omega)
theorem small_cap {n : Nat} (h : n ≤ 9223372036854775808) : n < capN := to_capN (k := 19) (Nat.lt_of_le_of_lt h (by decide +kernel)) (by decide)
theorem ofQ_fit {n d : Int} (hd : d ≠ 0) (hn : n.natAbs ≤ 4294967296) (hD : d.natAbs ≤ 4294967296) : FitQ (ofQ n d) := by
  obtain ⟨a, b⟩ := ofQ_le n d hd
  exact ⟨small_cap (by omega), small_cap (by omega)⟩
theorem ofQ_mulFit {n d : Int} (hd : d ≠ 0) (hn : n.natAbs ≤ 2147483648) (hD : d.natAbs ≤ 2147483648) : mulFit (ofQ n d) (ofQ d 1) := by
  obtain ⟨a, b⟩ := ofQ_le n d hd
  obtain ⟨a', b'⟩ := ofQ_le d 1 (by omega)
  have h1 : nmQ (ofQ n d) * nmQ (ofQ d 1) ≤ 2147483648 * 2147483648 := Nat.mul_le_mul (by omega) (by omega)
  have h2 : (ofQ n d).den * (ofQ d 1).den ≤ 2147483648 * 1 := Nat.mul_le_mul (by omega) b'
  exact ⟨small_cap (by omega), small_cap (by omega)⟩
theorem ofQ_back {n d : Int} (hd : d ≠ 0) : ofQ n d * ofQ d 1 = ofQ n 1 := by
  unfold ofQ
  have : (d : Rat) ≠ 0 := by exact_mod_cast hd
  have e : ((1 : Int) : Rat) = 1 := by norm_cast
  rw [e]
  grind
theorem ofQ_scale {n d k : Int} (hd : d ≠ 0) (hk : k ≠ 0) : ofQ (n * k) (d * k) = ofQ n d := by
  unfold ofQ
  have h1 : (d : Rat) ≠ 0 := by exact_mod_cast hd
  have h2 : (k : Rat) ≠ 0 := by exact_mod_cast hk
  rw [Rat.intCast_mul, Rat.intCast_mul]
  grind
theorem mul_bd {n k : Int} (hn : n.natAbs ≤ 2147483648) (hk : k.natAbs ≤ 1073741824) : inI64 (n * k) := by
  have h := Nat.mul_le_mul hn hk
  rw [← Int.natAbs_mul] at h
  unfold inI64
  omega
/-- A call of Of that is good, by letters. -/
theorem of_ok {n d : Int} {q : Rat} {g : Bool} {s t : ByteArray} (hn : inI64 n) (hd : inI64 d) (h0 : d ≠ 0) (e : ofQ n d = q) (hq : rqV q = .agg #[.bool g, .string s, .string t]) (W : World) (hW : LawW W) :
    Calls Tryz.prog 46 #[.int .i64 n, .int .i64 d] W fun e w' => e = .returned (.tuple #[.agg #[.bool g, .string s, .string t], .int .i64 0]) ∧ Below W.heap.size W w' := by
  have h := rat_Of n d W hn hd hW
  unfold OfPost at h
  simp only [if_neg h0] at h
  unfold RqPost at h
  rw [e, hq] at h
  exact h
theorem of_zero {n : Int} (hn : inI64 n) (W : World) (hW : LawW W) :
    Calls Tryz.prog 46 #[.int .i64 n, .int .i64 0] W fun e w' => e = .returned (.tuple #[.agg #[.bool false, .string ⟨#[]⟩, .string ⟨#[]⟩], .int .i64 14]) ∧ Below W.heap.size W w' := by
  have h := rat_Of n 0 W hn (by unfold inI64; omega) hW
  unfold OfPost at h
  simp only [if_pos] at h
  exact h
theorem mul_ok {p q r : Rat} {g g1 g2 : Bool} {s t s1 t1 s2 t2 : ByteArray} (hp : FitQ p) (hq : FitQ q) (hf : mulFit p q) (e : p * q = r) (ep : rqV p = .agg #[.bool g1, .string s1, .string t1]) (eq : rqV q = .agg #[.bool g2, .string s2, .string t2]) (er : rqV r = .agg #[.bool g, .string s, .string t]) (W : World) (hW : LawW W) :
    Calls Tryz.prog 24 #[.agg #[.bool g1, .string s1, .string t1], .agg #[.bool g2, .string s2, .string t2]] W fun e w' => e = .returned (.tuple #[.agg #[.bool g, .string s, .string t], .int .i64 0]) ∧ Below W.heap.size W w' := by
  have h := rat_Mul p q W hp hq hW
  rw [mulR_ok hf] at h
  unfold RvPost at h
  rw [ep, eq] at h
  have e2 : rvV (some (p * q)) = .agg #[.bool g, .string s, .string t] := by rw [e]; exact er
  rw [e2] at h
  exact h
theorem make_ok {n d : Int} {q : Rat} {g : Bool} {s t : ByteArray} (hn : n.natAbs ≤ 4294967296) (hd : d.natAbs ≤ 4294967296) (h0 : d ≠ 0) (e : ofQ n d = q) (hq : rqV q = .agg #[.bool g, .string s, .string t]) (W : World) (hW : LawW W) :
    Calls Tryz.prog 69 #[.bool (decide (n < 0) != decide (d < 0)), .string (natS n.natAbs), .string (natS d.natAbs)] W fun e w' => e = .returned (.tuple #[.agg #[.bool g, .string s, .string t], .int .i64 0]) ∧ Below W.heap.size W w' := by
  have h := rat_Make (decide (n < 0) != decide (d < 0)) n.natAbs d.natAbs W (small_cap (by omega)) (small_cap (by omega)) (by omega) hW
  unfold RqPost at h
  rw [mkQ_ofQ n d h0, e, hq] at h
  exact h
theorem wf_inI32 {x : Int} (h : (Lit.int .i32 x).wf = true) : -2147483648 ≤ x ∧ x < 2147483648 := by
  simp [Lit.wf, IntKind.min, IntKind.max, IntKind.signed, IntKind.bits] at h
  exact ⟨by omega, by omega⟩
end Go.Proofs.YtbojlmnajndleaaGreatDoor
