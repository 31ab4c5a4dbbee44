/- The inner functions of package sky: what each call computes. -/
import Derived.Test.YtahlhiiekgnmpabBase
set_option linter.unusedVariables false
set_option linter.unusedSimpArgs false
namespace Go.Proofs.Ytahlhiiekgnmpab
open Go.RowKit

/-! ### The plain functions -/
def vldPos (x y : Int) : Bool := decide (0 ≤ x ∧ x < 5760 ∧ 0 ≤ y ∧ y < 2880)
def isTile (n : Int) : Bool := decide (0 ≤ n ∧ n < 512)
def absI (a : Int) : Int := max a (-a)
def distI (a b : Int) : Int := max (min (absI (a % 32 - b % 32)) (32 - absI (a % 32 - b % 32))) (absI (a / 32 - b / 32))
def tileV (x y : Int) : Int := if vldPos x y then 32 * (y / 180) + x / 180 else 0
def cellV (x y : Int) : Int := if vldPos x y then 2 * (y % 180 * 2 / 180) + x % 180 * 2 / 180 else 0
def errB (b : Bool) : Int := if b then 0 else 1
def centreX (n : Int) : Int := if isTile n then 180 * (n % 32) + 90 else 0
def centreY (n : Int) : Int := if isTile n then 180 * (n / 32) + 90 else 0
def distV (a b : Int) : Int := if isTile a && isTile b then distI a b else 0

theorem vldPos_iff {x y : Int} : vldPos x y = true ↔ (0 ≤ x ∧ x < 5760 ∧ 0 ≤ y ∧ y < 2880) := by unfold vldPos; simp
theorem isTile_iff {n : Int} : isTile n = true ↔ (0 ≤ n ∧ n < 512) := by unfold isTile; simp
theorem isTile_no {n : Int} : isTile n = false ↔ ¬ (0 ≤ n ∧ n < 512) := by unfold isTile; simp
theorem vldPos_no {x y : Int} : vldPos x y = false ↔ ¬ (0 ≤ x ∧ x < 5760 ∧ 0 ≤ y ∧ y < 2880) := by unfold vldPos; simp only [decide_eq_false_iff_not]

/-! ### The walks -/
theorem sky_abs (a : Int) (w : World) (h1 : -1000000 ≤ a) (h2 : a ≤ 1000000) :
    Calls Try.prog 60 #[.int .i64 a] w fun e w' => e = .returned (.int .i64 (absI a)) ∧ w = w' := by
  go_enter Try.func60, Try.ntmps60
  go_wp2
  all_goals
    go_ret
    exact ⟨ret_int (by unfold absI; omega), rfl⟩

theorem sky_split (a : Int) (w : World) (h1 : 0 ≤ a) (h2 : a < 512) :
    Calls Try.prog 59 #[.int .i64 a] w fun e w' => e = .returned (.agg #[.int .i64 (a % 32), .int .i64 (a / 32)]) ∧ Below w.heap.size w w' := by
  go_enter Try.func59, Try.ntmps59
  go_wp2
  refine bodyPost_ret (v := .agg #[.int .i64 (a % 32), .int .i64 (a / 32)]) (by simp [results, Try.results59, go_sem]) rfl ⟨rfl, ?_⟩
  exact (Below.refl _ _).alloc (Nat.le_refl _) _

theorem sky_distance (a b : Int) (w : World) (h1 : 0 ≤ a) (h2 : a < 512) (h3 : 0 ≤ b) (h4 : b < 512) :
    Calls Try.prog 57 #[.int .i64 a, .int .i64 b] w fun e w' => e = .returned (.int .i64 (distI a b)) ∧ Below w.heap.size w w' := by
  have hab : 0 ≤ absI (a % 32 - b % 32) := by unfold absI; omega
  have hab2 : absI (a % 32 - b % 32) ≤ 32 := by unfold absI; omega
  go_enter Try.func57, Try.ntmps57
  go_wp2_with fail
  refine (sky_split _ _ h1 h2).mono ?_
  rintro e w1 ⟨rfl, hb1⟩
  go_wp2_with fail
  refine (sky_split _ _ h3 h4).mono ?_
  rintro e w2 ⟨rfl, hb2⟩
  have hb : Below w.heap.size w w2 := hb1.trans (hb2.mono hb1.size)
  go_wp2_with fail
  refine (sky_abs _ _ (by omega) (by omega)).mono ?_
  rintro e w3 ⟨rfl, rfl⟩
  go_wp2_with fail
  all_goals
    refine (sky_abs _ _ (by omega) (by omega)).mono ?_
    rintro e w3 ⟨rfl, rfl⟩
    go_wp2_with fail
  all_goals
    go_ret
    exact ⟨ret_int (by unfold distI; omega), (hb.alloc hb.size _).alloc (Nat.le_trans hb.size (by simp)) _⟩

/-! ### `each` with its two function literals; `is` on one tile and on two -/
end Go.Proofs.Ytahlhiiekgnmpab
