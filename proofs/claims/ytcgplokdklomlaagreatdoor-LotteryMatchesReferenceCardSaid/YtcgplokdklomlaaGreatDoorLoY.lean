/- law 29: LotteryDraws, plain facts. -/
import Derived.Test.YtcgplokdklomlaaGreatDoorLoW
set_option linter.unusedVariables false
set_option linter.unusedSimpArgs false
namespace Go.Proofs.YtcgplokdklomlaaGreatDoor
open Go.RowKit

/-- How many of the first D draws name request j. -/
def cntZ (l : List Int) (j : Nat) (D : Int) : Int := max 0 (min D (psum l (j + 1)) - psum l j)
theorem psum_0 (l : List Int) : psum l 0 = 0 := rfl
theorem cnt_0 {l : List Int} (h : ∀ x ∈ l, 0 ≤ x ∧ x ≤ 720) {j : Nat} (hj : j < l.length) : cntZ l j 0 = 0 := by
  have h1 := psum_mono h (j := 0) (k := j) (Nat.zero_le _) (by omega)
  have h2 := psum_mono h (j := 0) (k := j + 1) (Nat.zero_le _) (by omega)
  rw [psum_0] at h1 h2
  unfold cntZ; omega
theorem cnt_end {l : List Int} (h : ∀ x ∈ l, 0 ≤ x ∧ x ≤ 720) (hs : psum l l.length = 720) {j : Nat} (hj : j < l.length) : cntZ l j 720 = l[j] := by
  have h2 := psum_mono h (j := j + 1) (k := l.length) (by omega) (Nat.le_refl _)
  have h3 := psum_succ hj
  have h4 := h _ (List.getElem_mem hj)
  unfold cntZ; omega
theorem cnt_hit {l : List Int} {j : Nat} {D : Int} (h1 : psum l j ≤ D) (h2 : D < psum l (j + 1)) : cntZ l j (D + 1) = cntZ l j D + 1 := by
  unfold cntZ; omega
theorem cnt_miss {l : List Int} (h : ∀ x ∈ l, 0 ≤ x ∧ x ≤ 720) {i j : Nat} {D : Int} (hi : i < l.length) (hj : j < l.length) (h1 : psum l i ≤ D) (h2 : D < psum l (i + 1)) (hne : j ≠ i) : cntZ l j (D + 1) = cntZ l j D := by
  unfold cntZ
  rcases Nat.lt_or_gt_of_ne hne with e | e
  · have := psum_mono h (j := j + 1) (k := i) (by omega) (by omega); omega
  · have := psum_mono h (j := i + 1) (k := j) (by omega) (by omega); omega
theorem cnt_bd {l : List Int} (h : ∀ x ∈ l, 0 ≤ x ∧ x ≤ 720) {j : Nat} {D : Int} (hj : j < l.length) (hD : 0 ≤ D) (hD2 : D ≤ 720) : 0 ≤ cntZ l j D ∧ cntZ l j D ≤ 720 := by
  have h1 := psum_mono h (j := 0) (k := j) (Nat.zero_le _) (by omega)
  rw [psum_0] at h1
  unfold cntZ; omega
/-- The sums of the odds. -/
theorem of_add (a b : Int) : ofQ a 720 + ofQ b 720 = ofQ (a + b) 720 := by
  unfold ofQ
  rw [Rat.div_def, Rat.div_def, Rat.div_def, ← Rat.add_mul, Rat.intCast_add]
theorem of_sz {n : Int} (h0 : 0 ≤ n) (h : n ≤ 720) : Sz 4 (ofQ n 720) := by
  obtain ⟨h1, h2⟩ := ofQ_le n 720 (by omega)
  have hc : 1000 < capK 4 := by unfold capK; decide +kernel
  have e : (720 : Int).natAbs = 720 := rfl
  exact ⟨by omega, by omega⟩
theorem of_0 : IsQ (ofQ 0 720) false ⟨#[48]⟩ ⟨#[49]⟩ := litQ (by decide +kernel) (lit_nat (by decide +kernel) (by decide +kernel)) (lit_nat (by decide +kernel) (by decide +kernel))
theorem of_1 : IsQ (ofQ 720 720) false ⟨#[49]⟩ ⟨#[49]⟩ := litQ (by decide +kernel) (lit_nat (by decide +kernel) (by decide +kernel)) (lit_nat (by decide +kernel) (by decide +kernel))
end Go.Proofs.YtcgplokdklomlaaGreatDoor
