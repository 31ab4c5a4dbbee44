/- Reference 10, what chapter 38 calls. -/
import Derived.Test.YtahlhiiekgnmpabMrgF
set_option linter.unusedVariables false
set_option linter.unusedSimpArgs false
namespace Go.Proofs.Ytahlhiiekgnmpab
open Go.RowKit

theorem ref10_is (a : Int) (w : World) : Calls Try.prog 54 #[.int .i64 a] w fun e w' => e = .returned (.bool (isTile a)) ∧ w = w' := by
  by_cases c1 : 0 ≤ a
  · by_cases c2 : a < 512
    · go_enter Try.func54, Try.ntmps54
      go_wp2
      go_ret
      exact ⟨ret_bool (isTile_iff.2 ⟨c1, c2⟩).symm, rfl⟩
    · go_enter Try.func54, Try.ntmps54
      go_wp2
      go_ret
      exact ⟨ret_bool (isTile_no.2 (by omega)).symm, rfl⟩
  · go_enter Try.func54, Try.ntmps54
    go_wp2
    go_ret
    exact ⟨ret_bool (isTile_no.2 (by omega)).symm, rfl⟩
theorem ref10_around (a b : Int) (w : World) (h1 : 0 ≤ a) (h2 : a < 32) (h3 : 0 ≤ b) (h4 : b < 32) :
    Calls Try.prog 58 #[.int .i64 a, .int .i64 b] w fun e w' => e = .returned (.int .i64 (min (absI (a - b)) (32 - absI (a - b)))) ∧ w = w' := by
  go_enter Try.func58, Try.ntmps58
  go_wp2
  all_goals
    go_ret
    exact ⟨ret_int (by unfold absI; omega), rfl⟩
theorem ref10_distance (a b : Int) (w : World) :
    Calls Try.prog 55 #[.int .i64 a, .int .i64 b] w fun e w' => e = .returned (.tuple #[.int .i64 (distV a b), .int .i64 (errB (isTile a && isTile b))]) ∧ w = w' := by
  by_cases ha : isTile a = true
  · obtain ⟨h1, h2⟩ := isTile_iff.1 ha
    by_cases hb : isTile b = true
    · obtain ⟨h3, h4⟩ := isTile_iff.1 hb
      have E1 := hide (show distV a b = distI a b by unfold distV; rw [if_pos (by simp [ha, hb])])
      have E3 := hide (show errB (isTile a && isTile b) = 0 by unfold errB; rw [ha, hb]; rfl)
      have hd : 0 ≤ absI (a % 32 - b % 32) ∧ absI (a % 32 - b % 32) ≤ 32 := by unfold absI; omega
      go_enter Try.func55, Try.ntmps55
      go_wp2_with fail
      refine (ref10_is a _).mono ?_
      rintro e w1 ⟨rfl, rfl⟩
      rw [ha]
      go_wp2_with fail
      refine (ref10_is b _).mono ?_
      rintro e w1 ⟨rfl, rfl⟩
      rw [hb]
      go_wp2_with fail
      all_goals
        refine (ref10_around _ _ _ (by omega) (by omega) (by omega) (by omega)).mono ?_
        rintro e w1 ⟨rfl, rfl⟩
        go_wp2_with fail
      all_goals
        go_ret2
        exact ⟨ret_ints2 (by rw [E1.out]; unfold distI; rename_i h5; generalize absI (a % 32 - b % 32) = d at *; unfold absI; omega) (by first | exact E3.out.symm | rfl), rfl⟩
    · have hb' : isTile b = false := by simpa using hb
      have E1 := hide (show distV a b = 0 by unfold distV; rw [if_neg (by simp [hb'])])
      have E3 := hide (show errB (isTile a && isTile b) = 1 by unfold errB; rw [ha, hb']; rfl)
      go_enter Try.func55, Try.ntmps55
      go_wp2_with fail
      refine (ref10_is a _).mono ?_
      rintro e w1 ⟨rfl, rfl⟩
      rw [ha]
      go_wp2_with fail
      refine (ref10_is b _).mono ?_
      rintro e w1 ⟨rfl, rfl⟩
      rw [hb']
      go_wp2_with fail
      go_ret2
      exact ⟨ret_ints2 E1.out.symm E3.out.symm, rfl⟩
  · have ha' : isTile a = false := by simpa using ha
    have E1 := hide (show distV a b = 0 by unfold distV; rw [if_neg (by simp [ha'])])
    have E3 := hide (show errB (isTile a && isTile b) = 1 by unfold errB; rw [ha']; rfl)
    go_enter Try.func55, Try.ntmps55
    go_wp2_with fail
    refine (ref10_is a _).mono ?_
    rintro e w1 ⟨rfl, rfl⟩
    rw [ha']
    go_wp2_with fail
    go_ret2
    exact ⟨ret_ints2 E1.out.symm E3.out.symm, rfl⟩
end Go.Proofs.Ytahlhiiekgnmpab
