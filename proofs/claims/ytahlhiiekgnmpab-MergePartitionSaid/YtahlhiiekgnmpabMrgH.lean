/- Reference 38: valid, close, Same. -/
import Derived.Test.YtahlhiiekgnmpabMrgR
set_option linter.unusedVariables false
set_option linter.unusedSimpArgs false
namespace Go.Proofs.Ytahlhiiekgnmpab
open Go.RowKit

theorem ref38_moment (n : Int) (p : Bool) (w : World) (h : momB n = p) : Calls Try.prog 46 #[.int .i64 n] w fun e w' => e = .returned (.bool p) ∧ w = w' := by
  subst h
  by_cases h0 : 0 ≤ n
  · by_cases h1 : n ≤ 38399
    · go_enter Try.func46, Try.ntmps46
      go_wp2_with fail
      go_ret
      exact ⟨ret_bool (momB_iff.2 ⟨h0, h1⟩).symm, rfl⟩
    · go_enter Try.func46, Try.ntmps46
      go_wp2_with fail
      go_ret
      exact ⟨ret_bool (momB_no.2 (by omega)).symm, rfl⟩
  · go_enter Try.func46, Try.ntmps46
    go_wp2_with fail
    go_ret
    exact ⟨ret_bool (momB_no.2 (by omega)).symm, rfl⟩

set_option maxHeartbeats 2000000 in
set_option maxRecDepth 100000 in
theorem ref38_valid_at (t c f v a : Int) (w : World) :
    Calls Try.prog 45 #[.agg #[.int .i64 t, .int .i64 c, .int .i64 f, .int .i64 v, .int .i64 a]] w fun e w' => e = .returned (.bool (valB ⟨t, c, f, v, a⟩)) ∧ Below w.heap.size w w' := by
  have hb := hide ((Below.refl w.heap.size w).alloc (Nat.le_refl _) (.cells #[.int .i64 t, .int .i64 c, .int .i64 f, .int .i64 v, .int .i64 a] 57))
  by_cases hlow : (0 ≤ t ∧ t < 512) ∧ 0 ≤ c ∧ c ≤ 3 ∧ 0 ≤ f ∧ f ≤ 7 ∧ 0 ≤ v ∧ v ≤ 65535
  · obtain ⟨h1, h3, h4, h5, h6, h7, h8⟩ := hlow
    have HM : Hid (momB a = valB ⟨t, c, f, v, a⟩) := by
      show momB a = valB _
      unfold momB valB
      exact decide_eq_decide.2 (by simp only; omega)
    have HI := hide (isTile_iff.2 h1)
    clear h1
    go_enter Try.func45, Try.ntmps45
    go_wp2_with fail
    refine (ref10_is t _).mono ?_
    rintro e w' ⟨rfl, rfl⟩
    rw [HI.out]
    go_wp2_with fail
    refine (ref38_moment a _ _ HM.out).mono ?_
    rintro e w' ⟨rfl, rfl⟩
    go_wp2_with fail
    go_ret
    exact ⟨rfl, hb.out⟩
  · have HF : Hid (valB ⟨t, c, f, v, a⟩ = false) := valB_no.2 (by simp only; omega)
    by_cases h1 : 0 ≤ t ∧ t < 512
    · have HI := hide (isTile_iff.2 h1)
      have H : (c < 0) ∨ (0 ≤ c ∧ 3 < c) ∨ (0 ≤ c ∧ c ≤ 3 ∧ f < 0) ∨ (0 ≤ c ∧ c ≤ 3 ∧ 0 ≤ f ∧ 7 < f) ∨
          (0 ≤ c ∧ c ≤ 3 ∧ 0 ≤ f ∧ f ≤ 7 ∧ v < 0) ∨ (0 ≤ c ∧ c ≤ 3 ∧ 0 ≤ f ∧ f ≤ 7 ∧ 0 ≤ v ∧ 65535 < v) := by omega
      clear hlow h1
      rcases H with h3 | ⟨h3, h4⟩ | ⟨h3, h4, h5⟩ | ⟨h3, h4, h5, h6⟩ | ⟨h3, h4, h5, h6, h7⟩ | ⟨h3, h4, h5, h6, h7, h8⟩
      all_goals
        go_enter Try.func45, Try.ntmps45
        go_wp2_with fail
        refine (ref10_is t _).mono ?_
        rintro e w' ⟨rfl, rfl⟩
        rw [HI.out]
        go_wp2_with fail
        go_ret
        exact ⟨ret_bool HF.out.symm, hb.out⟩
    · have HI := hide (isTile_no.2 h1)
      clear hlow h1
      go_enter Try.func45, Try.ntmps45
      go_wp2_with fail
      refine (ref10_is t _).mono ?_
      rintro e w' ⟨rfl, rfl⟩
      rw [HI.out]
      go_wp2_with fail
      go_ret
      exact ⟨ret_bool HF.out.symm, hb.out⟩
theorem ref38_valid (a : Al) (p : Bool) (w : World) (h : valB a = p) :
    Calls Try.prog 45 #[.agg #[.int .i64 a.tile, .int .i64 a.cell, .int .i64 a.flt, .int .i64 a.val, .int .i64 a.at_]] w fun e w' => e = .returned (.bool p) ∧ Below w.heap.size w w' := by
  subst h; exact ref38_valid_at _ _ _ _ _ w

theorem ref10_distance_ok (a b d : Int) (w : World) (a0 : 0 ≤ a) (a1 : a < 512) (b0 : 0 ≤ b) (b1 : b < 512) (hd : distI a b = d) :
    Calls Try.prog 55 #[.int .i64 a, .int .i64 b] w fun e w' => e = .returned (.tuple #[.int .i64 d, .int .i64 0]) ∧ w = w' := by
  have h := ref10_distance a b w
  have e1 : distV a b = d := by unfold distV; rw [isTile_iff.2 ⟨a0, a1⟩, isTile_iff.2 ⟨b0, b1⟩]; exact hd
  have e2 : errB (isTile a && isTile b) = 0 := by rw [isTile_iff.2 ⟨a0, a1⟩, isTile_iff.2 ⟨b0, b1⟩]; rfl
  rw [e1, e2] at h
  exact h
theorem near_at {win d : Int} {x y : Al} (hd : distI x.tile y.tile = d) : nearB win x y = decide (d ≤ 1 ∧ x.flt = y.flt ∧ x.at_ - y.at_ ≤ win ∧ y.at_ - x.at_ ≤ win) := by subst hd; rfl

set_option maxHeartbeats 2000000 in
set_option maxRecDepth 100000 in
theorem ref38_close (x y : Al) (win : Int) (w : World) (hx : valB x = true) (hy : valB y = true) :
    Calls Try.prog 47 #[.agg #[.int .i64 x.tile, .int .i64 x.cell, .int .i64 x.flt, .int .i64 x.val, .int .i64 x.at_], .agg #[.int .i64 y.tile, .int .i64 y.cell, .int .i64 y.flt, .int .i64 y.val, .int .i64 y.at_], .int .i64 win] w
      fun e w' => e = .returned (.bool (nearB win x y)) ∧ Below w.heap.size w w' := by
  obtain ⟨x1, x2, x3, x4, x5, x6, x7, x8, x9, x10⟩ := valB_iff.1 hx
  obtain ⟨y1, y2, y3, y4, y5, y6, y7, y8, y9, y10⟩ := valB_iff.1 hy
  obtain ⟨t, c, f, v, a⟩ := x
  obtain ⟨t', c', f', v', a'⟩ := y
  simp only at x1 x2 x3 x4 x5 x6 x7 x8 x9 x10 y1 y2 y3 y4 y5 y6 y7 y8 y9 y10
  clear hx hy x3 x4 x7 x8 y3 y4 y7 y8
  have hw1 : IntKind.i64.wrap (a - a') = a - a' := IntWalk.i64_in _ (by omega)
  have hw2 : IntKind.i64.wrap (a' - a) = a' - a := IntWalk.i64_in _ (by omega)
  obtain ⟨d, hd⟩ : ∃ d, distI t t' = d := ⟨_, rfl⟩
  have HN := hide (near_at (win := win) (x := ⟨t, c, f, v, a⟩) (y := ⟨t', c', f', v', a'⟩) hd)
  have HD := hide hd
  clear hd
  have HB0 := hide (bAlloc (bAlloc (Below.refl w.heap.size w) (.cells #[.int .i64 t, .int .i64 c, .int .i64 f, .int .i64 v, .int .i64 a] 57)) (.cells #[.int .i64 t', .int .i64 c', .int .i64 f', .int .i64 v', .int .i64 a'] 57))
  go_enter Try.func47, Try.ntmps47
  go_wp2_with fail
  refine (ref10_distance_ok t t' d _ x1 x2 y1 y2 HD.out).mono ?_
  rintro e w1 ⟨rfl, rfl⟩
  by_cases c2 : f = f'
  · have c2' : (f == f') = true := by rw [c2]; simp
    have C2 := hide c2
    clear c2
    by_cases c1 : d ≤ 1
    · by_cases c3 : a - a' ≤ win
      · have HR : Hid (nearB win ⟨t, c, f, v, a⟩ ⟨t', c', f', v', a'⟩ = decide (a' - a ≤ win)) := by
          show nearB _ _ _ = _
          rw [HN.out]
          exact decide_eq_decide.2 ⟨fun h => h.2.2.2, fun h => ⟨c1, C2.out, c3, h⟩⟩
        go_wp2_with fail
        go_ret
        exact ⟨ret_bool HR.out.symm, HB0.out⟩
      · have HR : Hid (nearB win ⟨t, c, f, v, a⟩ ⟨t', c', f', v', a'⟩ = false) := by
          show nearB _ _ _ = _
          rw [HN.out]
          exact decide_eq_false (fun h => c3 h.2.2.1)
        go_wp2_with fail
        go_ret
        exact ⟨ret_bool HR.out.symm, HB0.out⟩
    · have HR : Hid (nearB win ⟨t, c, f, v, a⟩ ⟨t', c', f', v', a'⟩ = false) := by
        show nearB _ _ _ = _
        rw [HN.out]
        exact decide_eq_false (fun h => c1 h.1)
      go_wp2_with fail
      go_ret
      exact ⟨ret_bool HR.out.symm, HB0.out⟩
  · have c2' : (f == f') = false := beq_eq_false_iff_ne.2 c2
    have HR : Hid (nearB win ⟨t, c, f, v, a⟩ ⟨t', c', f', v', a'⟩ = false) := nearB_no.2 (fun h => c2 h.2.1)
    clear c2
    go_wp2_with fail
    go_ret
    exact ⟨ret_bool HR.out.symm, HB0.out⟩
end Go.Proofs.Ytahlhiiekgnmpab
