/- The functions of package field and of its reference, but for Interpolate. -/
import Derived.Test.YtahlhiiekgnmpabFldQ
import Derived.Test.YtahlhiiekgnmpabSlice
namespace Go.Proofs.Ytahlhiiekgnmpab
open Go.RowKit

theorem va_wrap (x : FP) : IntKind.i64.wrap (va x) = va x := IntWalk.i64_in _ (by have := va_bd x; omega)
theorem fld_element (a : Int) (w : World) : Calls Try.prog 39 #[.int .i64 a] w fun e w' => e = .returned (.bool (inF a)) ∧ w = w' := by
  by_cases h0 : 0 ≤ a
  · have h1 : Hid (inF a = decide (a < 2147483647)) := by
      show inF a = _
      unfold inF
      exact decide_eq_decide.2 (by omega)
    go_enter Try.func39, Try.ntmps39
    go_wp2_with fail
    go_ret
    exact ⟨ret_bool h1.out.symm, rfl⟩
  · have h1 : Hid (inF a = false) := inF_no.2 (by omega)
    go_enter Try.func39, Try.ntmps39
    go_wp2_with fail
    go_ret
    exact ⟨ret_bool h1.out.symm, rfl⟩
theorem fld_minus (x y : FP) (w : World) : Calls Try.prog 43 #[.int .i64 (va x), .int .i64 (va y)] w fun e w' => e = .returned (.int .i64 (va (x - y))) ∧ w = w' := by
  have hx := va_bd x
  have hy := va_bd y
  have hm := minus_va x y
  go_enter Try.func43, Try.ntmps43
  go_wp2_with fail
  go_ret
  first | done | exact ⟨rfl, rfl⟩ | exact ⟨ret_int hm, rfl⟩
set_option maxHeartbeats 1000000 in
set_option maxRecDepth 100000 in
theorem fld_inverse (a : Int) (w : World) (h0 : 0 < a) (h1 : a < 2147483647) : Calls Try.prog 40 #[.int .i64 a] w fun e w' => e = .returned (.int .i64 (va (el a)⁻¹)) ∧ w = w' := by
  have HS := hide (Euc.start h0 h1)
  go_enter Try.func40, Try.ntmps40
  go_wp2_with fail
  go_loop [3, 4, 5, 6] (fun r s u v => ∃ R S U V : Int, r = .int .i64 R ∧ s = .int .i64 S ∧ u = .int .i64 U ∧ v = .int .i64 V ∧ Euc a R S U V) (fun _ _ u _ => (intOf u).toNat)
  case atStart => exact ⟨_, _, _, _, rfl, rfl, rfl, rfl, HS.out⟩
  case round =>
    obtain ⟨R, S, U, V, rfl, rfl, rfl, rfl, hE⟩ := hrel
    by_cases hu : 0 < U
    · obtain ⟨hN, q0, q1, v0, v1, s0, s1, t0, t1⟩ := hE.step hu
      have hUR : U < R := hE.2.1
      have hR : R ≤ 2147483647 := hE.2.2.1
      have HN := hide hN
      clear hE hN
      have hq : IntKind.i64.wrap (R.tdiv U) = R.tdiv U := IntWalk.i64_in _ (by omega)
      obtain ⟨q, hqq⟩ : ∃ q, R.tdiv U = q := ⟨_, rfl⟩
      rw [hqq] at hq q0 q1 v0 v1 t0 t1 HN
      have hw1 : IntKind.i64.wrap (q * U) = q * U := IntWalk.i64_in _ (by omega)
      have hw2 : IntKind.i64.wrap (q * V) = q * V := IntWalk.i64_in _ (by omega)
      have hw3 : IntKind.i64.wrap (R - q * U) = R - q * U := IntWalk.i64_in _ (by omega)
      have hw4 : IntKind.i64.wrap (S - q * V) = S - q * V := IntWalk.i64_in _ (by omega)
      have hne : ¬ U = 0 := by omega
      have hlt : Hid (R - q * U < U) := HN.out.2.1
      go_wp2_with fail
      go_round
      case rel => exact ⟨_, _, _, _, rfl, rfl, rfl, rfl, HN.out⟩
      case measure =>
        have := hlt.out
        simp [intOf]
        omega
    · have hU : U = 0 := by have := hE.1; omega
      subst hU
      obtain ⟨d1, d2, d3⟩ := hE.done
      clear hE
      have hw1 : IntKind.i64.wrap (S.tmod 2147483647 + 2147483647) = S.tmod 2147483647 + 2147483647 := IntWalk.i64_in _ (by omega)
      have hw2 : IntKind.i64.wrap (S.tmod 2147483647) = S.tmod 2147483647 := IntWalk.i64_in _ (by omega)
      go_wp2_with fail
      go_ret
      first | done | exact ⟨rfl, rfl⟩ | exact ⟨ret_int d1, rfl⟩
end Go.Proofs.Ytahlhiiekgnmpab
