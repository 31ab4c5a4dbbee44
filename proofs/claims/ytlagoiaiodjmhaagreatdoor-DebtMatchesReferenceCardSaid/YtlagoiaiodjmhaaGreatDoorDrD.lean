/- law 18: the reference's Paid. -/
import Derived.Test.YtlagoiaiodjmhaaGreatDoorDrC
set_option linter.unusedVariables false
set_option linter.unusedSimpArgs false
namespace Go.Proofs.YtlagoiaiodjmhaaGreatDoor
open Go.RowKit

theorem paid_thr (f : Fr) (ps : List Py) (m : Int) : paidA f ps m = (decide (0 ≤ (setL (oweL f) ps m).getD 0 0) && (decide (0 ≤ (setL (oweL f) ps m).getD 1 0) && decide (0 ≤ (setL (oweL f) ps m).getD 2 0))) := by
  unfold paidA setL oweL
  simp only [List.map_cons, List.map_nil, List.all_cons, List.all_nil, Bool.and_true]
  rfl
set_option maxHeartbeats 8000000 in
set_option maxRecDepth 100000 in
theorem r18_paid (f : Fr) (ps : List Py) (m : Int) (hps : ps.length ≤ 1002) (v2 : Value) (w : World) (h2 : SliceOf vPy 4 w v2 ps) : Calls Tryz.prog 16 #[vFr f, v2, .int .i64 m] w fun e w' =>
    e = .returned (.tuple #[.bool (paidB f ps m), .int .i64 (paidE f ps m)]) ∧ Below w.heap.size w w' := by
  have HBA := hide (bAlloc (Below.refl w.heap.size w) (.cells #[.int .i64 f.mo, .int .i64 f.tl, .int .i64 f.pr, .int .i64 f.ti, .int .i64 f.fl, .int .i64 f.r0, .int .i64 f.r1, .int .i64 f.r2, .int .i64 f.r3] 25))
  have HST := hide (fun u W (hu : SliceOf vDb 6 W u (oweL f)) (hW : Below w.heap.size w W) => r18_settle (oweL f) ps m (by show 3 ≤ 1002; omega) hps u v2 W hu (h2.below hW))
  obtain ⟨a2, c2, rfl⟩ := h2.shape
  obtain ⟨p1, hp1⟩ : ∃ p, oweB f = p := ⟨_, rfl⟩
  have HOW := hide (fun W => r18_owe f W p1 hp1)
  have HE1 : Hid (paidB f ps m = (p1 && (vlD (oweL f) ps m && paidA f ps m))) := by show _ = _; unfold paidB; rw [hp1]
  have HE2 : Hid (paidE f ps m = if p1 = true ∧ vlD (oweL f) ps m = true then 0 else 1) := by show _ = _; unfold paidE; rw [hp1]
  rw [HE1.out, HE2.out]
  unfold vFr
  unfold vFr at HOW
  clear hp1 h2
  cases p1 with
  | false =>
    rw [Bool.false_and, if_neg (fun h => by cases h.1)]
    have HO : Hid (oweE false = 1) := rfl
    rw [HO.out] at HOW
    go_enter Tryz.func16, Tryz.ntmps16
    go_wp2_with fail
    refine (HOW.out _).mono ?_
    rintro e w1 ⟨u, rfl, -, hb⟩
    have HB := hide (bStepD HBA.out hb)
    clear hb
    go_wp2_with fail
    go_ret2
    exact ⟨rfl, HB.out⟩
  | true =>
    have HO : Hid (oweE true = 0) := rfl
    have HR : Hid (oweR f true = oweL f) := rfl
    rw [HO.out, HR.out] at HOW
    rw [Bool.true_and]
    obtain ⟨p2, hp2⟩ : ∃ p, vlD (oweL f) ps m = p := ⟨_, rfl⟩
    have HSE : Hid (stE (oweL f) ps m = cond p2 0 1) := by show _ = _; unfold stE; rw [hp2]; cases p2 <;> rfl
    have HSS : Hid (p2 = true → stL (oweL f) ps m = setL (oweL f) ps m) := fun e => by unfold stL; rw [hp2, if_pos e]
    rw [HSE.out] at HST
    rw [hp2]
    clear hp2 HO HR HSE
    cases p2 with
    | false =>
      rw [Bool.false_and, if_neg (fun h => by cases h.2)]
      have HC : Hid (cond false (0 : Int) 1 = 1) := rfl
      rw [HC.out] at HST
      go_enter Tryz.func16, Tryz.ntmps16
      go_wp2_with fail
      refine (HOW.out _).mono ?_
      rintro e w1 ⟨u, rfl, hs, hb⟩
      have HB := hide (bStepD HBA.out hb)
      have HS := hide hs
      clear hb hs
      go_wp2_with fail
      refine (HST.out _ _ HS.out HB.out).mono ?_
      rintro e w2 ⟨u2, rfl, -, hb⟩
      have HB2 := hide (bStepD HB.out hb)
      clear hb
      go_wp2_with fail
      go_ret2
      exact ⟨rfl, HB2.out⟩
    | true =>
      rw [Bool.true_and, if_pos ⟨rfl, rfl⟩]
      have HC : Hid (cond true (0 : Int) 1 = 0) := rfl
      rw [HC.out, HSS.out rfl] at HST
      have hp := paid_thr f ps m
      have HSN : Hid ((setL (oweL f) ps m).length = 3) := by show _ = _; rw [setL_len]; rfl
      obtain ⟨S, hS⟩ : ∃ S, setL (oweL f) ps m = S := ⟨_, rfl⟩
      rw [hS] at HST hp HSN
      rw [hp]
      clear hS hp HSS HC
      obtain ⟨z0, hz0⟩ : ∃ z, S.getD 0 0 = z := ⟨_, rfl⟩
      obtain ⟨z1, hz1⟩ : ∃ z, S.getD 1 0 = z := ⟨_, rfl⟩
      obtain ⟨z2, hz2⟩ : ∃ z, S.getD 2 0 = z := ⟨_, rfl⟩
      rw [hz0, hz1, hz2]
      have HZ0 := hide hz0
      have HZ1 := hide hz1
      have HZ2 := hide hz2
      clear hz0 hz1 hz2
      by_cases h0 : 0 ≤ z0
      case neg =>
        have e0 : decide (0 ≤ z0) = false := decide_eq_false h0
        rw [e0]
        show Calls _ _ _ _ (fun e w' => e = .returned (.tuple #[.bool false, .int .i64 0]) ∧ _)
        go_enter Tryz.func16, Tryz.ntmps16
        go_wp2_with fail
        refine (HOW.out _).mono ?_
        rintro e w1 ⟨u, rfl, hs, hb⟩
        have HB := hide (bStepD HBA.out hb)
        have HS := hide hs
        clear hb hs
        go_wp2_with fail
        refine (HST.out _ _ HS.out HB.out).mono ?_
        rintro e w2 ⟨u2, rfl, hs, hb⟩
        have HB2 := hide (bStepD HB.out hb)
        obtain ⟨aa, ca, rfl⟩ := hs.shape
        rw [HSN.out] at hs
        rw [HSN.out]
        obtain ⟨ba, oa, rfl, g3, g4, y0⟩ := hs.inAt HSN.out (Below.refl _ _) (i := 0) (by omega)
        obtain ⟨ba', oa', ea, _, _, y1⟩ := hs.inAt HSN.out (Below.refl _ _) (i := 1) (by omega)
        injection ea with ea
        injection ea with ea ea'
        subst ea ea'
        obtain ⟨ba', oa', ea, _, _, y2⟩ := hs.inAt HSN.out (Below.refl _ _) (i := 2) (by omega)
        injection ea with ea
        injection ea with ea ea'
        subst ea ea'
        rw [Nat.add_zero, HZ0.out] at y0
        rw [HZ1.out] at y1
        rw [HZ2.out] at y2
        clear hs hb HS
        go_wp2_with fail
        go_ret2
        exact ⟨rfl, HB2.out⟩
      have e0 : decide (0 ≤ z0) = true := decide_eq_true h0
      by_cases h1 : 0 ≤ z1
      case neg =>
        have e1 : decide (0 ≤ z1) = false := decide_eq_false h1
        rw [e0, e1]
        show Calls _ _ _ _ (fun e w' => e = .returned (.tuple #[.bool false, .int .i64 0]) ∧ _)
        go_enter Tryz.func16, Tryz.ntmps16
        go_wp2_with fail
        refine (HOW.out _).mono ?_
        rintro e w1 ⟨u, rfl, hs, hb⟩
        have HB := hide (bStepD HBA.out hb)
        have HS := hide hs
        clear hb hs
        go_wp2_with fail
        refine (HST.out _ _ HS.out HB.out).mono ?_
        rintro e w2 ⟨u2, rfl, hs, hb⟩
        have HB2 := hide (bStepD HB.out hb)
        obtain ⟨aa, ca, rfl⟩ := hs.shape
        rw [HSN.out] at hs
        rw [HSN.out]
        obtain ⟨ba, oa, rfl, g3, g4, y0⟩ := hs.inAt HSN.out (Below.refl _ _) (i := 0) (by omega)
        obtain ⟨ba', oa', ea, _, _, y1⟩ := hs.inAt HSN.out (Below.refl _ _) (i := 1) (by omega)
        injection ea with ea
        injection ea with ea ea'
        subst ea ea'
        obtain ⟨ba', oa', ea, _, _, y2⟩ := hs.inAt HSN.out (Below.refl _ _) (i := 2) (by omega)
        injection ea with ea
        injection ea with ea ea'
        subst ea ea'
        rw [Nat.add_zero, HZ0.out] at y0
        rw [HZ1.out] at y1
        rw [HZ2.out] at y2
        clear hs hb HS
        go_wp2_with fail
        go_ret2
        exact ⟨rfl, HB2.out⟩
      have e1 : decide (0 ≤ z1) = true := decide_eq_true h1
      by_cases h2 : 0 ≤ z2
      case neg =>
        have e2 : decide (0 ≤ z2) = false := decide_eq_false h2
        rw [e0, e1, e2]
        show Calls _ _ _ _ (fun e w' => e = .returned (.tuple #[.bool false, .int .i64 0]) ∧ _)
        go_enter Tryz.func16, Tryz.ntmps16
        go_wp2_with fail
        refine (HOW.out _).mono ?_
        rintro e w1 ⟨u, rfl, hs, hb⟩
        have HB := hide (bStepD HBA.out hb)
        have HS := hide hs
        clear hb hs
        go_wp2_with fail
        refine (HST.out _ _ HS.out HB.out).mono ?_
        rintro e w2 ⟨u2, rfl, hs, hb⟩
        have HB2 := hide (bStepD HB.out hb)
        obtain ⟨aa, ca, rfl⟩ := hs.shape
        rw [HSN.out] at hs
        rw [HSN.out]
        obtain ⟨ba, oa, rfl, g3, g4, y0⟩ := hs.inAt HSN.out (Below.refl _ _) (i := 0) (by omega)
        obtain ⟨ba', oa', ea, _, _, y1⟩ := hs.inAt HSN.out (Below.refl _ _) (i := 1) (by omega)
        injection ea with ea
        injection ea with ea ea'
        subst ea ea'
        obtain ⟨ba', oa', ea, _, _, y2⟩ := hs.inAt HSN.out (Below.refl _ _) (i := 2) (by omega)
        injection ea with ea
        injection ea with ea ea'
        subst ea ea'
        rw [Nat.add_zero, HZ0.out] at y0
        rw [HZ1.out] at y1
        rw [HZ2.out] at y2
        clear hs hb HS
        go_wp2_with fail
        go_ret2
        exact ⟨rfl, HB2.out⟩
      have e2 : decide (0 ≤ z2) = true := decide_eq_true h2
      rw [e0, e1, e2]
      show Calls _ _ _ _ (fun e w' => e = .returned (.tuple #[.bool true, .int .i64 0]) ∧ _)
      go_enter Tryz.func16, Tryz.ntmps16
      go_wp2_with fail
      refine (HOW.out _).mono ?_
      rintro e w1 ⟨u, rfl, hs, hb⟩
      have HB := hide (bStepD HBA.out hb)
      have HS := hide hs
      clear hb hs
      go_wp2_with fail
      refine (HST.out _ _ HS.out HB.out).mono ?_
      rintro e w2 ⟨u2, rfl, hs, hb⟩
      have HB2 := hide (bStepD HB.out hb)
      obtain ⟨aa, ca, rfl⟩ := hs.shape
      rw [HSN.out] at hs
      rw [HSN.out]
      obtain ⟨ba, oa, rfl, g3, g4, y0⟩ := hs.inAt HSN.out (Below.refl _ _) (i := 0) (by omega)
      obtain ⟨ba', oa', ea, _, _, y1⟩ := hs.inAt HSN.out (Below.refl _ _) (i := 1) (by omega)
      injection ea with ea
      injection ea with ea ea'
      subst ea ea'
      obtain ⟨ba', oa', ea, _, _, y2⟩ := hs.inAt HSN.out (Below.refl _ _) (i := 2) (by omega)
      injection ea with ea
      injection ea with ea ea'
      subst ea ea'
      rw [Nat.add_zero, HZ0.out] at y0
      rw [HZ1.out] at y1
      rw [HZ2.out] at y2
      clear hs hb HS
      go_wp2_with fail
      go_ret2
      exact ⟨rfl, HB2.out⟩
end Go.Proofs.YtlagoiaiodjmhaaGreatDoor
