/- The statement FieldMatchesReference, walked. -/
import Derived.Test.YtahlhiiekgnmpaaFldK
namespace Go.Proofs.Ytahlhiiekgnmpaa
open Go.RowKit

set_option maxHeartbeats 2000000 in
set_option maxRecDepth 100000 in
theorem fieldMatches_walk (a b x : Int) (l : List Int) (ps : List (Int × Int)) (vl vp : Value) (w : World) (hl : SliceOf vI 1 w vl l) (hp : SliceOf vP2 2 w vp ps) :
    Calls Try.prog 14 #[.int .i64 a, .int .i64 b, vl, vp, .int .i64 x] w fun e w' => e = .returned (.bool true) ∧ Below w.heap.size w w' := by
  obtain ⟨ao, cp, rfl⟩ := hl.shape
  obtain ⟨bo, cq, rfl⟩ := hp.shape
  have HL := hide hl
  have HP := hide hp
  clear hl hp
  by_cases h1 : (l.length : Int) ≤ 30
  · by_cases h2 : (ps.length : Int) ≤ 30
    · obtain ⟨s, hs⟩ : ∃ s, addV a b = s := ⟨_, rfl⟩
      obtain ⟨se, hse⟩ : ∃ s, twoE a b = s := ⟨_, rfl⟩
      obtain ⟨m, hm⟩ : ∃ s, mulV a b = s := ⟨_, rfl⟩
      obtain ⟨i, hi⟩ : ∃ s, invV a = s := ⟨_, rfl⟩
      obtain ⟨ie, hie⟩ : ∃ s, invE a = s := ⟨_, rfl⟩
      obtain ⟨u, hu⟩ : ∃ s, evalV l x = s := ⟨_, rfl⟩
      obtain ⟨ue, hue⟩ : ∃ s, eC (evalB l x) = s := ⟨_, rfl⟩
      obtain ⟨p, hpp⟩ : ∃ s, ipV ps x = s := ⟨_, rfl⟩
      obtain ⟨pe, hpe⟩ : ∃ s, ipE ps x = s := ⟨_, rfl⟩
      have H1 := hide (⟨hs, hse⟩ : _ ∧ _)
      have H2 := hide (⟨hm, hse⟩ : _ ∧ _)
      have H3 := hide (⟨hi, hie⟩ : _ ∧ _)
      have H4 := hide (⟨hu, hue⟩ : _ ∧ _)
      have H5 := hide (⟨hpp, hpe⟩ : _ ∧ _)
      clear hs hse hm hi hie hu hue hpp hpe
      go_enter Try.func14, Try.ntmps14
      go_wp2_with fail
      refine (law06_head _).mono ?_
      rintro e w1 ⟨rfl, hb⟩
      replace HL := hide (HL.out.below hb)
      replace HP := hide (HP.out.below hb)
      have B := hide hb
      clear hb
      go_wp2_with fail
      refine (fld_add_at a b s se _ H1.out).mono ?_
      rintro e w2 ⟨rfl, hb⟩
      replace HL := hide (HL.out.below hb)
      replace HP := hide (HP.out.below hb)
      replace B := hide (bstep B.out hb)
      clear hb
      go_wp2_with fail
      refine (ref06_add a b _).mono ?_
      rintro e w' ⟨rfl, rfl⟩
      rw [H1.out.1, H1.out.2]
      go_wp2_with fail
      refine (fld_mul_at a b m se _ H2.out).mono ?_
      rintro e w3 ⟨rfl, hb⟩
      replace HL := hide (HL.out.below hb)
      replace HP := hide (HP.out.below hb)
      replace B := hide (bstep B.out hb)
      clear hb
      go_wp2_with fail
      refine (ref06_Mul a b _).mono ?_
      rintro e w' ⟨rfl, rfl⟩
      rw [H2.out.1, H2.out.2]
      go_wp2_with fail
      refine (fld_inv_at a i ie _ H3.out).mono ?_
      rintro e w' ⟨rfl, rfl⟩
      go_wp2_with fail
      refine (ref06_Inverse a _).mono ?_
      rintro e w' ⟨rfl, rfl⟩
      rw [H3.out.1, H3.out.2]
      go_wp2_with fail
      refine (fld_eval_at l x u ue _ _ HL.out H4.out).mono ?_
      rintro e w' ⟨rfl, rfl⟩
      go_wp2_with fail
      refine (ref06_eval l x _ _ HL.out).mono ?_
      rintro e w4 ⟨rfl, n, rfl⟩
      rw [H4.out.1, H4.out.2]
      have hb := below_drewN (Below.refl w3.heap.size w3) n
      replace HP := hide (HP.out.below hb)
      replace B := hide (bstep B.out hb)
      clear hb
      go_wp2_with fail
      refine (fld_ip_at ps x p pe _ _ HP.out H5.out).mono ?_
      rintro e w5 ⟨rfl, hb⟩
      replace HP := hide (HP.out.below hb)
      replace B := hide (bstep B.out hb)
      clear hb
      go_wp2_with fail
      refine (ref06_interpolate ps x _ _ HP.out).mono ?_
      rintro e w6 ⟨rfl, n', rfl⟩
      rw [H5.out.1, H5.out.2]
      have hb := below_drewN (Below.refl w5.heap.size w5) n'
      replace B := hide (bstep B.out hb)
      clear hb
      go_wp2_with fail
      go_ret
      exact ⟨rfl, B.out⟩
    · have h2' : (30 : Int) < (ps.length : Int) := by omega
      go_enter Try.func14, Try.ntmps14
      go_wp2_with fail
      refine (law06_head _).mono ?_
      rintro e w1 ⟨rfl, hb⟩
      go_wp2_with fail
      go_ret
      exact ⟨rfl, hb⟩
  · have h1' : (30 : Int) < (l.length : Int) := by omega
    go_enter Try.func14, Try.ntmps14
    go_wp2_with fail
    refine (law06_head _).mono ?_
    rintro e w1 ⟨rfl, hb⟩
    go_wp2_with fail
    go_ret
    exact ⟨rfl, hb⟩
end Go.Proofs.Ytahlhiiekgnmpaa
