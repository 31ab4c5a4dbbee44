/- law 18: DebtFrames. -/
import Derived.Test.YtlagoiaiodjmhaaGreatDoorDeT
set_option linter.unusedVariables false
set_option linter.unusedSimpArgs false
namespace Go.Proofs.YtlagoiaiodjmhaaGreatDoor
open Go.RowKit

/-- A frame's cells. -/
def FrX (w : World) (b : Nat) (f : Fr) : Prop := w.cell? ⟨b, 0, none⟩ = some (.int .i64 f.mo) ∧ w.cell? ⟨b, 1, none⟩ = some (.int .i64 f.tl) ∧ w.cell? ⟨b, 2, none⟩ = some (.int .i64 f.pr) ∧ w.cell? ⟨b, 3, none⟩ = some (.int .i64 f.ti) ∧ w.cell? ⟨b, 4, none⟩ = some (.int .i64 f.fl) ∧ w.cell? ⟨b, 5, none⟩ = some (.int .i64 f.r0) ∧ w.cell? ⟨b, 6, none⟩ = some (.int .i64 f.r1) ∧ w.cell? ⟨b, 7, none⟩ = some (.int .i64 f.r2) ∧ w.cell? ⟨b, 8, none⟩ = some (.int .i64 f.r3)
theorem FrX.keep {W W' : World} {b : Nat} {f : Fr} (h : FrX W b f) (hb : Below W.heap.size W W') : FrX W' b f :=
  ⟨keep_cell hb h.1, keep_cell hb h.2.1, keep_cell hb h.2.2.1, keep_cell hb h.2.2.2.1, keep_cell hb h.2.2.2.2.1, keep_cell hb h.2.2.2.2.2.1, keep_cell hb h.2.2.2.2.2.2.1, keep_cell hb h.2.2.2.2.2.2.2.1, keep_cell hb h.2.2.2.2.2.2.2.2⟩
theorem FrX.new (w : World) (f : Fr) (T : TypeId) : FrX (w.alloc (.cells #[.int .i64 f.mo, .int .i64 f.tl, .int .i64 f.pr, .int .i64 f.ti, .int .i64 f.fl, .int .i64 f.r0, .int .i64 f.r1, .int .i64 f.r2, .int .i64 f.r3] T)) w.heap.size f := by
  refine ⟨?_, ?_, ?_, ?_, ?_, ?_, ?_, ?_, ?_⟩ <;> simp [go_sem]
/-- What a debt of a frame is. -/
theorem owe_at {f : Fr} {i : Nat} (h : i < (oweL f).length) : ∃ kd fl fr un, (oweL f)[i] = ⟨kd, f.tl, fl, fr, un, f.pr⟩ ∧ fr ≤ f.mo ∧ f.mo ≤ un := by
  have h' : i < 3 := h
  match i, h' with
  | 0, _ => exact ⟨_, _, _, _, rfl, by omega, by omega⟩
  | 1, _ => exact ⟨_, _, _, _, rfl, by omega, by omega⟩
  | 2, _ => exact ⟨_, _, _, _, rfl, by omega, by omega⟩
theorem paid_three (f : Fr) (ps : List Py) (m : Int) : paidA f ps m = (decide (0 ≤ (setL (oweL f) ps m).getD 0 0) && (decide (0 ≤ (setL (oweL f) ps m).getD 1 0) && decide (0 ≤ (setL (oweL f) ps m).getD 2 0))) := by
  unfold paidA setL oweL
  simp only [List.map_cons, List.map_nil, List.all_cons, List.all_nil, Bool.and_true]
  rfl
set_option maxHeartbeats 16000000 in
set_option maxRecDepth 100000 in
theorem debtFrames (f : Fr) (ps : List Py) (m : Int) (v2 : Value) (w : World) (h2 : SliceOf vPy 4 w v2 ps) (hW : LawW w) :
    Calls Tryz.prog 7 #[vFr f, v2, .int .i64 m] w fun e w' => e = .returned (.bool true) ∧ Below w.heap.size w w' := by
  have hba := bAlloc (Below.refl w.heap.size w) (.cells #[.int .i64 f.mo, .int .i64 f.tl, .int .i64 f.pr, .int .i64 f.ti, .int .i64 f.fl, .int .i64 f.r0, .int .i64 f.r1, .int .i64 f.r2, .int .i64 f.r3] 25)
  have HBA := hide hba
  have HH := hide (law18_head _ (hW.below hba))
  have HF0 := hide (FrX.new w f 25)
  have H2 := hide (h2.below hba)
  obtain ⟨a2, c2, rfl⟩ := h2.shape
  clear h2 hW hba
  unfold vFr
  go_enter Tryz.func7, Tryz.ntmps7
  go_wp2_with fail
  obtain ⟨A, hA⟩ : ∃ A, w.heap.size = A := ⟨_, rfl⟩
  obtain ⟨w0, hw0⟩ : ∃ W, w.alloc (.cells #[.int .i64 f.mo, .int .i64 f.tl, .int .i64 f.pr, .int .i64 f.ti, .int .i64 f.fl, .int .i64 f.r0, .int .i64 f.r1, .int .i64 f.r2, .int .i64 f.r3] 25) = W := ⟨_, rfl⟩
  rw [hw0] at HBA HH HF0 H2
  have HAZ : Hid (A ≤ w0.heap.size) := by have := HBA.out.size; rw [hA] at this; exact this
  rw [hA] at HBA HF0
  rw [hw0, hA]
  clear hw0
  have HAA := hide hA
  clear hA
  refine HH.out.mono ?_
  rintro e w1 ⟨rfl, hb⟩
  have HB1 := hide hb
  clear hb
  by_cases s2 : 12 < ps.length
  · have d2 : decide ((12 : Int) < (ps.length : Int)) = true := decide_eq_true (by omega)
    go_wp2_with fail
    go_ret
    exact ⟨rfl, by rw [HAA.out]; exact HBA.out.trans (HB1.out.mono HAZ.out)⟩
  have d2 : decide ((12 : Int) < (ps.length : Int)) = false := decide_eq_false (by omega)
  obtain ⟨p1, hp1⟩ : ∃ p, oweB f = p := ⟨_, rfl⟩
  have HOW := hide (fun W => de_owe f W p1 hp1)
  have HPD := hide (fun v2 W h => de_paid f ps m v2 W h)
  have HE1 : Hid (paidB f ps m = (p1 && (vlD (oweL f) ps m && paidA f ps m))) := by show _ = _; unfold paidB; rw [hp1]
  have HE2 : Hid (paidE f ps m = if p1 = true ∧ vlD (oweL f) ps m = true then 0 else 1) := by show _ = _; unfold paidE; rw [hp1]
  rw [HE1.out, HE2.out] at HPD
  unfold vFr at HOW HPD
  clear hp1 HE1 HE2
  cases p1 with
  | false =>
    rw [Bool.false_and, if_neg (fun h => by cases h.1)] at HPD
    have HO : Hid (oweE false = 1) := rfl
    have HR : Hid (oweR f false = []) := rfl
    rw [HO.out, HR.out] at HOW
    clear HO HR
    obtain ⟨q0, q1, q2, q3, q4, q5, q6, q7, q8⟩ := HF0.out.keep HB1.out
    go_wp2_with fail
    refine (HOW.out _).mono ?_
    rintro e w2 ⟨u, rfl, hs, hb⟩
    clear q0 q1 q2 q3 q4 q5 q6 q7 q8
    have HB2 := hide (bStepD HB1.out hb)
    have HS := hide hs
    clear hs hb
    obtain ⟨q0, q1, q2, q3, q4, q5, q6, q7, q8⟩ := HF0.out.keep HB2.out
    go_wp2_with fail
    refine (HPD.out _ _ (H2.out.below HB2.out)).mono ?_
    rintro e w3 ⟨rfl, hb⟩
    clear q0 q1 q2 q3 q4 q5 q6 q7 q8
    have HB3 := hide (bStepD HB2.out hb)
    have HS3 := hide (HS.out.below hb)
    clear hb HS
    obtain ⟨au, cu, rfl⟩ := HS3.out.shape
    go_wp2_with fail
    go_ret
    exact ⟨rfl, by rw [HAA.out]; exact HBA.out.trans (HB3.out.mono HAZ.out)⟩
  | true =>
    have HO : Hid (oweE true = 0) := rfl
    have HR : Hid (oweR f true = oweL f) := rfl
    rw [HO.out, HR.out] at HOW
    rw [Bool.true_and] at HPD
    clear HO HR
    have HST := hide (fun u W (hu : SliceOf vDb 6 W u (oweL f)) (hW : Below w0.heap.size w0 W) => de_settle (oweL f) ps m u (.slice a2 ps.length c2) W hu (H2.out.below hW))
    obtain ⟨p2, hp2⟩ : ∃ p, vlD (oweL f) ps m = p := ⟨_, rfl⟩
    have HSE : Hid (stE (oweL f) ps m = cond p2 0 1) := by show _ = _; unfold stE; rw [hp2]; cases p2 <;> rfl
    have HSS : Hid (stL (oweL f) ps m = cond p2 (setL (oweL f) ps m) []) := by show _ = _; unfold stL; rw [hp2]; cases p2 <;> rfl
    rw [HSE.out, HSS.out] at HST
    rw [hp2] at HPD
    clear hp2 HSE HSS
    obtain ⟨p3, hp3⟩ : ∃ p, (p2 && paidA f ps m) = p := ⟨_, rfl⟩
    obtain ⟨p4, hp4⟩ : ∃ p, (if True ∧ p2 = true then (0 : Int) else 1) = p := ⟨_, rfl⟩
    have hp4' : (if true = true ∧ p2 = true then (0 : Int) else 1) = p4 := by rw [← hp4]; simp
    rw [hp3, hp4'] at HPD
    have HP3 := hide hp3
    have HP4 := hide hp4'
    clear hp3 hp4 hp4'
    obtain ⟨q0, q1, q2, q3, q4, q5, q6, q7, q8⟩ := HF0.out.keep HB1.out
    go_wp2_with fail
    refine (HOW.out _).mono ?_
    rintro e w2 ⟨u, rfl, hs, hb⟩
    clear q0 q1 q2 q3 q4 q5 q6 q7 q8
    have HB2 := hide (bStepD HB1.out hb)
    have HS := hide hs
    clear hs hb
    obtain ⟨q0, q1, q2, q3, q4, q5, q6, q7, q8⟩ := HF0.out.keep HB2.out
    go_wp2_with fail
    refine (HPD.out _ _ (H2.out.below HB2.out)).mono ?_
    rintro e w3 ⟨rfl, hb⟩
    clear q0 q1 q2 q3 q4 q5 q6 q7 q8
    have HB3 := hide (bStepD HB2.out hb)
    have HS3 := hide (HS.out.below hb)
    clear hb HS
    obtain ⟨au, cu, rfl⟩ := HS3.out.shape
    have HL3 : Hid ((oweL f).length = 3) := rfl
    rw [HL3.out]
    go_wp2_with fail
    go_loopw [12] (fun i wx => ∃ k : Nat, k ≤ 3 ∧ i = .int .i64 (k : Int) ∧ Below w3.heap.size w3 wx) (fun i _ => 3 - (intOf i).toNat)
    case atStart => exact ⟨0, Nat.zero_le _, rfl, Below.refl _ _⟩
    case round =>
      obtain ⟨i, hi, rfl, hbl⟩ := hrel
      have HB := hide hbl
      clear hbl
      by_cases hlt : i < 3
      · have hiI : (i : Int) < 3 := by omega
        have hi0 : (0 : Int) ≤ (i : Int) := by omega
        have hlo : i < (oweL f).length := hlt
        obtain ⟨bd, od, rfl, g1, g2, hd⟩ := HS3.out.dbAt HB.out hlo
        obtain ⟨kd, fl, fr, un, he, hf1, hf2⟩ := owe_at hlo
        rw [he] at hd
        rw [HL3.out] at g1
        have e1 : decide (f.mo < fr) = false := decide_eq_false (by omega)
        have e2 : decide (un < f.mo) = false := decide_eq_false (by omega)
        clear he hf1 hf2 hlo
        obtain ⟨q0, q1, q2, q3, q4, q5, q6, q7, q8⟩ := HF0.out.keep (bStepD HB3.out HB.out)
        obtain ⟨x0, x1, x2, x3, x4, x5⟩ := hd
        clear q3 q4 q5 q6 q7 q8
        go_wp2_with fail
        go_quiet (fail)
        obtain ⟨w4, hw4⟩ : ∃ W, wr.drewN nq = W := ⟨_, rfl⟩
        have HN := hide (bStepD HB.out (drw_belowD (B := wr.heap.size) hw4))
        rw [hw4]
        clear hw4
        go_wp2_with fail
        first
          | (go_roundw
             case rel => exact ⟨i + 1, by omega, by go_num, HN.out⟩
             case measure => (simp [intOf]; omega))
          | (refine ⟨⟨i + 1, by omega, by go_num, HN.out⟩, ?_⟩
             simp [intOf]; omega)
      · obtain rfl : i = 3 := by omega
        go_wp2_with fail
        refine (HST.out _ _ (HS3.out.below HB.out) (bStepD HB3.out HB.out)).mono ?_
        rintro e w4 ⟨ua, rfl, hsa, hb⟩
        have HB4 := hide (bStepD HB3.out (bStepD HB.out hb))
        have HA := hide hsa
        clear hsa hb
        obtain ⟨aa, ca, rfl⟩ := HA.out.shape
        cases p2 with
        | false =>
          obtain rfl : p3 = false := by rw [← HP3.out, Bool.false_and]
          obtain rfl : p4 = 1 := by rw [← HP4.out, if_neg (fun h => by cases h.2)]
          have HC : Hid (cond false (0 : Int) 1 = 1) := rfl
          rw [HC.out]
          go_wp2_with fail
          go_ret
          exact ⟨rfl, by rw [HAA.out]; exact HBA.out.trans (HB4.out.mono HAZ.out)⟩
        | true =>
          rw [Bool.true_and] at HP3
          obtain rfl : p4 = 0 := by rw [← HP4.out]; simp
          have HC : Hid (cond true (0 : Int) 1 = 0) := rfl
          have HC2 : Hid ((cond true (setL (oweL f) ps m) []) = setL (oweL f) ps m) := rfl
          rw [HC.out]
          rw [HC2.out, setL_len, HL3.out] at HA
          rw [HC2.out, setL_len, HL3.out]
          have hsl : (setL (oweL f) ps m).length = 3 := by rw [setL_len]; rfl
          obtain ⟨ba, oa, rfl, g3, g4, y0⟩ := HA.out.inAt hsl (Below.refl _ _) (i := 0) (by omega)
          obtain ⟨ba', oa', ea, _, _, y1⟩ := HA.out.inAt hsl (Below.refl _ _) (i := 1) (by omega)
          injection ea with ea
          injection ea with ea ea'
          subst ea ea'
          obtain ⟨ba', oa', ea, _, _, y2⟩ := HA.out.inAt hsl (Below.refl _ _) (i := 2) (by omega)
          injection ea with ea
          injection ea with ea ea'
          subst ea ea'
          have hp := paid_three f ps m
          rw [HP3.out] at hp
          obtain ⟨z0, hz0⟩ : ∃ z, (setL (oweL f) ps m).getD 0 0 = z := ⟨_, rfl⟩
          obtain ⟨z1, hz1⟩ : ∃ z, (setL (oweL f) ps m).getD 1 0 = z := ⟨_, rfl⟩
          obtain ⟨z2, hz2⟩ : ∃ z, (setL (oweL f) ps m).getD 2 0 = z := ⟨_, rfl⟩
          rw [Nat.add_zero] at y0
          rw [hz0] at y0 hp
          rw [hz1] at y1 hp
          rw [hz2] at y2 hp
          clear hz0 hz1 hz2 hsl HC HC2
          by_cases h0 : 0 ≤ z0
          · have e0 : decide (0 ≤ z0) = true := decide_eq_true h0
            by_cases h1 : 0 ≤ z1
            · have e1 : decide (0 ≤ z1) = true := decide_eq_true h1
              by_cases h2 : 0 ≤ z2
              · have e2 : decide (0 ≤ z2) = true := decide_eq_true h2
                obtain rfl : p3 = true := by rw [hp]; simp [h0, h1, h2]
                clear hp
                go_wp2_with fail
                go_ret
                exact ⟨rfl, by rw [HAA.out]; exact HBA.out.trans (HB4.out.mono HAZ.out)⟩
              · have e2 : decide (0 ≤ z2) = false := decide_eq_false h2
                obtain rfl : p3 = false := by rw [hp]; simp [h2]
                clear hp
                go_wp2_with fail
                go_ret
                exact ⟨rfl, by rw [HAA.out]; exact HBA.out.trans (HB4.out.mono HAZ.out)⟩
            · have e1 : decide (0 ≤ z1) = false := decide_eq_false h1
              obtain rfl : p3 = false := by rw [hp]; simp [h1]
              clear hp
              go_wp2_with fail
              go_ret
              exact ⟨rfl, by rw [HAA.out]; exact HBA.out.trans (HB4.out.mono HAZ.out)⟩
          · have e0 : decide (0 ≤ z0) = false := decide_eq_false h0
            obtain rfl : p3 = false := by rw [hp]; simp [h0]
            clear hp
            go_wp2_with fail
            go_ret
            exact ⟨rfl, by rw [HAA.out]; exact HBA.out.trans (HB4.out.mono HAZ.out)⟩
end Go.Proofs.YtlagoiaiodjmhaaGreatDoor
