/- debt: Paid. -/
import Derived.Test.YtlagoiaiodjmhaaGreatDoorDeF
set_option linter.unusedVariables false
set_option linter.unusedSimpArgs false
namespace Go.Proofs.YtlagoiaiodjmhaaGreatDoor
open Go.RowKit Go.Maps

def paidA (f : Fr) (ps : List Py) (m : Int) : Bool := (setL (oweL f) ps m).all fun x => decide (0 ≤ x)
def paidB (f : Fr) (ps : List Py) (m : Int) : Bool := oweB f && (vlD (oweL f) ps m && paidA f ps m)
def paidE (f : Fr) (ps : List Py) (m : Int) : Int := if oweB f = true ∧ vlD (oweL f) ps m = true then 0 else 1
set_option maxHeartbeats 8000000 in
set_option maxRecDepth 100000 in
theorem de_paid (f : Fr) (ps : List Py) (m : Int) (v2 : Value) (w : World) (h2 : SliceOf vPy 4 w v2 ps) : Calls Tryz.prog 15 #[vFr f, v2, .int .i64 m] w fun e w' =>
    e = .returned (.tuple #[.bool (paidB f ps m), .int .i64 (paidE f ps m)]) ∧ Below w.heap.size w w' := by
  have HBA := hide (bAlloc (Below.refl w.heap.size w) (.cells #[.int .i64 f.mo, .int .i64 f.tl, .int .i64 f.pr, .int .i64 f.ti, .int .i64 f.fl, .int .i64 f.r0, .int .i64 f.r1, .int .i64 f.r2, .int .i64 f.r3] 25))
  have HST := hide (fun u W (hu : SliceOf vDb 6 W u (oweL f)) (hW : Below w.heap.size w W) => de_settle (oweL f) ps m u v2 W hu (h2.below hW))
  obtain ⟨a2, c2, rfl⟩ := h2.shape
  obtain ⟨p1, hp1⟩ : ∃ p, oweB f = p := ⟨_, rfl⟩
  have HOW := hide (fun W => de_owe f W p1 hp1)
  have HE1 : Hid (paidB f ps m = (p1 && (vlD (oweL f) ps m && paidA f ps m))) := by show _ = _; unfold paidB; rw [hp1]
  have HE2 : Hid (paidE f ps m = if p1 = true ∧ vlD (oweL f) ps m = true then 0 else 1) := by show _ = _; unfold paidE; rw [hp1]
  rw [HE1.out, HE2.out]
  unfold vFr
  unfold vFr at HOW
  clear hp1 h2
  cases p1 with
  | false =>
    rw [Bool.false_and, if_neg (fun h => by cases h.1)]
    have HO : Hid (oweE false = 1) := rfl
    rw [HO.out] at HOW
    go_enter Tryz.func15, Tryz.ntmps15
    go_wp2_with fail
    refine (HOW.out _).mono ?_
    rintro e w1 ⟨u, rfl, -, hb⟩
    have HB := hide (bStepD HBA.out hb)
    clear hb
    go_wp2_with fail
    go_ret2
    exact ⟨rfl, HB.out⟩
  | true =>
    have HO : Hid (oweE true = 0) := rfl
    have HR : Hid (oweR f true = oweL f) := rfl
    rw [HO.out, HR.out] at HOW
    rw [Bool.true_and]
    obtain ⟨p2, hp2⟩ : ∃ p, vlD (oweL f) ps m = p := ⟨_, rfl⟩
    have HSE : Hid (stE (oweL f) ps m = cond p2 0 1) := by show _ = _; unfold stE; rw [hp2]; cases p2 <;> rfl
    have HSS : Hid (p2 = true → stL (oweL f) ps m = setL (oweL f) ps m) := fun e => by unfold stL; rw [hp2, if_pos e]
    rw [HSE.out] at HST
    rw [hp2]
    clear hp2 HO HR HSE
    cases p2 with
    | false =>
      rw [Bool.false_and, if_neg (fun h => by cases h.2)]
      have HC : Hid (cond false (0 : Int) 1 = 1) := rfl
      rw [HC.out] at HST
      go_enter Tryz.func15, Tryz.ntmps15
      go_wp2_with fail
      refine (HOW.out _).mono ?_
      rintro e w1 ⟨u, rfl, hs, hb⟩
      have HB := hide (bStepD HBA.out hb)
      have HS := hide hs
      clear hb hs
      go_wp2_with fail
      refine (HST.out u w1 HS.out HB.out).mono ?_
      rintro e w2 ⟨u2, rfl, -, hb⟩
      have HB2 := hide (bStepD HB.out hb)
      clear hb
      go_wp2_with fail
      go_ret2
      exact ⟨rfl, HB2.out⟩
    | true =>
      rw [Bool.true_and, if_pos ⟨rfl, rfl⟩]
      have HC : Hid (cond true (0 : Int) 1 = 0) := rfl
      rw [HC.out, HSS.out rfl] at HST
      clear HSS
      have HLN : Hid ((setL (oweL f) ps m).length = 3) := by show _ = _; rw [setL_len]; rfl
      obtain ⟨S, hS⟩ : ∃ S, setL (oweL f) ps m = S := ⟨_, rfl⟩
      have HPA : Hid (paidA f ps m = S.all fun x => decide (0 ≤ x)) := by show _ = _; unfold paidA; rw [hS]
      rw [hS] at HST HLN
      rw [HPA.out]
      obtain ⟨B, hB⟩ : ∃ B, (S.all fun x => decide (0 ≤ x)) = B := ⟨_, rfl⟩
      rw [hB]
      have HBB := hide hB
      clear hS hB HPA
      go_enter Tryz.func15, Tryz.ntmps15
      go_wp2_with fail
      refine (HOW.out _).mono ?_
      rintro e w1 ⟨u, rfl, hs, hb⟩
      have HB := hide (bStepD HBA.out hb)
      have HS := hide hs
      clear hb hs
      go_wp2_with fail
      refine (HST.out u w1 HS.out HB.out).mono ?_
      rintro e w2 ⟨u2, rfl, hs, hb⟩
      have HB2 := hide (bStepD HB.out hb)
      have HS2 := hide hs
      obtain ⟨so, sc, rfl⟩ : ∃ so sc, u2 = .slice so S.length sc := hs.shape
      clear hb hs
      obtain ⟨bs, os, rfl, _, hcap, hcm, hc⟩ := SliceOf.at_ HS2.out (by have := HLN.out; omega)
      have g1 : (S.length : Int) ≤ (sc : Int) := by omega
      have g2 : (sc : Int) ≤ 9223372036854775807 := by unfold maxLen at hcm; omega
      have g3 : (S.length : Int) ≤ 3 := by have := HLN.out; omega
      have HCC : Hid (∀ k (hk : k < S.length), w2.cell? ⟨bs, os + k, none⟩ = some (.int .i64 S[k])) := fun k hk => int_cell hc hk
      clear hc hcap hcm
      go_wp2_with fail
      go_loop [33] (fun i => ∃ k : Nat, k ≤ S.length ∧ i = .int .i64 (k : Int) ∧ ∀ j (h : j < S.length), j < k → 0 ≤ S[j]) (fun i => S.length - (intOf i).toNat)
      case atStart => exact ⟨0, Nat.zero_le _, rfl, fun j _ h => absurd h (Nat.not_lt_zero _)⟩
      case round =>
        obtain ⟨k, hk, rfl, hall⟩ := hrel
        have HA := hide hall
        clear hall
        by_cases hlt : k < S.length
        · have hki : (k : Int) < (S.length : Int) := by omega
          have hk0 : (0 : Int) ≤ (k : Int) := by omega
          have x0 := HCC.out k hlt
          have HNX : Hid (0 ≤ S[k] → ∀ j (h : j < S.length), j < k + 1 → 0 ≤ S[j]) := fun e j h hj => by
            by_cases e2 : j = k
            · subst e2; exact e
            · exact HA.out j h (by omega)
          have HBD : Hid (S[k] < 0 → (S.all fun x => decide (0 ≤ x)) = false) := fun e => by
            rw [List.all_eq_false]
            exact ⟨S[k], List.getElem_mem hlt, by simp; omega⟩
          obtain ⟨x, hx⟩ : ∃ x, S[k] = x := ⟨_, rfl⟩
          rw [hx] at x0 HNX HBD
          clear hx HA
          by_cases hn : x < 0
          · have e1 : decide (x < 0) = true := decide_eq_true hn
            obtain rfl : B = false := HBB.out.symm.trans (HBD.out hn)
            go_wp2_with fail
            go_ret2
            exact ⟨rfl, HB2.out⟩
          · have e1 : decide (x < 0) = false := decide_eq_false hn
            have HN2 := hide (HNX.out (by omega))
            go_wp2_with fail
            go_round
            case rel => exact ⟨k + 1, by omega, by go_num, HN2.out⟩
            case measure => (simp [intOf]; omega)
        · have HT : Hid ((S.all fun x => decide (0 ≤ x)) = true) := by
            show _ = _
            rw [List.all_eq_true]
            intro x hx
            obtain ⟨j, hj, rfl⟩ := List.mem_iff_getElem.1 hx
            exact decide_eq_true (HA.out j hj (by omega))
          obtain rfl : B = true := HBB.out.symm.trans HT.out
          clear HA
          go_wp2_with fail
          go_ret2
          exact ⟨rfl, HB2.out⟩
end Go.Proofs.YtlagoiaiodjmhaaGreatDoor
