/- debt: valid. -/
import Derived.Test.YtlagoiaiodjmhaaGreatDoorDeA
set_option linter.unusedVariables false
set_option linter.unusedSimpArgs false
namespace Go.Proofs.YtlagoiaiodjmhaaGreatDoor
open Go.RowKit

theorem vlD_iff {l : List Db} {ps : List Py} {m : Int} : vlD l ps m = true ↔ l.length ≤ 1000 ∧ ps.length ≤ 1000 ∧ (0 ≤ m ∧ m ≤ 38399) ∧ (∀ i (h : i < l.length), dbB l[i] = true) ∧ (∀ i (h : i < ps.length), pyB ps[i] = true) := by
  unfold vlD
  simp only [Bool.and_eq_true, decide_eq_true_eq, List.all_eq_true]
  constructor
  · rintro ⟨⟨⟨⟨h1, h2⟩, h3⟩, h4⟩, h5⟩
    exact ⟨h1, h2, h3, fun i h => h4 _ (List.getElem_mem h), fun i h => h5 _ (List.getElem_mem h)⟩
  · rintro ⟨h1, h2, h3, h4, h5⟩
    refine ⟨⟨⟨⟨h1, h2⟩, h3⟩, fun x hx => ?_⟩, fun x hx => ?_⟩
    · obtain ⟨j, hj, rfl⟩ := List.mem_iff_getElem.1 hx; exact h4 j hj
    · obtain ⟨j, hj, rfl⟩ := List.mem_iff_getElem.1 hx; exact h5 j hj
set_option maxHeartbeats 8000000 in
set_option maxRecDepth 100000 in
theorem de_valid (l : List Db) (ps : List Py) (m : Int) (v1 v2 : Value) (w : World) (b : Bool) (hb : vlD l ps m = b) (h1 : SliceOf vDb 6 w v1 l) (h2 : SliceOf vPy 4 w v2 ps) :
    Calls Tryz.prog 32 #[v1, v2, .int .i64 m] w fun e w' => e = .returned (.bool b) ∧ Below w.heap.size w w' := by
  have HS1 := hide h1
  have HS2 := hide h2
  have HW := hide (fun n lo hi W => de_within n lo hi W)
  have HCL := hide (fun k t f W => de_cls k t f W)
  obtain ⟨a1, c1, rfl⟩ := h1.shape
  obtain ⟨a2, c2, rfl⟩ := h2.shape
  have HF : Hid (∀ b', vlD l ps m = b' → b = b') := fun b' h => hb.symm.trans h
  have HN : Hid ((¬ (l.length ≤ 1000 ∧ ps.length ≤ 1000 ∧ (0 ≤ m ∧ m ≤ 38399) ∧ (∀ i (h : i < l.length), dbB l[i] = true) ∧ (∀ i (h : i < ps.length), pyB ps[i] = true))) → b = false) := fun h => HF.out false (Bool.eq_false_iff.2 (fun e => h (vlD_iff.1 e)))
  clear h1 h2 hb
  by_cases s1 : 1000 < l.length
  · have d1 : decide ((1000 : Int) < (l.length : Int)) = true := decide_eq_true (by omega)
    obtain rfl : b = false := HN.out (fun h => by have := h.1; omega)
    go_enter Tryz.func32, Tryz.ntmps32
    go_wp2_with fail
    go_ret
    exact ⟨rfl, Below.refl _ _⟩
  have d1 : decide ((1000 : Int) < (l.length : Int)) = false := decide_eq_false (by omega)
  by_cases s2 : 1000 < ps.length
  · have d2 : decide ((1000 : Int) < (ps.length : Int)) = true := decide_eq_true (by omega)
    obtain rfl : b = false := HN.out (fun h => by have := h.2.1; omega)
    go_enter Tryz.func32, Tryz.ntmps32
    go_wp2_with fail
    go_ret
    exact ⟨rfl, Below.refl _ _⟩
  have d2 : decide ((1000 : Int) < (ps.length : Int)) = false := decide_eq_false (by omega)
  obtain ⟨q, hq⟩ : ∃ q, (decide ((0 : Int) ≤ m) && decide (m ≤ 38399)) = q := ⟨_, rfl⟩
  have HQ := hide hq
  clear hq
  cases q with
  | false =>
    obtain rfl : b = false := HN.out (fun h => by have := HQ.out; rw [decide_eq_true h.2.2.1.1, decide_eq_true h.2.2.1.2] at this; cases this)
    go_enter Tryz.func32, Tryz.ntmps32
    go_wp2_with fail
    refine (HW.out _ _ _ _).mono ?_
    rintro e w1 ⟨rfl, rfl⟩
    have hq := HQ.out
    rw [hq]
    go_wp2_with fail
    go_ret
    exact ⟨rfl, Below.refl _ _⟩
  | true =>
    have HM : Hid (0 ≤ m ∧ m ≤ 38399) := by show 0 ≤ m ∧ m ≤ 38399; have := HQ.out; simpa using this
    have HY : Hid ((∀ i (h : i < l.length), dbB l[i] = true) → (∀ i (h : i < ps.length), pyB ps[i] = true) → b = true) := fun h1 h2 => HF.out true (vlD_iff.2 ⟨by omega, by omega, HM.out, h1, h2⟩)
    have HDN : Hid (∀ i (h : i < l.length), dbB l[i] = false → b = false) := fun i h e => HN.out (fun h' => by rw [h'.2.2.2.1 i h] at e; cases e)
    have HPN : Hid (∀ i (h : i < ps.length), pyB ps[i] = false → b = false) := fun i h e => HN.out (fun h' => by rw [h'.2.2.2.2 i h] at e; cases e)
    have hlI : (l.length : Int) ≤ 1000 := by omega
    have hpI : (ps.length : Int) ≤ 1000 := by omega
    clear HF HN HM
    go_enter Tryz.func32, Tryz.ntmps32
    go_wp2_with fail
    refine (HW.out _ _ _ _).mono ?_
    rintro e w1 ⟨rfl, rfl⟩
    have hq := HQ.out
    rw [hq]
    clear hq
    go_wp2_with fail
    go_loopw [26] (fun i wx => ∃ k : Nat, k ≤ l.length ∧ i = .int .i64 (k : Int) ∧ (∀ j (h : j < l.length), j < k → dbB l[j] = true) ∧ Below w1.heap.size w1 wx) (fun i _ => l.length - (intOf i).toNat)
    case atStart => exact ⟨0, Nat.zero_le _, rfl, fun j _ h => absurd h (Nat.not_lt_zero _), Below.refl _ _⟩
    case round =>
      obtain ⟨k, hk, rfl, hall, hbl⟩ := hrel
      have HA := hide hall
      have HB := hide hbl
      clear hall hbl
      by_cases hlt : k < l.length
      · have hki : (k : Int) < (l.length : Int) := by omega
        have hk0 : (0 : Int) ≤ (k : Int) := by omega
        obtain ⟨b1, o1, rfl, _, hcap, hcm, hc⟩ := SliceOf.at_ (HS1.out.below HB.out) (by omega)
        have g1 : (l.length : Int) ≤ (c1 : Int) := by omega
        have g2 : (c1 : Int) ≤ 9223372036854775807 := by unfold maxLen at hcm; omega
        obtain ⟨x0, x1, x2, x3, x4, x5⟩ := db_cells hc hlt
        have HNX : Hid (dbB l[k] = true → ∀ j (h : j < l.length), j < k + 1 → dbB l[j] = true) := fun e j h hj => by
          by_cases e2 : j = k
          · subst e2; exact e
          · exact HA.out j h (by omega)
        have HDK := hide (HDN.out k hlt)
        obtain ⟨d, hd⟩ : ∃ d, l[k] = d := ⟨_, rfl⟩
        rw [hd] at x0 x1 x2 x3 x4 x5 HNX HDK
        clear hd hc hcap hcm HA
        go_wp2_with fail
        have HBA := hide (bAlloc (Below.refl wr.heap.size wr) (.cells #[.int .i64 d.kd, .int .i64 d.tl, .int .i64 d.fl, .int .i64 d.fr, .int .i64 d.un, .int .i64 d.pr] 47))
        have HDC := hide (DbC.new wr d 47)
        have HB2 := hide (bStepD HB.out HBA.out)
        obtain ⟨A, hA⟩ : ∃ A, wr.heap.size = A := ⟨_, rfl⟩
        obtain ⟨wa, hwa⟩ : ∃ W, wr.alloc (.cells #[.int .i64 d.kd, .int .i64 d.tl, .int .i64 d.fl, .int .i64 d.fr, .int .i64 d.un, .int .i64 d.pr] 47) = W := ⟨_, rfl⟩
        rw [hwa] at HDC HB2 HBA ⊢
        rw [hA] at HDC ⊢
        clear hwa hA x0 x1 x2 x3 x4 x5 HBA
        refine (HCL.out _ _ _ _).mono ?_
        rintro e w3 ⟨rfl, hb⟩
        have HDC3 := hide (HDC.out.keep hb)
        have HB3 := hide (bStepD HB2.out hb)
        clear hb HDC HB2
        obtain ⟨p1, hp1⟩ : ∃ p, clsB d.kd d.tl d.fl = p := ⟨_, rfl⟩
        rw [hp1]
        obtain ⟨x0, x1, x2, x3, x4, x5⟩ := HDC3.out
        simp only [Nat.zero_add] at x1 x2 x3 x4 x5
        cases p1 with
        | false =>
          obtain rfl : b = false := HDK.out (by unfold dbB; rw [hp1]; rfl)
          clear hp1
          go_wp2_with fail
          go_ret
          exact ⟨rfl, HB3.out⟩
        | true =>
          have HP1 := hide hp1
          clear hp1
          go_wp2_with fail
          refine (HW.out _ _ _ _).mono ?_
          rintro e w4 ⟨rfl, rfl⟩
          obtain ⟨p2, hp2⟩ : ∃ p, (decide ((0 : Int) ≤ d.pr) && decide (d.pr ≤ 63)) = p := ⟨_, rfl⟩
          rw [hp2]
          have HP2 := hide hp2
          clear hp2
          cases p2 with
          | false =>
            obtain rfl : b = false := HDK.out (by unfold dbB; rw [HP1.out, HP2.out]; rfl)
            go_wp2_with fail
            go_ret
            exact ⟨rfl, HB3.out⟩
          | true =>
            by_cases f1 : d.fr < -1000
            · have e1 : decide (d.fr < -1000) = true := decide_eq_true f1
              obtain rfl : b = false := HDK.out (by unfold dbB; rw [HP1.out, HP2.out, decide_eq_false (show ¬ (-1000 ≤ d.fr) by omega)]; rfl)
              go_wp2_with fail
              go_ret
              exact ⟨rfl, HB3.out⟩
            have e1 : decide (d.fr < -1000) = false := decide_eq_false f1
            by_cases f2 : 39399 < d.un
            · have e2 : decide (39399 < d.un) = true := decide_eq_true f2
              obtain rfl : b = false := HDK.out (by unfold dbB; rw [HP1.out, HP2.out, decide_eq_false (show ¬ (d.un ≤ 39399) by omega), Bool.and_false, Bool.false_and])
              go_wp2_with fail
              go_ret
              exact ⟨rfl, HB3.out⟩
            have e2 : decide (39399 < d.un) = false := decide_eq_false f2
            by_cases f3 : d.un < d.fr
            · have e3 : decide (d.un < d.fr) = true := decide_eq_true f3
              obtain rfl : b = false := HDK.out (by unfold dbB; rw [decide_eq_false (show ¬ (d.fr ≤ d.un) by omega), Bool.and_false])
              go_wp2_with fail
              go_ret
              exact ⟨rfl, HB3.out⟩
            have e3 : decide (d.un < d.fr) = false := decide_eq_false f3
            have HN2 := hide (HNX.out (by unfold dbB; rw [HP1.out, HP2.out, decide_eq_true (show -1000 ≤ d.fr by omega), decide_eq_true (show d.un ≤ 39399 by omega), decide_eq_true (show d.fr ≤ d.un by omega)]; rfl))
            go_wp2_with fail
            go_roundw
            case rel => exact ⟨k + 1, by omega, by go_num, HN2.out, HB3.out⟩
            case measure => (simp [intOf]; omega)
      · have HAL : Hid (∀ j (h : j < l.length), dbB l[j] = true) := fun j h => HA.out j h (by omega)
        have HY2 := hide (HY.out HAL.out)
        clear HA HAL HY HDN
        go_wp2_with fail
        go_loopw [65] (fun i wx => ∃ k : Nat, k ≤ ps.length ∧ i = .int .i64 (k : Int) ∧ (∀ j (h : j < ps.length), j < k → pyB ps[j] = true) ∧ Below w1.heap.size w1 wx) (fun i _ => ps.length - (intOf i).toNat)
        case atStart => exact ⟨0, Nat.zero_le _, rfl, fun j _ h => absurd h (Nat.not_lt_zero _), HB.out⟩
        case round =>
          obtain ⟨k, hk, rfl, hall, hbl⟩ := hrel
          have HA := hide hall
          have HB := hide hbl
          clear hall hbl
          by_cases hlt : k < ps.length
          · have hki : (k : Int) < (ps.length : Int) := by omega
            have hk0 : (0 : Int) ≤ (k : Int) := by omega
            obtain ⟨b2, o2, rfl, _, hcap, hcm, hc⟩ := SliceOf.at_ (HS2.out.below HB.out) (by omega)
            have g1 : (ps.length : Int) ≤ (c2 : Int) := by omega
            have g2 : (c2 : Int) ≤ 9223372036854775807 := by unfold maxLen at hcm; omega
            obtain ⟨x0, x1, x2, x3⟩ := py_cells hc hlt
            have HNX : Hid (pyB ps[k] = true → ∀ j (h : j < ps.length), j < k + 1 → pyB ps[j] = true) := fun e j h hj => by
              by_cases e2 : j = k
              · subst e2; exact e
              · exact HA.out j h (by omega)
            have HDK := hide (HPN.out k hlt)
            obtain ⟨d, hd⟩ : ∃ d, ps[k] = d := ⟨_, rfl⟩
            rw [hd] at x0 x1 x2 x3 HNX HDK
            clear hd hc hcap hcm HA
            go_wp2_with fail
            have HBA := hide (bAlloc (Below.refl wr.heap.size wr) (.cells #[.int .i64 d.kd, .int .i64 d.tl, .int .i64 d.fl, .int .i64 d.mo] 49))
            have HDC := hide (PyC.new wr d 49)
            have HB2 := hide (bStepD HB.out HBA.out)
            obtain ⟨A, hA⟩ : ∃ A, wr.heap.size = A := ⟨_, rfl⟩
            obtain ⟨wa, hwa⟩ : ∃ W, wr.alloc (.cells #[.int .i64 d.kd, .int .i64 d.tl, .int .i64 d.fl, .int .i64 d.mo] 49) = W := ⟨_, rfl⟩
            rw [hwa] at HDC HB2 HBA ⊢
            rw [hA] at HDC ⊢
            clear hwa hA x0 x1 x2 x3 HBA
            refine (HCL.out _ _ _ _).mono ?_
            rintro e w3 ⟨rfl, hb⟩
            have HDC3 := hide (HDC.out.keep hb)
            have HB3 := hide (bStepD HB2.out hb)
            clear hb HDC HB2
            obtain ⟨p1, hp1⟩ : ∃ p, clsB d.kd d.tl d.fl = p := ⟨_, rfl⟩
            rw [hp1]
            obtain ⟨x0, x1, x2, x3⟩ := HDC3.out
            simp only [Nat.zero_add] at x1 x2 x3
            cases p1 with
            | false =>
              obtain rfl : b = false := HDK.out (by unfold pyB; rw [hp1]; rfl)
              clear hp1
              go_wp2_with fail
              go_ret
              exact ⟨rfl, HB3.out⟩
            | true =>
              have HP1 := hide hp1
              clear hp1
              go_wp2_with fail
              refine (HW.out _ _ _ _).mono ?_
              rintro e w4 ⟨rfl, rfl⟩
              obtain ⟨p2, hp2⟩ : ∃ p, (decide ((0 : Int) ≤ d.mo) && decide (d.mo ≤ 38399)) = p := ⟨_, rfl⟩
              rw [hp2]
              have HP2 := hide hp2
              clear hp2
              cases p2 with
              | false =>
                obtain rfl : b = false := HDK.out (by unfold pyB; rw [HP1.out, HP2.out]; rfl)
                go_wp2_with fail
                go_ret
                exact ⟨rfl, HB3.out⟩
              | true =>
                have HN2 := hide (HNX.out (by unfold pyB; rw [HP1.out, HP2.out]; rfl))
                go_wp2_with fail
                go_roundw
                case rel => exact ⟨k + 1, by omega, by go_num, HN2.out, HB3.out⟩
                case measure => (simp [intOf]; omega)
          · obtain rfl : b = true := HY2.out (fun j h => HA.out j h (by omega))
            clear HA HY2
            go_wp2_with fail
            go_ret
            exact ⟨rfl, HB.out⟩
end Go.Proofs.YtlagoiaiodjmhaaGreatDoor
