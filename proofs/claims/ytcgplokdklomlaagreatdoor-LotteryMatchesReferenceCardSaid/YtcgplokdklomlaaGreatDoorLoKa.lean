/- law 29: the reference's Valid. -/
import Derived.Test.YtcgplokdklomlaaGreatDoorLoK
set_option linter.unusedVariables false
set_option linter.unusedSimpArgs false
namespace Go.Proofs.YtcgplokdklomlaaGreatDoor
open Go.RowKit

theorem vldL_iff {sh ow me : List Int} : vldL sh ow me = true ↔ (1 ≤ sh.length ∧ sh.length ≤ 16) ∧ ow.length ≤ 200 ∧ me.length = ow.length ∧ (∀ j (hj : j < sh.length), 1 ≤ sh[j] ∧ sh[j] ≤ 1000) ∧ (∀ j (hj : j < ow.length), 0 ≤ ow[j] ∧ ow[j] < (sh.length : Int)) ∧ (∀ j (hj : j < me.length), 1 ≤ me[j] ∧ me[j] ≤ 10000) := by
  unfold vldL
  simp only [Bool.and_eq_true, decide_eq_true_eq, inB_iff]
  constructor
  · rintro ⟨h1, h2, h3, h4, h5, h6⟩
    have := h1 (sh.length : Int) (by simp)
    refine ⟨⟨by omega, by omega⟩, h2, h3.symm, fun j hj => h4 _ (List.getElem_mem hj), fun j hj => ?_, fun j hj => h6 _ (List.getElem_mem hj)⟩
    have := h5 _ (List.getElem_mem hj); omega
  · rintro ⟨h1, h2, h3, h4, h5, h6⟩
    refine ⟨fun x hx => ?_, h2, h3.symm, fun x hx => ?_, fun x hx => ?_, fun x hx => ?_⟩
    · simp at hx; omega
    · obtain ⟨j, hj, rfl⟩ := List.mem_iff_getElem.1 hx; exact h4 j hj
    · obtain ⟨j, hj, rfl⟩ := List.mem_iff_getElem.1 hx; have := h5 j hj; omega
    · obtain ⟨j, hj, rfl⟩ := List.mem_iff_getElem.1 hx; exact h6 j hj
set_option maxHeartbeats 8000000 in
set_option maxRecDepth 100000 in
theorem ref29_valid (sh ow me : List Int) (v1 v2 v3 : Value) (w : World) (b : Bool) (hb : vldL sh ow me = b) (h1 : SliceOf vI 1 w v1 sh) (h2 : SliceOf vI 1 w v2 ow) (h3 : SliceOf vI 1 w v3 me) (n1 : sh.length ≤ 1000) (n2 : ow.length ≤ 1000) (n3 : me.length ≤ 1000) :
    Calls Tryz.prog 27 #[v1, v2, v3] w fun e w' => e = .returned (.bool b) ∧ w' = w := by
  have HS1 := hide h1
  have HS2 := hide h2
  have HS3 := hide h3
  obtain ⟨a1, c1, rfl⟩ := h1.shape
  obtain ⟨a2, c2, rfl⟩ := h2.shape
  obtain ⟨a3, c3, rfl⟩ := h3.shape
  have HF : Hid (∀ b', vldL sh ow me = b' → b = b') := fun b' h => hb.symm.trans h
  have HN : Hid ((¬ ((1 ≤ sh.length ∧ sh.length ≤ 16) ∧ ow.length ≤ 200 ∧ me.length = ow.length ∧ (∀ j (hj : j < sh.length), 1 ≤ sh[j] ∧ sh[j] ≤ 1000) ∧ (∀ j (hj : j < ow.length), 0 ≤ ow[j] ∧ ow[j] < (sh.length : Int)) ∧ (∀ j (hj : j < me.length), 1 ≤ me[j] ∧ me[j] ≤ 10000))) → b = false) := fun h => HF.out false (Bool.eq_false_iff.2 (fun e => h (vldL_iff.1 e)))
  clear h1 h2 h3 hb
  by_cases s1 : sh.length < 1
  · have d1 : decide ((sh.length : Int) < 1) = true := decide_eq_true (by omega)
    have d2 : decide (sh.length = 0) = true := decide_eq_true (by omega)
    obtain rfl : b = false := HN.out (fun h => by have := h.1.1; omega)
    have s2 : sh.length = 0 := by omega
    go_enter Tryz.func27, Tryz.ntmps27
    go_wp2_with fail
    go_ret
    exact ⟨rfl, rfl⟩
  have d1 : decide ((sh.length : Int) < 1) = false := decide_eq_false (by omega)
  have d2 : ¬ sh.length = 0 := by omega
  by_cases s2 : 16 < sh.length
  · have d3 : decide ((16 : Int) < (sh.length : Int)) = true := decide_eq_true (by omega)
    obtain rfl : b = false := HN.out (fun h => by have := h.1.2; omega)
    go_enter Tryz.func27, Tryz.ntmps27
    go_wp2_with fail
    go_ret
    exact ⟨rfl, rfl⟩
  have d3 : decide ((16 : Int) < (sh.length : Int)) = false := decide_eq_false (by omega)
  by_cases s3 : 200 < ow.length
  · have d4 : decide ((200 : Int) < (ow.length : Int)) = true := decide_eq_true (by omega)
    obtain rfl : b = false := HN.out (fun h => by have := h.2.1; omega)
    go_enter Tryz.func27, Tryz.ntmps27
    go_wp2_with fail
    go_ret
    exact ⟨rfl, rfl⟩
  have d4 : decide ((200 : Int) < (ow.length : Int)) = false := decide_eq_false (by omega)
  by_cases s4 : me.length ≠ ow.length
  · have d5 : ((me.length : Int) != (ow.length : Int)) = true := by rw [bne_iff_ne]; omega
    have d6 : (me.length != ow.length) = true := by rw [bne_iff_ne]; exact s4
    obtain rfl : b = false := HN.out (fun h => s4 h.2.2.1)
    clear s4
    go_enter Tryz.func27, Tryz.ntmps27
    go_wp2_with fail
    go_ret
    exact ⟨rfl, rfl⟩
  have HML : Hid (me.length = ow.length) := by show me.length = ow.length; exact Decidable.not_not.1 s4
  have d5 : ((me.length : Int) != (ow.length : Int)) = false := by rw [HML.out]; simp
  have d6 : (me.length != ow.length) = false := by rw [HML.out]; simp
  have HY : Hid ((∀ j (hj : j < sh.length), 1 ≤ sh[j] ∧ sh[j] ≤ 1000) → (∀ j (hj : j < ow.length), 0 ≤ ow[j] ∧ ow[j] < (sh.length : Int)) → (∀ j (hj : j < me.length), 1 ≤ me[j] ∧ me[j] ≤ 10000) → b = true) := fun a1 a2 a3 => HF.out true (vldL_iff.2 ⟨⟨by omega, by omega⟩, by omega, HML.out, a1, a2, a3⟩)
  clear s4 HF
  obtain ⟨b1, o1, rfl, _, hcap1, hcm1, hc1⟩ := SliceOf.at_ HS1.out (by omega)
  have g1 : (sh.length : Int) ≤ (c1 : Int) := by omega
  have g2 : (c1 : Int) ≤ 9223372036854775807 := by unfold maxLen at hcm1; omega
  have HC1 : Hid (∀ k (hk : k < sh.length), w.cell? ⟨b1, o1 + k, none⟩ = some (.int .i64 sh[k])) := fun k hk => int_cell hc1 hk
  have g3 : (sh.length : Int) ≤ 1000 := by omega
  have g4 : (ow.length : Int) ≤ 1000 := by omega
  clear hcap1 hcm1 hc1
  go_enter Tryz.func27, Tryz.ntmps27
  go_wp2_with fail
  go_loop [7] (fun i => ∃ k : Nat, k ≤ sh.length ∧ i = .int .i64 (k : Int) ∧ (∀ j (hj : j < sh.length), j < k → 1 ≤ sh[j] ∧ sh[j] ≤ 1000)) (fun i => sh.length - (intOf i).toNat)
  case atStart => exact ⟨0, Nat.zero_le _, rfl, fun j _ h => absurd h (Nat.not_lt_zero _)⟩
  case round =>
    obtain ⟨k, hk, rfl, hall⟩ := hrel
    have HA := hide hall
    clear hall
    by_cases hlt : k < sh.length
    · have hki : (k : Int) < (sh.length : Int) := by omega
      have hk0 : (0 : Int) ≤ (k : Int) := by omega
      have x0 := HC1.out k hlt
      have HNX : Hid (1 ≤ sh[k] ∧ sh[k] ≤ 1000 → ∀ j (hj : j < sh.length), j < k + 1 → 1 ≤ sh[j] ∧ sh[j] ≤ 1000) := fun e j hj h => by
        by_cases e2 : j = k
        · subst e2; exact e
        · exact HA.out j hj (by omega)
      have HBF : Hid (¬ (1 ≤ sh[k] ∧ sh[k] ≤ 1000) → b = false) := fun e => HN.out (fun h => e (h.2.2.2.1 k hlt))
      obtain ⟨x, hx⟩ : ∃ x, sh[k] = x := ⟨_, rfl⟩
      rw [hx] at x0 HNX HBF
      clear hx HA
      by_cases x1 : x < 1
      · have e1 : decide (x < 1) = true := decide_eq_true x1
        obtain rfl : b = false := HBF.out (by omega)
        go_wp2_with fail
        go_ret
        exact ⟨rfl, rfl⟩
      have e1 : decide (x < 1) = false := decide_eq_false x1
      by_cases x2 : 1000 < x
      · have e2 : decide (1000 < x) = true := decide_eq_true x2
        obtain rfl : b = false := HBF.out (by omega)
        go_wp2_with fail
        go_ret
        exact ⟨rfl, rfl⟩
      have e2 : decide (1000 < x) = false := decide_eq_false x2
      have HN2 := hide (HNX.out ⟨by omega, by omega⟩)
      go_wp2_with fail
      go_round
      case rel => exact ⟨k + 1, by omega, by go_num, HN2.out⟩
      case measure => (simp [intOf]; omega)
    · have HAL : Hid (∀ j (hj : j < sh.length), 1 ≤ sh[j] ∧ sh[j] ≤ 1000) := fun j hj => HA.out j hj (by omega)
      clear HA
      go_wp2_with fail
      go_loop [8] (fun i => ∃ k : Nat, k ≤ ow.length ∧ i = .int .i64 (k : Int) ∧ (∀ j (hj : j < ow.length), j < k → 0 ≤ ow[j] ∧ ow[j] < (sh.length : Int)) ∧ (∀ j (hj : j < me.length), j < k → 1 ≤ me[j] ∧ me[j] ≤ 10000)) (fun i => ow.length - (intOf i).toNat)
      case atStart => exact ⟨0, Nat.zero_le _, rfl, fun j _ h => absurd h (Nat.not_lt_zero _), fun j _ h => absurd h (Nat.not_lt_zero _)⟩
      case round =>
        obtain ⟨k, hk, rfl, hall, hall2⟩ := hrel
        have HA := hide hall
        have HA2 := hide hall2
        clear hall hall2
        by_cases hlt : k < ow.length
        · have hki : (k : Int) < (ow.length : Int) := by omega
          have hk0 : (0 : Int) ≤ (k : Int) := by omega
          have hkm : k < me.length := by rw [HML.out]; exact hlt
          have hkmI : (k : Int) < (me.length : Int) := by omega
          obtain ⟨b2, o2, rfl, _, hcap2, hcm2, hc2⟩ := SliceOf.at_ HS2.out (by omega)
          obtain ⟨b3, o3, rfl, _, hcap3, hcm3, hc3⟩ := SliceOf.at_ HS3.out (by omega)
          have g5 : (ow.length : Int) ≤ (c2 : Int) := by omega
          have g6 : (c2 : Int) ≤ 9223372036854775807 := by unfold maxLen at hcm2; omega
          have g7 : (me.length : Int) ≤ (c3 : Int) := by omega
          have g8 : (c3 : Int) ≤ 9223372036854775807 := by unfold maxLen at hcm3; omega
          have x0 := int_cell hc2 hlt
          have y0 := int_cell hc3 hkm
          have HNX : Hid (0 ≤ ow[k] ∧ ow[k] < (sh.length : Int) → ∀ j (hj : j < ow.length), j < k + 1 → 0 ≤ ow[j] ∧ ow[j] < (sh.length : Int)) := fun e j hj h => by
            by_cases e2 : j = k
            · subst e2; exact e
            · exact HA.out j hj (by omega)
          have HNY : Hid (1 ≤ me[k] ∧ me[k] ≤ 10000 → ∀ j (hj : j < me.length), j < k + 1 → 1 ≤ me[j] ∧ me[j] ≤ 10000) := fun e j hj h => by
            by_cases e2 : j = k
            · subst e2; exact e
            · exact HA2.out j hj (by omega)
          have HBF : Hid (¬ (0 ≤ ow[k] ∧ ow[k] < (sh.length : Int)) → b = false) := fun e => HN.out (fun h => e (h.2.2.2.2.1 k hlt))
          have HBG : Hid (¬ (1 ≤ me[k] ∧ me[k] ≤ 10000) → b = false) := fun e => HN.out (fun h => e (h.2.2.2.2.2 k hkm))
          obtain ⟨x, hx⟩ : ∃ x, ow[k] = x := ⟨_, rfl⟩
          obtain ⟨y, hy⟩ : ∃ x, me[k] = x := ⟨_, rfl⟩
          rw [hx] at x0 HNX HBF
          rw [hy] at y0 HNY HBG
          clear hx hy HA HA2 hc2 hc3 hcap2 hcap3 hcm2 hcm3
          by_cases x1 : x < 0
          · have e1 : decide (x < 0) = true := decide_eq_true x1
            obtain rfl : b = false := HBF.out (by omega)
            go_wp2_with fail
            go_ret
            exact ⟨rfl, rfl⟩
          have e1 : decide (x < 0) = false := decide_eq_false x1
          by_cases x2 : (sh.length : Int) ≤ x
          · have e2 : decide ((sh.length : Int) ≤ x) = true := decide_eq_true x2
            obtain rfl : b = false := HBF.out (by omega)
            go_wp2_with fail
            go_ret
            exact ⟨rfl, rfl⟩
          have e2 : decide ((sh.length : Int) ≤ x) = false := decide_eq_false x2
          by_cases y1 : y < 1
          · have e3 : decide (y < 1) = true := decide_eq_true y1
            obtain rfl : b = false := HBG.out (by omega)
            go_wp2_with fail
            go_ret
            exact ⟨rfl, rfl⟩
          have e3 : decide (y < 1) = false := decide_eq_false y1
          by_cases y2 : 10000 < y
          · have e4 : decide (10000 < y) = true := decide_eq_true y2
            obtain rfl : b = false := HBG.out (by omega)
            go_wp2_with fail
            go_ret
            exact ⟨rfl, rfl⟩
          have e4 : decide (10000 < y) = false := decide_eq_false y2
          have HN2 := hide (HNX.out ⟨by omega, by omega⟩)
          have HN3 := hide (HNY.out ⟨by omega, by omega⟩)
          go_wp2_with fail
          go_round
          case rel => exact ⟨k + 1, by omega, by go_num, HN2.out, HN3.out⟩
          case measure => (simp [intOf]; omega)
        · obtain rfl : b = true := HY.out HAL.out (fun j hj => HA.out j hj (by omega)) (fun j hj => HA2.out j hj (by rw [HML.out] at hj; omega))
          clear HA HA2
          go_wp2_with fail
          go_ret
          exact ⟨rfl, rfl⟩
end Go.Proofs.YtcgplokdklomlaaGreatDoor
