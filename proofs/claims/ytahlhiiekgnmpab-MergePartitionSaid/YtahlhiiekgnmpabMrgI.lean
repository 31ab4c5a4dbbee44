/- Reference 38: Same. -/
import Derived.Test.YtahlhiiekgnmpabMrgH
set_option linter.unusedVariables false
set_option linter.unusedSimpArgs false
namespace Go.Proofs.Ytahlhiiekgnmpab
open Go.RowKit

theorem ref38_same_len (ao bo : Option Addr) (n m c d : Nat) (w : World) (h : n ≠ m) :
    Calls Try.prog 28 #[.slice ao n c, .slice bo m d] w fun e w' => e = .returned (.bool false) ∧ w = w' := by
  have h' : ((n : Int) == (m : Int)) = false := beq_eq_false_iff_ne.2 (by omega)
  have h'' : ((n : Int) != (m : Int)) = true := by rw [bne_iff_ne]; omega
  go_enter Try.func28, Try.ntmps28
  go_wp2_with fail
  go_ret
  exact ⟨rfl, rfl⟩
theorem take_eq_snoc {α : Type} {l m : List α} {k : Nat} (h : l.take k = m.take k) (hl : k < l.length) (hm : k < m.length) (e : l[k] = m[k]) : l.take (k + 1) = m.take (k + 1) := by
  rw [List.take_succ_eq_append_getElem hl, List.take_succ_eq_append_getElem hm, h, e]

set_option maxHeartbeats 2000000 in
set_option maxRecDepth 100000 in
theorem ref38_same (M M' : List (List Int)) (v u : Value) (w : World) (h : SliceSS vI 1 w v M) (h' : SliceSS vI 1 w u M') :
    Calls Try.prog 28 #[v, u] w fun e w' => e = .returned (.bool (decide (M = M'))) ∧ ∃ n, w' = w.drewN n := by
  obtain ⟨ao, cp, rfl⟩ := h.shape
  obtain ⟨bo, cq, rfl⟩ := h'.shape
  by_cases hl : M.length = M'.length
  · have HC := hide h.at_
    have HC' := hide h'.at_
    have HL := hide hl
    rw [← hl]
    have HM : Hid (0 < M.length → (M.length : Int) ≤ 9223372036854775807) := fun h0 => by
      obtain ⟨_, _, _, h1, h2, _⟩ := h.at_ h0
      unfold maxLen at h2; omega
    clear h h' hl
    have he : ((M.length : Int) == (M.length : Int)) = true := by simp
    go_enter Try.func28, Try.ntmps28
    go_wp2_with fail
    go_loopw [5] (fun i wr => ∃ k n : Nat, k ≤ M.length ∧ i = .int .i64 k ∧ M.take k = M'.take k ∧ wr = w.drewN n) (fun i _ => M.length - (intOf i).toNat)
    case atStart => exact ⟨0, 0, Nat.zero_le _, rfl, rfl, rfl⟩
    case round =>
      obtain ⟨k, n, hk, rfl, hall, rfl⟩ := hrel
      have Hall := hide hall
      clear hall
      by_cases hlt : k < M.length
      · have hlt' : k < M'.length := by have := HL.out; omega
        obtain ⟨b, off, rfl, _, _, hr⟩ := HC.out (by omega)
        obtain ⟨b', off', rfl, _, _, hr'⟩ := HC'.out (by omega)
        obtain ⟨r, c1, hs⟩ := hr k hlt
        obtain ⟨r', c1', hs'⟩ := hr' k hlt'
        have hmI := HM.out (by omega)
        have hki : (k : Int) < (M.length : Int) := by omega
        have hk0 : (0 : Int) ≤ (k : Int) := by omega
        have HTS : Hid (M[k] = M'[k] → M.take (k + 1) = M'.take (k + 1)) := fun e => take_eq_snoc Hall.out hlt hlt' e
        have HNE : Hid (M[k] ≠ M'[k] → decide (M = M') = false) := fun hn => decide_eq_false (fun e => hn (by subst e; rfl))
        clear hr hr' HC HC'
        obtain ⟨a, ha⟩ : ∃ a, M[k] = a := ⟨_, rfl⟩
        obtain ⟨a', ha'⟩ : ∃ a, M'[k] = a := ⟨_, rfl⟩
        rw [ha] at hs HTS HNE
        rw [ha'] at hs' HTS HNE
        clear ha ha'
        obtain ⟨ro, rc, rfl⟩ := hs.shape
        obtain ⟨ro', rc', rfl⟩ := hs'.shape
        by_cases hle : a.length = a'.length
        · have HS := hide hs.at_
          have HS' := hide hs'.at_
          have HLE := hide hle
          rw [← hle] at c1'
          have HAM : Hid (0 < a.length → (a.length : Int) ≤ 9223372036854775807) := fun h0 => by
            obtain ⟨_, _, _, _, h1, h2, _⟩ := hs.at_ h0
            unfold maxLen at h2; omega
          clear hs hs' hle
          have he1 : ((a.length : Int) != (a.length : Int)) = false := by simp
          have he2 : ((a.length : Int) == (a.length : Int)) = true := by simp
          go_wp2_with fail
          go_quiet (fail)
          go_wp2_with fail
          go_loopw [6] (fun i wr => ∃ j n : Nat, j ≤ a.length ∧ i = .int .i64 j ∧ a.take j = a'.take j ∧ wr = w.drewN n) (fun i _ => a.length - (intOf i).toNat)
          case atStart => exact ⟨0, _, Nat.zero_le _, rfl, rfl, by first | rfl | exact World.drewN_drewN _ _ _⟩
          case round =>
            obtain ⟨j, n2, hj, rfl, hal2, rfl⟩ := hrel
            have Hal2 := hide hal2
            clear hal2
            by_cases hjl : j < a.length
            · have hjl' : j < a'.length := by have := HLE.out; omega
              obtain ⟨g, o1, rfl, _, _, _, hc⟩ := HS.out (by omega)
              obtain ⟨g', o1', rfl, _, _, _, hc'⟩ := HS'.out (by omega)
              have d1 := int_cell hc hjl
              have d1' := int_cell hc' hjl'
              have haI := HAM.out (by omega)
              have hji : (j : Int) < (a.length : Int) := by omega
              have hj0 : (0 : Int) ≤ (j : Int) := by omega
              clear hc hc'
              by_cases hee : a[j] = a'[j]
              · have he3 : (a[j] != a'[j]) = false := by simp [hee]
                have HT := hide (take_eq_snoc Hal2.out hjl hjl' hee)
                clear hee
                go_wp2_with fail
                go_quiet (fail)
                go_wp2_with fail
                go_roundw
                case rel => exact ⟨j + 1, _, by omega, by go_num, HT.out, by first | rfl | exact World.drewN_drewN _ _ _⟩
                case measure => simp [intOf]; omega
              · have he3 : (a[j] != a'[j]) = true := by rw [bne_iff_ne]; exact hee
                have hne : a ≠ a' := fun e => hee (by subst e; rfl)
                have HF := hide (HNE.out hne)
                clear hee hne
                go_wp2_with fail
                go_quiet (fail)
                go_wp2_with fail
                go_ret
                exact ⟨ret_bool HF.out.symm, _, World.drewN_drewN _ _ _⟩
            · have hj' : j = a.length := by omega
              have hall : a = a' := by
                have h2 := Hal2.out
                have h3 := HLE.out
                rw [hj', List.take_length, h3, List.take_length] at h2
                exact h2
              have HT := hide (HTS.out hall)
              clear hall
              subst hj'
              go_wp2_with fail
              go_roundw
              case rel => exact ⟨k + 1, _, by omega, by go_num, HT.out, rfl⟩
              case measure => simp [intOf]; omega
        · have hne : a ≠ a' := fun e => hle (by rw [e])
          have HF := hide (HNE.out hne)
          have he1 : ((a.length : Int) != (a'.length : Int)) = true := by rw [bne_iff_ne]; omega
          have he2 : ((a.length : Int) == (a'.length : Int)) = false := beq_eq_false_iff_ne.2 (by omega)
          clear hne hs hs' hle
          go_wp2_with fail
          go_quiet (fail)
          go_wp2_with fail
          go_ret
          exact ⟨ret_bool HF.out.symm, _, World.drewN_drewN _ _ _⟩
      · have Hs : Hid (decide (M = M') = true) := by
          have h2 := Hall.out
          have h3 := HL.out
          have h4 : k = M.length := by omega
          rw [h4, List.take_length, h3, List.take_length] at h2
          simp [Hid, h2]
        go_wp2_with fail
        go_ret
        exact ⟨ret_bool Hs.out.symm, _, rfl⟩
  · refine (ref38_same_len ao bo _ _ cp cq w hl).mono fun e w' ⟨he, hw⟩ => ⟨by rw [he]; refine ret_bool (decide_eq_false ?_).symm; intro e; exact hl (by rw [e]), 0, hw.symm⟩
end Go.Proofs.Ytahlhiiekgnmpab
