/- law 29: the reference's Partners and Tickets. -/
import Derived.Test.YtcgplokdklomlaaGreatDoorLoKa
set_option linter.unusedVariables false
set_option linter.unusedSimpArgs false
namespace Go.Proofs.YtcgplokdklomlaaGreatDoor
open Go.RowKit

set_option maxHeartbeats 8000000 in
set_option maxRecDepth 100000 in
theorem ref29_partners (sh ow me : List Nat) (v1 v2 : Value) (w : World) (hk : TkOk sh ow me) (hn : 0 < ow.length) (h1 : SliceOf vI 1 w v1 (toI sh)) (h2 : SliceOf vI 1 w v2 (toI ow)) :
    Calls Tryz.prog 28 #[v1, v2] w fun e w' => ∃ G, e = .returned (.slice (some ⟨G, 0, none⟩) sh.length sh.length) ∧ SliceOf vI 1 w' (.slice (some ⟨G, 0, none⟩) sh.length sh.length) (toI (seatsN (wtL sh ow) 720)) ∧ w.heap.size ≤ G ∧ Below w.heap.size w w' := by
  obtain ⟨a1, c1, rfl⟩ := h1.shape
  obtain ⟨a2, c2, rfl⟩ := h2.shape
  have hs0 := hk.s0
  have hs16 := hk.s16
  have ho := hk.o200
  have HSH : Hid (∀ u W, SliceOf vI 1 W u (toI (wtL sh ow)) → Calls Tryz.prog 29 #[.int .i64 720, u] W (ShPost W (wtL sh ow) 720)) := fun u W (hu : SliceOf vI 1 W u (toI (wtL sh ow))) => ref28_share (wtL sh ow) 720 u W hu (by rw [wtL_len]; exact hs0) (by rw [wtL_len]; omega) hk.wt_le (Nat.le_refl _) (hk.wt_pos hn)
  obtain ⟨b1, o1, rfl, _, q1, m1, hc1⟩ := SliceOf.at_ h1 (by rw [toI_len]; exact hs0)
  obtain ⟨b2, o2, rfl, _, q2, m2, hc2⟩ := SliceOf.at_ h2 (by rw [toI_len]; exact hn)
  have HC1 : Hid (∀ k, k < sh.length → w.cell? ⟨b1, o1 + k, none⟩ = some (.int .i64 ((sh.getD k 0 : Nat) : Int))) := fun k hk => toI_cells hc1 hk
  have HC2 : Hid (∀ k, k < ow.length → w.cell? ⟨b2, o2 + k, none⟩ = some (.int .i64 ((owN ow k : Nat) : Int))) := fun k hk => toI_cells hc2 hk
  rw [toI_len] at q1 q2
  rw [toI_len, toI_len]
  unfold maxLen at m1 m2
  have q1I : (sh.length : Int) ≤ (c1 : Int) := by omega
  have q2I : (ow.length : Int) ≤ (c2 : Int) := by omega
  have m1I : (c1 : Int) ≤ 9223372036854775807 := by omega
  have m2I : (c2 : Int) ≤ 9223372036854775807 := by omega
  have hsI : (sh.length : Int) ≤ 16 := by omega
  have hoI : (ow.length : Int) ≤ 200 := by omega
  have HN := hide hn
  obtain ⟨i0, hi, hz0, hz1, hz2⟩ := info_parts Tryz.infoInt3
  clear hc1 hc2 h1 h2 hk q1 q2 m1 m2 hn
  go_enter Tryz.func28, Tryz.ntmps28
  go_wp2_with fail
  go_loopw [5, 6] (fun u i wx => ∃ p : Nat, p ≤ sh.length ∧ i = .int .i64 (p : Int) ∧ Bld vI 1 w wx (toI (wtL sh ow)) u p) (fun _ i _ => sh.length - (intOf i).toNat)
  case atStart => exact ⟨0, Nat.zero_le _, rfl, Bld.nil _ _ _ _⟩
  case round =>
    obtain ⟨p, hp, rfl, hst⟩ := hrel
    have HS := hide hst
    clear hst
    by_cases hlt : p < sh.length
    · have hpi : (p : Int) < (sh.length : Int) := by omega
      have hp0 : (0 : Int) ≤ (p : Int) := by omega
      have s0 := keep_cell HS.out.below (HC1.out p hlt)
      obtain ⟨y, hy⟩ : ∃ y, sh.getD p 0 = y := ⟨_, rfl⟩
      rw [hy] at s0
      have HSC := hide s0
      have HYE := hide hy
      clear s0 hy
      go_wp2_with fail
      go_loop [7, 8] (fun h i => ∃ k : Nat, k ≤ ow.length ∧ i = .int .i64 (k : Int) ∧ h = .int .i64 ((wtK sh ow k p : Nat) : Int)) (fun _ i => ow.length - (intOf i).toNat)
      case atStart => exact ⟨0, Nat.zero_le _, rfl, rfl⟩
      case round =>
        obtain ⟨k, hk, rfl, rfl⟩ := hrel
        by_cases hko : k < ow.length
        · have hki : (k : Int) < (ow.length : Int) := by omega
          have hk0 : (0 : Int) ≤ (k : Int) := by omega
          have c0 := keep_cell HS.out.below (HC2.out k hko)
          have HW := hide (wtK_step (sh := sh) (ow := ow) (k := k) (p := p))
          obtain ⟨x, hx⟩ : ∃ x, owN ow k = x := ⟨_, rfl⟩
          rw [hx] at c0 HW
          clear hx
          by_cases e : x = p
          · have d0 : ((x : Int) == (p : Int)) = true := beq_iff_eq.2 (by omega)
            have s0 := HSC.out
            have HW2 : Hid (wtK sh ow (k + 1) p = y) := by show _ = _; rw [HW.out, if_pos e.symm]; exact HYE.out
            clear HW e
            go_wp2_with fail
            go_round
            case rel => exact ⟨k + 1, by omega, by go_num, by rw [HW2.out]⟩
            case measure => (simp [intOf]; omega)
          · have d0 : ((x : Int) == (p : Int)) = false := beq_eq_false_iff_ne.2 (by omega)
            have HW2 : Hid (wtK sh ow (k + 1) p = wtK sh ow k p) := by show _ = _; rw [HW.out, if_neg (fun h => e h.symm)]
            clear HW
            go_wp2_with fail
            go_round
            case rel => exact ⟨k + 1, by omega, by go_num, by rw [HW2.out]⟩
            case measure => (simp [intOf]; omega)
        · obtain rfl : k = ow.length := by omega
          have HV : Hid (∀ h : p < (toI (wtL sh ow)).length, (toI (wtL sh ow))[p] = ((wtK sh ow ow.length p : Nat) : Int)) := fun h => by
            rw [toI_get (by rw [toI_len] at h; exact h), wtL_get (by rw [toI_len] at h; exact h)]
          have hpl : p < (toI (wtL sh ow)).length := by rw [toI_len, wtL_len]; exact hlt
          obtain ⟨x, hx⟩ : ∃ x, wtK sh ow ow.length p = x := ⟨_, rfl⟩
          rw [hx] at HV ⊢
          clear hx
          have H1 : Hid (∀ u ∈ (#[Value.int .i64 (x : Int)] : Array Value).toList, u.oneCell' = true) := by
            intro u hu
            simp at hu
            rw [hu]; rfl
          have hbytes : (p + 1) * 8 ≤ 140737488355328 := by omega
          have HSZ := hide HS.out.below.size
          have HOWN := hide HS.out.own
          have HPL := hide hpl
          clear hpl
          go_wp2_with (at_builtin; refine wpList_appendS rfl _ _ 22 rfl w.heap.size 3 i0 (.int .i64 0) 1 8 Tryz.underlying22 hi hz0 hz1 hz2 rfl (by decide) _ p _ rfl HOWN.out #[.int .i64 (x : Int)] 3 1 rfl rfl H1.out hbytes (by decide) HSZ.out ?_; intro g4 off4 cap4 w4 hown4 hg4 hb4 hat4; have HNX := hide (HS.out.step (Below.refl _ _) HPL.out (HV.out HPL.out) rfl hown4 hg4); clear hown4 hg4 hb4 hat4)
          go_roundw
          case rel => exact ⟨p + 1, by omega, by go_num, HNX.out⟩
          case measure => (simp [intOf]; omega)
    · obtain rfl : p = sh.length := by omega
      have HSV := hide (Bld.to_slice vI_len (M := toI (wtL sh ow)) (by rw [toI_len, wtL_len]; exact HS.out))
      have HB := hide HS.out.below
      clear HS
      go_wp2_with fail
      refine (HSH.out _ _ HSV.out).mono ?_
      rintro e w5 ⟨G, rfl, hs, hg, hb⟩
      have HS5 := hide hs
      have HG5 : Hid (w.heap.size ≤ G) := by have := HB.out.size; show _ ≤ _; omega
      have HB5 := hide (bStepL HB.out hb)
      rw [wtL_len] at HS5 ⊢
      clear hs hg hb
      go_wp2_with fail
      go_ret
      exact ⟨G, rfl, HS5.out, HG5.out, HB5.out⟩
end Go.Proofs.YtcgplokdklomlaaGreatDoor
