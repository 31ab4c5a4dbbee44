/- law 29: the reference's Share. -/
import Derived.Test.YtcgplokdklomlaaGreatDoorLoW
set_option linter.unusedVariables false
set_option linter.unusedSimpArgs false
namespace Go.Proofs.YtcgplokdklomlaaGreatDoor
open Go.RowKit

set_option maxHeartbeats 4000000 in
set_option maxRecDepth 100000 in
theorem ref28_valid (ws : List Nat) (v : Value) (w : World) (hv : SliceOf vI 1 w v (toI ws)) (h0 : 0 < ws.length) (hl : ws.length ≤ 200) (hw : ∀ x ∈ ws, x ≤ 1000000000) :
    Calls Tryz.prog 50 #[v] w fun e w' => e = .returned (.bool true) ∧ w' = w := by
  obtain ⟨ao, cp, rfl⟩ := hv.shape
  rw [toI_len] at hv ⊢
  obtain ⟨b, off, rfl, _, hcap, hcm, hc⟩ := SliceOf.at_ (l := toI ws) (by rw [toI_len]; exact hv) (by rw [toI_len]; exact h0)
  rw [toI_len] at hcap
  have HC : Hid (∀ k (hk : k < ws.length), w.cell? ⟨b, off + k, none⟩ = some (.int .i64 (wN ws k : Int))) := fun k hk => by
    have := int_cell hc (k := k) (by rw [toI_len]; exact hk)
    rw [toI_get hk] at this
    rw [wN_get hk]; exact this
  have HX : Hid (∀ k, k < ws.length → wN ws k ≤ 1000000000) := fun k hk => by rw [wN_get hk]; exact hw _ (List.getElem_mem hk)
  have hcpI : (ws.length : Int) ≤ (cp : Int) := by omega
  have hcmI : (cp : Int) ≤ 9223372036854775807 := by unfold maxLen at hcm; omega
  have hlI : (ws.length : Int) ≤ 200 := by omega
  have hl0 : (0 : Int) < (ws.length : Int) := by omega
  have n1 : decide ((ws.length : Int) < 1) = false := decide_eq_false (by omega)
  have n2 : decide ((200 : Int) < (ws.length : Int)) = false := decide_eq_false (by omega)
  have n5 : decide (ws.length = 0) = false := decide_eq_false (by omega)
  have n6 : decide (200 < ws.length) = false := decide_eq_false (by omega)
  have n8 : ¬ ws.length = 0 := by omega
  clear hc hcap hcm hv hw h0 hl
  go_enter Tryz.func50, Tryz.ntmps50
  go_wp2_with fail
  go_loop [3] (fun i => ∃ k : Nat, k ≤ ws.length ∧ i = .int .i64 (k : Int)) (fun i => ws.length - (intOf i).toNat)
  case atStart => exact ⟨0, Nat.zero_le _, rfl⟩
  case round =>
    obtain ⟨k, hk, rfl⟩ := hrel
    by_cases hlt : k < ws.length
    · have hki : (k : Int) < (ws.length : Int) := by omega
      have hk0 : (0 : Int) ≤ (k : Int) := by omega
      have c0 := HC.out k hlt
      have hx := HX.out k hlt
      obtain ⟨x, hxe⟩ : ∃ x, wN ws k = x := ⟨_, rfl⟩
      rw [hxe] at c0 hx
      clear hxe
      have d1 : decide ((x : Int) < 0) = false := decide_eq_false (by omega)
      have d2 : decide ((1000000000 : Int) < (x : Int)) = false := decide_eq_false (by omega)
      go_wp2_with fail
      go_round
      case rel => exact ⟨k + 1, by omega, by go_num⟩
      case measure => (simp [intOf]; omega)
    · go_wp2_with fail
      go_ret
      exact ⟨rfl, rfl⟩
theorem kN_pos {ws : List Nat} (hp : ∃ x ∈ ws, 0 < x) (s : Nat) : 0 < wN ws (kN ws s) := by
  obtain ⟨x, hx, hx0⟩ := hp
  obtain ⟨j, hj, rfl⟩ := List.mem_iff_getElem.1 hx
  have e0 := wN_get hj
  by_cases e : j = kN ws s
  · rw [← e, e0]; exact hx0
  · have h1 := bestN_prf (dhN ws s) (dhN ws s).length (Nat.le_refl _) j (by rw [dhN_len]; exact hj) e
    have e1 := dhN_fst ws s j hj
    have e2 := dhN_fst ws s (kN ws s) (kN_lt s (by omega))
    unfold kN at e2 ⊢
    rw [e1, e2] at h1
    change Prf (wN ws _) _ _ (wN ws j) _ _ at h1
    rw [e0] at h1
    refine Nat.pos_of_ne_zero fun h => ?_
    rw [h] at h1
    unfold Prf at h1
    rw [Nat.zero_mul] at h1
    have h2 : 0 < ws[j] * ((atP (dhN ws s) (bestN (dhN ws s) (dhN ws s).length)).2 + 1) := Nat.mul_pos hx0 (by omega)
    omega
theorem bestN_1 (l : List (Nat × Nat)) : bestN l 1 = 0 := by rw [bestN_succ]; split <;> rfl
set_option maxHeartbeats 8000000 in
set_option maxRecDepth 100000 in
theorem ref28_share (ws : List Nat) (t : Nat) (v : Value) (w : World) (hv : SliceOf vI 1 w v (toI ws)) (h0 : 0 < ws.length) (hl : ws.length ≤ 200) (hw : ∀ x ∈ ws, x ≤ 1000000000) (ht : t ≤ 720) (hp : ∃ x ∈ ws, 0 < x) :
    Calls Tryz.prog 29 #[.int .i64 (t : Int), v] w (ShPost w ws t) := by
  have HVA := hide (ref28_valid ws v w hv h0 hl hw)
  obtain ⟨ao, cp, rfl⟩ := hv.shape
  rw [toI_len] at hv HVA ⊢
  obtain ⟨b, off, rfl, _, hcap, hcm, hc⟩ := SliceOf.at_ (l := toI ws) (by rw [toI_len]; exact hv) (by rw [toI_len]; exact h0)
  rw [toI_len] at hcap
  have HC : Hid (∀ k (hk : k < ws.length), w.cell? ⟨b, off + k, none⟩ = some (.int .i64 (wN ws k : Int))) := fun k hk => by
    have := int_cell hc (k := k) (by rw [toI_len]; exact hk)
    rw [toI_get hk] at this
    rw [wN_get hk]; exact this
  have HX : Hid (∀ k, k < ws.length → wN ws k ≤ 1000000000) := fun k hk => by rw [wN_get hk]; exact hw _ (List.getElem_mem hk)
  have HKP := hide (fun s => kN_pos hp s)
  have hcpI : (ws.length : Int) ≤ (cp : Int) := by omega
  have hcmI : (cp : Int) ≤ 9223372036854775807 := by unfold maxLen at hcm; omega
  have hlI : (ws.length : Int) ≤ 200 := by omega
  have hl0 : (0 : Int) < (ws.length : Int) := by omega
  have htI : (t : Int) ≤ 720 := by omega
  have ht0 : (0 : Int) ≤ (t : Int) := by omega
  have H0 := hide h0
  have HL := hide hl
  have n3 : decide ((t : Int) < 0) = false := decide_eq_false (by omega)
  have n4 : decide ((720 : Int) < (t : Int)) = false := decide_eq_false (by omega)
  have n7 : decide (720 < t) = false := decide_eq_false (by omega)
  have HMK := hide (run_make_row' (P := Tryz.prog) 22 3 (.int .i64 0) 8 Tryz.underlying22 Tryz.infoInt3 rfl .i64 .i64 ws.length (by omega) (by omega))
  clear hc hcap hcm hv hp hw h0 hl
  go_enter Tryz.func29, Tryz.ntmps29
  go_wp2_with fail
  refine HVA.out.mono ?_
  rintro e w1 ⟨rfl, rfl⟩
  have hmk := HMK.out
  go_wp2_with fail
  clear hmk HMK HVA n3 n4 n7
  have HI0 := hide ((IC.made w1 ws.length 3).congr (g := fun j => (sN ws 0 j : Int)) (fun j hj => by rw [sN_zero hj]; rfl))
  have HB0 := hide (bAlloc (Below.refl w1.heap.size w1) (.cells (madeCells #[.int .i64 0] ws.length) 3))
  obtain ⟨H, hH⟩ : ∃ H, w1.heap.size = H := ⟨_, rfl⟩
  have HHW : Hid (w1.heap.size ≤ H) := by show _ ≤ _; omega
  obtain ⟨wa, hwa⟩ : ∃ x, w1.alloc (.cells (madeCells #[.int .i64 0] ws.length) 3) = x := ⟨_, rfl⟩
  rw [hwa, hH] at HI0
  rw [hwa] at HB0
  rw [hwa, hH]
  clear hwa hH
  go_loopw [7] (fun i wx => ∃ s : Nat, s ≤ t ∧ i = .int .i64 (s : Int) ∧ IC wx H ws.length (fun j => (sN ws s j : Int)) ∧ Below w1.heap.size w1 wx) (fun i _ => t - (intOf i).toNat)
  case atStart => exact ⟨0, Nat.zero_le _, rfl, HI0.out, HB0.out⟩
  case round =>
    obtain ⟨s, hs, rfl, hic, hbl⟩ := hrel
    have HI := hide hic
    have HB := hide hbl
    clear hic hbl HI0 HB0
    by_cases hst : s < t
    · have hsi : (s : Int) < (t : Int) := by omega
      have hs0 : (0 : Int) ≤ (s : Int) := by omega
      go_wp2_with fail
      go_loopw [8, 9] (fun m i wx => ∃ k : Nat, 1 ≤ k ∧ k ≤ ws.length ∧ i = .int .i64 (k : Int) ∧ m = .int .i64 ((bestN (dhN ws s) k : Nat) : Int) ∧ IC wx H ws.length (fun j => (sN ws s j : Int)) ∧ Below w1.heap.size w1 wx) (fun _ i _ => ws.length - (intOf i).toNat)
      case atStart => exact ⟨1, Nat.le_refl _, H0.out, rfl, by rw [bestN_1]; rfl, HI.out, HB.out⟩
      case round =>
        obtain ⟨k, hk1, hk, rfl, rfl, hic, hbl⟩ := hrel
        have HI2 := hide hic
        have HB2 := hide hbl
        clear hic hbl HI HB
        by_cases hlt : k < ws.length
        · have hki : (k : Int) < (ws.length : Int) := by omega
          have hk0 : (0 : Int) ≤ (k : Int) := by omega
          have hml : bestN (dhN ws s) k < ws.length := by have := bestN_le (dhN ws s) k; omega
          have HSU := hide (bestN_succ (dhN ws s) k)
          rw [atP_dh hlt, atP_dh hml] at HSU
          obtain ⟨m, hm⟩ : ∃ m, bestN (dhN ws s) k = m := ⟨_, rfl⟩
          rw [hm] at hml HSU ⊢
          clear hm
          have hmi : (m : Int) < (ws.length : Int) := by omega
          have hm0 : (0 : Int) ≤ (m : Int) := by omega
          have c0 := keep_cell HB2.out (HC.out k hlt)
          have c1 := keep_cell HB2.out (HC.out m hml)
          have o0 := HI2.out.c k hlt
          have o1 := HI2.out.c m hml
          have hx0 := HX.out k hlt
          have hx1 := HX.out m hml
          have hy0 := seat_le H0.out s hlt
          have hy1 := seat_le H0.out s hml
          obtain ⟨a, ha⟩ : ∃ x, wN ws k = x := ⟨_, rfl⟩
          obtain ⟨c, hc⟩ : ∃ x, wN ws m = x := ⟨_, rfl⟩
          obtain ⟨p, hp⟩ : ∃ x, sN ws s k = x := ⟨_, rfl⟩
          obtain ⟨q, hq⟩ : ∃ x, sN ws s m = x := ⟨_, rfl⟩
          simp only [ha] at c0 hx0 HSU
          simp only [hc] at c1 hx1 HSU
          simp only [hp] at o0 hy0 HSU
          simp only [hq] at o1 hy1 HSU
          clear ha hc hp hq
          have m1 : a * (q + 1) ≤ 1000000000 * 721 := Nat.mul_le_mul hx0 (by omega)
          have m2 : c * (p + 1) ≤ 1000000000 * 721 := Nat.mul_le_mul hx1 (by omega)
          have e0 : (a : Int) * ((q : Int) + 1) = ((a * (q + 1) : Nat) : Int) := by rw [Int.natCast_mul]; rfl
          have e0' : (c : Int) * ((p : Int) + 1) = ((c * (p + 1) : Nat) : Int) := by rw [Int.natCast_mul]; rfl
          have e1 : IntKind.i64.wrap ((q : Int) + 1) = (q : Int) + 1 := IntWalk.i64_in _ (by omega)
          have e2 : IntKind.i64.wrap ((p : Int) + 1) = (p : Int) + 1 := IntWalk.i64_in _ (by omega)
          have e3 : IntKind.i64.wrap ((a : Int) * ((q : Int) + 1)) = (a : Int) * ((q : Int) + 1) := by rw [e0]; exact IntWalk.i64_in _ (by omega)
          have e4 : IntKind.i64.wrap ((c : Int) * ((p : Int) + 1)) = (c : Int) * ((p : Int) + 1) := by rw [e0']; exact IntWalk.i64_in _ (by omega)
          have E0 := hide e0
          have E0' := hide e0'
          clear e0 e0'
          obtain ⟨r, hr⟩ : ∃ r, befB (a, p) (c, q) = r := ⟨_, rfl⟩
          have HR := hide hr
          rw [hr] at HSU
          clear hr
          cases r
          ·
            have dd : decide ((c : Int) * ((p : Int) + 1) < (a : Int) * ((q : Int) + 1)) = false := by
              rw [E0.out, E0'.out]
              have h1 := HR.out
              change decide (c * (p + 1) < a * (q + 1)) = _ at h1
              exact decide_eq_false (by have := of_decide_eq_false h1; omega)
            have dn : decide (c * (p + 1) < a * (q + 1)) = false := by have := HR.out; unfold befB at this; exact this
            go_wp2_with fail
            go_quiet (fail)
            obtain ⟨w9, hw9⟩ : ∃ W, wr.drewN nq = W := ⟨_, rfl⟩
            have HD := hide (drw_below (B := wr.heap.size) hw9)
            rw [hw9]
            clear hw9 c0 c1 o0 o1
            have HI3 := hide (HI2.out.below HD.out)
            have HB3 := hide (bStepL HB2.out HD.out)
            go_wp2_with fail
            go_roundw
            case rel => exact ⟨k + 1, by omega, by omega, by go_num, by rw [HSU.out]; rfl, HI3.out, HB3.out⟩
            case measure => (simp [intOf]; omega)
          ·
            have dd : decide ((c : Int) * ((p : Int) + 1) < (a : Int) * ((q : Int) + 1)) = true := by
              rw [E0.out, E0'.out]
              have h1 := HR.out
              change decide (c * (p + 1) < a * (q + 1)) = _ at h1
              exact decide_eq_true (by have := of_decide_eq_true h1; omega)
            have dn : decide (c * (p + 1) < a * (q + 1)) = true := by have := HR.out; unfold befB at this; exact this
            go_wp2_with fail
            go_quiet (fail)
            obtain ⟨w9, hw9⟩ : ∃ W, wr.drewN nq = W := ⟨_, rfl⟩
            have HD := hide (drw_below (B := wr.heap.size) hw9)
            rw [hw9]
            clear hw9 c0 c1 o0 o1
            have HI3 := hide (HI2.out.below HD.out)
            have HB3 := hide (bStepL HB2.out HD.out)
            go_wp2_with fail
            go_roundw
            case rel => exact ⟨k + 1, by omega, by omega, by go_num, by rw [HSU.out]; rfl, HI3.out, HB3.out⟩
            case measure => (simp [intOf]; omega)
        · obtain rfl : k = ws.length := by omega
          have HKN : Hid (bestN (dhN ws s) ws.length = kN ws s) := by show _ = _; unfold kN; rw [dhN_len]
          rw [HKN.out]
          have hkl := kN_lt s H0.out
          have hpos := HKP.out s
          have hsl := seat_le H0.out s hkl
          have HSU : Hid (∀ i, i < ws.length → sN ws (s + 1) i = if i = kN ws s then sN ws s i + 1 else sN ws s i) := fun i hi => sN_succ hi
          have c0 := keep_cell HB2.out (HC.out _ hkl)
          have o0 := HI2.out.c _ hkl
          have z0 := HI2.out.z _ hkl
          obtain ⟨m, hm⟩ : ∃ m, kN ws s = m := ⟨_, rfl⟩
          rw [hm] at hkl hpos hsl HSU c0 z0 ⊢
          simp only [hm] at o0
          clear hm HKN
          have hmi : (m : Int) < (ws.length : Int) := by omega
          have hm0 : (0 : Int) ≤ (m : Int) := by omega
          have HNX : Hid (∀ j, j < ws.length → (if j = m then ((sN ws s m : Nat) : Int) + 1 else ((sN ws s j : Nat) : Int)) = ((sN ws (s + 1) j : Nat) : Int)) := fun j hj => by
            rw [HSU.out j hj]
            by_cases e : j = m
            · subst e; rw [if_pos rfl, if_pos rfl]; rfl
            · rw [if_neg e, if_neg e]
          have HI5 := hide ((HI2.out.set hkl (((sN ws s m : Nat) : Int) + 1)).congr HNX.out)
          obtain ⟨y, hy⟩ : ∃ y, sN ws s m = y := ⟨_, rfl⟩
          obtain ⟨x, hx⟩ : ∃ y, wN ws m = y := ⟨_, rfl⟩
          simp only [hy] at o0 hsl HI5
          rw [hx] at hpos c0
          have hyw : IntKind.i64.wrap ((y : Int) + 1) = (y : Int) + 1 := IntWalk.i64_in _ (by omega)
          have hx0 : ((x : Int) == 0) = false := beq_eq_false_iff_ne.2 (by omega)
          have hx1 : ¬ x = 0 := by omega
          have HB5 := hide (HB2.out.setCell (p := ⟨H, m, none⟩) HHW.out (.int .i64 ((y : Int) + 1)))
          clear hx hy HNX HSU
          go_wp2_with fail
          refine ⟨⟨s + 1, by omega, by go_num, HI5.out, HB5.out⟩, ?_⟩
          simp [intOf]; omega
    · obtain rfl : s = t := by omega
      have HSL : Hid (SliceOf vI 1 wr (.slice (some ⟨H, 0, none⟩) ws.length ws.length) (toI (seatsN ws s))) := HI.out.slice (by rw [toI_len, seatsN_len]) (fun i hi => by
        rw [toI_len] at hi
        rw [toI_get hi, seatsN_get hi]) (by have := HL.out; unfold maxLen; omega)
      go_wp2_with fail
      go_ret2
      exact ⟨H, rfl, HSL.out, HHW.out, HB.out⟩
end Go.Proofs.YtcgplokdklomlaaGreatDoor
