/- apportion: Share. -/
import Derived.Test.YtcgplokdklomlaaGreatDoorLoC
set_option linter.unusedVariables false
set_option linter.unusedSimpArgs false
namespace Go.Proofs.YtcgplokdklomlaaGreatDoor
open Go.RowKit

theorem Tryz.infoPt : (Tryz.prog.info? 70).map (fun i => (i.zero, i.size, i.bytes)) = some (some (.agg #[.int .i64 0, .int .i64 0]), 2, 16) := by kernel_rfl
theorem Tryz.infoInt3 : (Tryz.prog.info? 3).map (fun i => (i.zero, i.size, i.bytes)) = some (some (.int .i64 0), 1, 8) := by kernel_rfl
theorem run_make_pt (n : Nat) (hn : n ≤ 1000000) (w : World) : (Instr.makeSlice 68 (.int .i64 (n : Int)) (.int .i64 (n : Int))).run Tryz.prog w = .ok (.slice (some ⟨w.heap.size, 0, none⟩) n n) (w.alloc (.cells (madeCells #[.int .i64 0, .int .i64 0] (n * 2)) 70)) := by
  obtain ⟨i, hi, hz0, hz1, hz2⟩ := info_parts Tryz.infoPt
  have hr := run_make (P := Tryz.prog) w 68 70 i _ Tryz.underlying68 hi hz0 .i64 .i64 n n (by omega) (Int.le_refl _) (by rw [hz2]; omega) (by omega)
  simp only [Int.toNat_natCast, hz1] at hr
  exact hr
def ShPost (w : World) (ws : List Nat) (t : Nat) (e : Ending) (w' : World) : Prop := ∃ G, e = .returned (.tuple #[.slice (some ⟨G, 0, none⟩) ws.length ws.length, .int .i64 0]) ∧ SliceOf vI 1 w' (.slice (some ⟨G, 0, none⟩) ws.length ws.length) (toI (seatsN ws t)) ∧ w.heap.size ≤ G ∧ Below w.heap.size w w'
theorem seat_le {ws : List Nat} (h : 0 < ws.length) (t : Nat) {i : Nat} (hi : i < ws.length) : sN ws t i ≤ t := by
  have key : ∀ n (f : Nat → Nat) i, i < n → f i ≤ sumN n f := by
    intro n
    induction n with
    | zero => intro f i h; omega
    | succ n ih =>
      intro f i h
      unfold sumN
      by_cases e : i = n
      · subst e; omega
      · have := ih f i (by omega); omega
  have := key ws.length (sN ws t) i hi
  rw [sum_dh h] at this; exact this
theorem wN_get {ws : List Nat} {i : Nat} (h : i < ws.length) : wN ws i = ws[i] := by unfold wN; rw [List.getD_eq_getElem?_getD, List.getElem?_eq_getElem h]; rfl
theorem atP_dh {ws : List Nat} {t i : Nat} (h : i < ws.length) : atP (dhN ws t) i = (wN ws i, sN ws t i) := Prod.ext (dhN_fst ws t i h) rfl
theorem dh_small {ws : List Nat} (h : 0 < ws.length) (hw : ∀ x ∈ ws, x ≤ 1000000000) {t : Nat} (ht : t ≤ 1000) : ∀ p ∈ dhN ws t, SmP p := fun p hp => by
  obtain ⟨i, hi, rfl⟩ := List.getElem_of_mem hp
  have hi' : i < ws.length := by rw [dhN_len] at hi; exact hi
  rw [← atP_eq hi, atP_dh hi']
  refine ⟨?_, Nat.le_trans (seat_le h t hi') ht⟩
  show wN ws i ≤ _
  rw [wN_get hi']; exact hw _ (List.getElem_mem hi')
def f0 (ws : List Nat) (k i : Nat) : Nat × Nat := if i < k then (wN ws i, 0) else (0, 0)
def g0 (ws : List Nat) (t k i : Nat) : Int := if i < k then (sN ws t i : Int) else 0
set_option maxHeartbeats 8000000 in
set_option maxRecDepth 100000 in
theorem ap_share (ws : List Nat) (t : Nat) (v : Value) (w : World) (hv : SliceOf vI 1 w v (toI ws)) (h0 : 0 < ws.length) (hl : ws.length ≤ 200) (hw : ∀ x ∈ ws, x ≤ 1000000000) (ht : t ≤ 720) (hp : ∃ x ∈ ws, 0 < x) :
    Calls Tryz.prog 26 #[.int .i64 (t : Int), v] w (ShPost w ws t) := by
  have HS := hide hv
  obtain ⟨ao, cp, rfl⟩ := hv.shape
  rw [toI_len] at HS hv ⊢
  obtain ⟨b, off, rfl, _, hcap, hcm, hc⟩ := SliceOf.at_ (l := toI ws) (by rw [toI_len]; exact hv) (by rw [toI_len]; exact h0)
  rw [toI_len] at hcap
  have HC : Hid (∀ k (hk : k < ws.length), w.cell? ⟨b, off + k, none⟩ = some (.int .i64 (wN ws k : Int))) := fun k hk => by
    have := int_cell hc (k := k) (by rw [toI_len]; exact hk)
    rw [toI_get hk] at this
    rw [wN_get hk]; exact this
  have HWR := hide (con_any0 45 (toI ws) (outB 0 1000000000) _ w hv (by rw [toI_len]; omega) (fun args w => by simp [go_sem]) (fun x _ => ap_wrong x w))
  have hany : (toI ws).any (outB 0 1000000000) = false := by
    rw [List.any_eq_false]
    intro x hx
    obtain ⟨y, hy, rfl⟩ := List.mem_map.1 hx
    rw [outB_iff.2 ⟨by omega, by have := hw y hy; omega⟩]; exact Bool.noConfusion
  rw [hany] at HWR
  have HMX := hide (ap_max (toI ws) _ w hv (by rw [toI_len]; exact h0) (by rw [toI_len]; omega))
  have HPO : Hid (∀ m : Int, m ∈ toI ws ∧ (∀ x ∈ toI ws, x ≤ m) → 0 < m) := fun m hm => by
    obtain ⟨x, hx, hx0⟩ := hp
    have := hm.2 (x : Int) (List.mem_map.2 ⟨x, hx, rfl⟩)
    omega
  have hcpI : (ws.length : Int) ≤ (cp : Int) := by omega
  have hcmI : (cp : Int) ≤ 9223372036854775807 := by unfold maxLen at hcm; omega
  have hlI : (ws.length : Int) ≤ 200 := by omega
  have hl0 : (0 : Int) < (ws.length : Int) := by omega
  have htI : (t : Int) ≤ 720 := by omega
  have ht0 : (0 : Int) ≤ (t : Int) := by omega
  have H0 := hide h0
  have HL := hide hl
  have HSM := hide (fun t (ht : t ≤ 1000) => dh_small h0 hw (t := t) ht)
  have n1 : decide ((ws.length : Int) < 1) = false := decide_eq_false (by omega)
  have n2 : decide ((200 : Int) < (ws.length : Int)) = false := decide_eq_false (by omega)
  have n3 : decide ((t : Int) < 0) = false := decide_eq_false (by omega)
  have n4 : decide ((720 : Int) < (t : Int)) = false := decide_eq_false (by omega)
  have n5 : decide (ws.length = 0) = false := decide_eq_false (by omega)
  have n6 : decide (200 < ws.length) = false := decide_eq_false (by omega)
  have n7 : decide (720 < t) = false := decide_eq_false (by omega)
  have n8 : ¬ ws.length = 0 := by omega
  clear hc hcap hcm hv hany hp hw h0 hl ht
  go_enter Tryz.func26, Tryz.ntmps26
  go_wp2_with fail
  refine HWR.out.mono ?_
  rintro e w1 ⟨rfl, rfl⟩
  go_wp2_with fail
  refine HMX.out.mono ?_
  rintro e w1 ⟨m, rfl, hm, rfl⟩
  have hm0 := HPO.out m hm
  have m1 : (m == 0) = false := beq_eq_false_iff_ne.2 (by omega)
  clear hm
  have HMK := hide (run_make_pt ws.length (by omega) w)
  have hmk := HMK.out
  clear n1 n2 n3 n4 n5 n6 n7
  go_wp2_with fail
  clear hmk m1 hm0
  have HP0 := hide ((PtC.made w ws.length 70).congr (g := f0 ws 0) (fun i _ => by unfold f0; rw [if_neg (by omega)]))
  have HB0 := hide (bAlloc (Below.refl w.heap.size w) (.cells (madeCells #[.int .i64 0, .int .i64 0] (ws.length * 2)) 70))
  obtain ⟨H, hH⟩ : ∃ H, w.heap.size = H := ⟨_, rfl⟩
  have HHW : Hid (w.heap.size ≤ H) := by show _ ≤ _; omega
  obtain ⟨wa, hwa⟩ : ∃ x, w.alloc (.cells (madeCells #[.int .i64 0, .int .i64 0] (ws.length * 2)) 70) = x := ⟨_, rfl⟩
  rw [hwa] at HP0 HB0 ⊢
  rw [hH] at HP0 ⊢
  clear hwa hH
  go_loopw [48] (fun i wx => ∃ k : Nat, k ≤ ws.length ∧ i = .int .i64 (k : Int) ∧ PtC wx H ws.length (f0 ws k) ∧ Below w.heap.size w wx) (fun i _ => ws.length - (intOf i).toNat)
  case atStart => exact ⟨0, Nat.zero_le _, rfl, HP0.out, HB0.out⟩
  case round =>
    obtain ⟨k, hk, rfl, hpc, hbl⟩ := hrel
    have HP := hide hpc
    have HB := hide hbl
    clear hpc hbl HP0 HB0
    by_cases hlt : k < ws.length
    · have hki : (k : Int) < (ws.length : Int) := by omega
      have hk0 : (0 : Int) ≤ (k : Int) := by omega
      have c0 := keep_cell HB.out (HC.out k hlt)
      have c1 := (HP.out.c k hlt).1
      have z1 := (HP.out.z k hlt).1
      have HN := hide ((HP.out.set1 hlt (wN ws k)).congr (g := f0 ws (k + 1)) (fun j _ => by
        show (if j = k then (wN ws k, (f0 ws k k).2) else f0 ws k j) = f0 ws (k + 1) j
        by_cases e : j = k
        · have h1 : f0 ws k k = (0, 0) := if_neg (by omega)
          have h2 : f0 ws (k + 1) j = (wN ws j, 0) := if_pos (by omega)
          rw [if_pos e, h1, h2, e]
        · rw [if_neg e]
          unfold f0
          by_cases e2 : j < k
          · rw [if_pos e2, if_pos (by omega)]
          · rw [if_neg e2, if_neg (by omega)]))
      have HBN := hide (HB.out.setCell (p := ⟨H, k * 2, none⟩) HHW.out (.int .i64 (wN ws k : Int)))
      obtain ⟨x, hx⟩ : ∃ x, wN ws k = x := ⟨_, rfl⟩
      rw [hx] at c0 HN HBN
      clear hx
      go_wp2_with fail
      go_roundw
      case rel => exact ⟨k + 1, by omega, by go_num, HN.out, HBN.out⟩
      case measure => (simp [intOf]; omega)
    · have hk' : k = ws.length := by omega
      subst hk'
      have HQ0 := hide (HP.out.congr (g := fun i => atP (dhN ws 0) i) (fun i hi => by
        unfold f0
        rw [if_pos hi, atP_dh hi, sN_zero hi]))
      clear HP
      go_wp2_with fail
      go_loopw [60] (fun i wx => ∃ s : Nat, s ≤ t ∧ i = .int .i64 (s : Int) ∧ PtC wx H ws.length (fun i => atP (dhN ws s) i) ∧ Below w.heap.size w wx) (fun i _ => t - (intOf i).toNat)
      case atStart => exact ⟨0, Nat.zero_le _, rfl, HQ0.out, HB.out⟩
      case round =>
        obtain ⟨s, hs, rfl, hpc, hbl⟩ := hrel
        have HP := hide hpc
        have HB2 := hide hbl
        clear hpc hbl HQ0 HB
        by_cases hst : s < t
        · have hsi : (s : Int) < (t : Int) := by omega
          have hs0 : (0 : Int) ≤ (s : Int) := by omega
          have HBE := hide (ap_best (dhN ws s) _ wr (HP.out.slice (dhN_len ws s) (fun i hi => atP_eq hi) (by unfold maxLen; omega)) (by rw [dhN_len]; exact H0.out) (by rw [dhN_len]; omega) (HSM.out s (by omega)))
          have HKN : Hid ((bestN (dhN ws s) (dhN ws s).length) = kN ws s) := rfl
          rw [HKN.out] at HBE
          have hkl := kN_lt s H0.out
          have HSU : Hid (∀ i, i < ws.length → sN ws (s + 1) i = if i = kN ws s then sN ws s i + 1 else sN ws s i) := fun i hi => sN_succ hi
          obtain ⟨k, hkk⟩ : ∃ k, kN ws s = k := ⟨_, rfl⟩
          rw [hkk] at HBE hkl HSU
          clear hkk HKN
          have hki : (k : Int) < (ws.length : Int) := by omega
          have hk0 : (0 : Int) ≤ (k : Int) := by omega
          have hsl := seat_le H0.out s hkl
          go_wp2_with fail
          refine HBE.out.mono ?_
          rintro e w5 ⟨rfl, hb⟩
          have HP5 := hide (HP.out.below hb)
          have HB5 := hide (bStepL HB2.out hb)
          have c1 := (HP5.out.c k hkl).2
          have z1 := (HP5.out.z k hkl).2
          simp only [atP_dh hkl] at c1
          have HN := hide ((HP5.out.set2 hkl (sN ws s k + 1)).congr (g := fun i => atP (dhN ws (s + 1)) i) (fun j hj => by
            have e1 : atP (dhN ws (s + 1)) j = (wN ws j, sN ws (s + 1) j) := atP_dh hj
            rw [e1, HSU.out j hj]
            by_cases e : j = k
            · have e2 : (atP (dhN ws s) k).1 = wN ws k := by rw [atP_dh hkl]
              rw [if_pos e, if_pos e, e2, e]
            · rw [if_neg e, if_neg e, atP_dh hj]))
          have HBN := hide (HB5.out.setCell (p := ⟨H, k * 2 + 1, none⟩) HHW.out (.int .i64 ((sN ws s k + 1 : Nat) : Int)))
          clear hb
          obtain ⟨x, hx⟩ : ∃ x, sN ws s k = x := ⟨_, rfl⟩
          rw [hx] at c1 HN HBN hsl
          clear hx
          have hx0 : (0 : Int) ≤ (x : Int) := by omega
          have hx1 : (x : Int) ≤ 720 := by omega
          have HXE : Hid (((x + 1 : Nat) : Int) = (x : Int) + 1) := by show _ = _; omega
          rw [HXE.out] at HN HBN
          go_wp2_with fail
          go_roundw
          case rel => exact ⟨s + 1, by omega, by go_num, HN.out, HBN.out⟩
          case measure => (simp [intOf]; omega)
        · have hs' : s = t := by omega
          subst hs'
          have hmk := run_make_row' (P := Tryz.prog) 22 3 (.int .i64 0) 8 Tryz.underlying22 Tryz.infoInt3 rfl .i64 .i64 ws.length (by omega) (by omega)
          have HIM := hide ((IC.made wr ws.length 3).congr (g := g0 ws s 0) (fun i _ => by unfold g0; rw [if_neg (by omega)]))
          have HPM := hide (HP.out.below (bAlloc (Below.refl _ _) (.cells (madeCells #[.int .i64 0] ws.length) 3)))
          have HBM := hide (bAlloc HB2.out (.cells (madeCells #[.int .i64 0] ws.length) 3))
          have HGW := hide HB2.out.size
          have HGH := hide HP.out.lt
          go_wp2_with fail
          clear hmk HP HB2
          obtain ⟨G, hG⟩ : ∃ G, wr.heap.size = G := ⟨_, rfl⟩
          obtain ⟨wg, hwg⟩ : ∃ x, wr.alloc (.cells (madeCells #[.int .i64 0] ws.length) 3) = x := ⟨_, rfl⟩
          rw [hwg] at HIM HPM HBM ⊢
          rw [hG] at HIM HGW HGH ⊢
          clear hwg hG
          go_loopw [77] (fun i wx => ∃ k : Nat, k ≤ ws.length ∧ i = .int .i64 (k : Int) ∧ PtC wx H ws.length (fun i => atP (dhN ws s) i) ∧ IC wx G ws.length (g0 ws s k) ∧ Below w.heap.size w wx) (fun i _ => ws.length - (intOf i).toNat)
          case atStart => exact ⟨0, Nat.zero_le _, rfl, HPM.out, HIM.out, HBM.out⟩
          case round =>
            obtain ⟨k, hk, rfl, hpc, hic, hbl⟩ := hrel
            have HP := hide hpc
            have HI := hide hic
            have HB3 := hide hbl
            clear hpc hic hbl HPM HIM HBM
            by_cases hlt : k < ws.length
            · have hki : (k : Int) < (ws.length : Int) := by omega
              have hk0 : (0 : Int) ≤ (k : Int) := by omega
              obtain ⟨c0, c1⟩ := HP.out.c k hlt
              simp only [atP_dh hlt] at c0 c1
              have HGE : Hid (∀ j, j < ws.length → (if j = k then (sN ws s k : Int) else g0 ws s k j) = g0 ws s (k + 1) j) := fun j _ => by
                unfold g0
                by_cases e : j = k
                · subst e; rw [if_pos rfl, if_pos (by omega)]
                · rw [if_neg e]
                  by_cases e2 : j < k
                  · rw [if_pos e2, if_pos (by omega)]
                  · rw [if_neg e2, if_neg (by omega)]
              obtain ⟨x, hx⟩ : ∃ x, wN ws k = x := ⟨_, rfl⟩
              obtain ⟨y, hy⟩ : ∃ x, sN ws s k = x := ⟨_, rfl⟩
              rw [hx] at c0
              rw [hy] at c1 HGE
              clear hx hy
              have hba := bAlloc (Below.refl _ wr) (.cells #[.int .i64 (x : Int), .int .i64 (y : Int)] 70)
              have HPA := hide (HP.out.below hba)
              have HIA := hide (HI.out.below hba)
              have HBA := hide (bStepL HB3.out hba)
              have y1 := HIA.out.c k hlt
              have y2 := HIA.out.z k hlt
              have HN := hide ((HIA.out.set hlt (y : Int)).congr HGE.out)
              have HPN := hide (HPA.out.far (a := ⟨G, k, none⟩) (by have := HGH.out; simp only; omega) (.int .i64 (y : Int)))
              have HBN := hide (HBA.out.setCell (p := ⟨G, k, none⟩) HGW.out (.int .i64 (y : Int)))
              clear hba
              go_wp2_with fail
              go_roundw
              case rel => exact ⟨k + 1, by omega, by go_num, HPN.out, HN.out, HBN.out⟩
              case measure => (simp [intOf]; omega)
            · have hk' : k = ws.length := by omega
              subst hk'
              have HSL : Hid (SliceOf vI 1 wr (.slice (some ⟨G, 0, none⟩) ws.length ws.length) (toI (seatsN ws s))) := HI.out.slice (by rw [toI_len, seatsN_len]) (fun i hi => by
                have hi' : i < (seatsN ws s).length := by rw [toI_len] at hi; exact hi
                rw [toI_get hi', seatsN_get hi']
                unfold g0
                rw [if_pos (by rw [seatsN_len] at hi'; exact hi')]) (by unfold maxLen; omega)
              go_wp2_with fail
              go_ret2
              exact ⟨G, rfl, HSL.out, HGW.out, HB3.out⟩
end Go.Proofs.YtcgplokdklomlaaGreatDoor
