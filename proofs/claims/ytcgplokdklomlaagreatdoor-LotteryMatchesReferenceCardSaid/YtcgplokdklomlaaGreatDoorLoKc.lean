/- law 29: the reference's Tickets. -/
import Derived.Test.YtcgplokdklomlaaGreatDoorLoKb
set_option linter.unusedVariables false
set_option linter.unusedSimpArgs false
namespace Go.Proofs.YtcgplokdklomlaaGreatDoor
open Go.RowKit

def valK (me ow : List Nat) (p k : Nat) : List Nat := (ownN ow p k).map fun i => me.getD i 0
theorem valK_len (me ow : List Nat) (p k : Nat) : (valK me ow p k).length = (ownN ow p k).length := by unfold valK; rw [List.length_map]
theorem valK_in {me ow : List Nat} {p k : Nat} (h : owN ow k = p) : valK me ow p (k + 1) = valK me ow p k ++ [me.getD k 0] := by unfold valK; rw [ownN_succ, if_pos h, List.map_append]; rfl
theorem valK_out {me ow : List Nat} {p k : Nat} (h : owN ow k ≠ p) : valK me ow p (k + 1) = valK me ow p k := by unfold valK; rw [ownN_succ, if_neg h]
def hOO (sh ow me : List Nat) (p j : Nat) : Int := if owN ow j < p then ((outN sh ow me j : Nat) : Int) else 0
def hII (sh ow me : List Nat) (p k j : Nat) : Int := if owN ow j < p ∨ (owN ow j = p ∧ j < k) then ((outN sh ow me j : Nat) : Int) else 0
theorem hII_0 (sh ow me : List Nat) (p j : Nat) : hII sh ow me p 0 j = hOO sh ow me p j := by
  unfold hII hOO
  by_cases e : owN ow j < p
  · rw [if_pos (.inl e), if_pos e]
  · rw [if_neg (fun h => h.elim e (fun h => absurd h.2 (Nat.not_lt_zero _))), if_neg e]
theorem hII_end {sh ow me : List Nat} {p j : Nat} (hj : j < ow.length) : hII sh ow me p ow.length j = hOO sh ow me (p + 1) j := by
  unfold hII hOO
  by_cases e : owN ow j < p + 1
  · rw [if_pos e, if_pos (by rcases Nat.lt_or_ge (owN ow j) p with h | h; exact .inl h; exact .inr ⟨by omega, hj⟩)]
  · rw [if_neg e, if_neg (fun h => h.elim (by omega) (fun h => by omega))]
theorem hII_hit {sh ow me : List Nat} {p k : Nat} (h : owN ow k = p) (j : Nat) : (if j = k then ((outN sh ow me k : Nat) : Int) else hII sh ow me p k j) = hII sh ow me p (k + 1) j := by
  unfold hII
  by_cases e : j = k
  · subst e; rw [if_pos rfl, if_pos (.inr ⟨h, by omega⟩)]
  · rw [if_neg e]
    by_cases e2 : owN ow j < p ∨ (owN ow j = p ∧ j < k)
    · rw [if_pos e2, if_pos (e2.imp id (fun h => ⟨h.1, by omega⟩))]
    · rw [if_neg e2, if_neg (fun h => e2 (h.imp id (fun h => ⟨h.1, by omega⟩)))]
theorem hII_miss {sh ow me : List Nat} {p k : Nat} (h : owN ow k ≠ p) (j : Nat) : hII sh ow me p k j = hII sh ow me p (k + 1) j := by
  unfold hII
  by_cases e2 : owN ow j < p ∨ (owN ow j = p ∧ j < k)
  · rw [if_pos e2, if_pos (e2.imp id (fun h => ⟨h.1, by omega⟩))]
  · rw [if_neg e2, if_neg (fun h' => e2 (h'.imp id (fun h' => ⟨h'.1, by
      by_cases e : j = k
      · subst e; exact absurd h'.1 h
      · omega⟩)))]
theorem hOO_skip {sh ow me : List Nat} {p j : Nat} (he : ownN ow p ow.length = []) (hj : j < ow.length) : hOO sh ow me p j = hOO sh ow me (p + 1) j := by
  have hne : owN ow j ≠ p := by rintro rfl; exact ownN_ne hj he
  unfold hOO
  by_cases e : owN ow j < p
  · rw [if_pos e, if_pos (by omega)]
  · rw [if_neg e, if_neg (by omega)]
set_option maxHeartbeats 8000000 in
set_option maxRecDepth 100000 in
theorem ref29_tickets (sh ow me : List Nat) (v1 v2 v3 : Value) (w : World) (hk : TkOk sh ow me) (hn : 0 < ow.length) (h1 : SliceOf vI 1 w v1 (toI sh)) (h2 : SliceOf vI 1 w v2 (toI ow)) (h3 : SliceOf vI 1 w v3 (toI me)) :
    Calls Tryz.prog 13 #[v1, v2, v3] w (TkPost w sh ow me) := by
  have HVA := hide (ref29_valid (toI sh) (toI ow) (toI me) v1 v2 v3 w true (vld_of hk) h1 h2 h3 (by rw [toI_len]; have := hk.s16; omega) (by rw [toI_len]; have := hk.o200; omega) (by rw [toI_len, hk.ml]; have := hk.o200; omega))
  have HPA := hide (ref29_partners sh ow me v1 v2 w hk hn h1 h2)
  have HK := hide hk
  obtain ⟨a1, c1, rfl⟩ := h1.shape
  obtain ⟨a2, c2, rfl⟩ := h2.shape
  obtain ⟨a3, c3, rfl⟩ := h3.shape
  have hml := hk.ml
  have hs0 := hk.s0
  have hs16 := hk.s16
  have ho := hk.o200
  obtain ⟨b2, o2, rfl, _, q2, m2, hc2⟩ := SliceOf.at_ h2 (by rw [toI_len]; exact hn)
  obtain ⟨b3, o3, rfl, _, q3, m3, hc3⟩ := SliceOf.at_ h3 (by rw [toI_len]; omega)
  have HC2 : Hid (∀ k, k < ow.length → w.cell? ⟨b2, o2 + k, none⟩ = some (.int .i64 ((owN ow k : Nat) : Int))) := fun k hk => toI_cells hc2 hk
  have HC3 : Hid (∀ k, k < ow.length → w.cell? ⟨b3, o3 + k, none⟩ = some (.int .i64 ((me.getD k 0 : Nat) : Int))) := fun k hk => toI_cells hc3 (by omega)
  rw [toI_len] at q2 q3
  rw [toI_len, toI_len, toI_len] at HVA ⊢
  rw [toI_len, toI_len] at HPA
  rw [hml] at HVA q3 ⊢
  unfold maxLen at m2 m3
  have q2I : (ow.length : Int) ≤ (c2 : Int) := by omega
  have q3I : (ow.length : Int) ≤ (c3 : Int) := by omega
  have m2I : (c2 : Int) ≤ 9223372036854775807 := by omega
  have m3I : (c3 : Int) ≤ 9223372036854775807 := by omega
  have hsI : (sh.length : Int) ≤ 16 := by omega
  have hs0I : (0 : Int) < (sh.length : Int) := by omega
  have hoI : (ow.length : Int) ≤ 200 := by omega
  have ho0 : (0 : Int) < (ow.length : Int) := by omega
  have z0 : ((ow.length : Int) == 0) = false := beq_eq_false_iff_ne.2 (by omega)
  have z1 : ¬ ow.length = 0 := by omega
  have HN := hide hn
  obtain ⟨i0, hi, hz0, hz1, hz2⟩ := info_parts Tryz.infoInt3
  have HMK := hide (run_make_row' (P := Tryz.prog) 22 3 (.int .i64 0) 8 Tryz.underlying22 Tryz.infoInt3 rfl .i64 .i64 ow.length (by omega) (by omega))
  clear hc2 hc3 h1 h2 h3 hk q2 q3 m2 m3 hml hn
  go_enter Tryz.func13, Tryz.ntmps13
  go_wp2_with fail
  refine HVA.out.mono ?_
  rintro e w1 ⟨rfl, rfl⟩
  go_wp2_with fail
  refine HPA.out.mono ?_
  rintro e w2 ⟨PG, rfl, hsu, hgp, hb⟩
  have HB2 := hide hb
  have HT : Hid (∀ p, p < sh.length → w2.cell? ⟨PG, p, none⟩ = some (.int .i64 ((totN sh ow p : Nat) : Int))) := fun p hp => by
    obtain ⟨b', o', c', e1, _, _, _, hc⟩ := hsu.some_of_pos (by rw [toI_len, seatsN_len, wtL_len]; omega)
    simp only [Value.slice.injEq, Option.some.injEq, Addr.mk.injEq, and_true] at e1
    obtain ⟨⟨rfl, rfl⟩, _, _⟩ := e1
    have h2 := int_cell hc (k := p) (by rw [toI_len, seatsN_len, wtL_len]; exact hp)
    rw [toI_get (by rw [seatsN_len, wtL_len]; exact hp), seatsN_get (by rw [seatsN_len, wtL_len]; exact hp), Nat.zero_add] at h2
    exact h2
  have HTL : Hid (∀ p, p < sh.length → totN sh ow p ≤ 720) := fun p hp => seat_le (by rw [wtL_len]; omega) 720 (by rw [wtL_len]; exact hp)
  clear hsu hb hgp HVA HPA
  have hmk := HMK.out
  go_wp2_with fail
  clear hmk HMK z0 z1
  have HI0 := hide ((IC.made w2 ow.length 3).congr (g := hOO sh ow me 0) (fun j _ => by unfold hOO; rw [if_neg (Nat.not_lt_zero _)]))
  have HB0 := hide (bAlloc (Below.refl w2.heap.size w2) (.cells (madeCells #[.int .i64 0] ow.length) 3))
  obtain ⟨H, hH⟩ : ∃ H, w2.heap.size = H := ⟨_, rfl⟩
  have HHW := hide hH
  obtain ⟨wa, hwa⟩ : ∃ x, w2.alloc (.cells (madeCells #[.int .i64 0] ow.length) 3) = x := ⟨_, rfl⟩
  rw [hwa, hH] at HI0
  rw [hwa] at HB0
  rw [hwa, hH]
  clear hwa hH
  go_loopw [10] (fun i wx => ∃ p : Nat, p ≤ sh.length ∧ i = .int .i64 (p : Int) ∧ IC wx H ow.length (hOO sh ow me p) ∧ Below w2.heap.size w2 wx) (fun i _ => sh.length - (intOf i).toNat)
  case atStart => exact ⟨0, Nat.zero_le _, rfl, HI0.out, HB0.out⟩
  case round =>
    obtain ⟨p, hp, rfl, hic, hbl⟩ := hrel
    have HI := hide hic
    have HB := hide hbl
    clear hic hbl HI0 HB0
    by_cases hlt : p < sh.length
    · have hpi : (p : Int) < (sh.length : Int) := by omega
      have hp0 : (0 : Int) ≤ (p : Int) := by omega
      obtain ⟨wr0, hwr0⟩ : ∃ W, wr = W := ⟨_, rfl⟩
      rw [hwr0] at HI HB ⊢
      clear hwr0
      go_wp2_with fail
      go_loopw [11, 12] (fun u i wx => ∃ k : Nat, k ≤ ow.length ∧ i = .int .i64 (k : Int) ∧ Bld vI 1 wr0 wx (toI (valK me ow p k)) u (valK me ow p k).length) (fun _ i _ => ow.length - (intOf i).toNat)
      case atStart => exact ⟨0, Nat.zero_le _, rfl, Bld.nil _ _ _ _⟩
      case round =>
        obtain ⟨k, hk, rfl, hst⟩ := hrel
        have HS := hide hst
        clear hst
        by_cases hko : k < ow.length
        · have hki : (k : Int) < (ow.length : Int) := by omega
          have hk0 : (0 : Int) ≤ (k : Int) := by omega
          have HKB := hide (bStepL HB2.out (bStepL HB.out HS.out.below))
          have c0 := keep_cell HKB.out (HC2.out k hko)
          have m0 := keep_cell HKB.out (HC3.out k hko)
          have HVI := hide (valK_in (me := me) (ow := ow) (p := p) (k := k))
          have HVO := hide (valK_out (me := me) (ow := ow) (p := p) (k := k))
          have hvl : (valK me ow p k).length ≤ k := by rw [valK_len]; exact ownN_le _ _ _
          obtain ⟨x, hx⟩ : ∃ x, owN ow k = x := ⟨_, rfl⟩
          obtain ⟨y, hy⟩ : ∃ x, me.getD k 0 = x := ⟨_, rfl⟩
          obtain ⟨V, hV⟩ : ∃ x, valK me ow p k = x := ⟨_, rfl⟩
          rw [hx] at c0 HVI HVO
          rw [hy] at m0 HVI
          rw [hV] at HVI HVO HS hvl
          clear hx hy hV
          by_cases e : x = p
          · have d0 : ((x : Int) == (p : Int)) = true := beq_iff_eq.2 (by omega)
            have HV2 := hide (HVI.out e)
            have hTA : toI (V ++ [y]) = toI V ++ [(y : Int)] := toI_append V [y]
            have HSX : Hid (Bld vI 1 wr0 wr (toI (V ++ [y])) u11 V.length) := by
              show Bld _ _ _ _ _ _ _
              rw [hTA]
              exact HS.out.more (by rw [toI_len]; exact Nat.le_refl _)
            have hpl : V.length < (toI (V ++ [y])).length := by rw [toI_len, List.length_append]; simp
            have hpv : (toI (V ++ [y]))[V.length]'hpl = (y : Int) := by
              rw [toI_get (by rw [List.length_append]; simp)]; simp
            have HPL := hide hpl
            have HPV : Hid ((toI (V ++ [y]))[V.length]'HPL.out = (y : Int)) := hpv
            have HLN : Hid ((V ++ [y]).length = V.length + 1) := by show _ = _; rw [List.length_append]; rfl
            have H1 : Hid (∀ u ∈ (#[Value.int .i64 (y : Int)] : Array Value).toList, u.oneCell' = true) := by
              intro u hu
              simp at hu
              rw [hu]; rfl
            have hbytes : (V.length + 1) * 8 ≤ 140737488355328 := by omega
            have HSZ := hide HSX.out.below.size
            have HOWN := hide HSX.out.own
            clear hTA hpl hpv HS HVI HVO e
            go_wp2_with (at_builtin; refine wpList_appendS rfl _ _ 22 rfl wr0.heap.size 3 i0 (.int .i64 0) 1 8 Tryz.underlying22 hi hz0 hz1 hz2 rfl (by decide) _ V.length _ rfl HOWN.out #[.int .i64 (y : Int)] 3 1 rfl rfl H1.out hbytes (by decide) HSZ.out ?_; intro g4 off4 cap4 w4 hown4 hg4 hb4 hat4; have HNX := hide (HSX.out.step (Below.refl _ _) HPL.out HPV.out rfl hown4 hg4); clear hown4 hg4 hb4 hat4)
            go_roundw
            case rel => exact ⟨k + 1, by omega, by go_num, by rw [HV2.out, HLN.out]; exact HNX.out⟩
            case measure => (simp [intOf]; omega)
          · have d0 : ((x : Int) == (p : Int)) = false := beq_eq_false_iff_ne.2 (by omega)
            have HV2 := hide (HVO.out e)
            clear HVI HVO
            go_wp2_with fail
            go_roundw
            case rel => exact ⟨k + 1, by omega, by go_num, by rw [HV2.out]; exact HS.out⟩
            case measure => (simp [intOf]; omega)
        · obtain rfl : k = ow.length := by omega
          have HVL : Hid (valK me ow p ow.length = valL me ow p) := rfl
          rw [HVL.out] at HS
          have HSV := hide (Bld.to_slice vI_len (M := toI (valL me ow p)) (by rw [toI_len]; exact HS.out))
          have HI3 := hide (HI.out.below HS.out.below)
          have HB3 := hide (bStepL HB.out HS.out.below)
          clear HS HVL
          obtain ⟨uo, uc, rfl⟩ : ∃ uo uc, u11 = .slice uo (valL me ow p).length uc := by
            obtain ⟨uo, uc, e⟩ := HSV.out.shape
            rw [toI_len] at e
            exact ⟨uo, uc, e⟩
          have HVN := hide (valL_len me ow p)
          by_cases hE : ownN ow p ow.length = []
          · have hv0 : (valL me ow p).length = 0 := by rw [HVN.out, hE]; rfl
            have HI4 := hide (HI3.out.congr (fun j hj => hOO_skip hE hj))
            rw [hv0]
            clear hv0 hE HSV HI3 HVN
            go_wp2_with fail
            go_roundw
            case rel => exact ⟨p + 1, by omega, by go_num, HI4.out, HB3.out⟩
            case measure => (simp [intOf]; omega)
          · have hpos : 0 < (valL me ow p).length := by rw [HVN.out]; exact List.length_pos_iff.2 hE
            have hle : (valL me ow p).length ≤ 200 := by rw [HVN.out]; have := ownN_le ow p ow.length; omega
            have HVL : Hid (∀ x ∈ valL me ow p, 1 ≤ x ∧ x ≤ 1000000000) := HK.out.val_le p
            have HSH := hide (fun W (hu : SliceOf vI 1 W (.slice uo (valL me ow p).length uc) (toI (valL me ow p))) => ref28_share (valL me ow p) (totN sh ow p) _ W hu hpos hle (fun x hx => (HVL.out x hx).2) (HTL.out p hlt) (by
              obtain ⟨x, hx⟩ := List.exists_mem_of_length_pos hpos
              exact ⟨x, hx, (HVL.out x hx).1⟩))
            have t0 := keep_cell HB3.out (HT.out p hlt)
            have HOUT : Hid (∀ k, owN ow k = p → sN (valL me ow p) (totN sh ow p) (ownN ow p k).length = outN sh ow me k) := fun k e => by subst e; rfl
            have HLT : Hid (∀ k, k < ow.length → owN ow k = p → (ownN ow p k).length < (valL me ow p).length) := fun k hk e => by
              subst e
              rw [HVN.out]
              exact (List.getElem?_eq_some_iff.1 (ownN_at (ow := ow) hk)).1
            obtain ⟨T, hT⟩ : ∃ x, totN sh ow p = x := ⟨_, rfl⟩
            rw [hT] at HSH t0 HOUT
            obtain ⟨V, hV⟩ : ∃ x, valL me ow p = x := ⟨_, rfl⟩
            rw [hV] at HSH HSV HOUT HLT hpos hle
            rw [hV]
            have hv0 : ((V.length : Int) == 0) = false := beq_eq_false_iff_ne.2 (by omega)
            have hv1 : ¬ V.length = 0 := by omega
            have hVI : (V.length : Int) ≤ 200 := by omega
            clear hE HVN HVL hT hV
            go_wp2_with fail
            refine (HSH.out _ HSV.out).mono ?_
            rintro e w5 ⟨G, rfl, hs5, hg5, hb5⟩
            have HCS : Hid (∀ j, j < V.length → w5.cell? ⟨G, j, none⟩ = some (.int .i64 ((sN V T j : Nat) : Int))) := fun j hj => by
              obtain ⟨b', o', c', e1, _, _, _, hc⟩ := hs5.some_of_pos (by rw [toI_len, seatsN_len]; omega)
              simp only [Value.slice.injEq, Option.some.injEq, Addr.mk.injEq, and_true] at e1
              obtain ⟨⟨rfl, rfl⟩, _, _⟩ := e1
              have h2 := int_cell hc (k := j) (by rw [toI_len, seatsN_len]; exact hj)
              rw [toI_get (by rw [seatsN_len]; exact hj), seatsN_get (by rw [seatsN_len]; exact hj), Nat.zero_add] at h2
              exact h2
            have HGH : Hid (H ≠ G) := fun e => by have := HI3.out.lt; omega
            have HI5 := hide ((HI3.out.below hb5).congr (g := hII sh ow me p 0) (fun j _ => (hII_0 sh ow me p j).symm))
            have HB5 := hide (bStepL HB3.out hb5)
            clear hs5 hg5 hb5 HSH HSV HI3 HB3 t0
            go_wp2_with fail
            go_loopw [15, 16] (fun n i wx => ∃ k : Nat, k ≤ ow.length ∧ i = .int .i64 (k : Int) ∧ n = .int .i64 (((ownN ow p k).length : Nat) : Int) ∧ IC wx H ow.length (hII sh ow me p k) ∧ (∀ j, j < V.length → wx.cell? ⟨G, j, none⟩ = some (.int .i64 ((sN V T j : Nat) : Int))) ∧ Below w2.heap.size w2 wx) (fun _ i _ => ow.length - (intOf i).toNat)
            case atStart => exact ⟨0, Nat.zero_le _, rfl, rfl, HI5.out, HCS.out, HB5.out⟩
            case round =>
              obtain ⟨k, hk, rfl, rfl, hic, hcs, hbl⟩ := hrel
              have HI6 := hide hic
              have HC6 := hide hcs
              have HB6 := hide hbl
              clear hic hcs hbl HI5 HCS HB5
              by_cases hko : k < ow.length
              · have hki : (k : Int) < (ow.length : Int) := by omega
                have hk0 : (0 : Int) ≤ (k : Int) := by omega
                have c0 := keep_cell (bStepL HB2.out HB6.out) (HC2.out k hko)
                have HHI := hide (hII_hit (sh := sh) (ow := ow) (me := me) (p := p) (k := k))
                have HMI := hide (hII_miss (sh := sh) (ow := ow) (me := me) (p := p) (k := k))
                have HOU := hide (HOUT.out k)
                have HLK := hide (HLT.out k hko)
                have HOS := hide (ownN_succ ow p k)
                have hnl : (ownN ow p k).length ≤ k := ownN_le _ _ _
                obtain ⟨x, hx⟩ : ∃ x, owN ow k = x := ⟨_, rfl⟩
                rw [hx] at c0 HHI HMI HOU HLK HOS
                clear hx
                by_cases e : x = p
                · have d0 : ((x : Int) == (p : Int)) = true := beq_iff_eq.2 (by omega)
                  have HOL : Hid ((ownN ow p (k + 1)).length = (ownN ow p k).length + 1) := by show _ = _; rw [HOS.out, if_pos e, List.length_append]; rfl
                  have hnv := HLK.out e
                  have hou := HOU.out e
                  have s0 := HC6.out _ hnv
                  obtain ⟨n, hn⟩ : ∃ n, (ownN ow p k).length = n := ⟨_, rfl⟩
                  rw [hn] at HOL hnv hou s0 hnl
                  rw [hn]
                  rw [hou] at s0
                  have hni : (n : Int) < (V.length : Int) := by omega
                  have hn0 : (0 : Int) ≤ (n : Int) := by omega
                  have o0 := HI6.out.c k hko
                  have z0 := HI6.out.z k hko
                  have HI7 := hide ((HI6.out.set hko ((outN sh ow me k : Nat) : Int)).congr (fun j _ => HHI.out e j))
                  obtain ⟨y, hy⟩ : ∃ y, outN sh ow me k = y := ⟨_, rfl⟩
                  rw [hy] at s0 HI7
                  have HC7 : Hid (∀ j, j < V.length → (wr.setCell ⟨H, k, none⟩ (.int .i64 (y : Int))).cell? ⟨G, j, none⟩ = some (.int .i64 ((sN V T j : Nat) : Int))) := fun j hj => by
                    rw [World.cell?_setCell_other _ _ _ _ (by intro e'; injection e' with e1 e2; exact HGH.out (by first | exact e1 | exact e1.symm))]
                    exact HC6.out j hj
                  have HB7 := hide (HB6.out.setCell (p := ⟨H, k, none⟩) (by have := HHW.out; show w2.heap.size ≤ H; omega) (.int .i64 (y : Int)))
                  clear hn hy hou HHI HMI HOU HLK HOS e
                  go_wp2_with fail
                  refine ⟨?_, ?measure⟩
                  · first
                      | exact ⟨k + 1, by omega, by go_num, by rw [HOL.out]; go_num, HI7.out, HC7.out, HB7.out⟩
                      | ((repeat apply Exists.intro)
                         refine ⟨?rel, rfl⟩
                         case rel => exact ⟨k + 1, by omega, by go_num, by rw [HOL.out]; go_num, HI7.out, HC7.out, HB7.out⟩)
                  case measure => (simp [intOf]; omega)
                · have d0 : ((x : Int) == (p : Int)) = false := beq_eq_false_iff_ne.2 (by omega)
                  have HOL : Hid ((ownN ow p (k + 1)).length = (ownN ow p k).length) := by show _ = _; rw [HOS.out, if_neg e]
                  have HI7 := hide (HI6.out.congr (fun j _ => HMI.out e j))
                  clear HHI HMI HOU HLK HOS
                  go_wp2_with fail
                  go_roundw
                  case rel => exact ⟨k + 1, by omega, by go_num, by rw [HOL.out], HI7.out, HC6.out, HB6.out⟩
                  case measure => (simp [intOf]; omega)
              · obtain rfl : k = ow.length := by omega
                have HI7 := hide (HI6.out.congr (g := hOO sh ow me (p + 1)) (fun j hj => hII_end hj))
                go_wp2_with fail
                refine ⟨?_, ?measure⟩
                · first
                    | exact ⟨p + 1, by omega, by go_num, HI7.out, HB6.out⟩
                    | ((repeat apply Exists.intro)
                       refine ⟨?rel, rfl⟩
                       case rel => exact ⟨p + 1, by omega, by go_num, HI7.out, HB6.out⟩)
                case measure => (simp [intOf]; omega)
    · obtain rfl : p = sh.length := by omega
      have HSL : Hid (SliceOf vI 1 wr (.slice (some ⟨H, 0, none⟩) ow.length ow.length) (toI (outL sh ow me))) := HI.out.slice (by rw [toI_len, outL_len]) (fun i hi => by
        have hi' : i < (outL sh ow me).length := by rw [toI_len] at hi; exact hi
        rw [toI_get hi', outL_get hi']
        unfold hOO
        rw [if_pos (HK.out.ow_lt (by rw [outL_len] at hi'; exact hi'))]) (by unfold maxLen; omega)
      have HBE := hide (bStepL HB2.out HB.out)
      go_wp2_with fail
      go_ret2
      exact ⟨_, rfl, HSL.out, HBE.out⟩
end Go.Proofs.YtcgplokdklomlaaGreatDoor
