/- lottery.Tickets. -/
import Derived.Test.YtcgplokdklomlaaGreatDoorLoQ
import Derived.Deep.DeepCutAuto
set_option linter.unusedVariables false
set_option linter.unusedSimpArgs false
namespace Go.Proofs.YtcgplokdklomlaaGreatDoor
open Go.RowKit Go.Maps Go.ChangeShapes

theorem IC.of_block {w w' : World} {b n : Nat} {f : Nat → Int} (h : IC w b n f) (e : w'.heap[b]? = w.heap[b]?) (hs : b < w'.heap.size) : IC w' b n f :=
  ⟨fun i hi => (World.cell?_of_block (w := w) (a := ⟨b, i, none⟩) e).trans (h.c i hi), fun i hi => (World.frozen?_of_block (w := w) (a := ⟨b, i, none⟩) e).trans (h.z i hi), hs⟩
theorem toI_append (l m : List Nat) : toI (l ++ m) = toI l ++ toI m := by unfold toI; rw [List.map_append]
theorem grown_set (w : World) (a : Addr) (u : Value) : w.grownBy (w.setCell a u) (some a.block) := ⟨rfl, rfl, rfl, by simp, fun k _ hne => Below.heap_setCell _ _ _ _ fun e => hne (by rw [e])⟩
theorem zeroIS (w : World) : (zeroValue 22).run Tryz.prog w = .ok (.slice none 0 0) w := by kernel_rfl
theorem groups_rebase {w : World} {P : Program} {k e : TypeId} {q : IntKind} {base b : Nat} (hb : w.heap[b]? = some (.map #[] 0)) (hlt : b < base) : w.ownsGroups (H := Unit) P k base e q b 0 (.map []) :=
  ⟨#[], 0, hb, ⟨by simp, MapKept.stamped_empty 0, by simp⟩, Nat.le_refl _, rfl, hlt, by simp, by simp⟩
theorem groups_map {w : World} {P : Program} {k e : TypeId} {q : IntKind} {base b n : Nat} {D : DataW Unit} (h : w.ownsGroups P k base e q b n D) : w.ownsMap P k (rowElem w base e q) b n D := by
  obtain ⟨es, clock, hb, F, hs, hD, _⟩ := h
  exact ⟨es, clock, hb, F, hs, hD⟩
theorem flat_ints : ∀ zs : List Int, flatV vI zs = zs.map (Value.int .i64)
  | [] => rfl
  | a :: zs => by
    have e : flatV vI (a :: zs) = vI a ++ flatV vI zs := rfl
    rw [e, flat_ints zs]; rfl
theorem ints_slice {w : World} {base e : Nat} {v : Value} {zs : List Int} (h : w.ownsInts base e .i64 v zs) : SliceOf vI 1 w v zs := by
  refine OwnS.slice vI_len (B := base) ?_
  have h1 := OwnS.of_owns h.1
  have e1 : flatV vI zs = zs.map (Value.int .i64) := flat_ints zs
  rw [e1]; exact h1
def ap_shareArgs (ws : List Nat) (t : Nat) : Prop := 0 < ws.length ∧ ws.length ≤ 200 ∧ (∀ x ∈ ws, x ≤ 1000000000) ∧ t ≤ 720 ∧ ∃ x ∈ ws, 0 < x
def TkPost (w : World) (sh ow me : List Nat) (e : Ending) (w' : World) : Prop := ∃ u, e = .returned (.tuple #[u, .int .i64 0]) ∧ SliceOf vI 1 w' u (toI (outL sh ow me)) ∧ Below w.heap.size w w'
theorem vld_of {sh ow me : List Nat} (h : TkOk sh ow me) : vldL (toI sh) (toI ow) (toI me) = true := by
  have hs := h.s16
  have h0 := h.s0
  have e1 : inB 1 16 [((toI sh).length : Int)] = true := inB_iff.2 (fun x hx => by rw [toI_len] at hx; simp at hx; omega)
  have e2 : inB 1 1000 (toI sh) = true := inB_iff.2 (fun x hx => by obtain ⟨y, hy, rfl⟩ := List.mem_map.1 hx; have := h.sv y hy; omega)
  have e3 : inB 0 (((toI sh).length : Int) - 1) (toI ow) = true := inB_iff.2 (fun x hx => by rw [toI_len]; obtain ⟨y, hy, rfl⟩ := List.mem_map.1 hx; have := h.ov y hy; omega)
  have e4 : inB 1 10000 (toI me) = true := inB_iff.2 (fun x hx => by obtain ⟨y, hy, rfl⟩ := List.mem_map.1 hx; have := h.mv y hy; omega)
  unfold vldL
  rw [e1, e2, e3, e4, decide_eq_true (by rw [toI_len]; exact h.o200), decide_eq_true (by rw [toI_len, toI_len, h.ml])]; rfl
theorem toI_cells {w : World} {b off : Nat} {l : List Nat} (h : ∀ i (h : i < (toI l).length) j u, (vI (toI l)[i])[j]? = some u → w.cell? ⟨b, off + i * 1 + j, none⟩ = some u) {k : Nat} (hk : k < l.length) : w.cell? ⟨b, off + k, none⟩ = some (.int .i64 ((l.getD k 0 : Nat) : Int)) := by
  have := int_cell h (k := k) (by rw [toI_len]; exact hk)
  rw [toI_get hk] at this
  rw [List.getD_eq_getElem?_getD, List.getElem?_eq_getElem hk]; exact this
theorem Grp.entry {D : DataW Unit} {ow : List Nat} {n : Nat} (h : Grp D ow n) {left : Lit → Bool} (hle : ∀ kl, left kl = true → Maps.has D kl = true) {x : Int} {c : Value} {kl : Lit} {y : DataW Unit × List MemPlace} {w : World} {base e : Nat}
    (hkey : keyOf Tryz.prog 3 (.int .i64 x) = some kl) (hlk : left kl = true) (hv : rowElem w base e .i64 c = some y) (hat : ∀ zd, D.atKey kl zd = y.1) :
    ∃ p i co cc, i < n ∧ owN ow i = p ∧ x = (p : Int) ∧ kl = .int .i64 (p : Int) ∧ c = .slice co (ownN ow p n).length cc ∧ SliceOf vI 1 w (.slice co (ownN ow p n).length cc) (toI (ownN ow p n)) := by
  obtain ⟨x', e1, rfl, _⟩ := Maps.keyOf_int_inv Tryz.underlying3 hkey
  injection e1 with _ e1
  subst e1
  obtain ⟨i, hi, e2⟩ := h.all _ (hle _ hlk)
  injection e2 with _ e2
  obtain ⟨zs, ho, rfl⟩ := rowElem_inv hv
  have h1 := hat .nil
  rw [e2] at h1
  have h2 := h.row h1 ho
  subst h2
  have h3 := ints_slice ho
  obtain ⟨co, cc, rfl⟩ := h3.shape
  rw [toI_len] at h3
  exact ⟨owN ow i, i, co, cc, hi, rfl, e2, by rw [e2], by rw [toI_len], h3⟩
def gJ (sh ow me : List Nat) (left : Lit → Bool) (p j i : Nat) : Int := if owN ow i = p ∧ (ownN ow p i).length < j then (outN sh ow me i : Int) else (if left (.int .i64 ((owN ow i : Nat) : Int)) then 0 else (outN sh ow me i : Int))
def hL (sh ow me : List Nat) (left : Lit → Bool) (i : Nat) : Int := if left (.int .i64 ((owN ow i : Nat) : Int)) then 0 else (outN sh ow me i : Int)
set_option maxHeartbeats 8000000 in
set_option maxRecDepth 100000 in
theorem lo_tickets (sh ow me : List Nat) (v1 v2 v3 : Value) (w : World) (hk : TkOk sh ow me) (hn : 0 < ow.length) (h1 : SliceOf vI 1 w v1 (toI sh)) (h2 : SliceOf vI 1 w v2 (toI ow)) (h3 : SliceOf vI 1 w v3 (toI me)) :
    Calls Tryz.prog 12 #[v1, v2, v3] w (TkPost w sh ow me) := by
  have HVA := hide (lo_valid (toI sh) (toI ow) (toI me) v1 v2 v3 w true (vld_of hk) h1 h2 h3 (by rw [toI_len]; have := hk.s16; omega) (by rw [toI_len]; have := hk.o200; omega) (by rw [toI_len, hk.ml]; have := hk.o200; omega))
  have HK := hide hk
  obtain ⟨a1, c1, rfl⟩ := h1.shape
  obtain ⟨a2, c2, rfl⟩ := h2.shape
  obtain ⟨a3, c3, rfl⟩ := h3.shape
  have hml := hk.ml
  have hs0 := hk.s0
  have hs16 := hk.s16
  have ho := hk.o200
  obtain ⟨b1, o1, rfl, _, q1, m1, hc1⟩ := SliceOf.at_ h1 (by rw [toI_len]; exact hs0)
  obtain ⟨b2, o2, rfl, _, q2, m2, hc2⟩ := SliceOf.at_ h2 (by rw [toI_len]; exact hn)
  obtain ⟨b3, o3, rfl, _, q3, m3, hc3⟩ := SliceOf.at_ h3 (by rw [toI_len]; omega)
  have HC1 : Hid (∀ k, k < sh.length → w.cell? ⟨b1, o1 + k, none⟩ = some (.int .i64 ((sh.getD k 0 : Nat) : Int))) := fun k hk => toI_cells hc1 hk
  have HC2 : Hid (∀ k, k < ow.length → w.cell? ⟨b2, o2 + k, none⟩ = some (.int .i64 ((owN ow k : Nat) : Int))) := fun k hk => toI_cells hc2 hk
  have HC3 : Hid (∀ k, k < ow.length → w.cell? ⟨b3, o3 + k, none⟩ = some (.int .i64 ((me.getD k 0 : Nat) : Int))) := fun k hk => toI_cells hc3 (by omega)
  rw [toI_len] at q1 q2 q3
  rw [toI_len, toI_len, toI_len] at HVA ⊢
  rw [hml] at HVA q3 ⊢
  unfold maxLen at m1 m2 m3
  have q1I : (sh.length : Int) ≤ (c1 : Int) := by omega
  have q2I : (ow.length : Int) ≤ (c2 : Int) := by omega
  have q3I : (ow.length : Int) ≤ (c3 : Int) := by omega
  have m1I : (c1 : Int) ≤ 9223372036854775807 := by omega
  have m2I : (c2 : Int) ≤ 9223372036854775807 := by omega
  have m3I : (c3 : Int) ≤ 9223372036854775807 := by omega
  have hsI : (sh.length : Int) ≤ 16 := by omega
  have hs0I : (0 : Int) < (sh.length : Int) := by omega
  have hoI : (ow.length : Int) ≤ 200 := by omega
  have ho0 : (0 : Int) < (ow.length : Int) := by omega
  have z0 : ((ow.length : Int) == 0) = false := beq_eq_false_iff_ne.2 (by omega)
  have z1 : ¬ ow.length = 0 := by omega
  have HN := hide hn
  clear hc1 hc2 hc3 h1 h2 h3 hk q1 q2 q3 m1 m2 m3 hml hn
  have hmm := @run_makeMap Tryz.prog
  obtain ⟨i0, hi, hz0, hz1, hz2⟩ := info_parts Tryz.infoInt3
  have HMK := hide (run_make_row' (P := Tryz.prog) 22 3 (.int .i64 0) 8 Tryz.underlying22 Tryz.infoInt3 rfl .i64 .i64 sh.length (by omega) (by omega))
  go_enter Tryz.func12, Tryz.ntmps12
  go_wp2_with fail
  refine HVA.out.mono ?_
  rintro e w1 ⟨rfl, hb⟩
  have HB1 := hide hb
  clear hb HVA
  have hmk := HMK.out
  go_wp2_with fail
  clear hmk hmm z0 z1
  have HG0 : Hid (((w1.alloc (.map #[] 0)).alloc (.cells (madeCells #[.int .i64 0] sh.length) 3)).ownsGroups (H := Unit) Tryz.prog 3 (w1.heap.size + 1 + 1) 3 .i64 w1.heap.size 0 (.map [])) :=
    groups_rebase (((bAlloc (Below.refl (w1.alloc (.map #[] 0)).heap.size _) (.cells (madeCells #[.int .i64 0] sh.length) 3)).block w1.heap.size (by simp)).trans (MapKept.heap_alloc w1 _).1) (by omega)
  have HI0 : Hid (IC ((w1.alloc (.map #[] 0)).alloc (.cells (madeCells #[.int .i64 0] sh.length) 3)) (w1.heap.size + 1) sh.length (fun p => (wtK sh ow 0 p : Int))) := by
    have := (IC.made (w1.alloc (.map #[] 0)) sh.length 3).congr (g := fun p => (wtK sh ow 0 p : Int)) (fun p _ => by unfold wtK; rw [if_pos (by rfl)]; rfl)
    show IC _ _ _ _
    simpa using this
  have HB2 := hide (bAlloc (bAlloc HB1.out (.map #[] 0)) (.cells (madeCells #[.int .i64 0] sh.length) 3))
  have HHS : Hid (w1.heap.size + 1 + 1 ≤ ((w1.alloc (.map #[] 0)).alloc (.cells (madeCells #[.int .i64 0] sh.length) 3)).heap.size) := by
    show _ ≤ _
    simp
  obtain ⟨M, hM⟩ : ∃ M, w1.heap.size = M := ⟨_, rfl⟩
  obtain ⟨wa, hwa⟩ : ∃ x, (w1.alloc (.map #[] 0)).alloc (.cells (madeCells #[.int .i64 0] sh.length) 3) = x := ⟨_, rfl⟩
  have HWM : Hid (w.heap.size ≤ M) := by
    show _ ≤ _
    rw [← hM]; exact HB1.out.size
  rw [hwa, hM] at HG0 HI0 HHS
  rw [hwa] at HB2
  rw [hwa, hM]
  clear hwa hM HB1
  go_loopw [38] (fun z wx => ∃ (k : Nat) (D : DataW Unit), k ≤ ow.length ∧ z = .int .i64 (k : Int) ∧ wx.ownsGroups Tryz.prog 3 (M + 1 + 1) 3 .i64 M k D ∧ Grp D ow k ∧ IC wx (M + 1) sh.length (fun p => (wtK sh ow k p : Int)) ∧ Below w.heap.size w wx ∧ M + 1 + 1 ≤ wx.heap.size) (fun i _ => ow.length - (intOf i).toNat)
  case atStart => exact ⟨0, _, Nat.zero_le _, rfl, HG0.out, Grp.zero ow, HI0.out, HB2.out, HHS.out⟩
  case round =>
    obtain ⟨k, D, hk, rfl, hown, hgrp, hic, hbl, hsz⟩ := hrel
    have HO := hide hown
    have HGR := hide hgrp
    have HI := hide hic
    have HB := hide hbl
    have HSZ := hide hsz
    clear hown hgrp hic hbl hsz HG0 HI0 HB2 HHS
    by_cases hlt : k < ow.length
    · have hki : (k : Int) < (ow.length : Int) := by omega
      have hk0 : (0 : Int) ≤ (k : Int) := by omega
      have d2 := keep_cell HB.out (HC2.out k hlt)
      have hpl := HK.out.ow_lt hlt
      have HST := hide (HGR.out.step)
      have HRW := hide (fun (v : Value) (zs : List Int) h1 h2 => HGR.out.row (p := owN ow k) (w := wr) (base := M + 1 + 1) (e := 3) (v := v) (zs := zs) h1 h2)
      have HWS : Hid (∀ p, wtK sh ow (k + 1) p = if p = owN ow k then sh.getD p 0 else wtK sh ow k p) := fun p => wtK_step
      have HC1p := HC1.out _ hpl
      have HOL := hide (ownN_le ow (owN ow k) k)
      obtain ⟨p, hp⟩ : ∃ p, owN ow k = p := ⟨_, rfl⟩
      rw [hp] at d2 hpl HST HRW HWS HC1p HOL
      clear hp
      have hpI : (p : Int) < (sh.length : Int) := by omega
      have hp0 : (0 : Int) ≤ (p : Int) := by omega
      have hkey : keyOf Tryz.prog 3 (.int .i64 (p : Int)) = some (.int .i64 (p : Int)) := keyI (by unfold inI64; omega)
      go_upto_region 11 with (first
        | (at_lookup; refine wpList_lookup_groups _ rfl _ _ 48 rfl 3 22 3 .i64 Tryz.keyed3 Tryz.underlying48 (zeroIS _) (M + 1 + 1) M k _ rfl HO.out (by unfold maxLen; omega) _ _ rfl hkey ?_; intro v zs hat hoi hzl hback)
        | (at_builtin; refine wpList_append_own_at _ rfl _ _ 22 rfl (M + 1 + 1) 3 i0 (.int .i64 0) 1 8 Tryz.underlying22 hi hz0 hz1 hz2 rfl (by decide) _ _ _ rfl (hoi.1.alloc _) ⟨wr.heap.size, 0, none⟩ 1 1 [.int .i64 (k : Int)] rfl rfl (cell_one_new _ _ _) (ints_oneCell .i64 [(k : Int)]) (by unfold maxLen; omega) (by omega) (by have := HSZ.out; simp; omega) ?_; intro v' w4 hown' hgrow hnil hloc)
        | (at_mapUpdate; refine wpList_mapUpdate_back _ rfl _ _ _ 48 rfl hback rfl rfl rfl ((World.grownBy_alloc _ _ _).trans hgrow) (hoi.appended hown' (WalkArith.wf_i64 (by omega))) (by simp; omega) (hloc.imp id (fun h => ⟨_, h, by simp⟩)) ?_; intro w5 hown2 hgrow2)
        | go_in)
      have hall := (World.grownBy_alloc wr (.cells #[.int .i64 (k : Int)] 3) v.ownBlock).trans hgrow
      have hap := hoi.appended hown' (WalkArith.wf_i64 (by omega) : (Lit.int .i64 (k : Int)).wf = true)
      have hzs := HRW.out v zs hat hoi
      have HB5 := hide (HB.out.groups hoi hall hgrow2 HB.out.size (by have := HWM.out; omega) HWM.out)
      have HG5 : Hid (w5.ownsGroups (H := Unit) Tryz.prog 3 (M + 1 + 1) 3 .i64 M (k + 1) (D.put (.int .i64 (p : Int)) (.slice (lits .i64 (toI (ownN ow p k ++ [k]))) []))) := by
        have h1 : w5.ownsGroups (H := Unit) Tryz.prog 3 (M + 1 + 1) 3 .i64 M (k + 1) (D.put (.int .i64 (p : Int)) (rowDatum .i64 v' (zs ++ [(k : Int)]))) := hown2
        rw [hap.datum_pos (by simp), hzs] at h1
        rw [toI_append]; exact h1
      have HI5 : Hid (IC w5 (M + 1) sh.length (fun p => (wtK sh ow k p : Int))) := by
        have hlt1 := HI.out.lt
        have e1 := hall.block (M + 1) hlt1 (fun e => by have := (hoi.1.lt (M + 1) e.symm).1; omega)
        have e2 := hgrow2.block (M + 1) (Nat.lt_of_lt_of_le hlt1 hall.size) (by simp)
        exact HI.out.of_block (e2.trans e1) (Nat.lt_of_lt_of_le hlt1 (Nat.le_trans hall.size hgrow2.size))
      have HZ5 : Hid (M + 1 + 1 ≤ w5.heap.size) := Nat.le_trans HSZ.out (Nat.le_trans hall.size hgrow2.size)
      clear hat hoi hzl hback hown' hgrow hnil hloc hown2 hgrow2 hall hap hzs HO HI HRW hkey
      have e1 := keep_cell HB5.out HC1p
      have e2 := HI5.out.c p hpl
      have e3 := HI5.out.z p hpl
      have HGN : Hid ((w5.setCell ⟨M + 1, p, none⟩ (.int .i64 ((sh.getD p 0 : Nat) : Int))).ownsGroups (H := Unit) Tryz.prog 3 (M + 1 + 1) 3 .i64 M (k + 1) (D.put (.int .i64 (p : Int)) (.slice (lits .i64 (toI (ownN ow p k ++ [k]))) []))) :=
        HG5.out.kept (grown_set w5 ⟨M + 1, p, none⟩ _) (by simp) (HG5.out.rowsAbove (fun j hj => by simp only [Option.some.injEq] at hj; omega))
      have HIN := hide ((HI5.out.set hpl ((sh.getD p 0 : Nat) : Int)).congr (g := fun q => (wtK sh ow (k + 1) q : Int)) (fun j _ => by
        show _ = ((wtK sh ow (k + 1) j : Nat) : Int)
        rw [HWS.out j]
        by_cases e : j = p
        · subst e; rw [if_pos rfl, if_pos rfl]
        · rw [if_neg e, if_neg e]))
      have HBN := hide (HB5.out.setCell (p := ⟨M + 1, p, none⟩) (by have := HWM.out; simp only; omega) (.int .i64 ((sh.getD p 0 : Nat) : Int)))
      have HZN : Hid (M + 1 + 1 ≤ (w5.setCell ⟨M + 1, p, none⟩ (.int .i64 ((sh.getD p 0 : Nat) : Int))).heap.size) := by
        show _ ≤ _
        have := HZ5.out
        simpa using this
      obtain ⟨x, hx⟩ : ∃ x, sh.getD p 0 = x := ⟨_, rfl⟩
      rw [hx] at e1 HGN HIN HBN HZN
      clear hx
      go_wp2_with fail
      go_roundw
      case rel => exact ⟨k + 1, _, by omega, by go_num, HGN.out, HST.out, HIN.out, HBN.out, HZN.out⟩
      case measure => (simp [intOf]; omega)
    · have hk' : k = ow.length := by omega
      subst hk'
      have HSH := hide (ap_share (wtL sh ow) 720 (.slice (some ⟨M + 1, 0, none⟩) sh.length sh.length) wr (HI.out.slice (by rw [toI_len, wtL_len]) (fun i hi => by
        have hi' : i < (wtL sh ow).length := by rw [toI_len] at hi; exact hi
        rw [toI_get hi', wtL_get hi']) (by unfold maxLen; omega)) (by rw [wtL_len]; omega) (by rw [wtL_len]; omega) HK.out.wt_le (by omega) (HK.out.wt_pos HN.out))
      go_wp2_with fail
      refine HSH.out.mono ?_
      rintro e w6 ⟨TB, rfl, hsu, -, hb⟩
      rw [wtL_len] at hsu ⊢
      have HB6 := hide (bStepL HB.out hb)
      have hnone : wr.grownBy w6 none := ⟨hb.os, hb.tape, hb.output, hb.size, fun k hk _ => hb.block k hk⟩
      have HG6 := hide (HO.out.kept hnone (by simp) (HO.out.rowsAbove (by simp)))
      have HT : Hid (∀ p, p < sh.length → w6.cell? ⟨TB, p, none⟩ = some (.int .i64 ((totN sh ow p : Nat) : Int))) := fun p hp => by
        obtain ⟨b', o', c', e1, _, _, _, hc⟩ := hsu.some_of_pos (by rw [toI_len, seatsN_len, wtL_len]; omega)
        simp only [Value.slice.injEq, Option.some.injEq, Addr.mk.injEq, and_true] at e1
        obtain ⟨⟨rfl, rfl⟩, _, _⟩ := e1
        have h2 := int_cell hc (k := p) (by rw [toI_len, seatsN_len, wtL_len]; exact hp)
        rw [toI_get (by rw [seatsN_len, wtL_len]; exact hp), seatsN_get (by rw [seatsN_len, wtL_len]; exact hp), Nat.zero_add] at h2
        exact h2
      have HTL : Hid (∀ p, p < sh.length → totN sh ow p ≤ 720) := fun p hp => seat_le (by rw [wtL_len]; omega) 720 (by rw [wtL_len]; exact hp)
      clear hsu hb hnone HSH HO HI HB HSZ
      have hmk := run_make_row' (P := Tryz.prog) 22 3 (.int .i64 0) 8 Tryz.underlying22 Tryz.infoInt3 rfl .i64 .i64 ow.length (by omega) (by omega)
      go_upto_region 17 with fail
      clear hmk
      have HIO := hide ((IC.made w6 ow.length 3).congr (g := hL sh ow me (Maps.has D)) (fun i hi => by
        unfold hL
        rw [if_pos]
        rw [HGR.out.has]
        have := ownN_ne (ow := ow) hi
        simp [List.isEmpty_iff, this]))
      have HBO := hide (bAlloc (Below.refl w6.heap.size w6) (.cells (madeCells #[.int .i64 0] ow.length) 3))
      have HMO := hide ((groups_map HG6.out).alloc (.cells (madeCells #[.int .i64 0] ow.length) 3))
      have HML := hide (groups_map HG6.out).lt
      obtain ⟨bo, hbo⟩ : ∃ x, w6.heap.size = x := ⟨_, rfl⟩
      obtain ⟨wo, hwo⟩ : ∃ x, w6.alloc (.cells (madeCells #[.int .i64 0] ow.length) 3) = x := ⟨_, rfl⟩
      have HBS : Hid (wo.heap.size = bo + 1) := by
        show _ = _
        rw [← hwo, ← hbo]; simp
      have HBE := hide hbo
      rw [hwo] at HIO HBO HMO ⊢
      rw [hbo] at HIO HML ⊢
      clear hwo hbo
      go_wp2_with (first | (at_range; refine wpList_range_own _ rfl _ 48 rfl 3 22 Tryz.keyed3 Tryz.underlying48 (rowElem w6 (M + 1 + 1) 3 .i64) M ow.length D rfl HMO.out ?_; intro w7 hrg0 hg0 hs0) | go_in)
      go_frame
      have HRG0 := hide hrg0
      have HR7 : Hid (Below w6.heap.size w6 w7) := HBO.out.grown hg0 (by have := HBS.out; have := HBE.out; omega) (fun k hk => by cases hk)
      have HI7 : Hid (IC w7 bo ow.length (hL sh ow me (Maps.has D))) := HIO.out.of_block (hg0.block bo HIO.out.lt (by simp)) (Nat.lt_of_lt_of_le HIO.out.lt hg0.size)
      have HRS : Hid (bo < wo.heap.size) := by show _ < _; have := HBS.out; omega
      clear hrg0 hg0 hs0 HMO HIO HBO HBS
      obtain ⟨r, hr⟩ : ∃ x, wo.heap.size = x := ⟨_, rfl⟩
      rw [hr] at HRG0 HRS ⊢
      clear hr
      go_loopw [15] (fun _ wx => ∃ (left : Lit → Bool) (cnt : Nat), wx.ranges Tryz.prog 3 (rowElem w6 (M + 1 + 1) 3 .i64) M r ow.length D left cnt ∧ (∀ kl, left kl = true → Maps.has D kl = true) ∧ IC wx bo ow.length (hL sh ow me left) ∧ Below w6.heap.size w6 wx) (fun _ wx => wx.rangeLeft M r)
      case atStart => exact ⟨_, _, HRG0.out, fun _ h => h, HI7.out, HR7.out⟩
      case round =>
        obtain ⟨left, cnt, hrg, hle, hic, hbl⟩ := hrel
        have HRG := hide hrg
        have HLE := hide hle
        have HI := hide hic
        have HB := hide hbl
        clear hrg hle hic hbl HRG0 HR7 HI7
        go_wp2_with (at_next; refine wpList_next_ranges _ rfl _ rfl 3 Tryz.keyed3 (rowElem w6 (M + 1 + 1) 3 .i64) (Value.int .i64) (fun v : Value => v) (fun key kl hkey => by obtain ⟨x, rfl, _⟩ := Maps.keyOf_int_inv Tryz.underlying3 hkey; exact ⟨x, rfl⟩) (fun v y _ => ⟨v, rfl⟩) M r ow.length D left cnt rfl HRG.out ?_ ?_; rotate_left; intro x c kl y w8 cnt' hkey hlk hv hat hrg' hlt hgr hsz hen; obtain ⟨p, i, co, cc, hin, hip, rfl, rfl, rfl, hsl⟩ := HGR.out.entry HLE.out hkey hlk hv hat; rotate_left; intro hc0 hl0)
        · have HSL : Hid (SliceOf vI 1 wr (.slice (some ⟨bo, 0, none⟩) ow.length ow.length) (toI (outL sh ow me))) := HI.out.slice (by rw [toI_len, outL_len]) (fun i hi => by
            have hi' : i < (outL sh ow me).length := by rw [toI_len] at hi; exact hi
            rw [toI_get hi', outL_get hi']
            unfold hL
            rw [hl0, if_neg (by simp)]) (by unfold maxLen; omega)
          go_ret2
          exact ⟨_, rfl, HSL.out, bStepL HB6.out HB.out⟩
        · have HR8 := hide hrg'
          have HLT := hide hlt
          have HSL := hide hsl
          have HIP := hide hip
          have hpl : p < sh.length := by rw [← hip]; exact HK.out.ow_lt hin
          have hom : 0 < (ownN ow p ow.length).length := List.length_pos_iff.2 (by rw [← hip]; exact ownN_ne hin)
          have hol := ownN_le ow p ow.length
          have HB8 : Hid (Below w6.heap.size w6 w8) := HB.out.grown hgr (by have := HB.out.size; omega) (fun k hk => by cases hk; have := HRS.out; have := HBE.out; omega)
          have HI8 : Hid (IC w8 bo ow.length (hL sh ow me left)) := HI.out.of_block (hgr.block bo HI.out.lt (by have := HRS.out; simp; omega)) (Nat.lt_of_lt_of_le HI.out.lt hgr.size)
          obtain ⟨bc, oc, rfl, _, qc, mc, hcc⟩ := SliceOf.at_ (l := toI (ownN ow p ow.length)) (by rw [toI_len]; exact hsl) (by rw [toI_len]; exact hom)
          have HCC : Hid (∀ j (hj : j < (ownN ow p ow.length).length), w6.cell? ⟨bc, oc + j, none⟩ = some (.int .i64 (((ownN ow p ow.length)[j] : Nat) : Int))) := fun j hj => by
            have := int_cell hcc (k := j) (by rw [toI_len]; exact hj)
            rwa [toI_get hj] at this
          rw [toI_len] at qc
          have qcI : ((ownN ow p ow.length).length : Int) ≤ (cc : Int) := by omega
          have mcI : (cc : Int) ≤ 9223372036854775807 := by unfold maxLen at mc; omega
          have HOG : Hid (∀ j (hj : j < (ownN ow p ow.length).length), (ownN ow p ow.length)[j] < ow.length ∧ owN ow (ownN ow p ow.length)[j] = p ∧ (ownN ow p (ownN ow p ow.length)[j]).length = j) := fun j hj => ownN_get hj
          have HVN := hide (valL_len me ow p)
          have HVG : Hid (∀ j (hj : j < (ownN ow p ow.length).length), ∃ h : j < (toI (valL me ow p)).length, (toI (valL me ow p))[j] = ((me.getD (ownN ow p ow.length)[j] 0 : Nat) : Int)) := fun j hj => by
            have h1 : j < (valL me ow p).length := by rw [valL_len]; exact hj
            refine ⟨by rw [toI_len]; exact h1, ?_⟩
            rw [toI_get h1]
            simp only [valL, List.getElem_map]
          have HWS : Hid (ap_shareArgs (valL me ow p) (totN sh ow p)) := ⟨by rw [valL_len]; omega, by rw [valL_len]; omega, fun x hx => (HK.out.val_le p x hx).2, HTL.out p hpl, by
            have h1 : (valL me ow p) ≠ [] := List.length_pos_iff.1 (by rw [valL_len]; exact hom)
            obtain ⟨x, hx⟩ := List.exists_mem_of_ne_nil _ h1
            exact ⟨x, hx, (HK.out.val_le p x hx).1⟩⟩
          have htot := HTL.out p hpl
          have hpI : (p : Int) < (sh.length : Int) := by omega
          have hp0 : (0 : Int) ≤ (p : Int) := by omega
          have HOUT : Hid (∀ i, owN ow i = p → outN sh ow me i = sN (valL me ow p) (totN sh ow p) (ownN ow p i).length) := fun i hi => by unfold outN; rw [hi]
          obtain ⟨own, hown⟩ : ∃ o, ownN ow p ow.length = o := ⟨_, rfl⟩
          have HOW := hide hown
          rw [hown] at HCC qcI hol hom HOG HVN HVG ⊢
          clear hkey hlk hv hat hrg' hlt hgr hsz hen hsl hip hcc qc mc hown
          have homI : (own.length : Int) ≤ 200 := by omega
          go_wp2_with fail
          go_loopw [17, 79] (fun u z wx => ∃ j : Nat, j ≤ own.length ∧ z = .int .i64 (j : Int) ∧ Bld vI 1 w8 wx (toI (valL me ow p)) u j) (fun _ z _ => own.length - (intOf z).toNat)
          case atStart => exact ⟨0, Nat.zero_le _, rfl, Bld.nil _ _ _ _⟩
          case round =>
            obtain ⟨j, hj, rfl, hst⟩ := hrel
            have HS := hide hst
            clear hst
            by_cases hjl : j < own.length
            · have hji : (j : Int) < (own.length : Int) := by omega
              have hj0 : (0 : Int) ≤ (j : Int) := by omega
              obtain ⟨g1, g2, g3⟩ := HOG.out j hjl
              obtain ⟨v1, v2⟩ := HVG.out j hjl
              have d1 := keep_cell (bStepL HB8.out HS.out.below) (HCC.out j hjl)
              have d2 := keep_cell (bStepL HB6.out (bStepL HB8.out HS.out.below)) (HC3.out _ g1)
              obtain ⟨i', hi'⟩ : ∃ x, own[j] = x := ⟨_, rfl⟩
              rw [hi'] at g1 d1 d2 v2
              obtain ⟨x, hx⟩ : ∃ x, me.getD i' 0 = x := ⟨_, rfl⟩
              rw [hx] at d2 v2
              have HV2 := hide v2
              have i1 : (i' : Int) < (ow.length : Int) := by omega
              have i2 : (0 : Int) ≤ (i' : Int) := by omega
              clear hi' hx g2 g3 v2
              have H1 : Hid (∀ u ∈ (#[Value.int .i64 (x : Int)] : Array Value).toList, u.oneCell' = true) := by
                intro u hu
                simp at hu
                rw [hu]; rfl
              have hbytes : (j + 1) * 8 ≤ 140737488355328 := by omega
              have HSZ := hide HS.out.below.size
              have HOWN := hide HS.out.own
              go_wp2_with (at_builtin; refine wpList_appendS rfl _ _ 22 rfl w8.heap.size 3 i0 (.int .i64 0) 1 8 Tryz.underlying22 hi hz0 hz1 hz2 rfl (by decide) _ j _ rfl HOWN.out #[.int .i64 (x : Int)] 3 1 rfl rfl H1.out hbytes (by decide) HSZ.out ?_; intro g4 off4 cap4 w4 hown4 hg4 hb4 hat4; have HN := hide (HS.out.step (Below.refl _ _) v1 HV2.out rfl hown4 hg4); clear hown4 hg4 hb4 hat4)
              go_roundw
              case rel => exact ⟨j + 1, by omega, by go_num, HN.out⟩
              case measure => (simp [intOf]; omega)
            · have hj' : j = own.length := by omega
              subst hj'
              have HSV := hide (Bld.to_slice vI_len (M := toI (valL me ow p)) (by rw [toI_len, HVN.out]; exact HS.out))
              have HB9 := hide (bStepL HB8.out HS.out.below)
              have d1 := keep_cell HB9.out (HT.out p hpl)
              have HSH := hide (ap_share (valL me ow p) (totN sh ow p) _ wr HSV.out HWS.out.1 HWS.out.2.1 HWS.out.2.2.1 HWS.out.2.2.2.1 HWS.out.2.2.2.2)
              have HI9 : Hid (IC wr bo ow.length (hL sh ow me left)) := HI8.out.below HS.out.below
              have HR9 : Hid (wr.ranges Tryz.prog 3 (rowElem w6 (M + 1 + 1) 3 .i64) M r ow.length D (fun z => left z && !z.sameKey (.int .i64 (p : Int))) cnt') :=
                HR8.out.kept (row := none) ⟨HS.out.below.os, HS.out.below.tape, HS.out.below.output, HS.out.below.size, fun k hk _ => HS.out.below.block k hk⟩ (by simp) (by simp)
              clear HS HSV
              obtain ⟨tot, htt⟩ : ∃ x, totN sh ow p = x := ⟨_, rfl⟩
              rw [htt] at d1 HSH HOUT htot
              clear htt
              go_wp2_with fail
              refine HSH.out.mono ?_
              rintro e w9 ⟨SB, rfl, hss, hsb, hb⟩
              rw [HVN.out] at hss ⊢
              have HBC := hide (bStepL HB9.out hb)
              have HSE : Hid (∀ j, j < own.length → w9.cell? ⟨SB, j, none⟩ = some (.int .i64 ((sN (valL me ow p) tot j : Nat) : Int))) := fun j hj => by
                obtain ⟨b', o', c', e1, _, _, _, hc⟩ := hss.some_of_pos (by rw [toI_len, seatsN_len, HVN.out]; omega)
                simp only [Value.slice.injEq, Option.some.injEq, Addr.mk.injEq, and_true] at e1
                obtain ⟨⟨rfl, rfl⟩, _, _⟩ := e1
                have h2 := int_cell hc (k := j) (by rw [toI_len, seatsN_len, HVN.out]; exact hj)
                rw [toI_get (by rw [seatsN_len, HVN.out]; exact hj), seatsN_get (by rw [seatsN_len, HVN.out]; exact hj), Nat.zero_add] at h2
                exact h2
              have HSB : Hid (bo < SB) := Nat.lt_of_lt_of_le HI9.out.lt hsb
              have HIC := hide (HI9.out.below hb)
              have HRC : Hid (w9.ranges Tryz.prog 3 (rowElem w6 (M + 1 + 1) 3 .i64) M r ow.length D (fun z => left z && !z.sameKey (.int .i64 (p : Int))) cnt') :=
                HR9.out.kept (row := none) ⟨hb.os, hb.tape, hb.output, hb.size, fun k hk _ => hb.block k hk⟩ (by simp) (by simp)
              clear hss hsb hb HR9 HI9 HSH d1 HB9
              have HBW := HBC.out.size
              go_wp2_with fail
              go_loopw [105] (fun z wx => ∃ j : Nat, j ≤ own.length ∧ z = .int .i64 (j : Int) ∧ IC wx bo ow.length (gJ sh ow me left p j) ∧ w9.grownBy wx (some bo)) (fun z _ => own.length - (intOf z).toNat)
              case atStart => exact ⟨0, Nat.zero_le _, rfl, HIC.out.congr (fun i _ => by unfold gJ; rw [if_neg (fun h => absurd h.2 (Nat.not_lt_zero _))]; rfl), ⟨rfl, rfl, rfl, Nat.le_refl _, fun _ _ _ => rfl⟩⟩
              case round =>
                obtain ⟨j, hj, rfl, hic, hgr⟩ := hrel
                have HI := hide hic
                have HG := hide hgr
                clear hic hgr HIC
                have HBX : Hid (Below w6.heap.size w6 wr) := HBC.out.grown HG.out HBW (fun k hk => by cases hk; have := HBE.out; omega)
                by_cases hjl : j < own.length
                · have hji : (j : Int) < (own.length : Int) := by omega
                  have hj0 : (0 : Int) ≤ (j : Int) := by omega
                  obtain ⟨g1, g2, g3⟩ := HOG.out j hjl
                  have d1 := keep_cell HBX.out (HCC.out j hjl)
                  have hse := HSE.out j hjl
                  have d2 : wr.cell? ⟨SB, j, none⟩ = some (.int .i64 ((sN (valL me ow p) tot j : Nat) : Int)) := by
                    have hlt := World.block_lt_of_cell? w9 _ hse
                    rw [World.cell?_of_block (w := w9) (a := ⟨SB, j, none⟩) (HG.out.block SB hlt (by have := HSB.out; simp; omega))]
                    exact hse
                  have HOU := hide (HOUT.out _ g2)
                  obtain ⟨i', hi'⟩ : ∃ x, own[j] = x := ⟨_, rfl⟩
                  rw [hi'] at g1 g2 g3 d1 HOU
                  rw [g3] at HOU
                  have c1 := HI.out.c i' g1
                  have z1 := HI.out.z i' g1
                  have HGN : Hid (∀ q, q < ow.length → (if q = i' then ((sN (valL me ow p) tot j : Nat) : Int) else gJ sh ow me left p j q) = gJ sh ow me left p (j + 1) q) := fun q _ => by
                    unfold gJ
                    by_cases e : q = i'
                    · rw [if_pos e, e, if_pos ⟨g2, by rw [g3]; omega⟩, HOU.out]
                    · rw [if_neg e]
                      by_cases e2 : owN ow q = p ∧ (ownN ow p q).length < j
                      · rw [if_pos e2, if_pos ⟨e2.1, by omega⟩]
                      · rw [if_neg e2]
                        by_cases e3 : owN ow q = p ∧ (ownN ow p q).length < j + 1
                        · refine absurd ?_ e
                          have h1 := ownN_at (ow := ow) (i := q) (k := ow.length) (by omega)
                          rw [e3.1, HOW.out] at h1
                          have h2 : (ownN ow p q).length = j := by
                            have := e2
                            omega
                          rw [h2, List.getElem?_eq_getElem hjl, hi'] at h1
                          simpa using h1.symm
                        · rw [if_neg e3]
                  have i1 : (i' : Int) < (ow.length : Int) := by omega
                  have i2 : (0 : Int) ≤ (i' : Int) := by omega
                  obtain ⟨y, hy⟩ : ∃ x, sN (valL me ow p) tot j = x := ⟨_, rfl⟩
                  rw [hy] at d2 HGN
                  have HN := hide ((HI.out.set g1 ((y : Nat) : Int)).congr HGN.out)
                  have HGG : Hid (w9.grownBy (wr.setCell ⟨bo, i', none⟩ (.int .i64 (y : Int))) (some bo)) := HG.out.trans (grown_set wr ⟨bo, i', none⟩ _)
                  clear hi' hy g2 g3 hse
                  go_wp2_with fail
                  go_roundw
                  case rel => exact ⟨j + 1, by omega, by go_num, HN.out, HGG.out⟩
                  case measure => (simp [intOf]; omega)
                · have hj' : j = own.length := by omega
                  subst hj'
                  have HRN := hide (HRC.out.kept HG.out (by have := HML.out; simp; omega) (by have := HRS.out; simp; omega))
                  have HIN : Hid (IC wr bo ow.length (hL sh ow me (fun z => left z && !z.sameKey (.int .i64 (p : Int))))) := HI.out.congr (fun q hq => by
                    unfold gJ hL
                    show (if _ then _ else _) = (if (left (.int .i64 ((owN ow q : Nat) : Int)) && !(Lit.sameKey (.int .i64 ((owN ow q : Nat) : Int)) (.int .i64 (p : Int)))) = true then (0 : Int) else (outN sh ow me q : Int))
                    by_cases e : owN ow q = p
                    · have h1 := ownN_at (ow := ow) (i := q) (k := ow.length) hq
                      rw [e, HOW.out] at h1
                      have h2 : Lit.sameKey (.int .i64 ((owN ow q : Nat) : Int)) (.int .i64 (p : Int)) = true := by rw [e]; exact WideAt.sameKey_self (keyP p)
                      have h3 : (ownN ow p q).length < own.length := (List.getElem?_eq_some_iff.1 h1).1
                      rw [if_pos ⟨e, h3⟩, h2, if_neg (by simp)]
                    · rw [if_neg (fun h => e h.1)]
                      have : Lit.sameKey (.int .i64 ((owN ow q : Nat) : Int)) (.int .i64 (p : Int)) = false := sameKey_ne (fun h => e (by injection h with _ h; omega))
                      rw [this, Bool.not_false, Bool.and_true])
                  have HLN : Hid (∀ kl, (left kl && !kl.sameKey (.int .i64 (p : Int))) = true → Maps.has D kl = true) := fun kl h => HLE.out kl (by rw [Bool.and_eq_true] at h; exact h.1)
                  go_wp2_with fail
                  go_roundw
                  case rel => exact ⟨_, cnt', HRN.out, HLN.out, HIN.out, HBX.out⟩
                  case measure =>
                    rw [HRN.out.left_eq, HRG.out.left_eq]
                    exact HLT.out
end Go.Proofs.YtcgplokdklomlaaGreatDoor
