/- MoX, MoY in one text. -/
import Derived.Test.YtblpnekjnaaeoaaGreatDoorMoW
set_option linter.unusedVariables false
set_option linter.unusedSimpArgs false
namespace Go.Proofs.YtblpnekjnaaeoaaGreatDoor
open Go.RowKit

/-- What the iterator of collect knows at its start. -/
theorem itc_start {n₀ A C Ba Bb : Nat} {w0 wc w1 W : World} {va vb : Value} (hn : n₀ = w0.heap.size) (h0 : Below n₀ w0 wc) (hba : wc.cell? ⟨Ba, 0, none⟩ = some va) (hbb : wc.cell? ⟨Bb, 0, none⟩ = some vb) (hc : C < wc.heap.size) (hA : wc.heap.size ≤ A) (hCa : Ba ≠ C) (hCb : Bb ≠ C)
    (h1 : Below wc.heap.size wc w1) (hv : ∃ v, w1.cell? ⟨A, 0, none⟩ = some v ∧ v.ownBlock = none) (hW : Below w1.heap.size w1 W) : ITC n₀ A C w0 W [(Ba, [va]), (Bb, [vb])] := by
  obtain ⟨v, hv1, hv2⟩ := hv
  have la := World.block_lt_of_cell? _ _ hba
  have lb := World.block_lt_of_cell? _ _ hbb
  simp only at la lb
  have hs := h0.size
  have hr : rowC w1 A = none := by unfold rowC; rw [hv1]; exact hv2
  have h2 : ITC n₀ A C w0 w1 [(Ba, [va]), (Bb, [vb])] := by
    refine ⟨h0.trans (h1.mono (by rw [hn]; exact hs)), fun x hx i hi => ?_, fun x hx => ?_, fun x hx => ?_, fun x hx => ?_, fun g hg => ?_, ⟨v, hv1⟩, fun x hx => ?_, Nat.lt_of_lt_of_le hc h1.size⟩
    · simp only [List.mem_cons, List.not_mem_nil, or_false] at hx
      rcases hx with rfl | rfl
      · obtain rfl : i = 0 := by simp at hi; omega
        exact keep_cell h1 hba
      · obtain rfl : i = 0 := by simp at hi; omega
        exact keep_cell h1 hbb
    · simp only [List.mem_cons, List.not_mem_nil, or_false] at hx
      rcases hx with rfl | rfl <;> (simp only; omega)
    · simp only [List.mem_cons, List.not_mem_nil, or_false] at hx
      rcases hx with rfl | rfl
      · exact hCa
      · exact hCb
    · rw [hr]; simp
    · rw [hr] at hg; cases hg
    · simp only [List.mem_cons, List.not_mem_nil, or_false] at hx
      have := h1.size
      rcases hx with rfl | rfl <;> (simp only; omega)
  exact h2.below hW (by rw [hn]; exact h2.bel.size)
theorem itS_len (a b : List PQ) : (itS a b).length = a.length * b.length := by
  unfold itS
  rw [List.length_flatMap]
  simp only [List.length_map]
  induction a with
  | nil => simp
  | cons p a ih => simp only [List.map_cons, List.sum_cons, List.length_cons, ih]; rw [Nat.succ_mul]; omega
theorem itS_fit {a b : List PQ} {x : PQ} (h : some x ∈ itS a b) : FitQ x.1 ∧ FitQ x.2 := by
  unfold itS at h
  obtain ⟨p, _, h⟩ := List.mem_flatMap.1 h
  obtain ⟨q, _, h⟩ := List.mem_map.1 h
  exact (prS_some h).2
def SumPost (n₀ : Nat) (w : World) (r : Option (List PQ)) (e : Ending) (w' : World) : Prop :=
  ∃ ao cp, e = .returned (.tuple #[.slice ao (r.getD []).length cp, .int .i64 (eO r)]) ∧ SliceOf vPr 6 w' (.slice ao (r.getD []).length cp) ((r.getD []).map encP) ∧ Below n₀ w w'
set_option maxHeartbeats 4000000 in
set_option maxRecDepth 100000 in
theorem mo_Sum (a b : List PQ) (ha : VD (a.map encP) a) (hb : VD (b.map encP) b) (sa : ∀ x ∈ a.map encP, x.1.2.1.size ≤ maxLen ∧ x.1.2.2.size ≤ maxLen ∧ x.2.2.1.size ≤ maxLen ∧ x.2.2.2.size ≤ maxLen) (sb : ∀ x ∈ b.map encP, x.1.2.1.size ≤ maxLen ∧ x.1.2.2.size ≤ maxLen ∧ x.2.2.1.size ≤ maxLen ∧ x.2.2.2.size ≤ maxLen)
    (va vb : Value) (w : World) (hL : LawM w) (hsa : SliceOf vPr 6 w va (a.map encP)) (hsb : SliceOf vPr 6 w vb (b.map encP)) :
    Calls Tryz.prog 16 #[va, vb] w (SumPost w.heap.size w (resO (itS a b))) := by
  have HL := hide hL
  have HSA := hide hsa
  have HSB := hide hsb
  have HA := hide ha
  have HB := hide hb
  have hla := ha.len.2
  have hlb := hb.len.2
  obtain ⟨ao, ca, rfl⟩ := hsa.shape
  obtain ⟨bo, cb, rfl⟩ := hsb.shape
  have hbx := bAlloc (bAlloc (Below.refl w.heap.size w) (.cells #[.slice ao (a.map encP).length ca] 22)) (.cells #[.slice bo (b.map encP).length cb] 22)
  have HBX := hide hbx
  have HV1 : Hid (∀ W, Below w.heap.size w W → Calls Tryz.prog 20 #[.slice ao (a.map encP).length ca] W fun e w' => e = .returned (.bool true) ∧ Below W.heap.size W w') := fun W h => by
    have := mo_Valid (a.map encP) sa _ W (hsa.below h) (hL.below h)
    rwa [vdB_true ⟨a, ha⟩] at this
  have HV2 : Hid (∀ W, Below w.heap.size w W → Calls Tryz.prog 20 #[.slice bo (b.map encP).length cb] W fun e w' => e = .returned (.bool true) ∧ Below W.heap.size W w') := fun W h => by
    have := mo_Valid (b.map encP) sb _ W (hsb.below h) (hL.below h)
    rwa [vdB_true ⟨b, hb⟩] at this
  have x0 : ((w.alloc (.cells #[.slice ao (a.map encP).length ca] 22)).alloc (.cells #[.slice bo (b.map encP).length cb] 22)).cell? ⟨w.heap.size, 0, none⟩ = some (.slice ao (a.map encP).length ca) := by simp [go_sem]
  have x1 : ((w.alloc (.cells #[.slice ao (a.map encP).length ca] 22)).alloc (.cells #[.slice bo (b.map encP).length cb] 22)).cell? ⟨w.heap.size + 1, 0, none⟩ = some (.slice bo (b.map encP).length cb) := by simp [go_sem]
  obtain ⟨na, hna⟩ : ∃ n, (a.map encP).length = n := ⟨_, rfl⟩
  obtain ⟨nb, hnb⟩ : ∃ n, (b.map encP).length = n := ⟨_, rfl⟩
  rw [hna] at HSA HV1 HBX x0 x1
  rw [hnb] at HSB HV2 HBX x0 x1
  rw [hna, hnb]
  have hbx0 : Below w.heap.size w ((w.alloc (.cells #[.slice ao na ca] 22)).alloc (.cells #[.slice bo nb cb] 22)) := HBX.out
  clear hL hsa hsb ha hb sa sb hbx hna hnb
  go_enter Tryz.func16, Tryz.ntmps16
  go_upto_region 1 with fail
  obtain ⟨w0, hw0⟩ : ∃ W, (w.alloc (.cells #[.slice ao na ca] 22)).alloc (.cells #[.slice bo nb cb] 22) = W := ⟨_, rfl⟩
  have HZ : Hid (w0.heap.size = w.heap.size + 2) := by show w0.heap.size = _; rw [← hw0]; simp
  rw [hw0] at HBX x0 x1 ⊢
  clear hw0 hbx0
  have X0 := hide x0
  have X1 := hide x1
  go_wp2_with fail
  refine (HV1.out _ HBX.out).mono ?_
  rintro e w1 ⟨rfl, hb⟩
  have HB1 := hide (bStepM HBX.out hb)
  have y0 := keep_cell hb X0.out
  have y1 := keep_cell hb X1.out
  have hz1 := hb.size
  have Y0 := hide y0
  have Y1 := hide y1
  clear hb x0 x1 HBX
  go_wp2_with fail
  refine (HV2.out _ HB1.out).mono ?_
  rintro e w2 ⟨rfl, hb⟩
  have HB2 := hide (bStepM HB1.out hb)
  have hz2 := hb.size
  have z0 := keep_cell hb Y0.out
  have z1 := keep_cell hb Y1.out
  have hb3 := bAlloc (Below.refl w2.heap.size w2) (.cells #[.int .i64 0] 57)
  have HB3 := hide (HB2.out.trans (hb3.mono HB2.out.size))
  have HC3 := hide (CE.new w2 57)
  have Z0 := hide (keep_cell hb3 z0)
  have Z1 := hide (keep_cell hb3 z1)
  have HSZ3 : Hid ((w2.alloc (.cells #[.int .i64 0] 57)).heap.size = w2.heap.size + 1) := by show _ = _; simp
  clear hb z0 z1 hb3 y0 y1
  go_wp2_with fail
  have hzz := HZ.out
  refine (mo_collect w2.heap.size 44 #[.pointer (some ⟨w.heap.size, 0, none⟩), .pointer (some ⟨w.heap.size + 1, 0, none⟩), .pointer (some ⟨w2.heap.size, 0, none⟩)] (enters_of Tryz.func44 (by kernel_rfl) rfl) (itS a b) (fun x hx => itS_fit hx) (by
    rw [itS_len]
    exact Nat.le_trans (Nat.mul_le_mul hla hlb) (by decide)) w _ HL.out HB3.out (by omega) HC3.out (fun w1' h1 hv l J Jb Jx W hW c0 c2 jj jb bb hY hYb h0 =>
      mo_sumIt 5 l _ w2.heap.size w.heap.size (w.heap.size + 1) (by decide) a b HA.out.vl.fit HB.out.vl.fit (by omega) (by omega) (.slice ao na ca) (.slice bo nb cb) w W HL.out HSA.out HSB.out (by omega) (by rw [HSZ3.out]; omega) J Jb Jx ⟨c0, c2, jj, jb, bb⟩ hY hYb
        (itc_start rfl HB3.out Z0.out Z1.out (by rw [HSZ3.out]; omega) (by omega) (by omega) (by omega) h1 hv hW) h0)).mono ?_
  rintro e w4 ⟨ao', cp', rfl, hs4, hb4⟩
  have HS4 := hide hs4
  have HB4 := hide hb4
  clear hs4 hb4
  obtain ⟨r, hr⟩ : ∃ r, resO (itS a b) = r := ⟨_, rfl⟩
  rw [hr] at HS4 ⊢
  have HR := hide hr
  clear hr
  go_wp2_with fail
  exact bodyPost_ret (v := .tuple #[.slice ao' (r.getD []).length cp', .int .i64 (eO r)]) (by simp [results, Tryz.results16, go_sem]) rfl (by show SumPost _ _ _ _ _; rw [HR.out]; exact ⟨ao', cp', rfl, HS4.out, HB4.out⟩)
end Go.Proofs.YtblpnekjnaaeoaaGreatDoor
namespace Go.Proofs.YtblpnekjnaaeoaaGreatDoor
open Go.RowKit

/-- A list of lists of points, of any texts. -/
def LLt (w : World) (v : Value) (Ms : List (List (T3 × T3))) : Prop := ∃ vs : List Value, SliceOf (fun v => [v]) 1 w v vs ∧ vs.length = Ms.length ∧ ∀ i (h : i < Ms.length) (h' : i < vs.length), SliceOf vPr 6 w vs[i] Ms[i]
theorem LLt.at_ {w W : World} {ao : Option Addr} {n cp : Nat} {Ms : List (List (T3 × T3))} {i : Nat} (h : LLt w (.slice ao n cp) Ms) (hb : Below w.heap.size w W) (hi : i < Ms.length) : n = Ms.length ∧ ∃ b o ai ci, ao = some ⟨b, o, none⟩ ∧ (Ms.length : Int) ≤ (cp : Int) ∧ (cp : Int) ≤ 9223372036854775807 ∧ W.cell? ⟨b, o + i, none⟩ = some (.slice ai Ms[i].length ci) ∧ SliceOf vPr 6 w (.slice ai Ms[i].length ci) Ms[i] := by
  obtain ⟨vs, hs, hl, hv⟩ := h
  obtain ⟨ao', cp', e⟩ := hs.shape
  injection e with e1 e2 e3
  subst e1 e2 e3
  obtain ⟨b, o, e, _, h1, h2, hc⟩ := SliceOf.at_ (hs.below hb) (by omega)
  have hx := hv i hi (by omega)
  obtain ⟨ai, ci, ei⟩ := hx.shape
  refine ⟨hl, b, o, ai, ci, e, by omega, by unfold maxLen at h2; omega, ?_, by rw [← ei]; exact hx⟩
  have := hc i (by omega) 0 _ rfl
  rw [← ei]
  simpa using this
theorem LLt.shape {w : World} {v : Value} {Ms : List (List (T3 × T3))} (h : LLt w v Ms) : ∃ ao cp, v = .slice ao Ms.length cp := by
  obtain ⟨vs, hs, hl, hv⟩ := h
  obtain ⟨ao', cp', e⟩ := hs.shape
  exact ⟨ao', cp', by rw [e, hl]⟩
theorem LLt.lls {w : World} {v : Value} {ls : List (List PQ)} (h : LLt w v (ls.map fun l => l.map encP)) : LLs w v ls := by
  obtain ⟨vs, hs, hl, hv⟩ := h
  rw [List.length_map] at hl
  refine ⟨vs, hs, hl, fun i h h' => ?_⟩
  have := hv i (by simpa using h) h'
  rwa [List.getElem_map] at this
/-- Weights and distributions that are mixed. -/
structure XD (Mw : List T3) (Ms : List (List (T3 × T3))) (ws : List Rat) (ls : List (List PQ)) : Prop where
  ew : Mw = ws.map rqM
  es : Ms = ls.map fun l => l.map encP
  fw : ∀ q ∈ ws, FitQ q ∧ ¬ q < 0
  vl : ∀ l ∈ ls, VD (l.map encP) l
  len : ws.length = ls.length
  tot : totO ws = some 1
def PX (Mw : List T3) (Ms : List (List (T3 × T3))) (k : Nat) : Prop := ∃ (ws : List Rat) (ls : List (List PQ)), ws.length = k ∧ ls.length = k ∧ Mw.take k = ws.map rqM ∧ Ms.take k = (ls.map fun l => l.map encP) ∧ (∀ q ∈ ws, FitQ q ∧ ¬ q < 0) ∧ ∀ l ∈ ls, VD (l.map encP) l
theorem PX.step {Mw : List T3} {Ms : List (List (T3 × T3))} {k : Nat} (h : PX Mw Ms k) (hk : k < Mw.length) (hk' : k < Ms.length) {q : Rat} (hq : Mw[k] = rqM q) (fq : FitQ q) (h0 : ¬ q < 0) (hv : vdB Ms[k] = true) : PX Mw Ms (k + 1) := by
  obtain ⟨ws, ls, h1, h2, h3, h4, h5, h6⟩ := h
  have hx : ∃ L, VD Ms[k] L := Classical.byContradiction fun h => by rw [vdB_false h] at hv; cases hv
  obtain ⟨L, hL⟩ := hx
  refine ⟨ws ++ [q], ls ++ [L], by simp [h1], by simp [h2], ?_, ?_, fun r hr => ?_, fun l hl => ?_⟩
  · rw [List.take_succ_eq_append_getElem hk, h3, List.map_append, hq]; rfl
  · rw [List.take_succ_eq_append_getElem hk', h4, List.map_append, hL.eq]; rfl
  · rcases List.mem_append.1 hr with hr | hr
    · exact h5 r hr
    · rw [List.mem_singleton.1 hr]; exact ⟨fq, h0⟩
  · rcases List.mem_append.1 hl with hl | hl
    · exact h6 l hl
    · rw [List.mem_singleton.1 hl]
      have := hL.eq
      rw [this] at hL
      exact hL
theorem XD.badV {Mw : List T3} {Ms : List (List (T3 × T3))} {k : Nat} (hk : k < Ms.length) (hv : vdB Ms[k] = false) : ¬ ∃ ws ls, XD Mw Ms ws ls := by
  rintro ⟨ws, ls, h⟩
  have e := h.es
  subst e
  simp only [List.length_map] at hk
  rw [List.getElem_map, vdB_true ⟨_, h.vl _ (List.getElem_mem hk)⟩] at hv
  cases hv
theorem XD.badW {Mw : List T3} {Ms : List (List (T3 × T3))} {k : Nat} (hk : k < Mw.length) (hv : vldR Mw[k].1 Mw[k].2.1 Mw[k].2.2 = false ∨ ∃ q, Mw[k] = rqM q ∧ q < 0) : ¬ ∃ ws ls, XD Mw Ms ws ls := by
  rintro ⟨ws, ls, h⟩
  have e := h.ew
  subst e
  simp only [List.length_map] at hk
  rw [List.getElem_map] at hv
  have h1 := h.fw _ (List.getElem_mem hk)
  rcases hv with hv | ⟨q, hq, hlt⟩
  · have := vld_rqM h1.1
    rw [this] at hv; cases hv
  · rw [rqM_inj hq] at h1
    exact h1.2 hlt
theorem XD.badL {Mw : List T3} {Ms : List (List (T3 × T3))} (hl : Mw.length ≠ Ms.length) : ¬ ∃ ws ls, XD Mw Ms ws ls := by
  rintro ⟨ws, ls, h⟩
  refine hl ?_
  rw [h.ew, h.es, List.length_map, List.length_map]
  exact h.len
theorem map_rqM_inj {a b : List Rat} (h : a.map rqM = b.map rqM) : a = b := List.map_inj_right (fun _ _ e => rqM_inj e) |>.1 h
theorem itM_fit {ws : List Rat} {ls : List (List PQ)} (hl : ∀ l ∈ ls, FitL l) {x : PQ} (h : some x ∈ itM ws ls) : FitQ x.1 ∧ FitQ x.2 := by
  unfold itM at h
  obtain ⟨p, hp, h⟩ := List.mem_flatMap.1 h
  obtain ⟨q, hq, h⟩ := List.mem_map.1 h
  exact (prM_some h ((hl _ (List.of_mem_zip hp).2) q hq).1).2
theorem itM_len {ws : List Rat} {ls : List (List PQ)} (hl : ∀ l ∈ ls, l.length ≤ 400) : (itM ws ls).length ≤ ws.length * 400 := by
  unfold itM
  induction ws generalizing ls with
  | nil => simp
  | cons c ws ih =>
    cases ls with
    | nil => simp
    | cons l ls =>
      have h1 := ih (ls := ls) (fun l h => hl l (List.mem_cons_of_mem _ h))
      have h2 := hl l (List.mem_cons_self ..)
      simp only [List.zip_cons_cons, List.flatMap_cons, List.length_append, List.length_map, List.length_cons]
      rw [Nat.succ_mul]
      omega
theorem val_seq {zs : List Rat} {w : World} {ao : Option Addr} {cp : Nat} (hf : ∀ q ∈ zs, FitQ q) (hl : zs.length ≤ 1000000) (hL : LawM w) (hs : SliceOf vQ 3 w (.slice ao zs.length cp) (zs.map rqM)) :
    Calls Tryz.prog 48 #[.func (.func 77) #[] #[.pointer (some ⟨w.heap.size, 0, none⟩)]] (w.alloc (.cells #[.slice ao zs.length cp] 23)) fun e w' => e = .returned (.bool (decide (totO zs = some 1))) ∧ Below w.heap.size w w' := by
  have hba := bAlloc (Below.refl w.heap.size w) (.cells #[.slice ao zs.length cp] 23)
  obtain ⟨fs, hfs⟩ := fq_list zs hf
  have hc : (w.alloc (.cells #[.slice ao zs.length cp] 23)).cell? ⟨w.heap.size, 0, none⟩ = some (.slice ao zs.length cp) := by simp [go_sem]
  refine (mo_total 77 #[.pointer (some ⟨w.heap.size, 0, none⟩)] (enters_of Tryz.func77 (by kernel_rfl) rfl) fs _ (hL.below hba) (fun w1 hb1 l J Jx W hW hJ _ hY h0 =>
    mo_valuesIt 5 l w.heap.size (by decide) zs fs hfs hl (.slice ao zs.length cp) _ W (hs.below hba) J Jx hJ hY (hb1.trans (hW.mono hb1.size)) hc h0)).mono ?_
  rintro e w' ⟨rfl, hb⟩
  rw [hfs]
  exact ⟨rfl, bStepM hba hb⟩
def MixPost (n₀ : Nat) (w : World) (Mw : List T3) (Ms : List (List (T3 × T3))) (e : Ending) (w' : World) : Prop :=
  (∃ ws ls, XD Mw Ms ws ls ∧ SumPost n₀ w (resO (itM ws ls)) e w') ∨ ((¬ ∃ ws ls, XD Mw Ms ws ls) ∧ e = .returned (.tuple #[.slice none 0 0, .int .i64 1]) ∧ Below n₀ w w')
set_option maxHeartbeats 8000000 in
set_option maxRecDepth 100000 in
theorem mo_Mix (Mw : List T3) (Ms : List (List (T3 × T3))) (hlw : Mw.length ≤ 2000) (hwz : ∀ x ∈ Mw, x.2.1.size ≤ maxLen ∧ x.2.2.size ≤ maxLen) (hmz : ∀ M ∈ Ms, ∀ x ∈ M, x.1.2.1.size ≤ maxLen ∧ x.1.2.2.size ≤ maxLen ∧ x.2.2.1.size ≤ maxLen ∧ x.2.2.2.size ≤ maxLen)
    (va vb : Value) (w : World) (hL : LawM w) (hsa : SliceOf vQ 3 w va Mw) (hsb : LLt w vb Ms) :
    Calls Tryz.prog 18 #[va, vb] w (MixPost w.heap.size w Mw Ms) := by
  have HL := hide hL
  have HSA := hide hsa
  have HSB := hide hsb
  have HWZ := hide hwz
  have HMZ := hide hmz
  obtain ⟨ao, ca, rfl⟩ := hsa.shape
  obtain ⟨bo, cb, rfl⟩ := hsb.shape
  have hnI : (Mw.length : Int) ≤ 2000 := by omega
  have hbx0 := bAlloc (bAlloc (Below.refl w.heap.size w) (.cells #[.slice ao Mw.length ca] 23)) (.cells #[.slice bo Ms.length cb] 36)
  have HBX := hide hbx0
  have x0 : ((w.alloc (.cells #[.slice ao Mw.length ca] 23)).alloc (.cells #[.slice bo Ms.length cb] 36)).cell? ⟨w.heap.size, 0, none⟩ = some (.slice ao Mw.length ca) := by simp [go_sem]
  have x1 : ((w.alloc (.cells #[.slice ao Mw.length ca] 23)).alloc (.cells #[.slice bo Ms.length cb] 36)).cell? ⟨w.heap.size + 1, 0, none⟩ = some (.slice bo Ms.length cb) := by simp [go_sem]
  clear hL hsa hsb hwz hmz hbx0
  by_cases hlen : Mw.length = Ms.length
  · obtain ⟨nn, hnn⟩ : ∃ n, Ms.length = n := ⟨_, rfl⟩
    have HBn : Hid (Ms.length = nn) := hnn
    have HAn : Hid (Mw.length = nn) := hlen.trans hnn
    rw [HAn.out] at HBX x0 x1 hnI ⊢
    rw [hnn] at HBX x0 x1 ⊢
    have hn2 : nn ≤ 2000 := by omega
    clear hlen hnn hlw
    go_enter Tryz.func18, Tryz.ntmps18
    go_upto_region 1 with fail
    obtain ⟨w0, hw0⟩ : ∃ W, (w.alloc (.cells #[.slice ao nn ca] 23)).alloc (.cells #[.slice bo nn cb] 36) = W := ⟨_, rfl⟩
    have HZ : Hid (w.heap.size + 2 ≤ w0.heap.size) := by show _ ≤ w0.heap.size; rw [← hw0]; simp
    rw [hw0] at HBX x0 x1 ⊢
    clear hw0
    have X0 := hide x0
    have X1 := hide x1
    go_wp2_with fail
    clear x0 x1
    go_loopw [16] (fun i wx => ∃ k : Nat, k ≤ nn ∧ i = .int .i64 (k : Int) ∧ PX Mw Ms k ∧ Below w.heap.size w wx ∧ wx.cell? ⟨w.heap.size, 0, none⟩ = some (.slice ao nn ca) ∧ wx.cell? ⟨w.heap.size + 1, 0, none⟩ = some (.slice bo nn cb)) (fun i _ => nn - (intOf i).toNat)
    case atStart => exact ⟨0, Nat.zero_le _, rfl, ⟨[], [], rfl, rfl, rfl, rfl, (fun q hq => by cases hq), (fun q hq => by cases hq)⟩, HBX.out, X0.out, X1.out⟩
    case round =>
      obtain ⟨k, hk, rfl, hpx, hb, y0, y1⟩ := hrel
      have HPX := hide hpx
      have HB := hide hb
      have Y0 := hide y0
      have Y1 := hide y1
      clear hpx hb HBX X0 X1
      by_cases hlt : k < nn
      · have hkI : (k : Int) < (nn : Int) := by omega
        have hk0 : (0 : Int) ≤ (k : Int) := by omega
        have hkw : k < Mw.length := by rw [HAn.out]; exact hlt
        have hkm : k < Ms.length := by rw [HBn.out]; exact hlt
        have HSA' : Hid (SliceOf vQ 3 w (.slice ao Mw.length ca) Mw) := HSA.out
        have HSB' : Hid (LLt w (.slice bo Ms.length cb) Ms) := HSB.out
        obtain ⟨bp, of, rfl, g1, g2, hp⟩ := HSA'.out.rqAt HB.out hkw
        rw [HAn.out] at g1
        have HWK := hide (HWZ.out _ (List.getElem_mem hkw))
        have HMK := hide (HMZ.out _ (List.getElem_mem hkm))
        have HBW := hide (fun h => XD.badW (Mw := Mw) (Ms := Ms) (k := k) hkw h)
        have HBV := hide (fun h => XD.badV (Mw := Mw) (Ms := Ms) (k := k) hkm h)
        have HST := hide (fun (q : Rat) h => HPX.out.step hkw hkm (q := q) h)
        obtain ⟨x, hx⟩ : ∃ x, Mw[k] = x := ⟨_, rfl⟩
        rw [hx] at hp HWK HBW
        have HST : Hid (∀ q : Rat, x = rqM q → FitQ q → ¬ q < 0 → vdB Ms[k] = true → PX Mw Ms (k + 1)) := fun q h => HST.out q (hx.trans h)
        obtain ⟨p0, p1, p2⟩ := hp
        have hba := bAlloc (Below.refl _ wr) (.cells #[.bool x.1, .string x.2.1, .string x.2.2] 29)
        have HBA := hide hba
        have HB6 := hide (HB.out.trans (hba.mono HB.out.size))
        obtain ⟨_, bv, ov, ai, ci, rfl, g3, g4, hcv, hsv⟩ := HSB'.out.at_ HB6.out hkm
        rw [HBn.out] at g3
        have HSV := hide hsv
        have HBX6 := hide (B3.new wr x 29)
        have y1' := keep_cell hba y1
        have Y06 := hide (keep_cell hba y0)
        have Y16 := hide y1'
        obtain ⟨mk, hmk⟩ : ∃ mk, Ms[k] = mk := ⟨_, rfl⟩
        rw [hmk] at hcv HSV HMK HBV HST
        obtain ⟨vb1, hvb1⟩ : ∃ b, vdB mk = b := ⟨_, rfl⟩
        have HV1 : Hid (∀ W, Below w.heap.size w W → Calls Tryz.prog 20 #[.slice ai mk.length ci] W fun e w' => e = .returned (.bool vb1) ∧ Below W.heap.size W w') := fun W h => by
          have := mo_Valid mk HMK.out _ W (HSV.out.below h) (HL.out.below h)
          rwa [hvb1] at this
        obtain ⟨vb2, hvb2⟩ : ∃ b, vldR x.1 x.2.1 x.2.2 = b := ⟨_, rfl⟩
        have HV2 : Hid (∀ W, Below w.heap.size w W → Calls Tryz.prog 47 #[.agg #[.bool x.1, .string x.2.1, .string x.2.2]] W fun e w' => e = .returned (.bool vb2) ∧ Below W.heap.size W w') := fun W h => by
          have := rat_valid x.1 x.2.1 x.2.2 W HWK.out.1 HWK.out.2 (HL.out.below h).1
          rwa [hvb2] at this
        have HVB1 := hide hvb1
        have HVB2 := hide hvb2
        obtain ⟨ml, hml⟩ : ∃ n, mk.length = n := ⟨_, rfl⟩
        rw [hml] at hcv HV1
        clear hx hba hsv y0 y1 hmk hvb1 hvb2 hml HSV HMK HWK HPX HB
        cases vb1 with
        | false =>
          have HN : Hid (¬ ∃ ws ls, XD Mw Ms ws ls) := HBV.out HVB1.out
          go_wp2_with fail
          refine (HV1.out _ HB6.out).mono ?_
          rintro e w1 ⟨rfl, hb⟩
          have HB7 := hide (bStepM HB6.out hb)
          clear hb
          go_wp2_with fail
          exact bodyPost_ret (v := .tuple #[.slice none 0 0, .int .i64 1]) (by simp [results, Tryz.results18, go_sem]) rfl (.inr ⟨HN.out, rfl, HB7.out⟩)
        | true =>
          cases vb2 with
          | false =>
            have HN : Hid (¬ ∃ ws ls, XD Mw Ms ws ls) := HBW.out (.inl HVB2.out)
            go_wp2_with fail
            refine (HV1.out _ HB6.out).mono ?_
            rintro e w1 ⟨rfl, hb⟩
            have HB7 := hide (bStepM HB6.out hb)
            obtain ⟨c0, c1, c2⟩ := (⟨keep_cell hb HBX6.out.1, keep_cell hb HBX6.out.2.1, keep_cell hb HBX6.out.2.2⟩ : B3 w1 wr.heap.size x)
            clear hb
            go_wp2_with fail
            refine (HV2.out _ HB7.out).mono ?_
            rintro e w2 ⟨rfl, hb⟩
            have HB8 := hide (bStepM HB7.out hb)
            clear hb c0 c1 c2
            go_wp2_with fail
            exact bodyPost_ret (v := .tuple #[.slice none 0 0, .int .i64 1]) (by simp [results, Tryz.results18, go_sem]) rfl (.inr ⟨HN.out, rfl, HB8.out⟩)
          | true =>
            obtain ⟨q, hq, fq⟩ := vld_get HVB2.out
            have hsg := rq_sign hq
            by_cases hq0 : q < 0
            · have HN : Hid (¬ ∃ ws ls, XD Mw Ms ws ls) := HBW.out (.inr ⟨q, hq, hq0⟩)
              rw [decide_eq_true hq0] at hsg
              have HG := hide hsg
              clear hq fq hq0 hsg
              go_wp2_with fail
              refine (HV1.out _ HB6.out).mono ?_
              rintro e w1 ⟨rfl, hb⟩
              have HB7 := hide (bStepM HB6.out hb)
              have HX7 : Hid (B3 w1 wr.heap.size x) := ⟨keep_cell hb HBX6.out.1, keep_cell hb HBX6.out.2.1, keep_cell hb HBX6.out.2.2⟩
              obtain ⟨c0, c1, c2⟩ := (id HX7.out : B3 _ _ _)
              clear hb
              go_wp2_with fail
              refine (HV2.out _ HB7.out).mono ?_
              rintro e w2 ⟨rfl, hb⟩
              have HB8 := hide (bStepM HB7.out hb)
              have d0 := keep_cell hb HX7.out.1
              rw [HG.out] at d0
              clear hb c0 c1 c2
              go_wp2_with fail
              exact bodyPost_ret (v := .tuple #[.slice none 0 0, .int .i64 1]) (by simp [results, Tryz.results18, go_sem]) rfl (.inr ⟨HN.out, rfl, HB8.out⟩)
            · have HPn := hide (HST.out q hq fq hq0 HVB1.out)
              rw [decide_eq_false hq0] at hsg
              have HG := hide hsg
              clear hq fq hq0 hsg
              go_wp2_with fail
              refine (HV1.out _ HB6.out).mono ?_
              rintro e w1 ⟨rfl, hb⟩
              have HB7 := hide (bStepM HB6.out hb)
              have HX7 : Hid (B3 w1 wr.heap.size x) := ⟨keep_cell hb HBX6.out.1, keep_cell hb HBX6.out.2.1, keep_cell hb HBX6.out.2.2⟩
              have Y07 := hide (keep_cell hb Y06.out)
              have Y17 := hide (keep_cell hb Y16.out)
              obtain ⟨c0, c1, c2⟩ := (id HX7.out : B3 _ _ _)
              clear hb
              go_wp2_with fail
              refine (HV2.out _ HB7.out).mono ?_
              rintro e w2 ⟨rfl, hb⟩
              have HB8 := hide (bStepM HB7.out hb)
              have d0 := keep_cell hb HX7.out.1
              rw [HG.out] at d0
              have Y08 := hide (keep_cell hb Y07.out)
              have Y18 := hide (keep_cell hb Y17.out)
              clear hb c0 c1 c2
              go_wp2_with fail
              refine ⟨?_, ?measure⟩
              case measure => (simp [intOf]; try omega)
              first
                | exact ⟨k + 1, by omega, by go_num, HPn.out, HB8.out, Y08.out, Y18.out⟩
                | ((repeat apply Exists.intro); refine ⟨?rel, rfl⟩; case rel => exact ⟨k + 1, by omega, by go_num, HPn.out, HB8.out, Y08.out, Y18.out⟩)
      · have hkn : k = nn := by omega
        subst hkn
        obtain ⟨ws, ls, h1, h2, h3, h4, h5, h6⟩ := HPX.out
        rw [List.take_of_length_le (by rw [HAn.out]; exact Nat.le_refl _)] at h3
        rw [List.take_of_length_le (by rw [HBn.out]; exact Nat.le_refl _)] at h4
        have HSAq : Hid (SliceOf vQ 3 wr (.slice ao ws.length ca) (ws.map rqM)) := by
          show SliceOf _ _ _ _ _
          have := HSA.out.below HB.out
          rw [HAn.out, h3] at this
          rw [h1]; exact this
        have HTOT := hide (val_seq (fun q hq => (h5 q hq).1) (by omega) (HL.out.below HB.out) HSAq.out)
        have HW3 := hide h3
        have HW4 := hide h4
        have HW5 := hide h5
        have HW6 := hide h6
        have HW1 := hide h1
        have HW2 := hide h2
        clear h3 h4 h5 h6 h2 HPX
        have Y0' := Y0.out
        subst h1
        have HCW : Hid (wr.cell? ⟨w.heap.size, 0, none⟩ = some (.slice ao ws.length ca)) := Y0'
        have hwz : w.heap.size + 1 < wr.heap.size := World.block_lt_of_cell? _ _ Y1.out
        have hba := bAlloc (Below.refl wr.heap.size wr) (.cells #[.slice ao ws.length ca] 23)
        by_cases ht : totO ws = some 1
        · rw [decide_eq_true ht] at HTOT
          have HX : Hid (XD Mw Ms ws ls) := ⟨HW3.out, HW4.out, HW5.out, HW6.out, HW2.out.symm, ht⟩
          clear ht hba Y0'
          go_wp2_with fail
          refine (mo_values _ _ _ _).mono ?_
          rintro e wa ⟨rfl, rfl⟩
          go_wp2_with fail
          refine HTOT.out.mono ?_
          rintro e wb ⟨rfl, hb⟩
          have HBb := hide (bStepM HB.out hb)
          have z0 := keep_cell hb HCW.out
          have z1 := keep_cell hb Y1.out
          have hb3 := bAlloc (Below.refl wb.heap.size wb) (.cells #[.int .i64 0] 57)
          have HB3 := hide (HBb.out.trans (hb3.mono HBb.out.size))
          have HC3 := hide (CE.new wb 57)
          have Z0 := hide (keep_cell hb3 z0)
          have Z1 := hide (keep_cell hb3 z1)
          have HSZ3 : Hid ((wb.alloc (.cells #[.int .i64 0] 57)).heap.size = wb.heap.size + 1) := by show _ = _; simp
          have hzw : wr.heap.size ≤ wb.heap.size := hb.size
          clear hb z0 z1 hb3
          go_wp2_with fail
          refine (mo_collect wb.heap.size 50 #[.pointer (some ⟨w.heap.size, 0, none⟩), .pointer (some ⟨w.heap.size + 1, 0, none⟩), .pointer (some ⟨wb.heap.size, 0, none⟩)] (enters_of Tryz.func50 (by kernel_rfl) rfl) (itM ws ls) (fun x hx => itM_fit (fun l hl => (HW6.out l hl).vl.fit) hx) (by
            have h1 := itM_len (ws := ws) (ls := ls) (fun l hl => (HW6.out l hl).len.2)
            omega) w _ HL.out HB3.out (by omega) HC3.out (fun w1' h1 hv l J Jb Jx W hW c0 c2 jj jb bb hY hYb h0 =>
              mo_mixIt 5 l _ wb.heap.size w.heap.size (w.heap.size + 1) (by decide) ws ls (fun q hq => (HW5.out q hq).1) (fun l hl => ⟨(HW6.out l hl).vl.fit, by have := (HW6.out l hl).len.2; omega⟩) HW2.out.symm (by omega) (.slice ao ws.length ca) (.slice bo ws.length cb) w W HL.out (by have := HSA.out; rw [HAn.out, HW3.out] at this; exact this) (by
                have := HSB.out
                rw [HBn.out, HW4.out] at this
                exact this.lls) (by omega) (by rw [HSZ3.out]; omega) J Jb Jx ⟨c0, c2, jj, jb, bb⟩ hY hYb
                (itc_start rfl HB3.out Z0.out Z1.out (by rw [HSZ3.out]; omega) (by omega) (by omega) (by omega) h1 hv hW) h0)).mono ?_
          rintro e w4 ⟨ao', cp', rfl, hs4, hb4⟩
          have HS4 := hide hs4
          have HB4 := hide hb4
          clear hs4 hb4
          obtain ⟨r, hr⟩ : ∃ r, resO (itM ws ls) = r := ⟨_, rfl⟩
          rw [hr] at HS4 ⊢
          have HR := hide hr
          clear hr
          go_wp2_with fail
          exact bodyPost_ret (v := .tuple #[.slice ao' (r.getD []).length cp', .int .i64 (eO r)]) (by simp [results, Tryz.results18, go_sem]) rfl (.inl ⟨ws, ls, HX.out, by show SumPost _ _ _ _ _; rw [HR.out]; exact ⟨ao', cp', rfl, HS4.out, HB4.out⟩⟩)
        · rw [decide_eq_false ht] at HTOT
          have HN : Hid (¬ ∃ ws ls, XD Mw Ms ws ls) := fun ⟨ws', ls', h⟩ => by
            have e := h.ew
            rw [HW3.out] at e
            rw [map_rqM_inj e] at ht
            exact ht h.tot
          clear ht hba Y0'
          go_wp2_with fail
          refine (mo_values _ _ _ _).mono ?_
          rintro e wa ⟨rfl, rfl⟩
          go_wp2_with fail
          refine HTOT.out.mono ?_
          rintro e wb ⟨rfl, hb⟩
          have HBb := hide (bStepM HB.out hb)
          clear hb
          go_wp2_with fail
          exact bodyPost_ret (v := .tuple #[.slice none 0 0, .int .i64 1]) (by simp [results, Tryz.results18, go_sem]) rfl (.inr ⟨HN.out, rfl, HBb.out⟩)
  · have HN : Hid (¬ ∃ ws ls, XD Mw Ms ws ls) := XD.badL hlen
    obtain ⟨na, hna⟩ : ∃ n, Mw.length = n := ⟨_, rfl⟩
    obtain ⟨nb, hnb⟩ : ∃ n, Ms.length = n := ⟨_, rfl⟩
    rw [hna] at HBX x0 x1 ⊢
    rw [hnb] at HBX x0 x1 ⊢
    have hne : ¬ na = nb := by rw [← hna, ← hnb]; exact hlen
    have hneI : ¬ ((na : Int) = (nb : Int)) := by omega
    clear hlen hna hnb hnI hlw
    go_enter Tryz.func18, Tryz.ntmps18
    go_wp2_with fail
    exact bodyPost_ret (v := .tuple #[.slice none 0 0, .int .i64 1]) (by simp [results, Tryz.results18, go_sem]) rfl (.inr ⟨HN.out, rfl, HBX.out⟩)
end Go.Proofs.YtblpnekjnaaeoaaGreatDoor
