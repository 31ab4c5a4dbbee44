/- Package merge: Groups. -/
import Derived.Test.YtahlhiiekgnmpabMrgE
set_option linter.unusedVariables false
set_option linter.unusedSimpArgs false
namespace Go.Proofs.Ytahlhiiekgnmpab
open Go.RowKit

theorem SetI.keep {w w' : World} {R B : Nat} {v : Value} {win : Int} {l : List Al} {rt : Nat → Nat} (h : SetI w R B v win l rt) (hb : Below w.heap.size w w') : SetI w' R B v win l rt := by
  obtain ⟨pa, sz, dep, hC, hU, hZ⟩ := h.cells
  exact ⟨⟨pa, sz, dep, hC.below hb, hU, hZ⟩, h.own.below hb, h.lt, Nat.le_trans h.base hb.size, h.conn, h.val, h.len, h.win⟩
def allVB (l : List Al) : Bool := l.all valB
theorem allVB_iff {l : List Al} : allVB l = true ↔ AllV l := by unfold allVB AllV; rw [List.all_eq_true]
def gErr (win : Int) (l : List Al) : Int := if 200 < l.length then 2 else if momB win && allVB l then 0 else 1
theorem gErr_big {win : Int} {l : List Al} (h : 200 < l.length) : gErr win l = 2 := by unfold gErr; rw [if_pos h]
theorem gErr_ok {win : Int} {l : List Al} (h : l.length ≤ 200) (hw : momB win = true) (hv : AllV l) : gErr win l = 0 := by
  unfold gErr; rw [if_neg (by omega), hw, allVB_iff.2 hv]; rfl
theorem gErr_win {win : Int} {l : List Al} (h : l.length ≤ 200) (hw : momB win = false) : gErr win l = 1 := by
  unfold gErr; rw [if_neg (by omega), hw]; rfl
theorem gErr_inv {win : Int} {l : List Al} (h : l.length ≤ 200) (hv : allVB l = false) : gErr win l = 1 := by
  unfold gErr; rw [if_neg (by omega), hv, Bool.and_false]; rfl
theorem gErr_iff {win : Int} {l : List Al} : gErr win l = 0 ↔ l.length ≤ 200 ∧ momB win = true ∧ AllV l := by
  unfold gErr
  by_cases h : 200 < l.length
  · rw [if_pos h]
    constructor
    · intro e; cases e
    · intro e; omega
  · rw [if_neg h]
    rcases Bool.eq_false_or_eq_true (momB win) with hw | hw
    · rcases Bool.eq_false_or_eq_true (allVB l) with hv | hv
      · rw [hw, hv]; exact ⟨fun _ => ⟨by omega, rfl, allVB_iff.1 hv⟩, fun _ => rfl⟩
      · rw [hw, hv]
        constructor
        · intro e; cases e
        · intro e; rw [allVB_iff.2 e.2.2] at hv; cases hv
    · rw [hw]
      constructor
      · intro e; cases e
      · intro e; cases e.2.1
/-- What a list of groups is. -/
def GOk (win : Int) (l : List Al) (M : List (List Int)) : Prop :=
  (gErr win l = 0 → ∃ rt, (∀ x y, x < l.length → y < l.length → (rt x = rt y ↔ Conn (adj win l) x y)) ∧ M = gK rt l.length) ∧ (gErr win l ≠ 0 → M = [])
theorem ret_ui {u : Value} {k : IntKind} {a b : Int} (h : a = b) : Ending.returned (.tuple #[u, .int k a]) = .returned (.tuple #[u, .int k b]) := by rw [h]
theorem gok_bad {win : Int} {l : List Al} (h : gErr win l ≠ 0) : GOk win l [] := ⟨fun e => absurd e h, fun _ => rfl⟩
theorem gok_ok {win : Int} {l : List Al} {rt : Nat → Nat} (h : gErr win l = 0) (hc : ∀ x y, x < l.length → y < l.length → (rt x = rt y ↔ Conn (adj win l) x y)) : GOk win l (gK rt l.length) := ⟨fun _ => ⟨rt, hc, rfl⟩, fun e => absurd h e⟩
def GrpsPost (w : World) (win : Int) (l : List Al) (e : Ending) (w' : World) : Prop :=
  ∃ u M, e = .returned (.tuple #[u, .int .i64 (gErr win l)]) ∧ SliceSS vI 1 w' u M ∧ Below w.heap.size w w' ∧ GOk win l M
theorem al_cells {w : World} {b off : Nat} {l : List Al} (h : ∀ i (h : i < l.length) j u, (vAl l[i])[j]? = some u → w.cell? ⟨b, off + i * 5 + j, none⟩ = some u) {k : Nat} (hk : k < l.length) :
    w.cell? ⟨b, off + k * 5, none⟩ = some (.int .i64 l[k].tile) ∧ w.cell? ⟨b, off + k * 5 + 1, none⟩ = some (.int .i64 l[k].cell) ∧ w.cell? ⟨b, off + k * 5 + 2, none⟩ = some (.int .i64 l[k].flt) ∧
      w.cell? ⟨b, off + k * 5 + 3, none⟩ = some (.int .i64 l[k].val) ∧ w.cell? ⟨b, off + k * 5 + 4, none⟩ = some (.int .i64 l[k].at_) := by
  have h0 := h k hk 0 _ rfl
  exact ⟨by simpa using h0, h k hk 1 _ rfl, h k hk 2 _ rfl, h k hk 3 _ rfl, h k hk 4 _ rfl⟩
theorem allVB_take {l : List Al} {k : Nat} (hk : k < l.length) : allVB (l.take (k + 1)) = (allVB (l.take k) && valB l[k]) := by
  unfold allVB
  rw [List.take_succ_eq_append_getElem hk, List.all_append]; simp
theorem allVB_no {l : List Al} {k : Nat} (hk : k < l.length) (h : valB l[k] = false) : allVB l = false := by
  unfold allVB
  rw [List.all_eq_false]
  exact ⟨l[k], List.getElem_mem hk, by rw [h]; simp⟩

set_option maxHeartbeats 2000000 in
set_option maxRecDepth 100000 in
theorem mrg_groups_ok (l : List Al) (win : Int) (v : Value) (w : World) (h : SliceOf vAl 5 w v l) (hl : l.length ≤ 200) (hw : momB win = true) :
    Calls Try.prog 26 #[v, .int .i64 win] w (GrpsPost w win l) := by
  obtain ⟨ao, cp, rfl⟩ := h.shape
  have HC : Hid (0 < l.length → ∃ b off, ao = some ⟨b, off, none⟩ ∧ (cp : Int) ≤ 9223372036854775807 ∧ l.length ≤ cp ∧ ∀ k (hk : k < l.length), w.cell? ⟨b, off + k * 5, none⟩ = some (.int .i64 l[k].tile) ∧ w.cell? ⟨b, off + k * 5 + 1, none⟩ = some (.int .i64 l[k].cell) ∧ w.cell? ⟨b, off + k * 5 + 2, none⟩ = some (.int .i64 l[k].flt) ∧
      w.cell? ⟨b, off + k * 5 + 3, none⟩ = some (.int .i64 l[k].val) ∧ w.cell? ⟨b, off + k * 5 + 4, none⟩ = some (.int .i64 l[k].at_)) := by
    intro h0
    obtain ⟨b, off, h1, _, h2, h3, h4⟩ := h.at_ h0
    unfold maxLen at h3
    exact ⟨b, off, h1, by omega, h2, fun k hk => al_cells h4 hk⟩
  clear h
  have hlI : (l.length : Int) ≤ 200 := by omega
  have HW := hide hw
  clear hw
  go_enter Try.func26, Try.ntmps26
  go_wp2_with fail
  refine (mrg_new_ok win _ HW.out).mono ?_
  rintro e w0 ⟨rfl, hI, hb, hsz⟩
  have HI := hide hI
  have HB := hide hb
  have HT0 : Hid (l.take 0 = []) := rfl
  have HV0 : Hid (allVB (l.take 0) = true) := rfl
  clear hI hb hsz
  go_wp2_with fail
  go_loopw [25] (fun i wr => ∃ (k : Nat) (v : Value) (rt : Nat → Nat), k ≤ l.length ∧ i = .int .i64 k ∧ SetI wr w.heap.size (w.heap.size + 1) v win (l.take k) rt ∧ Below w.heap.size w wr ∧ allVB (l.take k) = true) (fun i _ => l.length - (intOf i).toNat)
  case atStart => exact ⟨0, _, _, Nat.zero_le _, rfl, by rw [HT0.out]; exact HI.out, HB.out, HV0.out⟩
  case round =>
    obtain ⟨k, v, rt, hk, rfl, hst, hbl, hall⟩ := hrel
    have HST := hide hst
    have HBL := hide hbl
    have HAV := hide hall
    clear hst hbl hall
    by_cases hlt : k < l.length
    · obtain ⟨b, off, rfl, hcpI, hcap, hc⟩ := HC.out (by omega)
      obtain ⟨z0, z1, z2, z3, z4⟩ := hc k hlt
      have y0 := keep_cell HBL.out z0
      have y1 := keep_cell HBL.out z1
      have y2 := keep_cell HBL.out z2
      have y3 := keep_cell HBL.out z3
      have y4 := keep_cell HBL.out z4
      have HTK : Hid (l.take (k + 1) = l.take k ++ [l[k]]) := by show _ = _; rw [List.take_succ_eq_append_getElem hlt]
      have HVT := hide (allVB_take hlt)
      have HVN := hide (fun h => allVB_no (l := l) hlt h)
      have htl : (l.take k).length = k := by rw [List.length_take]; omega
      have HTL := hide htl
      have hki : (k : Int) < (l.length : Int) := by omega
      have hk0 : (0 : Int) ≤ (k : Int) := by omega
      clear hc z0 z1 z2 z3 z4 htl
      obtain ⟨a, ha⟩ : ∃ a, l[k] = a := ⟨_, rfl⟩
      rw [ha] at y0 y1 y2 y3 y4 HTK HVT HVN
      clear ha
      have HS1 := hide (HST.out.keep (bAlloc (Below.refl _ wr) (.cells #[.int .i64 a.tile, .int .i64 a.cell, .int .i64 a.flt, .int .i64 a.val, .int .i64 a.at_] 57)))
      have HB1 := hide (bAlloc HBL.out (.cells #[.int .i64 a.tile, .int .i64 a.cell, .int .i64 a.flt, .int .i64 a.val, .int .i64 a.at_] 57))
      rcases Bool.eq_false_or_eq_true (valB a) with hv | hv
      · have HV := hide hv
        clear hv
        go_wp2_with fail
        refine (mrg_add_ok _ _ _ win (l.take k) rt a _ HS1.out HV.out (by rw [HTL.out]; omega)).mono ?_
        rintro e w5 ⟨v5, rt5, rfl, hI5, hO5, _⟩
        have HS5 := hide hI5
        have HB5 := hide (HB1.out.trans (hO5.below (Nat.le_refl _) (fun j hj => by have := (HS1.out.own.lt j hj).1; omega) HB1.out.size))
        clear hI5 hO5
        go_wp2_with fail
        go_roundw
        case rel => exact ⟨k + 1, v5, rt5, by omega, by go_num, by rw [HTK.out]; exact HS5.out, HB5.out, by rw [HVT.out, HAV.out, HV.out]; rfl⟩
        case measure => simp [intOf]; omega
      · have HV := hide hv
        have HE := hide (gErr_inv (win := win) hl (HVN.out hv))
        clear hv
        go_wp2_with fail
        refine (mrg_add_inv a w.heap.size _ HV.out).mono ?_
        rintro e w5 ⟨rfl, hb5⟩
        have HB5 := hide (bstep' HB1.out hb5)
        clear hb5
        go_wp2_with fail
        go_ret2
        exact ⟨.slice none 0 0, [], ret_ui HE.out.symm, SliceSS.nil _ _ _, HB5.out, gok_bad (by rw [HE.out]; decide)⟩
    · have hk' : k = l.length := by omega
      subst hk'
      have HTL : Hid (l.take l.length = l) := List.take_length
      have HV := HAV.out
      rw [HTL.out] at HST HV
      have HE := hide (gErr_ok hl HW.out (allVB_iff.1 HV))
      have HCN := hide HST.out.conn
      clear HV HAV
      by_cases h0 : 0 < l.length
      · obtain ⟨b, off, rfl, hcpI, hcap, hc⟩ := HC.out h0
        clear hc
        go_wp2_with fail
        refine (mrg_setGroups _ _ _ win l rt _ HST.out).mono ?_
        rintro e w6 ⟨u, rfl, hss, _, hg⟩
        have HSS := hide hss
        have HB6 : Hid (Below w.heap.size w w6) := HBL.out.grown hg HBL.out.size (fun j hj => by injection hj with hj; omega)
        clear hss hg
        go_wp2_with fail
        go_ret2
        exact ⟨u, _, ret_ui HE.out.symm, HSS.out, HB6.out, gok_ok HE.out HCN.out⟩
      · go_wp2_with fail
        refine (mrg_setGroups _ _ _ win l rt _ HST.out).mono ?_
        rintro e w6 ⟨u, rfl, hss, _, hg⟩
        have HSS := hide hss
        have HB6 : Hid (Below w.heap.size w w6) := HBL.out.grown hg HBL.out.size (fun j hj => by injection hj with hj; omega)
        clear hss hg
        go_wp2_with fail
        go_ret2
        exact ⟨u, _, ret_ui HE.out.symm, HSS.out, HB6.out, gok_ok HE.out HCN.out⟩
theorem mrg_groups (l : List Al) (win : Int) (v : Value) (w : World) (h : SliceOf vAl 5 w v l) :
    Calls Try.prog 26 #[v, .int .i64 win] w (GrpsPost w win l) := by
  by_cases hl : (l.length : Int) ≤ 200
  · rcases Bool.eq_false_or_eq_true (momB win) with hw | hw
    · exact mrg_groups_ok l win v w h (by omega) hw
    · obtain ⟨ao, cp, rfl⟩ := h.shape
      have HW := hide hw
      have HE := hide (gErr_win (l := l) (win := win) (by omega) hw)
      clear hw h
      go_enter Try.func26, Try.ntmps26
      go_wp2_with fail
      refine (mrg_new_bad win _ HW.out).mono ?_
      rintro e w0 ⟨rfl, rfl⟩
      go_wp2_with fail
      go_ret2
      exact ⟨.slice none 0 0, [], ret_ui HE.out.symm, SliceSS.nil _ _ _, Below.refl _ _, gok_bad (by rw [HE.out]; decide)⟩
  · obtain ⟨ao, cp, rfl⟩ := h.shape
    have hl2 : (200 : Int) < (l.length : Int) := by omega
    have HE := hide (gErr_big (l := l) (win := win) (by omega))
    clear h
    go_enter Try.func26, Try.ntmps26
    go_wp2_with fail
    go_ret2
    exact ⟨.slice none 0 0, [], ret_ui HE.out.symm, SliceSS.nil _ _ _, Below.refl _ _, gok_bad (by rw [HE.out]; decide)⟩
end Go.Proofs.Ytahlhiiekgnmpab
