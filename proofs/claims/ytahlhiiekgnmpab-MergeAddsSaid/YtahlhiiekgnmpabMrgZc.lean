/- MergeAdds: the walk. -/
import Derived.Test.YtahlhiiekgnmpabMrgZb
namespace Go.Proofs.Ytahlhiiekgnmpab
open Go.RowKit

structure BC (w : World) (b n : Nat) (f : Nat → Bool) : Prop where
  c : ∀ i, i < n → w.cell? ⟨b, i, none⟩ = some (.bool (f i))
  f : ∀ i, i < n → w.frozen? ⟨b, i, none⟩ = false
  lt : b < w.heap.size
theorem BC.below {w w' : World} {b n : Nat} {f : Nat → Bool} (h : BC w b n f) (hb : Below w.heap.size w w') : BC w' b n f :=
  ⟨fun i hi => keep_cell hb (h.c i hi), fun i hi => (hb.frozen (p := ⟨b, i, none⟩) h.lt).trans (h.f i hi), Nat.lt_of_lt_of_le h.lt hb.size⟩
theorem BC.set {w : World} {b n : Nat} {f g : Nat → Bool} (h : BC w b n f) {i : Nat} (hi : i < n) {x : Bool} (e : ∀ j, g j = if j = i then x else f j) : BC (w.setCell ⟨b, i, none⟩ (.bool x)) b n g := by
  refine ⟨fun j hj => ?_, fun j hj => by rw [World.frozen?_setCell]; exact h.f j hj, by simpa using h.lt⟩
  rw [e j]
  by_cases e' : j = i
  · subst e'; rw [if_pos rfl]; exact World.cell?_setCell_same _ _ _ (h.c j hj)
  · rw [if_neg e', World.cell?_setCell_other _ _ _ _ (by intro e''; injection e''; omega)]; exact h.c j hj
theorem BC.made (w : World) (n : Nat) (T : TypeId) : BC (w.alloc (.cells (madeCells #[.bool false] n) T)) w.heap.size n (fun _ => false) :=
  ⟨fun i hi => by rw [World.cell?_alloc_at _ _ _ _ rfl]; simp [madeCells, hi, Nat.mod_one], fun i hi => by simp [go_sem], by simp⟩
theorem BC.congr {w : World} {b n : Nat} {f g : Nat → Bool} (h : BC w b n f) (e : ∀ j, f j = g j) : BC w b n g := ⟨fun i hi => by rw [← e i]; exact h.c i hi, h.f, h.lt⟩
def fB (T : Nat → Bool) (p : Bool) (i j : Nat) : Bool := if j < i then T j else if j = i then p else false
theorem fB_at (T : Nat → Bool) (p : Bool) (i : Nat) : fB T p i i = p := by unfold fB; rw [if_neg (by omega), if_pos rfl]
theorem fB_set (T : Nat → Bool) (p q : Bool) (i j : Nat) : fB T q i j = if j = i then q else fB T p i j := by
  unfold fB
  by_cases e : j = i
  · subst e; rw [if_neg (by omega), if_pos rfl, if_pos rfl]
  · rw [if_neg e, if_neg e, if_neg e]
theorem fB_next (T : Nat → Bool) (i j : Nat) : fB T (T i) i j = fB T false (i + 1) j := by
  unfold fB
  by_cases h : j < i
  · rw [if_pos h, if_pos (by omega)]
  · rw [if_neg h]
    by_cases e : j = i
    · subst e; rw [if_pos rfl, if_pos (by omega)]
    · rw [if_neg e, if_neg (by omega)]
      split <;> rfl
theorem fB_zero (T : Nat → Bool) (j : Nat) : false = fB T false 0 j := by
  unfold fB
  rw [if_neg (by omega)]
  split <;> rfl
theorem Try.infoB4 : (Try.prog.info? 4).map (fun i => (i.zero, i.size, i.bytes)) = some (some (.bool false), 1, 1) := by kernel_rfl
theorem cell_set_ne {w : World} {b o b' o' : Nat} {v u : Value} (h : w.cell? ⟨b, o, none⟩ = some v) (hn : b ≠ b') : (w.setCell ⟨b', o', none⟩ u).cell? ⟨b, o, none⟩ = some v := by
  rw [World.cell?_setCell_other _ _ _ _ (by intro e; injection e; omega)]; exact h
theorem law38_of_at (rt : Nat → Nat) (n : Nat) (z : Int) (v : Value) (w : World) (hz : z = (n : Int)) (h : SliceSS vI 1 w v (gK rt n)) (hn : n ≤ 1000) : Calls Try.prog 35 #[v, .int .i64 z] w (OfPost w rt n) := by
  subst hz; exact law38_of rt n v w h hn
theorem allVB_take_all {l : List Al} (h : allVB (l.take l.length) = true) : allVB l = true := by rw [List.take_length] at h; exact h

set_option maxHeartbeats 4000000 in
set_option maxRecDepth 100000 in
theorem mergeAdds_walk (l : List Al) (c : Al) (win : Int) (v : Value) (w : World) (h : SliceOf vAl 5 w v l) :
    Calls Try.prog 14 #[v, .agg #[.int .i64 c.tile, .int .i64 c.cell, .int .i64 c.flt, .int .i64 c.val, .int .i64 c.at_], .int .i64 win] w fun e w' => e = .returned (.bool true) ∧ Below w.heap.size w w' := by
  have HC0 : Hid (∀ ao cp, v = .slice ao l.length cp → CellsOf w ao cp l) := fun ao cp e => cells_of (by rw [← e]; exact h)
  obtain ⟨ao, cp, rfl⟩ := h.shape
  have HC := hide (HC0.out ao cp rfl)
  clear h HC0
  obtain ⟨wb, hwb⟩ : ∃ wb, w.alloc (.cells #[.int .i64 c.tile, .int .i64 c.cell, .int .i64 c.flt, .int .i64 c.val, .int .i64 c.at_] 57) = wb := ⟨_, rfl⟩
  have HBW : Hid (Below w.heap.size w wb) := by
    show Below _ _ _
    rw [← hwb]; exact ba _ _
  have HX : Hid (wb.cell? ⟨w.heap.size, 0, none⟩ = some (.int .i64 c.tile) ∧ wb.cell? ⟨w.heap.size, 0 + 1, none⟩ = some (.int .i64 c.cell) ∧ wb.cell? ⟨w.heap.size, 0 + 2, none⟩ = some (.int .i64 c.flt) ∧ wb.cell? ⟨w.heap.size, 0 + 3, none⟩ = some (.int .i64 c.val) ∧ wb.cell? ⟨w.heap.size, 0 + 4, none⟩ = some (.int .i64 c.at_)) := by
    rw [← hwb]
    exact ⟨by simp [go_sem], by simp [go_sem], by simp [go_sem], by simp [go_sem], by simp [go_sem]⟩
  go_enter Try.func14, Try.ntmps14
  go_wp2_with fail
  clear hwb
  refine (law38_head _).mono ?_
  rintro e w1 ⟨rfl, hb1⟩
  have HB1 := hide hb1
  have HBW1 := hide (HBW.out.trans (hb1.mono HBW.out.size))
  clear hb1
  by_cases hl : 24 < l.length
  · have hl2 : (24 : Int) < (l.length : Int) := by omega
    go_wp2_with fail
    go_ret
    exact ⟨rfl, HBW1.out⟩
  have hlI : (l.length : Int) ≤ 24 := by omega
  rcases Bool.eq_false_or_eq_true (momB win) with hw | hw
  · have HW := hide hw
    clear hw
    go_wp2_with fail
    refine (mrg_new_ok win _ HW.out).mono ?_
    rintro e w2 ⟨rfl, hI, hb2, hsz⟩
    have HI := hide hI
    have HB2 := hide hb2
    have HT0 : Hid (l.take 0 = []) := rfl
    have HV0 : Hid (allVB (l.take 0) = true) := rfl
    clear hI hb2 hsz
    go_wp2_with fail
    go_loopw [10] (fun i wx => ∃ (k : Nat) (v : Value) (rt : Nat → Nat), k ≤ l.length ∧ i = .int .i64 k ∧ SetI wx w1.heap.size (w1.heap.size + 1) v win (l.take k) rt ∧ Below w1.heap.size w1 wx ∧ allVB (l.take k) = true) (fun i _ => l.length - (intOf i).toNat)
    case atStart => exact ⟨0, _, _, Nat.zero_le _, rfl, by rw [HT0.out]; exact HI.out, HB2.out, HV0.out⟩
    case round =>
      obtain ⟨k, v, rt, hk, rfl, hst, hbl, hall⟩ := hrel
      have HST := hide hst
      have HBL := hide hbl
      have HAV := hide hall
      clear hst hbl hall HI HB2 HT0 HV0
      by_cases hlt : k < l.length
      · obtain ⟨b, off, rfl, hcpI, hcap, hc⟩ := HC.out (by omega)
        obtain ⟨y0, y1, y2, y3, y4⟩ := cells_in (HBW1.out.trans (HBL.out.mono HBW1.out.size)) (hc k hlt)
        have HTK : Hid (l.take (k + 1) = l.take k ++ [l[k]]) := by show _ = _; rw [List.take_succ_eq_append_getElem hlt]
        have HVT := hide (allVB_take hlt)
        have htl : (l.take k).length = k := by rw [List.length_take]; omega
        have HTL := hide htl
        have hki : (k : Int) < (l.length : Int) := by omega
        have hk0 : (0 : Int) ≤ (k : Int) := by omega
        clear hc htl
        obtain ⟨a, ha⟩ : ∃ a, l[k] = a := ⟨_, rfl⟩
        rw [ha] at y0 y1 y2 y3 y4 HTK HVT
        clear ha
        rcases Bool.eq_false_or_eq_true (valB a) with hv | hv
        · have HV := hide hv
          clear hv
          go_wp2_with fail
          refine (mrg_add_ok _ _ _ win (l.take k) rt a _ HST.out HV.out (by rw [HTL.out]; omega)).mono ?_
          rintro e w5 ⟨v5, rt5, rfl, hI5, hO5, _⟩
          have HS5 := hide hI5
          have HB5 := hide (HBL.out.trans (hO5.below (Nat.le_refl _) (fun j hj => by have := (HST.out.own.lt j hj).1; omega) HBL.out.size))
          clear hI5 hO5 y0 y1 y2 y3 y4
          go_wp2_with fail
          go_roundw
          case rel => exact ⟨k + 1, v5, rt5, by omega, by go_num, by rw [HTK.out]; exact HS5.out, HB5.out, by rw [HVT.out, HAV.out, HV.out]; rfl⟩
          case measure => simp [intOf]; omega
        · have HV := hide hv
          clear hv
          go_wp2_with fail
          refine (mrg_add_inv a w1.heap.size _ HV.out).mono ?_
          rintro e w5 ⟨rfl, hb5⟩
          have HB5 := hide (HBW1.out.trans ((bstep' HBL.out hb5).mono HBW1.out.size))
          clear hb5 y0 y1 y2 y3 y4
          go_wp2_with fail
          go_ret
          exact ⟨rfl, HB5.out⟩
      · have hk' : k = l.length := by omega
        subst hk'
        have HV := hide (allVB_take_all HAV.out)
        have HTL : Hid (l.take l.length = l) := List.take_length
        rw [HTL.out] at HST
        clear HAV HTL
        go_wp2_with fail
        refine (mrg_setGroups _ _ _ win l rt _ HST.out).mono ?_
        rintro e w3 ⟨u, rfl, hss, hI3, hg3⟩
        have HA := hide hss
        have HI3 := hide hI3
        have HB3 := hide (HBL.out.grown hg3 HBL.out.size (fun j hj => by injection hj with hj; omega))
        clear hss hI3 hg3 HST HBL
        go_wp2_with fail
        refine (law38_of rt l.length _ _ HA.out (by omega)).mono ?_
        rintro e w4 ⟨b, O, rfl, hlc, hb4, hbge, hO⟩
        have HL4 := hide hlc
        have HI4 := hide (HI3.out.keep hb4)
        have HB4 := hide (bstep' HB3.out hb4)
        have HBGE := hide hbge
        have HOC : Hid (∀ x y, x < l.length → y < l.length → (O x = O y ↔ Conn (adj win l) x y)) := fun x y hx hy => (hO x y hx hy).trans (HI3.out.conn x y hx hy)
        obtain ⟨x0, x1, x2, x3, x4⟩ := cells_in (HB1.out.trans (HB4.out.mono HB1.out.size)) HX.out
        have hn200 : l.length < 200 := by omega
        rcases Bool.eq_false_or_eq_true (valB c) with hv | hv
        · have HVC := hide hv
          clear hv hlc hb4 hO HA
          go_wp2_with fail
          refine (mrg_add_ok _ _ _ win l rt c _ HI4.out HVC.out hn200).mono ?_
          rintro e w5 ⟨v5, rt5, rfl, hI5, hO5, _⟩
          have HI5 := hide hI5
          have HB5 := hide (HB4.out.trans (hO5.below (Nat.le_refl _) (fun j hj => by have := (HI4.out.own.lt j hj).1; omega) HB4.out.size))
          have hRb : w1.heap.size < b := by have h1 := HI3.out.lt; have h2 := HI3.out.base; have h3 := HBGE.out; omega
          have HL5 : Hid (LC w5 b l.length O) := HL4.out.of_block (hO5.block b HL4.out.lt (by omega) (fun e => by have h1 := (HI3.out.own.lt b e.symm).2; have h2 := HBGE.out; omega)) (Nat.lt_of_lt_of_le HL4.out.lt hO5.size)
          clear hI5 hO5 HI4 HI3 HB4 HL4 x0 x1 x2 x3 x4
          obtain ⟨z, hz⟩ : ∃ z : Int, (cnt (l.length + 1) rt5 (rt5 l.length) : Int) = z := ⟨_, rfl⟩
          rw [hz]
          have HZ := hide hz
          clear hz
          have hlen : (l ++ [c]).length = l.length + 1 := by simp
          have HLEN := hide hlen
          clear hlen
          go_wp2_with fail
          refine (mrg_setGroups _ _ _ win (l ++ [c]) rt5 _ HI5.out).mono ?_
          rintro e w6 ⟨u6, rfl, hss, _, hg6⟩
          have HA6 := hide hss
          rw [HLEN.out] at HA6
          have HB6 := hide (HB5.out.grown hg6 HB5.out.size (fun j hj => by injection hj with hj; omega))
          have HL6 : Hid (LC w6 b l.length O) := HL5.out.of_block (hg6.block b HL5.out.lt (by intro e; injection e with e; omega)) (Nat.lt_of_lt_of_le HL5.out.lt hg6.size)
          clear hss hg6 HL5 HB5
          go_wp2_with fail
          refine (law38_of_at rt5 (l.length + 1) _ _ _ (by omega) HA6.out (by omega)).mono ?_
          rintro e w7 ⟨b7, O', rfl, hlc, hb7, _, hO'⟩
          have HM7 := hide hlc
          have HL7 := hide (HL6.out.below hb7)
          have HB7 := hide (bstep' HB6.out hb7)
          have hON : ∀ x y, x < l.length + 1 → y < l.length + 1 → (O' x = O' y ↔ Conn (adj win (l ++ [c])) x y) := fun x y hx hy =>
            (hO' x y hx hy).trans (HI5.out.conn x y (by rw [HLEN.out]; exact hx) (by rw [HLEN.out]; exact hy))
          have HNEW : Hid (∀ i, i < l.length → (O' i = O' l.length ↔ tP win l c O i l.length = true)) := fun i hi => adds_new (momB_iff.1 HW.out).1 HOC.out hON hi
          have HOLD : Hid (∀ i k, i < l.length → k < l.length → (O' i = O' k ↔ O i = O k ∨ (tP win l c O i l.length = true ∧ tP win l c O k l.length = true))) := fun i k hi hk => adds_old (momB_iff.1 HW.out).1 HOC.out hON hi hk
          have HSIZE : Hid (z = ((1 + tN (fun i => tP win l c O i l.length) l.length : Nat) : Int)) := by
            show z = _
            rw [← HZ.out, adds_size (T := fun i => tP win l c O i l.length) fun i hi => ((hO' i l.length (by omega) (by omega)).symm.trans (HNEW.out i hi))]
          clear hlc hb7 hO' hON HL6 HB6 HA6 HI5 HZ
          have hmk := run_make_row' (P := Try.prog) 62 4 (.bool false) 1 Try.underlying62 Try.infoB4 rfl .i64 .i64 l.length (by omega) (by omega)
          have HBM := hide ((BC.made w7 l.length 4).congr (fB_zero (fun i => tP win l c O i l.length)))
          have HB0 := hide (ba w7 (.cells (madeCells #[.bool false] l.length) 4))
          have HN0 : Hid ((1 : Int) = ((1 + tN (fun i => tP win l c O i l.length) 0 : Nat) : Int)) := rfl
          go_wp2_with fail
          clear hmk
          go_loopw [22, 23] (fun m i wx => ∃ k : Nat, k ≤ l.length ∧ m = .int .i64 ((1 + tN (fun i => tP win l c O i l.length) k : Nat) : Int) ∧ i = .int .i64 k ∧ BC wx w7.heap.size l.length (fB (fun i => tP win l c O i l.length) false k) ∧ Below w7.heap.size w7 wx) (fun _ i _ => l.length - (intOf i).toNat)
          case atStart => exact ⟨0, Nat.zero_le _, congrArg (Value.int .i64) HN0.out, rfl, HBM.out, HB0.out⟩
          case round =>
            obtain ⟨i, hi, rfl, rfl, hbc, hbl⟩ := hrel
            have HBC := hide hbc
            have HBL := hide hbl
            clear hbc hbl HBM HB0 HN0
            by_cases hil : i < l.length
            · have hii : (i : Int) < (l.length : Int) := by omega
              have hi0 : (0 : Int) ≤ (i : Int) := by omega
              have HP0 : Hid (BC wr w7.heap.size l.length (fB (fun i => tP win l c O i l.length) (tP win l c O i 0) i)) := HBC.out
              go_wp2_with fail
              go_loopw [24] (fun x wx => ∃ k : Nat, k ≤ l.length ∧ x = .int .i64 k ∧ BC wx w7.heap.size l.length (fB (fun i => tP win l c O i l.length) (tP win l c O i k) i) ∧ Below w7.heap.size w7 wx) (fun x _ => l.length - (intOf x).toNat)
              case atStart => exact ⟨0, Nat.zero_le _, rfl, HP0.out, HBL.out⟩
              case round =>
                obtain ⟨k, hk, rfl, hbc, hbl⟩ := hrel
                have HBC2 := hide hbc
                have HBL2 := hide hbl
                clear hbc hbl HP0 HBC HBL
                by_cases hkl : k < l.length
                · have hki : (k : Int) < (l.length : Int) := by omega
                  have hk0 : (0 : Int) ≤ (k : Int) := by omega
                  have HTS := hide (tP_succ (win := win) (c := c) (O := O) (i := i) hkl)
                  have t0 := HBC2.out.c i hil
                  have g0 := HBC2.out.f i hil
                  rw [fB_at] at t0
                  have c1 := (HL7.out.below HBL2.out).c i hil
                  have c2 := (HL7.out.below HBL2.out).c k hkl
                  obtain ⟨p, hp⟩ : ∃ p, tP win l c O i k = p := ⟨_, rfl⟩
                  rw [hp] at t0 HTS HBC2
                  clear hp
                  cases p with
                  | true =>
                    go_wp2_with fail
                    go_region
                    all_goals
                      go_wp2_with fail
                      go_roundw
                      case rel => exact ⟨k + 1, by omega, by go_num, (HBC2.out.below (below_drewN (Below.refl _ wr) 1)).set (x := true) hil (fun j => by rw [HTS.out, Bool.true_or]; exact fB_set _ true true i j), (below_drewN HBL2.out 1).setCell (p := ⟨w7.heap.size, i, none⟩) (Nat.le_refl _) _⟩
                      case measure => simp [intOf]; omega
                  | false =>
                    by_cases ho : O i = O k
                    · obtain ⟨b0, off, rfl, hcpI, hcap, hc⟩ := HC.out (by omega)
                      have HB0L : Hid (b0 ≠ w7.heap.size) := by
                        have h1 : b0 < w.heap.size := World.block_lt_of_cell? _ _ (hc k hkl).1
                        have h2 := HBW1.out.size
                        have h3 := HB7.out.size
                        show b0 ≠ _
                        omega
                      obtain ⟨y0, y1, y2, y3, y4⟩ := cells_in (HBW1.out.trans ((HB7.out.trans (HBL2.out.mono HB7.out.size)).mono HBW1.out.size)) (hc k hkl)
                      obtain ⟨x0, x1, x2, x3, x4⟩ := cells_in (HB1.out.trans ((HB7.out.trans (HBL2.out.mono HB7.out.size)).mono HB1.out.size)) HX.out
                      have HVK := hide (allVB_iff.1 HV.out l[k] (List.getElem_mem hkl))
                      clear hc
                      obtain ⟨a, ha⟩ : ∃ x, l[k] = x := ⟨_, rfl⟩
                      rw [ha] at y0 y1 y2 y3 y4 HVK HTS
                      clear ha
                      obtain ⟨p2, hp2⟩ : ∃ p, nearB win a c = p := ⟨_, rfl⟩
                      rw [hp2] at HTS
                      have HP2 := hide hp2
                      have q1 : ((O i : Int) == (O k : Int)) = true := by rw [ho]; simp
                      have q3 : (O i == O k) = true := by rw [ho]; simp
                      clear ho hp2
                      go_wp2_with fail
                      have nb1 : b ≠ w7.heap.size := by have := HL7.out.lt; omega
                      have nb2 : b0 ≠ w7.heap.size := HB0L.out
                      have nb3 : w.heap.size ≠ w7.heap.size := by have h1 := HBW1.out.size; have h2 := HB7.out.size; have h3 : w.heap.size < wb.heap.size := World.block_lt_of_cell? _ _ HX.out.1; have h4 := HB1.out.size; omega
                      refine wp_region_noPanic ?_
                      refine wp_region_held_drew (S := (fun w' => (w'.cell? ⟨b, i, none⟩ = some (.int .i64 (O i : Int)) ∧ w'.cell? ⟨b, k, none⟩ = some (.int .i64 (O k : Int))) ∧
                                                (w'.cell? ⟨b0, off + k * 5, none⟩ = some (.int .i64 a.tile) ∧ w'.cell? ⟨b0, off + k * 5 + 1, none⟩ = some (.int .i64 a.cell) ∧ w'.cell? ⟨b0, off + k * 5 + 2, none⟩ = some (.int .i64 a.flt) ∧ w'.cell? ⟨b0, off + k * 5 + 3, none⟩ = some (.int .i64 a.val) ∧ w'.cell? ⟨b0, off + k * 5 + 4, none⟩ = some (.int .i64 a.at_)) ∧
                                                (w'.cell? ⟨w.heap.size, 0, none⟩ = some (.int .i64 c.tile) ∧ w'.cell? ⟨w.heap.size, 1, none⟩ = some (.int .i64 c.cell) ∧ w'.cell? ⟨w.heap.size, 2, none⟩ = some (.int .i64 c.flt) ∧ w'.cell? ⟨w.heap.size, 3, none⟩ = some (.int .i64 c.val) ∧ w'.cell? ⟨w.heap.size, 4, none⟩ = some (.int .i64 c.at_)))) (by kernel_rfl) (⟨⟨c1, c2⟩, ⟨y0, y1, y2, y3, y4⟩, ⟨x0, x1, x2, x3, x4⟩⟩) (fun hHeld => ?_)
                      change wpAnyH _ _ _ _ _ 28 #[false, false, false, false, false, false, false, false, false, false, false, false, false, false, false, false, false, false, false, false, false, false, false, false, false, false, false, false] _ _
                      refine wpAnyH_take (i := 0) (oi := _) (v := ?_) rfl (by kernel_rfl) (by kernel_rfl) (by kernel_rfl) (fun _ _ _ h => h) (Or.inl ⟨by rfl, ?_⟩) (by assumption) ?_
                      rotate_left
                      · intro w hSw
                        (try dsimp only at hSw)
                        go_simp
                        try with_reducible rfl
                      try simp only [List.getElem_toArray, List.getElem_cons_zero, List.getElem_cons_succ, List.get, Act.put, List.setIfInBounds_toArray, List.set_cons_zero, List.set_cons_succ]
                      refine wpAnyH_take (i := 1) (oi := _) (v := ?_) rfl (by kernel_rfl) (by kernel_rfl) (by kernel_rfl) (fun _ _ _ h => h) (Or.inl ⟨by rfl, ?_⟩) (by assumption) ?_
                      rotate_left
                      · intro w hSw
                        (try dsimp only at hSw)
                        go_simp
                        try with_reducible rfl
                      try simp only [List.getElem_toArray, List.getElem_cons_zero, List.getElem_cons_succ, List.get, Act.put, List.setIfInBounds_toArray, List.set_cons_zero, List.set_cons_succ]
                      refine wpAnyH_take (i := 2) (oi := _) (v := ?_) rfl (by kernel_rfl) (by kernel_rfl) (by kernel_rfl) (fun _ _ _ h => h) (Or.inl ⟨by rfl, ?_⟩) (by assumption) ?_
                      rotate_left
                      · intro w hSw
                        (try dsimp only at hSw)
                        go_simp
                        try with_reducible rfl
                      try simp only [List.getElem_toArray, List.getElem_cons_zero, List.getElem_cons_succ, List.get, Act.put, List.setIfInBounds_toArray, List.set_cons_zero, List.set_cons_succ]
                      refine wpAnyH_take (i := 3) (oi := _) (v := ?_) rfl (by kernel_rfl) (by kernel_rfl) (by kernel_rfl) (fun _ _ _ h => h) (Or.inl ⟨by rfl, ?_⟩) (by assumption) ?_
                      rotate_left
                      · intro w hSw
                        (try dsimp only at hSw)
                        go_simp
                        try with_reducible rfl
                      try simp only [List.getElem_toArray, List.getElem_cons_zero, List.getElem_cons_succ, List.get, Act.put, List.setIfInBounds_toArray, List.set_cons_zero, List.set_cons_succ]
                      refine wpAnyH_take (i := 4) (oi := _) (v := ?_) rfl (by kernel_rfl) (by kernel_rfl) (by kernel_rfl) (fun _ _ _ h => h) (Or.inl ⟨by rfl, ?_⟩) (by assumption) ?_
                      rotate_left
                      · intro w hSw
                        (try dsimp only at hSw)
                        go_simp
                        try with_reducible rfl
                      try simp only [List.getElem_toArray, List.getElem_cons_zero, List.getElem_cons_succ, List.get, Act.put, List.setIfInBounds_toArray, List.set_cons_zero, List.set_cons_succ]
                      refine wpAnyH_ready (rs := [5]) (by kernel_rfl) (by simp) ?_
                      refine AllReadyH.cons (o := _) rfl (fun K hK => ?_) AllReadyH.nil
                      go_simp
                      refine hK.out _ _ (⟨⟨c1, c2⟩, ⟨y0, y1, y2, y3, y4⟩, ⟨x0, x1, x2, x3, x4⟩⟩) (fun hHeld => ?_)
                      clear hK K
                      try simp only [List.getElem_toArray, List.getElem_cons_zero, List.getElem_cons_succ, List.get, Act.put, List.setIfInBounds_toArray, List.set_cons_zero, List.set_cons_succ]
                      refine wpAnyH_take (i := 6) (oi := _) (v := ?_) rfl (by kernel_rfl) (by kernel_rfl) (by kernel_rfl) (fun _ _ _ h => h) (Or.inl ⟨by rfl, ?_⟩) (by assumption) ?_
                      rotate_left
                      · intro w hSw
                        (try dsimp only at hSw)
                        go_simp
                        try with_reducible rfl
                      try simp only [List.getElem_toArray, List.getElem_cons_zero, List.getElem_cons_succ, List.get, Act.put, List.setIfInBounds_toArray, List.set_cons_zero, List.set_cons_succ]
                      refine wpAnyH_take (i := 7) (oi := _) (v := ?_) rfl (by kernel_rfl) (by kernel_rfl) (by kernel_rfl) (fun _ _ _ h => h) (Or.inl ⟨by rfl, ?_⟩) (by assumption) ?_
                      rotate_left
                      · intro w hSw
                        (try dsimp only at hSw)
                        go_simp
                        try with_reducible rfl
                      try simp only [List.getElem_toArray, List.getElem_cons_zero, List.getElem_cons_succ, List.get, Act.put, List.setIfInBounds_toArray, List.set_cons_zero, List.set_cons_succ]
                      refine wpAnyH_take (i := 8) (oi := _) (v := ?_) rfl (by kernel_rfl) (by kernel_rfl) (by kernel_rfl) (fun _ _ _ h => h) (Or.inl ⟨by rfl, ?_⟩) (by assumption) ?_
                      rotate_left
                      · intro w hSw
                        (try dsimp only at hSw)
                        go_simp
                        try with_reducible rfl
                      try simp only [List.getElem_toArray, List.getElem_cons_zero, List.getElem_cons_succ, List.get, Act.put, List.setIfInBounds_toArray, List.set_cons_zero, List.set_cons_succ]
                      refine wpAnyH_take (i := 9) (oi := _) (v := ?_) rfl (by kernel_rfl) (by kernel_rfl) (by kernel_rfl) (fun _ _ _ h => h) (Or.inl ⟨by rfl, ?_⟩) (by assumption) ?_
                      rotate_left
                      · intro w hSw
                        (try dsimp only at hSw)
                        go_simp
                        try with_reducible rfl
                      try simp only [List.getElem_toArray, List.getElem_cons_zero, List.getElem_cons_succ, List.get, Act.put, List.setIfInBounds_toArray, List.set_cons_zero, List.set_cons_succ]
                      refine wpAnyH_take (i := 10) (oi := _) (v := ?_) rfl (by kernel_rfl) (by kernel_rfl) (by kernel_rfl) (fun _ _ _ h => h) (Or.inl ⟨by rfl, ?_⟩) (by assumption) ?_
                      rotate_left
                      · intro w hSw
                        (try dsimp only at hSw)
                        go_simp
                        try with_reducible rfl
                      try simp only [List.getElem_toArray, List.getElem_cons_zero, List.getElem_cons_succ, List.get, Act.put, List.setIfInBounds_toArray, List.set_cons_zero, List.set_cons_succ]
                      refine wpAnyH_take (i := 11) (oi := _) (v := ?_) rfl (by kernel_rfl) (by kernel_rfl) (by kernel_rfl) (fun _ _ _ h => h) (Or.inl ⟨by rfl, ?_⟩) (by assumption) ?_
                      rotate_left
                      · intro w hSw
                        (try dsimp only at hSw)
                        go_simp
                        try with_reducible rfl
                      try simp only [List.getElem_toArray, List.getElem_cons_zero, List.getElem_cons_succ, List.get, Act.put, List.setIfInBounds_toArray, List.set_cons_zero, List.set_cons_succ]
                      refine wpAnyH_take (i := 12) (oi := _) (v := ?_) rfl (by kernel_rfl) (by kernel_rfl) (by kernel_rfl) (fun _ _ _ h => h) (Or.inl ⟨by rfl, ?_⟩) (by assumption) ?_
                      rotate_left
                      · intro w hSw
                        (try dsimp only at hSw)
                        go_simp
                        try with_reducible rfl
                      try simp only [List.getElem_toArray, List.getElem_cons_zero, List.getElem_cons_succ, List.get, Act.put, List.setIfInBounds_toArray, List.set_cons_zero, List.set_cons_succ]
                      refine wpAnyH_take (i := 13) (oi := _) (v := ?_) rfl (by kernel_rfl) (by kernel_rfl) (by kernel_rfl) (fun _ _ _ h => h) (Or.inl ⟨by rfl, ?_⟩) (by assumption) ?_
                      rotate_left
                      · intro w hSw
                        (try dsimp only at hSw)
                        go_simp
                        try with_reducible rfl
                      try simp only [List.getElem_toArray, List.getElem_cons_zero, List.getElem_cons_succ, List.get, Act.put, List.setIfInBounds_toArray, List.set_cons_zero, List.set_cons_succ]
                      refine wpAnyH_take (i := 14) (oi := _) (v := ?_) rfl (by kernel_rfl) (by kernel_rfl) (by kernel_rfl) (fun _ _ _ h => h) (Or.inl ⟨by rfl, ?_⟩) (by assumption) ?_
                      rotate_left
                      · intro w hSw
                        (try dsimp only at hSw)
                        go_simp
                        try with_reducible rfl
                      try simp only [List.getElem_toArray, List.getElem_cons_zero, List.getElem_cons_succ, List.get, Act.put, List.setIfInBounds_toArray, List.set_cons_zero, List.set_cons_succ]
                      refine wpAnyH_take (i := 15) (oi := _) (v := ?_) rfl (by kernel_rfl) (by kernel_rfl) (by kernel_rfl) (fun _ _ _ h => h) (Or.inl ⟨by rfl, ?_⟩) (by assumption) ?_
                      rotate_left
                      · intro w hSw
                        (try dsimp only at hSw)
                        go_simp
                        try with_reducible rfl
                      try simp only [List.getElem_toArray, List.getElem_cons_zero, List.getElem_cons_succ, List.get, Act.put, List.setIfInBounds_toArray, List.set_cons_zero, List.set_cons_succ]
                      refine wpAnyH_take (i := 16) (oi := _) (v := ?_) rfl (by kernel_rfl) (by kernel_rfl) (by kernel_rfl) (fun _ _ _ h => h) (Or.inl ⟨by rfl, ?_⟩) (by assumption) ?_
                      rotate_left
                      · intro w hSw
                        (try dsimp only at hSw)
                        go_simp
                        try with_reducible rfl
                      try simp only [List.getElem_toArray, List.getElem_cons_zero, List.getElem_cons_succ, List.get, Act.put, List.setIfInBounds_toArray, List.set_cons_zero, List.set_cons_succ]
                      refine wpAnyH_take (i := 17) (oi := _) (v := ?_) rfl (by kernel_rfl) (by kernel_rfl) (by kernel_rfl) (fun _ _ _ h => h) (Or.inl ⟨by rfl, ?_⟩) (by assumption) ?_
                      rotate_left
                      · intro w hSw
                        (try dsimp only at hSw)
                        go_simp
                        try with_reducible rfl
                      try simp only [List.getElem_toArray, List.getElem_cons_zero, List.getElem_cons_succ, List.get, Act.put, List.setIfInBounds_toArray, List.set_cons_zero, List.set_cons_succ]
                      refine wpAnyH_take (i := 18) (oi := _) (v := ?_) rfl (by kernel_rfl) (by kernel_rfl) (by kernel_rfl) (fun _ _ _ h => h) (Or.inl ⟨by rfl, ?_⟩) (by assumption) ?_
                      rotate_left
                      · intro w hSw
                        (try dsimp only at hSw)
                        go_simp
                        try with_reducible rfl
                      try simp only [List.getElem_toArray, List.getElem_cons_zero, List.getElem_cons_succ, List.get, Act.put, List.setIfInBounds_toArray, List.set_cons_zero, List.set_cons_succ]
                      refine wpAnyH_take (i := 19) (oi := _) (v := ?_) rfl (by kernel_rfl) (by kernel_rfl) (by kernel_rfl) (fun _ _ _ h => h) (Or.inl ⟨by rfl, ?_⟩) (by assumption) ?_
                      rotate_left
                      · intro w hSw
                        (try dsimp only at hSw)
                        go_simp
                        try with_reducible rfl
                      try simp only [List.getElem_toArray, List.getElem_cons_zero, List.getElem_cons_succ, List.get, Act.put, List.setIfInBounds_toArray, List.set_cons_zero, List.set_cons_succ]
                      refine wpAnyH_take (i := 20) (oi := _) (v := ?_) rfl (by kernel_rfl) (by kernel_rfl) (by kernel_rfl) (fun _ _ _ h => h) (Or.inl ⟨by rfl, ?_⟩) (by assumption) ?_
                      rotate_left
                      · intro w hSw
                        (try dsimp only at hSw)
                        go_simp
                        try with_reducible rfl
                      try simp only [List.getElem_toArray, List.getElem_cons_zero, List.getElem_cons_succ, List.get, Act.put, List.setIfInBounds_toArray, List.set_cons_zero, List.set_cons_succ]
                      refine wpAnyH_take (i := 21) (oi := _) (v := ?_) rfl (by kernel_rfl) (by kernel_rfl) (by kernel_rfl) (fun _ _ _ h => h) (Or.inl ⟨by rfl, ?_⟩) (by assumption) ?_
                      rotate_left
                      · intro w hSw
                        (try dsimp only at hSw)
                        go_simp
                        try with_reducible rfl
                      try simp only [List.getElem_toArray, List.getElem_cons_zero, List.getElem_cons_succ, List.get, Act.put, List.setIfInBounds_toArray, List.set_cons_zero, List.set_cons_succ]
                      refine wpAnyH_take (i := 22) (oi := _) (v := ?_) rfl (by kernel_rfl) (by kernel_rfl) (by kernel_rfl) (fun _ _ _ h => h) (Or.inl ⟨by rfl, ?_⟩) (by assumption) ?_
                      rotate_left
                      · intro w hSw
                        (try dsimp only at hSw)
                        go_simp
                        try with_reducible rfl
                      try simp only [List.getElem_toArray, List.getElem_cons_zero, List.getElem_cons_succ, List.get, Act.put, List.setIfInBounds_toArray, List.set_cons_zero, List.set_cons_succ]
                      refine wpAnyH_ready (rs := [23]) (by kernel_rfl) (by simp) ?_
                      refine AllReadyH.cons (o := _) rfl (fun K hK => ?_) AllReadyH.nil
                      go_simp
                      go_at_call 36; refine (law38_close a c win _ HVK.out HVC.out).mono ?_; rintro e w9 ⟨rfl, hb9⟩; rw [HP2.out]; have s0 := keep_cell hb9 t0; have s1 := (hb9.frozen (p := ⟨w7.heap.size, i, none⟩) HBC2.out.lt).trans g0; have s2 := keep_cell hb9 c1; have s3 := keep_cell hb9 c2; have ss := And.intro (cells_in hb9 ⟨y0, y1, y2, y3, y4⟩) (cells_in hb9 ⟨x0, x1, x2, x3, x4⟩)
                      refine hK.out _ _ (⟨⟨s2, s3⟩, ss⟩) (fun hHeld => ?_)
                      clear hK K
                      try simp only [List.getElem_toArray, List.getElem_cons_zero, List.getElem_cons_succ, List.get, Act.put, List.setIfInBounds_toArray, List.set_cons_zero, List.set_cons_succ]
                      refine wpAnyH_take (i := 24) (oi := _) (v := ?_) rfl (by kernel_rfl) (by kernel_rfl) (by kernel_rfl) (fun _ _ _ h => h) (Or.inl ⟨by rfl, ?_⟩) (by assumption) ?_
                      rotate_left
                      · intro w hSw
                        (try dsimp only at hSw)
                        go_simp
                        try with_reducible rfl
                      try simp only [List.getElem_toArray, List.getElem_cons_zero, List.getElem_cons_succ, List.get, Act.put, List.setIfInBounds_toArray, List.set_cons_zero, List.set_cons_succ]
                      refine wpAnyH_take (i := 25) (oi := _) (v := ?_) rfl (by kernel_rfl) (by kernel_rfl) (by kernel_rfl) (fun _ _ _ h => h) (Or.inl ⟨by rfl, ?_⟩) (by assumption) ?_
                      rotate_left
                      · intro w hSw
                        (try dsimp only at hSw)
                        go_simp
                        try with_reducible rfl
                      try simp only [List.getElem_toArray, List.getElem_cons_zero, List.getElem_cons_succ, List.get, Act.put, List.setIfInBounds_toArray, List.set_cons_zero, List.set_cons_succ]
                      refine wpAnyH_take (i := 26) (oi := _) (v := ?_) rfl (by kernel_rfl) (by kernel_rfl) (by kernel_rfl) (fun _ _ _ h => h) (Or.inl ⟨by rfl, ?_⟩) (by assumption) ?_
                      rotate_left
                      · intro w hSw
                        (try dsimp only at hSw)
                        go_simp
                        try with_reducible rfl
                      try simp only [List.getElem_toArray, List.getElem_cons_zero, List.getElem_cons_succ, List.get, Act.put, List.setIfInBounds_toArray, List.set_cons_zero, List.set_cons_succ]
                      refine wpAnyH_ready (rs := [27]) (by kernel_rfl) (by simp) ?_
                      refine AllReadyH.cons (o := _) rfl (fun K hK => ?_) AllReadyH.nil
                      go_simp
                      refine hK.out _ _ (⟨⟨cell_set_ne s2 nb1, cell_set_ne s3 nb1⟩, ⟨cell_set_ne ss.1.1 nb2, cell_set_ne ss.1.2.1 nb2, cell_set_ne ss.1.2.2.1 nb2, cell_set_ne ss.1.2.2.2.1 nb2, cell_set_ne ss.1.2.2.2.2 nb2⟩, ⟨cell_set_ne ss.2.1 nb3, cell_set_ne ss.2.2.1 nb3, cell_set_ne ss.2.2.2.1 nb3, cell_set_ne ss.2.2.2.2.1 nb3, cell_set_ne ss.2.2.2.2.2 nb3⟩⟩) (fun hHeld => ?_)
                      clear hK K
                      try simp only [List.getElem_toArray, List.getElem_cons_zero, List.getElem_cons_succ, List.get, Act.put, List.setIfInBounds_toArray, List.set_cons_zero, List.set_cons_succ]
                      refine wpAnyH_done (by kernel_rfl) ?_ _
                      refine NoPanic.normal ?_
                      all_goals
                        have HW9 := hide (bstep' (bDraw (Below.refl _ wr)) hb9)
                        go_wp2_with fail
                        go_roundw
                        case rel =>
                          repeat apply Exists.intro
                          exact ⟨⟨k + 1, by omega, by go_num, (HBC2.out.below HW9.out).set (x := p2) hil (fun j => by rw [HTS.out, q3, Bool.false_or, Bool.true_and]; exact fB_set _ false p2 i j), (bstep' HBL2.out HW9.out).setCell (p := ⟨w7.heap.size, i, none⟩) (Nat.le_refl _) _⟩, rfl⟩
                        case measure => simp [intOf]; omega
                    · have q1 : ((O i : Int) == (O k : Int)) = false := beq_eq_false_iff_ne.2 (by omega)
                      have q3 : (O i == O k) = false := beq_eq_false_iff_ne.2 ho
                      clear ho
                      go_wp2_with fail
                      go_region
                      all_goals
                        go_wp2_with fail
                        go_roundw
                        case rel => exact ⟨k + 1, by omega, by go_num, (HBC2.out.below (below_drewN (Below.refl _ wr) 1)).set (x := false) hil (fun j => by rw [HTS.out, q3]; exact fB_set _ false false i j), (below_drewN HBL2.out 1).setCell (p := ⟨w7.heap.size, i, none⟩) (Nat.le_refl _) _⟩
                        case measure => simp [intOf]; omega
                · have hk' : k = l.length := by omega
                  subst hk'
                  have hpn : (l.length : Int) < (l.length : Int) + 1 := by omega
                  have HBN := hide (HBC2.out.congr (fB_next (fun i => tP win l c O i l.length) i))
                  have HNI := hide (HNEW.out i hil)
                  have t0 := HBC2.out.c i hil
                  rw [fB_at] at t0
                  have c2 := (HM7.out.below HBL2.out).c i (by omega)
                  have c3 := (HM7.out.below HBL2.out).c l.length (by omega)
                  obtain ⟨t, ht⟩ : ∃ t, tP win l c O i l.length = t := ⟨_, rfl⟩
                  have HT := hide ht
                  rw [ht] at t0 HNI HBC2
                  have c1 := (HL7.out.below HBL2.out).c i hil
                  cases t with
                  | true =>
                    have hbd := tN_le (fun i => tP win l c O i l.length) i
                    have hbdI : ((tN (fun i => tP win l c O i l.length) i : Nat) : Int) ≤ 24 := by omega
                    have hbd0 : (0 : Int) ≤ ((tN (fun i => tP win l c O i l.length) i : Nat) : Int) := by omega
                    have HTN : Hid (((1 + tN (fun i => tP win l c O i l.length) i : Nat) : Int) + 1 = ((1 + tN (fun i => tP win l c O i l.length) (i + 1) : Nat) : Int)) := by
                      show _ = _
                      rw [tN_succ]
                      simp only [ht]
                      simp; try omega
                    have q1 : ((O' i : Int) == (O' l.length : Int)) = true := by rw [HNI.out.2 rfl]; simp
                    have q2 : (O' i == O' l.length) = true := by rw [HNI.out.2 rfl]; simp
                    clear ht
                    go_wp2_with fail
                    go_quiet (fail)
                    go_wp2_with fail
                    go_loopw [25] (fun x wx => ∃ k m : Nat, k ≤ i ∧ x = .int .i64 k ∧ wx = wr.drewN m) (fun x _ => i - (intOf x).toNat)
                    case atStart => exact ⟨0, _, Nat.zero_le _, rfl, by first | rfl | exact World.drewN_drewN _ _ _⟩
                    case round =>
                      obtain ⟨k, m2, hk, rfl, rfl⟩ := hrel
                      by_cases hkl : k < i
                      · have hkn : k < l.length := by omega
                        have hki : (k : Int) < (i : Int) := by omega
                        have hkI : (k : Int) < (l.length : Int) := by omega
                        have hk0 : (0 : Int) ≤ (k : Int) := by omega
                        have d1 := (HL7.out.below HBL2.out).c k hkn
                        have d2 := (HM7.out.below HBL2.out).c k (by omega)
                        have d3 := HBC2.out.c k hkn
                        have hfk : fB (fun i => tP win l c O i l.length) true i k = tP win l c O k l.length := by unfold fB; rw [if_pos hkl]
                        rw [hfk] at d3
                        have hod := HOLD.out i k hil hkn
                        rw [HT.out] at hod
                        obtain ⟨tk, htk⟩ : ∃ t, tP win l c O k l.length = t := ⟨_, rfl⟩
                        rw [htk] at d3 hod
                        clear hfk htk
                        by_cases ho : O i = O k
                        · have ho' := hod.2 (.inl ho)
                          have r1 : ((O i : Int) == (O k : Int)) = true := by rw [ho]; simp
                          have r2 : (O i == O k) = true := by rw [ho]; simp
                          have r3 : ((O' i : Int) == (O' k : Int)) = true := by rw [ho']; simp
                          have r4 : (O' i == O' k) = true := by rw [ho']; simp
                          clear ho ho' hod
                          go_wp2_with fail
                          go_quiet (fail)
                          go_wp2_with fail
                          go_roundw
                          case rel => exact ⟨k + 1, _, by omega, by go_num, by first | rfl | exact World.drewN_drewN _ _ _⟩
                          case measure => simp [intOf]; omega
                        · have r1 : ((O i : Int) == (O k : Int)) = false := beq_eq_false_iff_ne.2 (by omega)
                          have r2 : (O i == O k) = false := beq_eq_false_iff_ne.2 ho
                          cases tk with
                          | true =>
                            have r3 : ((O' i : Int) == (O' k : Int)) = true := by rw [hod.2 (.inr ⟨rfl, rfl⟩)]; simp
                            have r4 : (O' i == O' k) = true := by rw [hod.2 (.inr ⟨rfl, rfl⟩)]; simp
                            clear ho hod
                            go_wp2_with fail
                            go_quiet (fail)
                            go_wp2_with fail
                            go_roundw
                            case rel => exact ⟨k + 1, _, by omega, by go_num, by first | rfl | exact World.drewN_drewN _ _ _⟩
                            case measure => simp [intOf]; omega
                          | false =>
                            have hne : ¬ O' i = O' k := fun e => by
                              rcases hod.1 e with e2 | ⟨_, e2⟩
                              · exact ho e2
                              · cases e2
                            have r3 : ((O' i : Int) == (O' k : Int)) = false := beq_eq_false_iff_ne.2 (by omega)
                            have r4 : (O' i == O' k) = false := beq_eq_false_iff_ne.2 hne
                            clear ho hod hne
                            go_wp2_with fail
                            go_quiet (fail)
                            go_wp2_with fail
                            go_roundw
                            case rel => exact ⟨k + 1, _, by omega, by go_num, by first | rfl | exact World.drewN_drewN _ _ _⟩
                            case measure => simp [intOf]; omega
                      · have hk' : k = i := by omega
                        subst hk'
                        go_wp2_with fail
                        go_roundw
                        case rel => exact ⟨k + 1, by omega, congrArg (Value.int .i64) (by have := HTN.out; omega), by go_num, (HBN.out.below (below_drewN (Below.refl _ wr) m2)), below_drewN HBL2.out m2⟩
                        case measure => simp [intOf]; omega
                  | false =>
                    have hbd := tN_le (fun i => tP win l c O i l.length) i
                    have hbdI : ((tN (fun i => tP win l c O i l.length) i : Nat) : Int) ≤ 24 := by omega
                    have hbd0 : (0 : Int) ≤ ((tN (fun i => tP win l c O i l.length) i : Nat) : Int) := by omega
                    have HTN : Hid (((1 + tN (fun i => tP win l c O i l.length) i : Nat) : Int) + 0 = ((1 + tN (fun i => tP win l c O i l.length) (i + 1) : Nat) : Int)) := by
                      show _ = _
                      rw [tN_succ]
                      simp only [ht]
                      simp; try omega
                    have q1 : ((O' i : Int) == (O' l.length : Int)) = false := beq_eq_false_iff_ne.2 (fun e => by have := HNI.out.1 (by omega); cases this)
                    have q2 : (O' i == O' l.length) = false := beq_eq_false_iff_ne.2 (fun e => by have := HNI.out.1 (by omega); cases this)
                    clear ht
                    go_wp2_with fail
                    go_quiet (fail)
                    go_wp2_with fail
                    go_loopw [25] (fun x wx => ∃ k m : Nat, k ≤ i ∧ x = .int .i64 k ∧ wx = wr.drewN m) (fun x _ => i - (intOf x).toNat)
                    case atStart => exact ⟨0, _, Nat.zero_le _, rfl, by first | rfl | exact World.drewN_drewN _ _ _⟩
                    case round =>
                      obtain ⟨k, m2, hk, rfl, rfl⟩ := hrel
                      by_cases hkl : k < i
                      · have hkn : k < l.length := by omega
                        have hki : (k : Int) < (i : Int) := by omega
                        have hkI : (k : Int) < (l.length : Int) := by omega
                        have hk0 : (0 : Int) ≤ (k : Int) := by omega
                        have d1 := (HL7.out.below HBL2.out).c k hkn
                        have d2 := (HM7.out.below HBL2.out).c k (by omega)
                        have d3 := HBC2.out.c k hkn
                        have hfk : fB (fun i => tP win l c O i l.length) false i k = tP win l c O k l.length := by unfold fB; rw [if_pos hkl]
                        rw [hfk] at d3
                        have hod := HOLD.out i k hil hkn
                        rw [HT.out] at hod
                        obtain ⟨tk, htk⟩ : ∃ t, tP win l c O k l.length = t := ⟨_, rfl⟩
                        rw [htk] at d3 hod
                        clear hfk htk
                        by_cases ho : O i = O k
                        · have ho' := hod.2 (.inl ho)
                          have r1 : ((O i : Int) == (O k : Int)) = true := by rw [ho]; simp
                          have r2 : (O i == O k) = true := by rw [ho]; simp
                          have r3 : ((O' i : Int) == (O' k : Int)) = true := by rw [ho']; simp
                          have r4 : (O' i == O' k) = true := by rw [ho']; simp
                          clear ho ho' hod
                          go_wp2_with fail
                          go_quiet (fail)
                          go_wp2_with fail
                          go_roundw
                          case rel => exact ⟨k + 1, _, by omega, by go_num, by first | rfl | exact World.drewN_drewN _ _ _⟩
                          case measure => simp [intOf]; omega
                        · have r1 : ((O i : Int) == (O k : Int)) = false := beq_eq_false_iff_ne.2 (by omega)
                          have r2 : (O i == O k) = false := beq_eq_false_iff_ne.2 ho
                          cases tk with
                          | true =>
                            have r3 : ((O' i : Int) == (O' k : Int)) = false := beq_eq_false_iff_ne.2 (fun e => by rcases hod.1 (by omega) with e2 | ⟨e2, _⟩; exact ho e2; cases e2)
                            have r4 : (O' i == O' k) = false := beq_eq_false_iff_ne.2 (fun e => by rcases hod.1 (by omega) with e2 | ⟨e2, _⟩; exact ho e2; cases e2)
                            clear ho hod
                            go_wp2_with fail
                            go_quiet (fail)
                            go_wp2_with fail
                            go_roundw
                            case rel => exact ⟨k + 1, _, by omega, by go_num, by first | rfl | exact World.drewN_drewN _ _ _⟩
                            case measure => simp [intOf]; omega
                          | false =>
                            have hne : ¬ O' i = O' k := fun e => by
                              rcases hod.1 e with e2 | ⟨_, e2⟩
                              · exact ho e2
                              · cases e2
                            have r3 : ((O' i : Int) == (O' k : Int)) = false := beq_eq_false_iff_ne.2 (by omega)
                            have r4 : (O' i == O' k) = false := beq_eq_false_iff_ne.2 hne
                            clear ho hod hne
                            go_wp2_with fail
                            go_quiet (fail)
                            go_wp2_with fail
                            go_roundw
                            case rel => exact ⟨k + 1, _, by omega, by go_num, by first | rfl | exact World.drewN_drewN _ _ _⟩
                            case measure => simp [intOf]; omega
                      · have hk' : k = i := by omega
                        subst hk'
                        go_wp2_with fail
                        go_roundw
                        case rel => exact ⟨k + 1, by omega, congrArg (Value.int .i64) (by have := HTN.out; omega), by go_num, (HBN.out.below (below_drewN (Below.refl _ wr) m2)), below_drewN HBL2.out m2⟩
                        case measure => simp [intOf]; omega
            · have hi' : i = l.length := by omega
              subst hi'
              have hzz : (z == ((1 + tN (fun i => tP win l c O i l.length) l.length : Nat) : Int)) = true := by rw [← HSIZE.out]; simp
              rw [← HSIZE.out]
              have hze : (z == z) = true := by simp
              have HBF := hide (HBW1.out.trans ((HB7.out.trans (HBL.out.mono HB7.out.size)).mono HBW1.out.size))
              go_wp2_with fail
              go_ret
              exact ⟨rfl, HBF.out⟩
        · have HVC := hide hv
          clear hv hb4 hO HA HI3
          go_wp2_with fail
          refine (mrg_add_inv c w1.heap.size _ HVC.out).mono ?_
          rintro e w5 ⟨rfl, hb5⟩
          have HI5 := hide (HI4.out.keep hb5)
          have HB5 := hide (bstep' HB4.out hb5)
          clear hb5 x0 x1 x2 x3 x4
          go_wp2_with fail
          refine (mrg_setGroups _ _ _ win l rt _ HI5.out).mono ?_
          rintro e w6 ⟨u6, rfl, hss, _, hg6⟩
          have HA6 := hide hss
          have HB6 := hide (HB5.out.grown hg6 HB5.out.size (fun j hj => by injection hj with hj; omega))
          clear hss hg6
          go_wp2_with fail
          refine (law38_of rt l.length _ _ HA6.out (by omega)).mono ?_
          rintro e w7 ⟨b7, O7, rfl, _, hb7, _, _⟩
          have HB7 := hide (HBW1.out.trans ((bstep' HB6.out hb7).mono HBW1.out.size))
          clear hb7
          have hll : ((l.length : Int) == (l.length : Int)) = true := by simp
          go_wp2_with fail
          go_ret
          exact ⟨rfl, HB7.out⟩
  · have HW := hide hw
    clear hw
    go_wp2_with fail
    refine (mrg_new_bad win _ HW.out).mono ?_
    rintro e w2 ⟨rfl, rfl⟩
    go_wp2_with fail
    go_ret
    exact ⟨rfl, HBW1.out⟩
end Go.Proofs.Ytahlhiiekgnmpab
