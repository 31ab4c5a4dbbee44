/- debt: Settle. -/
import Derived.Test.YtlagoiaiodjmhaaGreatDoorDeD
set_option linter.unusedVariables false
set_option linter.unusedSimpArgs false
namespace Go.Proofs.YtlagoiaiodjmhaaGreatDoor
open Go.RowKit Go.Maps

theorem cls_in {k t f : Int} (h : clsB k t f = true) : inI64 k ∧ inI64 t ∧ inI64 f := by
  unfold clsB at h
  rw [Bool.and_eq_true, Bool.and_eq_true, decide_eq_true_eq, decide_eq_true_eq] at h
  obtain ⟨⟨h1, h2⟩, h3⟩ := h
  unfold inI64
  by_cases e : k = 1
  · rw [if_pos e, decide_eq_true_eq] at h3
    omega
  · rw [if_neg e] at h3
    by_cases e2 : k = 2 ∨ k = 3
    · rw [if_pos e2, Bool.and_eq_true, decide_eq_true_eq, decide_eq_true_eq] at h3
      omega
    · rw [if_neg e2] at h3; cases h3
theorem cl3_new (w : World) (x y z : Int) (T : TypeId) {s : Nat} (hs : w.heap.size = s) : (w.alloc (.cells #[.int .i64 x, .int .i64 y, .int .i64 z] T)).cell? ⟨s, 0, none⟩ = some (.int .i64 x) ∧ (w.alloc (.cells #[.int .i64 x, .int .i64 y, .int .i64 z] T)).cell? ⟨s, 1, none⟩ = some (.int .i64 y) ∧ (w.alloc (.cells #[.int .i64 x, .int .i64 y, .int .i64 z] T)).cell? ⟨s, 2, none⟩ = some (.int .i64 z) := by
  subst hs
  refine ⟨?_, ?_, ?_⟩ <;> simp [go_sem]
def stE (l : List Db) (ps : List Py) (m : Int) : Int := if vlD l ps m then 0 else 1
def stL (l : List Db) (ps : List Py) (m : Int) : List Int := if vlD l ps m then setL l ps m else []
/-- The first i debts are settled. -/
def outF (l : List Db) (ps : List Py) (m : Int) (i j : Nat) : Int := if j < i then bstN (dbN l j) ps m ps.length else 0
def outG (l : List Db) (ps : List Py) (m : Int) (i : Nat) (x : Int) (j : Nat) : Int := if j = i then x else outF l ps m i j
theorem DbC.far {w : World} {b o : Nat} {d : Db} (h : DbC w b o d) {a : Addr} (ha : a.block ≠ b) (u : Value) : DbC (w.setCell a u) b o d := by
  have e : ∀ k, (w.setCell a u).cell? ⟨b, k, none⟩ = w.cell? ⟨b, k, none⟩ := fun k => World.cell?_setCell_other _ _ _ _ (by rintro rfl; exact ha rfl)
  unfold DbC
  rw [e, e, e, e, e, e]
  exact h
theorem outG_set (l : List Db) (ps : List Py) (m : Int) (i : Nat) (x y : Int) (j : Nat) : (if j = i then y else outG l ps m i x j) = outG l ps m i y j := by
  unfold outG
  by_cases e : j = i
  · rw [if_pos e, if_pos e]
  · rw [if_neg e, if_neg e, if_neg e]
theorem outG_end {l : List Db} {ps : List Py} {m : Int} {i j : Nat} : outG l ps m i (bstN (dbN l i) ps m ps.length) j = outF l ps m (i + 1) j := by
  unfold outG outF
  by_cases e : j = i
  · subst e; rw [if_pos rfl, if_pos (by omega)]
  · rw [if_neg e]
    by_cases e2 : j < i
    · rw [if_pos e2, if_pos (by omega)]
    · rw [if_neg e2, if_neg (by omega)]
set_option maxHeartbeats 8000000 in
set_option maxRecDepth 100000 in
theorem de_settle (l : List Db) (ps : List Py) (m : Int) (v1 v2 : Value) (w : World) (h1 : SliceOf vDb 6 w v1 l) (h2 : SliceOf vPy 4 w v2 ps) :
    Calls Tryz.prog 13 #[v1, v2, .int .i64 m] w fun e w' => ∃ u, e = .returned (.tuple #[u, .int .i64 (stE l ps m)]) ∧ SliceOf vI 1 w' u (stL l ps m) ∧ Below w.heap.size w w' := by
  rcases Bool.eq_false_or_eq_true (vlD l ps m) with hv | hv
  case inr =>
    have HVA := hide (de_valid l ps m v1 v2 w false hv h1 h2)
    have HE1 : Hid (stL l ps m = []) := by show _ = _; unfold stL; rw [hv]; rfl
    have HE2 : Hid (stE l ps m = 1) := by show _ = _; unfold stE; rw [hv]; rfl
    rw [HE1.out, HE2.out]
    obtain ⟨a1, c1, rfl⟩ := h1.shape
    obtain ⟨a2, c2, rfl⟩ := h2.shape
    clear hv h1 h2
    go_enter Tryz.func13, Tryz.ntmps13
    go_wp2_with fail
    refine HVA.out.mono ?_
    rintro e w1 ⟨rfl, hb⟩
    have HB := hide hb
    clear hb
    go_wp2_with fail
    go_ret2
    exact ⟨_, rfl, .inl ⟨none, rfl, rfl⟩, HB.out⟩
  have HE1 : Hid (stL l ps m = setL l ps m) := by show _ = _; unfold stL; rw [if_pos hv]
  have HE2 : Hid (stE l ps m = 0) := by show _ = _; unfold stE; rw [if_pos hv]
  rw [HE1.out, HE2.out]
  have HVA := hide (de_valid l ps m v1 v2 w true hv h1 h2)
  obtain ⟨nl, np, hm, hdb, hpy⟩ := vlD_iff.1 hv
  have HS1 := hide h1
  have HS2 := hide h2
  have HDB := hide hdb
  have HPY := hide hpy
  have HW := hide (fun n lo hi W => de_within n lo hi W)
  obtain ⟨a1, c1, rfl⟩ := h1.shape
  obtain ⟨a2, c2, rfl⟩ := h2.shape
  have hlI : (l.length : Int) ≤ 1000 := by omega
  have hpI : (ps.length : Int) ≤ 1000 := by omega
  have hl0 : (0 : Int) ≤ (l.length : Int) := by omega
  have HMK := hide (run_make_row' (P := Tryz.prog) 33 3 (.int .i64 0) 8 Tryz.underlying33 Tryz.infoInt3D rfl .i64 .i64 l.length (by omega) (by omega))
  have HPC : Hid (∀ k, k < ps.length → ∃ b o, a2 = some ⟨b, o, none⟩ ∧ (ps.length : Int) ≤ (c2 : Int) ∧ (c2 : Int) ≤ 9223372036854775807 ∧ ∀ k, k < ps.length → PyC w b (o + k * 4) (pyN ps k)) := fun k hk => by
    obtain ⟨b, o, e, _, hcap, hcm, hc⟩ := SliceOf.at_ HS2.out (by omega)
    exact ⟨b, o, e, by omega, by unfold maxLen at hcm; omega, fun k hk => by rw [pyN_at hk]; exact py_cells hc hk⟩
  have hmm := @run_makeMap Tryz.prog
  clear h1 h2 hdb hpy hv HE1 HE2
  go_enter Tryz.func13, Tryz.ntmps13
  go_wp2_with fail
  refine HVA.out.mono ?_
  rintro e w1 ⟨rfl, hb⟩
  have HB1 := hide hb
  clear hb HVA
  go_wp2_with fail
  clear hmm
  have HC0 := hide (ClM.zero (w := w1) ps rfl)
  have HB2 := hide (bAlloc HB1.out (.map #[] 0))
  have HWM : Hid (w.heap.size ≤ w1.heap.size) := HB1.out.size
  obtain ⟨M, hM⟩ : ∃ M, w1.heap.size = M := ⟨_, rfl⟩
  obtain ⟨wa, hwa⟩ : ∃ x, w1.alloc (.map #[] 0) = x := ⟨_, rfl⟩
  rw [hwa, hM] at HC0
  rw [hwa] at HB2
  rw [hM] at HWM
  rw [hwa, hM]
  clear hwa hM HB1
  go_loopw [26] (fun i wx => ∃ (k : Nat) (sv : Cl → Value), k ≤ ps.length ∧ i = .int .i64 (k : Int) ∧ ClM wx (M + 1) M k ps k sv ∧ Below w.heap.size w wx) (fun i _ => ps.length - (intOf i).toNat)
  case atStart => exact ⟨0, _, Nat.zero_le _, rfl, HC0.out, HB2.out⟩
  case round =>
    obtain ⟨k, sv, hk, rfl, hcm, hbl⟩ := hrel
    have HC := hide hcm
    have HB := hide hbl
    clear hcm hbl HC0 HB2
    by_cases hlt : k < ps.length
    · have hki : (k : Int) < (ps.length : Int) := by omega
      have hk0 : (0 : Int) ≤ (k : Int) := by omega
      obtain ⟨b2, o2, rfl, g1, g2, hpc⟩ := HPC.out k hlt
      have HPD := hide ((hpc k hlt).keep HB.out)
      have HIN := hide (HPY.out k hlt)
      rw [← pyN_at hlt] at HIN
      have hcl : inI64 (pyN ps k).kd ∧ inI64 (pyN ps k).tl ∧ inI64 (pyN ps k).fl := cls_in (by have := HIN.out; unfold pyB at this; rw [Bool.and_eq_true] at this; exact this.1)
      obtain ⟨c, hc⟩ : ∃ c : Cl, ((pyN ps k).kd, (pyN ps k).tl, (pyN ps k).fl) = c.1 := ⟨⟨_, hcl⟩, rfl⟩
      have HCE := hide hc
      obtain ⟨d, hd⟩ : ∃ d, pyN ps k = d := ⟨_, rfl⟩
      rw [hd] at HPD hc
      have hvc : vC c = .agg #[.int .i64 d.kd, .int .i64 d.tl, .int .i64 d.fl] := by unfold vC; rw [← hc]
      have HVC := hide hvc
      obtain ⟨x0, x1, x2, x3⟩ := HPD.out
      clear hpc hcl hd hc hvc HIN
      go_upto_region 8 with fail
      clear x0 x1 x2 x3
      have HBA := hide (bAlloc (bAlloc (Below.refl wr.heap.size wr) (.cells #[.int .i64 d.kd, .int .i64 d.tl, .int .i64 d.fl, .int .i64 d.mo] 49)) (.cells #[.int .i64 d.kd, .int .i64 d.tl, .int .i64 d.fl] 65))
      have HX : Hid (((wr.alloc (.cells #[.int .i64 d.kd, .int .i64 d.tl, .int .i64 d.fl, .int .i64 d.mo] 49)).alloc (.cells #[.int .i64 d.kd, .int .i64 d.tl, .int .i64 d.fl] 65)).cell? ⟨wr.heap.size + 1, 0, none⟩ = some (.int .i64 d.kd) ∧ ((wr.alloc (.cells #[.int .i64 d.kd, .int .i64 d.tl, .int .i64 d.fl, .int .i64 d.mo] 49)).alloc (.cells #[.int .i64 d.kd, .int .i64 d.tl, .int .i64 d.fl] 65)).cell? ⟨wr.heap.size + 1, 1, none⟩ = some (.int .i64 d.tl) ∧ ((wr.alloc (.cells #[.int .i64 d.kd, .int .i64 d.tl, .int .i64 d.fl, .int .i64 d.mo] 49)).alloc (.cells #[.int .i64 d.kd, .int .i64 d.tl, .int .i64 d.fl] 65)).cell? ⟨wr.heap.size + 1, 2, none⟩ = some (.int .i64 d.fl)) := cl3_new _ _ _ _ _ (by simp)
      obtain ⟨H0, hH0⟩ : ∃ H0, wr.heap.size = H0 := ⟨_, rfl⟩
      have HWR : Hid (w.heap.size ≤ wr.heap.size) := HB.out.size
      have HCB := hide (HC.out.below HBA.out)
      have HB5 := hide (bStepD HB.out HBA.out)
      obtain ⟨w5, hw5⟩ : ∃ W, ((wr.alloc (.cells #[.int .i64 d.kd, .int .i64 d.tl, .int .i64 d.fl, .int .i64 d.mo] 49)).alloc (.cells #[.int .i64 d.kd, .int .i64 d.tl, .int .i64 d.fl] 65)) = W := ⟨_, rfl⟩
      rw [hw5] at HCB HB5 HX
      rw [hH0] at HX
      rw [hw5, hH0]
      clear hw5 hH0 HBA HC HB
      have HBL := hide (bAlloc (Below.refl w5.heap.size w5) (.cells #[.int .i64 (k : Int)] 3))
      have HC6 := hide (HCB.out.below HBL.out)
      obtain ⟨v0, st, w6, hrun, hg1, ho1, hbs, hstore⟩ := HC6.out.entry c HCE.out (by unfold maxLen; omega)
      rw [HVC.out] at hrun
      have hlit : w6.heap[w5.heap.size]? = some (.cells #[.int .i64 (k : Int)] 3 (0, 0)) := (hg1.block w5.heap.size (by simp) (fun e => by
        injection e with e
        have h1 := HCB.out.lt
        have h2 := HCB.out.sz
        omega)).trans (new_block w5 _)
      have hlen : (clsN ps c.1 k).length ≤ 1000 := by have := clsN_le ps c.1 k; omega
      obtain ⟨x0, x1, x2⟩ := HX.out
      go_wp2_with (first
        | (refine wpList_mapEntry _ rfl _ _ 68 rfl _ M v0 st w6 rfl rfl hrun ?_)
        | (refine wpList_appendI _ rfl _ _ rfl (M + 1) _ _ v0 rfl ho1 w5.heap.size (k : Int) 3 rfl hlit hlen hbs ?_; intro g off cap w7 ho2 hg2 hat; obtain ⟨w8, hr8, ⟨sv', hc8⟩, hg3⟩ := hstore g off cap w7 ho2 hg2 hat)
        | (refine wpList_entryStore _ rfl _ _ _ 68 rfl _ M st w8 rfl rfl rfl hr8 ?_))
      have HB8 : Hid (Below w.heap.size w w8) := by
        have hM := HWM.out
        have e1 := hg1.size
        have e2 := hg2.size
        have e3 : (w5.alloc (.cells #[.int .i64 (k : Int)] 3)).heap.size = w5.heap.size + 1 := by simp
        have e4 := HB5.out.size
        exact (((bStepD HB5.out HBL.out).grown hg1 (by omega) (fun b hb => by injection hb with hb; omega)).grown hg2 (by omega) (fun b hb => by have := (ho1.lt b hb).1; omega)).grown hg3 (by omega) (fun b hb => by injection hb with hb; omega)
      refine ⟨⟨k + 1, sv', by omega, by go_num, hc8, HB8.out⟩, ?_⟩
      simp [intOf]; omega
    · obtain rfl : k = ps.length := by omega
      have HRD := hide HC.out.reads
      have HVM := hide HC.out.map
      obtain ⟨wc, hwc⟩ : ∃ W, wr = W := ⟨_, rfl⟩
      rw [hwc] at HB HC HRD HVM ⊢
      clear hwc
      have hmk := HMK.out
      go_wp2_with fail
      clear hmk HMK HC
      have HI0 := hide ((IB.made wc l.length 3).congr (g := outF l ps m 0) (fun j _ => by unfold outF; rw [if_neg (Nat.not_lt_zero _)]))
      have HB0 := hide (bAlloc (Below.refl wc.heap.size wc) (.cells (madeCells #[.int .i64 0] l.length) 3))
      obtain ⟨H, hH⟩ : ∃ H, wc.heap.size = H := ⟨_, rfl⟩
      have HHW := hide hH
      obtain ⟨wo, hwo⟩ : ∃ x, wc.alloc (.cells (madeCells #[.int .i64 0] l.length) 3) = x := ⟨_, rfl⟩
      rw [hwo, hH] at HI0
      rw [hwo] at HB0
      rw [hwo, hH]
      clear hwo hH
      go_loopw [52] (fun i wx => ∃ n : Nat, n ≤ l.length ∧ i = .int .i64 (n : Int) ∧ IB wx H l.length (outF l ps m n) ∧ Below wc.heap.size wc wx) (fun i _ => l.length - (intOf i).toNat)
      case atStart => exact ⟨0, Nat.zero_le _, rfl, HI0.out, HB0.out⟩
      case round =>
        obtain ⟨n, hn, rfl, hic, hbl⟩ := hrel
        have HI := hide hic
        have HX := hide hbl
        clear hic hbl HI0 HB0
        by_cases hnl : n < l.length
        · have hni : (n : Int) < (l.length : Int) := by omega
          have hn0 : (0 : Int) ≤ (n : Int) := by omega
          obtain ⟨b1, o1, rfl, _, hcap, hcm, hc⟩ := SliceOf.at_ HS1.out (by omega)
          have g1 : (l.length : Int) ≤ (c1 : Int) := by omega
          have g2 : (c1 : Int) ≤ 9223372036854775807 := by unfold maxLen at hcm; omega
          have HDC := hide ((db_cells hc hnl).keep (bStepD HB.out HX.out))
          have HIN := hide (HDB.out n hnl)
          have hd0 := dbN_at hnl
          obtain ⟨d, hd⟩ : ∃ d, l[n] = d := ⟨_, rfl⟩
          rw [hd] at HDC HIN hd0
          have HDE := hide hd0
          have hcl : inI64 d.kd ∧ inI64 d.tl ∧ inI64 d.fl := cls_in (by have := HIN.out; unfold dbB at this; rw [Bool.and_eq_true, Bool.and_eq_true, Bool.and_eq_true, Bool.and_eq_true] at this; exact this.1.1.1.1)
          obtain ⟨c, hcE⟩ : ∃ c : Cl, (d.kd, d.tl, d.fl) = c.1 := ⟨⟨_, hcl⟩, rfl⟩
          have hvc : vC c = .agg #[.int .i64 d.kd, .int .i64 d.tl, .int .i64 d.fl] := by unfold vC; rw [← hcE]
          have HVC := hide hvc
          have HFC : Hid ((clsN ps c.1 ps.length).foldl (stB d ps m) (-1) = bstN d ps m ps.length) := by show _ = _; rw [← hcE]; exact fold_cls d ps m ps.length
          have HLT : Hid (∀ q ∈ clsN ps c.1 ps.length, q < ps.length ∧ (d.kd = (pyN ps q).kd ∧ d.tl = (pyN ps q).tl ∧ d.fl = (pyN ps q).fl)) := fun q hq => by
            refine ⟨clsN_lt hq, ?_⟩
            unfold clsN at hq
            have h2 := of_decide_eq_true (List.mem_filter.1 hq).2
            rw [← hcE] at h2
            injection h2 with e1 e2
            injection e2 with e2 e3
            exact ⟨e1.symm, e2.symm, e3.symm⟩
          have HUS := hide (HRD.out c)
          obtain ⟨is, his⟩ : ∃ x, clsN ps c.1 ps.length = x := ⟨_, rfl⟩
          rw [his] at HUS HFC HLT
          obtain ⟨z, hz⟩ : ∃ z, (ownC ps ps.length sv c).getD (.slice none 0 0) = z := ⟨_, rfl⟩
          rw [hz] at HUS
          obtain ⟨uo, uc, rfl⟩ : ∃ uo uc, z = .slice uo is.length uc := by
            obtain ⟨uo, uc, e⟩ := HUS.out.shape
            rw [niL_len] at e
            exact ⟨uo, uc, e⟩
          have HZ := hide hz
          have hisl : is.length ≤ 1000 := by rw [← his]; have := clsN_le ps c.1 ps.length; omega
          obtain ⟨x0, x1, x2, x3, x4, x5⟩ := HDC.out
          clear hc hcap hcm hd hd0 hcl hvc his hz HIN
          go_upto_region 14 with fail
          clear x0 x1 x2 x3 x4 x5
          have HBA := hide (bAlloc (Below.refl wr.heap.size wr) (.cells #[.int .i64 d.kd, .int .i64 d.tl, .int .i64 d.fl, .int .i64 d.fr, .int .i64 d.un, .int .i64 d.pr] 47))
          have HD3 := hide (DbC.new wr d 47)
          have HI3 := hide (HI.out.below HBA.out)
          have HX3 := hide (bStepD HX.out HBA.out)
          have HAH : Hid (H ≠ wr.heap.size) := fun e => by have := HI.out.lt; omega
          obtain ⟨A, hA⟩ : ∃ A, wr.heap.size = A := ⟨_, rfl⟩
          obtain ⟨w3, hw3⟩ : ∃ W, wr.alloc (.cells #[.int .i64 d.kd, .int .i64 d.tl, .int .i64 d.fl, .int .i64 d.fr, .int .i64 d.un, .int .i64 d.pr] 47) = W := ⟨_, rfl⟩
          rw [hw3] at HD3 HI3 HX3
          rw [hA] at HD3 HAH
          rw [hw3, hA]
          clear hw3 hA HBA HI HX
          have c0 := HI3.out.c n hnl
          have z0 := HI3.out.z n hnl
          go_upto_region 15 with fail
          have HI4 := hide ((HI3.out.set hnl (-1)).congr (g := outG l ps m n (fldN d ps m is 0)) (fun j _ => rfl))
          have HD4 := hide (HD3.out.far (a := ⟨H, n, none⟩) HAH.out (.int .i64 (-1)))
          have HX4 := hide (HX3.out.setCell (p := ⟨H, n, none⟩) (by have := HHW.out; show wc.heap.size ≤ H; omega) (.int .i64 (-1)))
          obtain ⟨w4, hw4⟩ : ∃ W, w3.setCell ⟨H, n, none⟩ (.int .i64 (-1)) = W := ⟨_, rfl⟩
          rw [hw4] at HI4 HD4 HX4 ⊢
          clear hw4 c0 z0 HI3 HD3 HX3
          have HVX := hide (HVM.out.below HX4.out)
          obtain ⟨x0, x1, x2, x3, x4, x5⟩ := HD4.out
          simp only [Nat.zero_add] at x1 x2 x3 x4 x5
          have hisI : (is.length : Int) ≤ 1000 := by omega
          go_wp2_with (at_lookup; refine wpList_look _ rfl _ _ 68 rfl 65 33 Tryz.keyedCl Tryz.underlying68 (zeroISD _) M ps.length kC (ownC ps ps.length sv) rfl HVX.out (vC c) c (Eq.trans rfl HVC.out.symm) (keyC c) ?_; rw [HZ.out])
          clear x0 x1 x2 x3 x4 x5
          go_loopw [70] (fun i wx => ∃ j : Nat, j ≤ is.length ∧ i = .int .i64 (j : Int) ∧ IB wx H l.length (outG l ps m n (fldN d ps m is j)) ∧ DbC wx A 0 d ∧ Below wc.heap.size wc wx) (fun i _ => is.length - (intOf i).toNat)
          case atStart => exact ⟨0, Nat.zero_le _, rfl, HI4.out, HD4.out, HX4.out⟩
          case round =>
            obtain ⟨j, hj, rfl, hic, hdc, hbl⟩ := hrel
            have HI := hide hic
            have HDC := hide hdc
            have HX := hide hbl
            clear hic hdc hbl HI4 HD4 HX4 HVX
            by_cases hjl : j < is.length
            · have hji : (j : Int) < (is.length : Int) := by omega
              have hj0 : (0 : Int) ≤ (j : Int) := by omega
              obtain ⟨bu, ou, rfl, _, hcap, hcm, hcu⟩ := SliceOf.at_ (l := niL is) (by rw [niL_len]; exact HUS.out) (by rw [niL_len]; omega)
              rw [niL_len] at hcap
              have u1 : (is.length : Int) ≤ (uc : Int) := by omega
              have u2 : (uc : Int) ≤ 9223372036854775807 := by unfold maxLen at hcm; omega
              have y0 := keep_cell HX.out (int_cell hcu (k := j) (by rw [niL_len]; exact hjl))
              rw [niL_at hjl] at y0
              have HST := hide (fldN_succ (d := d) (ps := ps) (m := m) hjl)
              obtain ⟨hq, hqc⟩ := HLT.out _ (List.getElem_mem hjl)
              have hbd := fldN_bd (d := d) (ps := ps) (m := m) (is := is) (n := ps.length) (fun i hi => (HLT.out i hi).1) j (by omega)
              have hcur : -1 ≤ fldN d ps m is j ∧ fldN d ps m is j < (ps.length : Int) := by rcases hbd with h | h; exact h; exact ⟨by omega, by omega⟩
              obtain ⟨q, hqe⟩ : ∃ q, is[j] = q := ⟨_, rfl⟩
              rw [hqe] at y0 HST hq hqc
              obtain ⟨b2, o2, rfl, g3, g4, hpc⟩ := HPC.out q hq
              have HPQ : Hid (∀ q, q < ps.length → wr.cell? ⟨b2, o2 + q * 4 + 3, none⟩ = some (.int .i64 (pyN ps q).mo)) := fun q hq => keep_cell (bStepD HB.out HX.out) (hpc q hq).2.2.2
              have hqi : (q : Int) < (ps.length : Int) := by omega
              have hq0 : (0 : Int) ≤ (q : Int) := by omega
              have y1 := HPQ.out q hq
              have HFT : Hid (fitB d (pyN ps q) m = (decide (d.fr ≤ (pyN ps q).mo) && decide ((pyN ps q).mo ≤ min d.un m))) := by show _ = _; unfold fitB; rw [decide_eq_true hqc, Bool.true_and]
              have c0 := HI.out.c n hnl
              have z0 := HI.out.z n hnl
              have hgn : outG l ps m n (fldN d ps m is j) n = fldN d ps m is j := if_pos rfl
              rw [hgn] at c0
              obtain ⟨cur, hce⟩ : ∃ x, fldN d ps m is j = x := ⟨_, rfl⟩
              rw [hce] at c0 HST hcur HI
              obtain ⟨x0, x1, x2, x3, x4, x5⟩ := HDC.out
              simp only [Nat.zero_add] at x1 x2 x3 x4 x5
              have HSB : Hid (stB d ps m cur q = if fitB d (pyN ps q) m = true ∧ (cur < 0 ∨ (pyN ps q).mo < (pyN ps cur.toNat).mo) then (q : Int) else cur) := rfl
              obtain ⟨mq, hmq⟩ : ∃ x, (pyN ps q).mo = x := ⟨_, rfl⟩
              rw [hmq] at y1 HFT HSB
              clear hcu hcap hcm hqe hpc hqc hbd hgn hce hmq
              go_wp2_with fail
              refine (HW.out _ _ _ _).mono ?_
              rintro e w5 ⟨rfl, rfl⟩
              obtain ⟨p, hp⟩ : ∃ p, (decide (d.fr ≤ mq) && decide (mq ≤ min d.un m)) = p := ⟨_, rfl⟩
              rw [hp] at HFT ⊢
              clear hp
              cases p with
              | false =>
                have HN : Hid (fldN d ps m is (j + 1) = cur) := by show _ = _; rw [HST.out, HSB.out, if_neg (fun h => by rw [HFT.out] at h; cases h.1)]
                clear x0 x1 x2 x3 x4 x5
                go_wp2_with fail
                first
                  | (go_roundw
                     case rel => exact ⟨j + 1, by omega, by go_num, by rw [HN.out]; exact HI.out, HDC.out, HX.out⟩
                     case measure => (simp [intOf]; omega))
                  | (refine ⟨⟨j + 1, by omega, by go_num, by rw [HN.out]; exact HI.out, HDC.out, HX.out⟩, ?_⟩
                     simp [intOf]; omega)
              | true =>
                by_cases hneg : cur < 0
                · have e1 : decide (cur < 0) = true := decide_eq_true hneg
                  have HN : Hid (fldN d ps m is (j + 1) = (q : Int)) := by show _ = _; rw [HST.out, HSB.out, if_pos ⟨HFT.out, .inl hneg⟩]
                  have HI5 := hide ((HI.out.set hnl (q : Int)).congr (fun x _ => outG_set l ps m n cur (q : Int) x))
                  have HD5 := hide (HDC.out.far (a := ⟨H, n, none⟩) HAH.out (.int .i64 (q : Int)))
                  have HX5 := hide (HX.out.setCell (p := ⟨H, n, none⟩) (by have := HHW.out; show wc.heap.size ≤ H; omega) (.int .i64 (q : Int)))
                  go_wp2_with fail
                  first
                    | (go_roundw
                       case rel => exact ⟨j + 1, by omega, by go_num, by rw [HN.out]; exact HI5.out, HD5.out, HX5.out⟩
                       case measure => (simp [intOf]; omega))
                    | (refine ⟨⟨j + 1, by omega, by go_num, by rw [HN.out]; exact HI5.out, HD5.out, HX5.out⟩, ?_⟩
                       simp [intOf]; omega)
                · have e1 : decide (cur < 0) = false := decide_eq_false hneg
                  obtain ⟨cn, rfl⟩ : ∃ cn : Nat, cur = (cn : Int) := ⟨cur.toNat, by omega⟩
                  have hcn : cn < ps.length := by omega
                  have hcnI : (cn : Int) < (ps.length : Int) := by omega
                  have hcn0 : (0 : Int) ≤ (cn : Int) := by omega
                  have y2 := HPQ.out cn hcn
                  rw [show ((cn : Nat) : Int).toNat = cn from Int.toNat_natCast cn] at HSB
                  obtain ⟨mc, hmc⟩ : ∃ x, (pyN ps cn).mo = x := ⟨_, rfl⟩
                  rw [hmc] at y2 HSB
                  clear hmc
                  by_cases hlt2 : mq < mc
                  · have e2 : decide (mq < mc) = true := decide_eq_true hlt2
                    have HN : Hid (fldN d ps m is (j + 1) = (q : Int)) := by show _ = _; rw [HST.out, HSB.out, if_pos ⟨HFT.out, .inr hlt2⟩]
                    have HI5 := hide ((HI.out.set hnl (q : Int)).congr (fun x _ => outG_set l ps m n (cn : Int) (q : Int) x))
                    have HD5 := hide (HDC.out.far (a := ⟨H, n, none⟩) HAH.out (.int .i64 (q : Int)))
                    have HX5 := hide (HX.out.setCell (p := ⟨H, n, none⟩) (by have := HHW.out; show wc.heap.size ≤ H; omega) (.int .i64 (q : Int)))
                    go_wp2_with fail
                    first
                      | (go_roundw
                         case rel => exact ⟨j + 1, by omega, by go_num, by rw [HN.out]; exact HI5.out, HD5.out, HX5.out⟩
                         case measure => (simp [intOf]; omega))
                      | (refine ⟨⟨j + 1, by omega, by go_num, by rw [HN.out]; exact HI5.out, HD5.out, HX5.out⟩, ?_⟩
                         simp [intOf]; omega)
                  · have e2 : decide (mq < mc) = false := decide_eq_false hlt2
                    have HN : Hid (fldN d ps m is (j + 1) = (cn : Int)) := by show _ = _; rw [HST.out, HSB.out, if_neg (fun h => h.2.elim hneg hlt2)]
                    go_wp2_with fail
                    first
                      | (go_roundw
                         case rel => exact ⟨j + 1, by omega, by go_num, by rw [HN.out]; exact HI.out, HDC.out, HX.out⟩
                         case measure => (simp [intOf]; omega))
                      | (refine ⟨⟨j + 1, by omega, by go_num, by rw [HN.out]; exact HI.out, HDC.out, HX.out⟩, ?_⟩
                         simp [intOf]; omega)
            · obtain rfl : j = is.length := by omega
              have HIE := hide (HI.out.congr (g := outF l ps m (n + 1)) (fun x _ => by
                rw [fldN_end, HFC.out, ← HDE.out]
                exact outG_end))
              clear HI
              go_wp2_with fail
              first
                | (go_roundw
                   case rel => exact ⟨n + 1, by omega, by go_num, HIE.out, HX.out⟩
                   case measure => (simp [intOf]; omega))
                | (refine ⟨⟨n + 1, by omega, by go_num, HIE.out, HX.out⟩, ?_⟩
                   simp [intOf]; omega)
        · obtain rfl : n = l.length := by omega
          have HSL : Hid (SliceOf vI 1 wr (.slice (some ⟨H, 0, none⟩) l.length l.length) (setL l ps m)) := HI.out.slice (setL_len l ps m) (fun i hi => by
            rw [setL_at hi]
            unfold outF
            rw [if_pos (by rw [setL_len] at hi; exact hi)]) (by unfold maxLen; omega)
          have HBE := hide (bStepD HB.out HX.out)
          go_wp2_with fail
          go_ret2
          exact ⟨_, rfl, HSL.out, HBE.out⟩
end Go.Proofs.YtlagoiaiodjmhaaGreatDoor
