/- Law 38: head. -/
import Derived.Test.YtahlhiiekgnmpabMrgL
set_option linter.unusedVariables false
set_option linter.unusedSimpArgs false
namespace Go.Proofs.Ytahlhiiekgnmpab
open Go.RowKit

theorem SliceSS.mk1 {w : World} {v a : Value} {m : List Int} (h : SliceOf vV 1 w v [a]) (ha : SliceOf vI 1 w a m) : SliceSS vI 1 w v [m] := by
  refine ⟨[a], h, rfl, fun j u x h1 h2 => ?_⟩
  match j, h1, h2 with
  | 0, h1, h2 =>
    obtain rfl : a = u := by simpa using h1
    obtain rfl : m = x := by simpa using h2
    exact ha
theorem SliceSS.mk2 {w : World} {v a b : Value} {m n : List Int} (h : SliceOf vV 1 w v [a, b]) (ha : SliceOf vI 1 w a m) (hb : SliceOf vI 1 w b n) : SliceSS vI 1 w v [m, n] := by
  refine ⟨[a, b], h, rfl, fun j u x h1 h2 => ?_⟩
  match j, h1, h2 with
  | 0, h1, h2 =>
    obtain rfl : a = u := by simpa using h1
    obtain rfl : m = x := by simpa using h2
    exact ha
  | 1, h1, h2 =>
    obtain rfl : b = u := by simpa using h1
    obtain rfl : n = x := by simpa using h2
    exact hb
theorem SliceSS.mk3 {w : World} {v a b c : Value} {m n o : List Int} (h : SliceOf vV 1 w v [a, b, c]) (ha : SliceOf vI 1 w a m) (hb : SliceOf vI 1 w b n) (hc : SliceOf vI 1 w c o) : SliceSS vI 1 w v [m, n, o] := by
  refine ⟨[a, b, c], h, rfl, fun j u x h1 h2 => ?_⟩
  match j, h1, h2 with
  | 0, h1, h2 =>
    obtain rfl : a = u := by simpa using h1
    obtain rfl : m = x := by simpa using h2
    exact ha
  | 1, h1, h2 =>
    obtain rfl : b = u := by simpa using h1
    obtain rfl : n = x := by simpa using h2
    exact hb
  | 2, h1, h2 =>
    obtain rfl : c = u := by simpa using h1
    obtain rfl : o = x := by simpa using h2
    exact hc
theorem ba (w : World) (o : Obj) : Below w.heap.size w (w.alloc o) := bAlloc (Below.refl _ w) o
theorem slice_lit_at {α : Type} {f : α → List Value} {size : Nat} (hf : ∀ a, (f a).length = size) (w : World) (l : List α) (T : TypeId) (h : l.length ≤ maxLen) {s n : Nat} (hs : w.heap.size = s) (hn : l.length = n) {cs : Array Value} (hc : (flatV f l).toArray = cs) : SliceOf f size (w.alloc (.cells cs T)) (.slice (some ⟨s, 0, none⟩) n n) l := by
  subst hs hn hc
  exact slice_lit hf w l T h
theorem lit1 (W : World) (m : List Int) (T T' : TypeId) (h : m.length ≤ maxLen) {cm : Array Value} (em : (flatV vI m).toArray = cm) {lm : Nat} (hm : m.length = lm) :
    SliceSS vI 1 ((W.alloc (.cells cm T)).alloc (.cells #[.slice (some ⟨W.heap.size, 0, none⟩) lm lm] T')) (.slice (some ⟨W.heap.size + 1, 0, none⟩) 1 1) [m] :=
  SliceSS.mk1 (slice_lit_at vV_len _ [_] T' (by simp [maxLen]) (by simp) rfl (by rw [flat_vV])) ((slice_lit_at vI_len W m T h rfl hm em).below (ba _ _))
theorem lit2 (W : World) (m n : List Int) (T T' : TypeId) (h : m.length ≤ maxLen) (h' : n.length ≤ maxLen) {cm cn : Array Value} (em : (flatV vI m).toArray = cm) (en : (flatV vI n).toArray = cn) {lm ln : Nat} (hm : m.length = lm) (hn : n.length = ln) :
    SliceSS vI 1 (((W.alloc (.cells cm T)).alloc (.cells cn T)).alloc (.cells #[.slice (some ⟨W.heap.size, 0, none⟩) lm lm, .slice (some ⟨W.heap.size + 1, 0, none⟩) ln ln] T'))
      (.slice (some ⟨W.heap.size + 2, 0, none⟩) 2 2) [m, n] :=
  SliceSS.mk2 (slice_lit_at vV_len _ [_, _] T' (by simp [maxLen]) (by simp) rfl (by rw [flat_vV])) (((slice_lit_at vI_len W m T h rfl hm em).below (ba _ _)).below (ba _ _)) ((slice_lit_at vI_len _ n T h' (by simp) hn en).below (ba _ _))
theorem lit3 (W : World) (m n o : List Int) (T T' : TypeId) (h : m.length ≤ maxLen) (h' : n.length ≤ maxLen) (h'' : o.length ≤ maxLen) {cm cn co : Array Value} (em : (flatV vI m).toArray = cm) (en : (flatV vI n).toArray = cn) (eo : (flatV vI o).toArray = co) {lm ln lo : Nat} (hm : m.length = lm) (hn : n.length = ln) (ho : o.length = lo) :
    SliceSS vI 1 ((((W.alloc (.cells cm T)).alloc (.cells cn T)).alloc (.cells co T)).alloc (.cells #[.slice (some ⟨W.heap.size, 0, none⟩) lm lm, .slice (some ⟨W.heap.size + 1, 0, none⟩) ln ln, .slice (some ⟨W.heap.size + 2, 0, none⟩) lo lo] T'))
      (.slice (some ⟨W.heap.size + 3, 0, none⟩) 3 3) [m, n, o] :=
  SliceSS.mk3 (slice_lit_at vV_len _ [_, _, _] T' (by simp [maxLen]) (by simp) rfl (by rw [flat_vV])) ((((slice_lit_at vI_len W m T h rfl hm em).below (ba _ _)).below (ba _ _)).below (ba _ _)) (((slice_lit_at vI_len _ n T h' (by simp) hn en).below (ba _ _)).below (ba _ _)) ((slice_lit_at vI_len _ o T h'' (by simp) ho eo).below (ba _ _))
theorem ref38_same_eq (M : List (List Int)) (v u : Value) (w : World) (h : SliceSS vI 1 w v M) (h' : SliceSS vI 1 w u M) :
    Calls Try.prog 28 #[v, u] w fun e w' => e = .returned (.bool true) ∧ ∃ n, w' = w.drewN n := by
  have := ref38_same M M v u w h h'
  rw [decide_eq_true rfl] at this
  exact this
theorem mrg_groups_at (l : List Al) (win er : Int) (v : Value) (w : World) (h : SliceOf vAl 5 w v l) (he : gErr win l = er) :
    Calls Try.prog 26 #[v, .int .i64 win] w fun e w' => ∃ u M, e = .returned (.tuple #[u, .int .i64 er]) ∧ SliceSS vI 1 w' u M ∧ Below w.heap.size w w' ∧ GOk win l M := by
  subst he
  exact mrg_groups l win v w h
theorem bdraw {w w' : World} (h : Below w.heap.size w w') (n : Nat) : Below w.heap.size w (w'.drewN n) := below_drewN h n
def nK (k : Nat) (rt : Nat → Nat) : Int := if k = 0 then 0 else (cnt k rt (rt (k - 1)) : Int)
theorem nK_zero (rt : Nat → Nat) : nK 0 rt = 0 := rfl
theorem nK_succ (k : Nat) (rt : Nat → Nat) : nK (k + 1) rt = (cnt (k + 1) rt (rt k) : Int) := rfl

set_option maxHeartbeats 4000000 in
set_option maxRecDepth 100000 in
theorem law38_head (w : World) : Calls Try.prog 24 #[] w fun e w' => e = .returned (.bool true) ∧ Below w.heap.size w w' := by
  go_enter Try.func24, Try.ntmps24
  go_wp2_with fail
  refine (law38_sample _).mono ?_
  rintro e w1 ⟨v, rfl, hs, hb1⟩
  have HS := hide hs
  have HB1 := hide hb1
  clear hs hb1
  obtain ⟨ao, cp, rfl⟩ : ∃ ao cp, v = .slice ao 4 cp := HS.out.shape
  go_wp2_with fail
  refine (mrg_groups_at smp 3 0 _ _ HS.out smp_err.1).mono ?_
  rintro e w2 ⟨ua, Ma, rfl, hss, hb2, hok⟩
  obtain rfl := smp_A_is hok
  have HA := hide hss
  have HB2 := hide hb2
  have HS2 := hide (HS.out.below hb2)
  clear hss hb2 hok
  go_wp2_with fail
  refine (mrg_groups_at smp 2 0 _ _ HS2.out smp_err.2.1).mono ?_
  rintro e w3 ⟨ub, Mb, rfl, hss, hb3, hok⟩
  obtain rfl := smp_B_is hok
  have HB := hide hss
  have HB3 := hide hb3
  have HA3 := hide (HA.out.below hb3)
  have HS3 := hide (HS2.out.below hb3)
  clear hss hb3 hok HS2 HA
  go_wp2_with fail
  refine (mrg_groups_at smp 0 0 _ _ HS3.out smp_err.2.2.1).mono ?_
  rintro e w4 ⟨uc, Mc, rfl, hss, hb4, hok⟩
  obtain ⟨co, cc, rfl⟩ := hss.shape
  rw [smp_C_len hok]
  have HB4 := hide hb4
  have HA4 := hide (HA3.out.below hb4)
  have HBB4 := hide (HB.out.below hb4)
  have HS4 := hide (HS3.out.below hb4)
  clear hss hb4 hok HS3 HA3 HB
  go_wp2_with fail
  refine (mrg_groups_at smp (-1) 1 _ _ HS4.out smp_err.2.2.2).mono ?_
  rintro e w5 ⟨ud, Md, rfl, _, hb5, _⟩
  have HB5 := hide (bstep' (bstep' (bstep' (bstep' HB1.out HB2.out) HB3.out) HB4.out) hb5)
  have HA5 := hide (HA4.out.below hb5)
  have HBB5 := hide (HBB4.out.below hb5)
  have HS5 := hide (HS4.out.below hb5)
  clear hb5 HS4 HA4 HBB4 HB1 HB2 HB3 HB4
  go_wp2_with fail
  refine (mrg_new_ok 80 _ (by decide)).mono ?_
  rintro e w6 ⟨rfl, hI, hb6, _⟩
  have HI := hide hI
  have HB6 := hide hb6
  have HC : Hid (CellsOf w5 ao cp smp) := cells_of HS5.out
  clear hI hb6 HS5
  go_wp2_with fail
  go_loopw [12, 13] (fun n i wx => ∃ (k : Nat) (v : Value) (rt : Nat → Nat), k ≤ 4 ∧ i = .int .i64 k ∧ SetI wx w5.heap.size (w5.heap.size + 1) v 80 (smp.take k) rt ∧ Below w5.heap.size w5 wx ∧ n = .int .i64 (nK k rt)) (fun _ i _ => 4 - (intOf i).toNat)
  case atStart => exact ⟨0, _, _, Nat.zero_le _, rfl, HI.out, HB6.out, rfl⟩
  case round =>
    obtain ⟨k, v, rt, hk, rfl, hst, hbl, rfl⟩ := hrel
    have HST := hide hst
    have HBL := hide hbl
    clear hst hbl
    by_cases hlt : k < 4
    · obtain ⟨b, off, rfl, hcpI, hcap, hc⟩ := HC.out (by decide)
      have hlt' : k < smp.length := hlt
      obtain ⟨y0, y1, y2, y3, y4⟩ := cells_in HBL.out (hc k hlt')
      have HTK : Hid (smp.take (k + 1) = smp.take k ++ [smp[k]]) := by show _ = _; rw [List.take_succ_eq_append_getElem hlt']
      have HV := hide (smp_val smp[k] (List.getElem_mem hlt'))
      have htl : (smp.take k).length = k := by rw [List.length_take]; have : smp.length = 4 := rfl; omega
      have HTL := hide htl
      have hki : (k : Int) < 4 := by omega
      have hk0 : (0 : Int) ≤ (k : Int) := by omega
      have hcapI : (4 : Int) ≤ (cp : Int) := by have : smp.length = 4 := rfl; omega
      clear hc htl hcap
      obtain ⟨a, ha⟩ : ∃ a, smp[k] = a := ⟨_, rfl⟩
      rw [ha] at y0 y1 y2 y3 y4 HTK HV
      clear ha
      go_wp2_with fail
      refine (mrg_add_ok _ _ _ 80 (smp.take k) rt a _ HST.out HV.out (by rw [HTL.out]; omega)).mono ?_
      rintro e w7 ⟨v7, rt7, rfl, hI7, hO7, _⟩
      have HS7 := hide hI7
      have HB7 := hide (HBL.out.trans (hO7.below (Nat.le_refl _) (fun j hj => by have := (HST.out.own.lt j hj).1; omega) HBL.out.size))
      clear hI7 hO7
      go_wp2_with fail
      go_roundw
      case rel => exact ⟨k + 1, v7, rt7, by omega, by go_num, by rw [HTK.out]; exact HS7.out, HB7.out, by rw [nK_succ, show min k smp.length = k from by have h9 := HTL.out; rw [List.length_take] at h9; exact h9]⟩
      case measure => simp [intOf]; omega
    · have hk' : k = 4 := by omega
      subst hk'
      have HT : Hid (smp.take 4 = smp) := rfl
      rw [HT.out] at HST
      have HNK : Hid (nK 4 rt = 4) := by
        have h9 := cnt_is HST.out.conn smp_D (i := 3) (by decide)
        show nK 4 rt = 4
        rw [nK_succ 3 rt]
        exact congrArg (fun (n : Nat) => (n : Int)) (h9.trans smp_Dn)
      rw [HNK.out]
      go_wp2_with fail
      refine (mrg_add_ok _ _ _ 80 smp rt extra _ HST.out extra_val (by decide)).mono ?_
      rintro e w7 ⟨v7, rt7, rfl, hI7, hO7, _⟩
      have HS7 := hide hI7
      have HB7 := hide (HBL.out.trans (hO7.below (Nat.le_refl _) (fun j hj => by have := (HST.out.own.lt j hj).1; omega) HBL.out.size))
      have HNE : Hid ((cnt (smp.length + 1) rt7 (rt7 smp.length) : Int) = 5) := by
        have h9 := cnt_is HS7.out.conn smp_E (i := 4) (by decide)
        exact congrArg (fun (n : Nat) => (n : Int)) (h9.trans smp_En)
      rw [HNE.out]
      have HA7 := hide (HA5.out.below HB7.out)
      have HBB7 := hide (HBB5.out.below HB7.out)
      clear hI7 hO7 HST HBL HI HB6 HA5 HBB5 HC
      go_wp2_with fail
      have HLA := hide (lit2 w7 [0, 2, 3] [1] 3 30 (by decide) (by decide) (cm := #[.int .i64 0, .int .i64 2, .int .i64 3]) (cn := #[.int .i64 1]) rfl rfl rfl rfl)
      refine (ref38_same_eq [[0, 2, 3], [1]] _ _ _ (((HA7.out.below (ba _ _)).below (ba _ _)).below (ba _ _)) HLA.out).mono ?_
      rintro e w8 ⟨rfl, n8, hw8⟩
      have HB8 : Hid (Below w7.heap.size w7 w8) := by
        show Below _ _ _
        rw [hw8]; exact bdraw (bAlloc (bAlloc (ba _ _) _) _) _
      have HBB8 := hide (HBB7.out.below HB8.out)
      clear hw8
      go_wp2_with fail
      have HLB := hide (lit3 w8 [0, 2] [1] [3] 3 30 (by decide) (by decide) (by decide) (cm := #[.int .i64 0, .int .i64 2]) (cn := #[.int .i64 1]) (co := #[.int .i64 3]) rfl rfl rfl rfl rfl rfl)
      refine (ref38_same_eq [[0, 2], [1], [3]] _ _ _ ((((HBB8.out.below (ba _ _)).below (ba _ _)).below (ba _ _)).below (ba _ _)) HLB.out).mono ?_
      rintro e w9 ⟨rfl, n9, hw9⟩
      have HB9 : Hid (Below w7.heap.size w7 w9) := by
        show Below _ _ _
        rw [hw9]; exact bstep' HB8.out (bdraw (bAlloc (bAlloc (bAlloc (ba _ _) _) _) _) _)
      have HS9 := hide (HS7.out.keep HB9.out)
      clear hw9 HB8
      go_wp2_with fail
      refine (mrg_setGroups _ _ _ 80 (smp ++ [extra]) rt7 _ HS9.out).mono ?_
      rintro e wA ⟨ug, rfl, hss, _, hgr⟩
      have HG : Hid (SliceSS vI 1 wA ug [[0, 1, 2, 3, 4]]) := by
        have h9 : gK rt7 5 = gK (par3 pD) 5 := gK_congr fun x y hx hy => (HS7.out.conn x y hx hy).trans (class_of smp_E hx hy).symm
        have h8 := hss
        show SliceSS _ _ _ _ _
        rw [← smp_Eg, ← h9]
        exact h8
      have HBA := hide ((HB5.out.trans ((HB7.out.trans (HB9.out.mono HB7.out.size)).mono HB5.out.size)).grown hgr (by have h1 := HB5.out.size; have h2 := HB7.out.size; have h3 := HB9.out.size; omega) (fun j hj => by injection hj with hj; have h1 := HB5.out.size; omega))
      clear hss hgr
      go_wp2_with fail
      have HLG := hide (lit1 wA [0, 1, 2, 3, 4] 3 30 (by decide) (cm := #[.int .i64 0, .int .i64 1, .int .i64 2, .int .i64 3, .int .i64 4]) rfl rfl)
      refine (ref38_same_eq [[0, 1, 2, 3, 4]] _ _ _ ((HG.out.below (ba _ _)).below (ba _ _)) HLG.out).mono ?_
      rintro e wB ⟨rfl, nB, hwB⟩
      have HBB : Hid (Below w.heap.size w wB) := by
        show Below _ _ _
        rw [hwB]; exact bdraw (bAlloc (bAlloc HBA.out _) _) _
      clear hwB
      go_wp2_with fail
      go_ret
      exact ⟨rfl, HBB.out⟩
end Go.Proofs.Ytahlhiiekgnmpab
