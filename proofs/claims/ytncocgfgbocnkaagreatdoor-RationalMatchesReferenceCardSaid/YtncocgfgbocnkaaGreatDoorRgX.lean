/- RgG in one text. -/
import Derived.Test.YtncocgfgbocnkaaGreatDoorRgW
import Derived.BigGuard
set_option linter.unusedVariables false
set_option linter.unusedSimpArgs false
/- RationalMatchesReference. -/
namespace Go.Proofs.YtncocgfgbocnkaaGreatDoor
open Go.RowKit Go.Sort

/-- The blocks of a list are apart, the newest first. -/
def Ord (L : List (Nat × Bool × ByteArray × ByteArray)) : Prop := L.Pairwise fun x y => y.1 < x.1
theorem Ord.nil : Ord [] := List.Pairwise.nil
theorem Ord.push {W : World} {L : List (Nat × Bool × ByteArray × ByteArray)} (h : Ord L) (hv : VL W L) {b : Nat} (hb : W.heap.size = b) (g : Bool) (s t : ByteArray) : Ord ((b, g, s, t) :: L) :=
  List.Pairwise.cons (fun x hx => by have := (hv x hx).lt; omega) h
theorem Ord.ne {L : List (Nat × Bool × ByteArray × ByteArray)} (h : Ord L) {i j : Nat} (hi : i < L.length) (hj : j < L.length) (hij : i ≠ j) : L[i].1 ≠ L[j].1 := by
  have hp := List.pairwise_iff_getElem.1 h
  rcases Nat.lt_or_gt_of_ne hij with hl | hl
  · have := hp i j hi hj hl; omega
  · have := hp j i hj hi hl; omega
theorem Ord.upd {L : List (Nat × Bool × ByteArray × ByteArray)} (h : Ord L) (i : Nat) (hi : i < L.length) (v : Bool × ByteArray × ByteArray) : Ord (L.set i (L[i].1, v)) := by
  refine List.pairwise_iff_getElem.2 fun j k hj hk hjk => ?_
  rw [List.length_set] at hj hk
  have hp := List.pairwise_iff_getElem.1 h j k hj hk hjk
  rw [List.getElem_set, List.getElem_set]
  by_cases e1 : i = k
  · subst e1
    rw [if_pos rfl, if_neg (by omega)]; exact hp
  · rw [if_neg e1]
    by_cases e2 : i = j
    · subst e2; rw [if_pos rfl]; exact hp
    · rw [if_neg e2]; exact hp
theorem VL.upd {W : World} {L : List (Nat × Bool × ByteArray × ByteArray)} (hv : VL W L) (ho : Ord L) (i : Nat) (hi : i < L.length) (v : Bool × ByteArray × ByteArray) : VL (((W.setCell ⟨L[i].1, 0, none⟩ (.bool v.1)).setCell ⟨L[i].1, 1, none⟩ (.string v.2.1)).setCell ⟨L[i].1, 2, none⟩ (.string v.2.2)) (L.set i (L[i].1, v)) := fun x hx => by
  obtain ⟨j, hj, rfl⟩ := List.getElem_of_mem hx
  rw [List.length_set] at hj
  rw [List.getElem_set]
  by_cases e : i = j
  · subst e
    rw [if_pos rfl]
    exact (hv _ (List.getElem_mem hi)).set3 v.1 v.2.1 v.2.2
  · rw [if_neg e]
    exact (hv _ (List.getElem_mem hj)).only (Only2.set3 _ _ _ _ _) (ho.ne hj hi (fun h => e h.symm))

set_option maxHeartbeats 8000000 in
set_option maxRecDepth 100000 in
theorem match_bad0 (ga : Bool) (sa ta : ByteArray) (gb : Bool) (sb tb : ByteArray) (n d : Int) (g0 : Bool) (sn sd x : ByteArray) (w : World) (hf : fewQ 40 [(ga, sa, ta), (gb, sb, tb)] = false) (hw : LawW w) :
    Calls Tryz.prog 3 #[.agg #[.bool ga, .string sa, .string ta], .agg #[.bool gb, .string sb, .string tb], .int .i64 n, .int .i64 d, .bool g0, .string sn, .string sd, .string x] w fun e w' => e = .returned (.bool true) ∧ Below w.heap.size w w' := by
  have HW := hide hw
  have HF := hide (fun W T => few_two ga sa ta gb sb tb W T)
  rw [hf] at HF
  have HH := hide (fun W hW => law04_head W hW)
  have HB0 : Hid (Below w.heap.size w w) := Below.refl _ _
  have HV0 : Hid (VL w []) := VL.nil w
  have HD0 : Hid (Ord []) := Ord.nil
  clear hf hw
  go_enter Tryz.func3, Tryz.ntmps3
  have HV0_ := hide (HV0.out.pushAt (b := w.heap.size) (by simp) ga sa ta 24)
  have HB0_ := hide (bAlloc HB0.out (.cells #[.bool ga, .string sa, .string ta] 24))
  clear HB0 HV0
  have HV0__ := hide (HV0_.out.pushAt (b := w.heap.size + 1) (by simp) gb sb tb 24)
  have HB0__ := hide (bAlloc HB0_.out (.cells #[.bool gb, .string sb, .string tb] 24))
  clear HB0_ HV0_
  go_wp2_with fail
  refine (HH.out _ (HW.out.below HB0__.out)).mono ?_
  rintro e w1 ⟨rfl, hb⟩
  have HB1 := hide (bStep HB0__.out hb)
  have HV1 := hide (HV0__.out.below hb)
  clear hb HB0__ HV0__
  obtain ⟨c3, c4, c5⟩ := VL.cells3 (b := w.heap.size) (g := ga) (s := sa) (t := ta) HV1.out (by simp)
  obtain ⟨c6, c7, c8⟩ := VL.cells3 (b := w.heap.size + 1) (g := gb) (s := sb) (t := tb) HV1.out (by simp)
  go_wp2_with fail
  clear c3 c4 c5 c6 c7 c8
  refine (HF.out _ _).mono ?_
  rintro e wf ⟨rfl, rfl⟩
  have HV1_ := hide (VL.below HV1.out (bAlloc (Below.refl _ _) (.cells #[.bool ga, .string sa, .string ta, .bool gb, .string sb, .string tb] 24)))
  have HB1_ := hide (bAlloc HB1.out (.cells #[.bool ga, .string sa, .string ta, .bool gb, .string sb, .string tb] 24))
  clear HB1 HV1
  go_wp2_with fail
  go_ret
  exact ⟨rfl, HB1_.out⟩
set_option maxHeartbeats 8000000 in
set_option maxRecDepth 100000 in
theorem match_bad1 (ga : Bool) (sa ta : ByteArray) (gb : Bool) (sb tb : ByteArray) (n d : Int) (g0 : Bool) (sn sd x : ByteArray) (w : World) (hf : fewQ 40 [(ga, sa, ta), (gb, sb, tb)] = true) (h0 : 40 < sn.size) (hw : LawW w) :
    Calls Tryz.prog 3 #[.agg #[.bool ga, .string sa, .string ta], .agg #[.bool gb, .string sb, .string tb], .int .i64 n, .int .i64 d, .bool g0, .string sn, .string sd, .string x] w fun e w' => e = .returned (.bool true) ∧ Below w.heap.size w w' := by
  have HW := hide hw
  have HF := hide (fun W T => few_two ga sa ta gb sb tb W T)
  rw [hf] at HF
  have j0 : (40 : Int) < (sn.size : Int) := by omega
  have HH := hide (fun W hW => law04_head W hW)
  have HB0 : Hid (Below w.heap.size w w) := Below.refl _ _
  have HV0 : Hid (VL w []) := VL.nil w
  have HD0 : Hid (Ord []) := Ord.nil
  clear hf hw h0
  go_enter Tryz.func3, Tryz.ntmps3
  have HV0_ := hide (HV0.out.pushAt (b := w.heap.size) (by simp) ga sa ta 24)
  have HB0_ := hide (bAlloc HB0.out (.cells #[.bool ga, .string sa, .string ta] 24))
  clear HB0 HV0
  have HV0__ := hide (HV0_.out.pushAt (b := w.heap.size + 1) (by simp) gb sb tb 24)
  have HB0__ := hide (bAlloc HB0_.out (.cells #[.bool gb, .string sb, .string tb] 24))
  clear HB0_ HV0_
  go_wp2_with fail
  refine (HH.out _ (HW.out.below HB0__.out)).mono ?_
  rintro e w1 ⟨rfl, hb⟩
  have HB1 := hide (bStep HB0__.out hb)
  have HV1 := hide (HV0__.out.below hb)
  clear hb HB0__ HV0__
  obtain ⟨c3, c4, c5⟩ := VL.cells3 (b := w.heap.size) (g := ga) (s := sa) (t := ta) HV1.out (by simp)
  obtain ⟨c6, c7, c8⟩ := VL.cells3 (b := w.heap.size + 1) (g := gb) (s := sb) (t := tb) HV1.out (by simp)
  go_wp2_with fail
  clear c3 c4 c5 c6 c7 c8
  refine (HF.out _ _).mono ?_
  rintro e wf ⟨rfl, rfl⟩
  have HV1_ := hide (VL.below HV1.out (bAlloc (Below.refl _ _) (.cells #[.bool ga, .string sa, .string ta, .bool gb, .string sb, .string tb] 24)))
  have HB1_ := hide (bAlloc HB1.out (.cells #[.bool ga, .string sa, .string ta, .bool gb, .string sb, .string tb] 24))
  clear HB1 HV1
  go_wp2_with fail
  go_ret
  exact ⟨rfl, HB1_.out⟩
set_option maxHeartbeats 8000000 in
set_option maxRecDepth 100000 in
theorem match_bad2 (ga : Bool) (sa ta : ByteArray) (gb : Bool) (sb tb : ByteArray) (n d : Int) (g0 : Bool) (sn sd x : ByteArray) (w : World) (hf : fewQ 40 [(ga, sa, ta), (gb, sb, tb)] = true) (h0 : sn.size ≤ 40) (h1 : 40 < sd.size) (hw : LawW w) :
    Calls Tryz.prog 3 #[.agg #[.bool ga, .string sa, .string ta], .agg #[.bool gb, .string sb, .string tb], .int .i64 n, .int .i64 d, .bool g0, .string sn, .string sd, .string x] w fun e w' => e = .returned (.bool true) ∧ Below w.heap.size w w' := by
  have HW := hide hw
  have HF := hide (fun W T => few_two ga sa ta gb sb tb W T)
  rw [hf] at HF
  have j0 : (sn.size : Int) ≤ 40 := by omega
  have j1 : (40 : Int) < (sd.size : Int) := by omega
  have HH := hide (fun W hW => law04_head W hW)
  have HB0 : Hid (Below w.heap.size w w) := Below.refl _ _
  have HV0 : Hid (VL w []) := VL.nil w
  have HD0 : Hid (Ord []) := Ord.nil
  clear hf hw h0 h1
  go_enter Tryz.func3, Tryz.ntmps3
  have HV0_ := hide (HV0.out.pushAt (b := w.heap.size) (by simp) ga sa ta 24)
  have HB0_ := hide (bAlloc HB0.out (.cells #[.bool ga, .string sa, .string ta] 24))
  clear HB0 HV0
  have HV0__ := hide (HV0_.out.pushAt (b := w.heap.size + 1) (by simp) gb sb tb 24)
  have HB0__ := hide (bAlloc HB0_.out (.cells #[.bool gb, .string sb, .string tb] 24))
  clear HB0_ HV0_
  go_wp2_with fail
  refine (HH.out _ (HW.out.below HB0__.out)).mono ?_
  rintro e w1 ⟨rfl, hb⟩
  have HB1 := hide (bStep HB0__.out hb)
  have HV1 := hide (HV0__.out.below hb)
  clear hb HB0__ HV0__
  obtain ⟨c3, c4, c5⟩ := VL.cells3 (b := w.heap.size) (g := ga) (s := sa) (t := ta) HV1.out (by simp)
  obtain ⟨c6, c7, c8⟩ := VL.cells3 (b := w.heap.size + 1) (g := gb) (s := sb) (t := tb) HV1.out (by simp)
  go_wp2_with fail
  clear c3 c4 c5 c6 c7 c8
  refine (HF.out _ _).mono ?_
  rintro e wf ⟨rfl, rfl⟩
  have HV1_ := hide (VL.below HV1.out (bAlloc (Below.refl _ _) (.cells #[.bool ga, .string sa, .string ta, .bool gb, .string sb, .string tb] 24)))
  have HB1_ := hide (bAlloc HB1.out (.cells #[.bool ga, .string sa, .string ta, .bool gb, .string sb, .string tb] 24))
  clear HB1 HV1
  go_wp2_with fail
  go_ret
  exact ⟨rfl, HB1_.out⟩
set_option maxHeartbeats 8000000 in
set_option maxRecDepth 100000 in
theorem match_bad3 (ga : Bool) (sa ta : ByteArray) (gb : Bool) (sb tb : ByteArray) (n d : Int) (g0 : Bool) (sn sd x : ByteArray) (w : World) (hf : fewQ 40 [(ga, sa, ta), (gb, sb, tb)] = true) (h0 : sn.size ≤ 40) (h1 : sd.size ≤ 40) (h2 : 90 < x.size) (hw : LawW w) :
    Calls Tryz.prog 3 #[.agg #[.bool ga, .string sa, .string ta], .agg #[.bool gb, .string sb, .string tb], .int .i64 n, .int .i64 d, .bool g0, .string sn, .string sd, .string x] w fun e w' => e = .returned (.bool true) ∧ Below w.heap.size w w' := by
  have HW := hide hw
  have HF := hide (fun W T => few_two ga sa ta gb sb tb W T)
  rw [hf] at HF
  have j0 : (sn.size : Int) ≤ 40 := by omega
  have j1 : (sd.size : Int) ≤ 40 := by omega
  have j2 : (90 : Int) < (x.size : Int) := by omega
  have HH := hide (fun W hW => law04_head W hW)
  have HB0 : Hid (Below w.heap.size w w) := Below.refl _ _
  have HV0 : Hid (VL w []) := VL.nil w
  have HD0 : Hid (Ord []) := Ord.nil
  clear hf hw h0 h1 h2
  go_enter Tryz.func3, Tryz.ntmps3
  have HV0_ := hide (HV0.out.pushAt (b := w.heap.size) (by simp) ga sa ta 24)
  have HB0_ := hide (bAlloc HB0.out (.cells #[.bool ga, .string sa, .string ta] 24))
  clear HB0 HV0
  have HV0__ := hide (HV0_.out.pushAt (b := w.heap.size + 1) (by simp) gb sb tb 24)
  have HB0__ := hide (bAlloc HB0_.out (.cells #[.bool gb, .string sb, .string tb] 24))
  clear HB0_ HV0_
  go_wp2_with fail
  refine (HH.out _ (HW.out.below HB0__.out)).mono ?_
  rintro e w1 ⟨rfl, hb⟩
  have HB1 := hide (bStep HB0__.out hb)
  have HV1 := hide (HV0__.out.below hb)
  clear hb HB0__ HV0__
  obtain ⟨c3, c4, c5⟩ := VL.cells3 (b := w.heap.size) (g := ga) (s := sa) (t := ta) HV1.out (by simp)
  obtain ⟨c6, c7, c8⟩ := VL.cells3 (b := w.heap.size + 1) (g := gb) (s := sb) (t := tb) HV1.out (by simp)
  go_wp2_with fail
  clear c3 c4 c5 c6 c7 c8
  refine (HF.out _ _).mono ?_
  rintro e wf ⟨rfl, rfl⟩
  have HV1_ := hide (VL.below HV1.out (bAlloc (Below.refl _ _) (.cells #[.bool ga, .string sa, .string ta, .bool gb, .string sb, .string tb] 24)))
  have HB1_ := hide (bAlloc HB1.out (.cells #[.bool ga, .string sa, .string ta, .bool gb, .string sb, .string tb] 24))
  clear HB1 HV1
  go_wp2_with fail
  go_ret
  exact ⟨rfl, HB1_.out⟩
set_option maxHeartbeats 8000000 in
set_option maxRecDepth 100000 in
theorem match_ok (ga : Bool) (sa ta : ByteArray) (gb : Bool) (sb tb : ByteArray) (n d : Int) (g0 : Bool) (sn sd x : ByteArray) (w : World) (hf : fewQ 40 [(ga, sa, ta), (gb, sb, tb)] = true) (h40 : sn.size ≤ 40) (h41 : sd.size ≤ 40) (hx : x.size ≤ 90) (hn : inI64 n) (hd : inI64 d) (hw : LawW w) :
    Calls Tryz.prog 3 #[.agg #[.bool ga, .string sa, .string ta], .agg #[.bool gb, .string sb, .string tb], .int .i64 n, .int .i64 d, .bool g0, .string sn, .string sd, .string x] w fun e w' => e = .returned (.bool true) ∧ Below w.heap.size w w' := by
  have HW := hide hw
  have HF := hide (fun W T => few_two ga sa ta gb sb tb W T)
  rw [hf] at HF
  have j0 : (sn.size : Int) ≤ 40 := by omega
  have j1 : (sd.size : Int) ≤ 40 := by omega
  have j2 : (x.size : Int) ≤ 90 := by omega
  obtain ⟨l1, l2, l3, l4⟩ := fewQ_two hf
  simp only at l1 l2 l3 l4
  obtain ⟨g1, s1, t1, k1, h1, h1'⟩ := ag_Of n d hn hd
  obtain ⟨g2, s2, t2, k2, h2, h2'⟩ := ag_Make g0 sn sd (by omega) (by omega)
  obtain ⟨u3, k3, h3, h3'⟩ := ag_Text ga sa ta (by omega) (by omega)
  obtain ⟨g4, s4, t4, k4, h4, h4'⟩ := ag_Parse x hx
  obtain ⟨vz, hv, hv'⟩ := ag_Valid ga sa ta (by omega) (by omega)
  obtain ⟨cz, hc, hc'⟩ := ag_Compare ga sa ta gb sb tb (by omega) (by omega) (by omega) (by omega)
  obtain ⟨g5, s5, t5, k5, h5, h5'⟩ := ag_Add ga sa ta gb sb tb (by omega) (by omega) (by omega) (by omega)
  obtain ⟨g6, s6, t6, k6, h6, h6'⟩ := ag_Sub ga sa ta gb sb tb (by omega) (by omega) (by omega) (by omega)
  obtain ⟨g7, s7, t7, k7, h7, h7'⟩ := ag_Mul ga sa ta gb sb tb (by omega) (by omega) (by omega) (by omega)
  obtain ⟨g8, s8, t8, k8, h8, h8'⟩ := ag_Div ga sa ta gb sb tb (by omega) (by omega) (by omega) (by omega)
  unfold X2 at h5 h5' h6 h6' h7 h7' h8 h8'
  have Hh1 := hide h1
  have Hh1' := hide h1'
  have Hh2 := hide h2
  have Hh2' := hide h2'
  have Hh3 := hide h3
  have Hh3' := hide h3'
  have Hh4 := hide h4
  have Hh4' := hide h4'
  have Hhv := hide hv
  have Hhv' := hide hv'
  have Hhc := hide hc
  have Hhc' := hide hc'
  have Hh5 := hide h5
  have Hh5' := hide h5'
  have Hh6 := hide h6
  have Hh6' := hide h6'
  have Hh7 := hide h7
  have Hh7' := hide h7'
  have Hh8 := hide h8
  have Hh8' := hide h8'
  have HH := hide (fun W hW => law04_head W hW)
  have HB0 : Hid (Below w.heap.size w w) := Below.refl _ _
  have HV0 : Hid (VL w []) := VL.nil w
  have HD0 : Hid (Ord []) := Ord.nil
  clear hf hw h40 h41 hx hn hd l1 l2 l3 l4 h1 h1' h2 h2' h3 h3' h4 h4' hv hv' hc hc' h5 h5' h6 h6' h7 h7' h8 h8'
  go_enter Tryz.func3, Tryz.ntmps3
  have HD1 := hide (HD0.out.push HV0.out (b := w.heap.size) (by simp) ga sa ta)
  clear HD0
  have lo1 : w.heap.size ≤ w.heap.size := Nat.le_trans HB0.out.size (by simp)
  have HV0_ := hide (HV0.out.pushAt (b := w.heap.size) (by simp) ga sa ta 24)
  have HB0_ := hide (bAlloc HB0.out (.cells #[.bool ga, .string sa, .string ta] 24))
  clear HB0 HV0
  have HD2 := hide (HD1.out.push HV0_.out (b := w.heap.size + 1) (by simp) gb sb tb)
  clear HD1
  have lo2 : w.heap.size ≤ w.heap.size + 1 := Nat.le_trans HB0_.out.size (by simp)
  have HV0__ := hide (HV0_.out.pushAt (b := w.heap.size + 1) (by simp) gb sb tb 24)
  have HB0__ := hide (bAlloc HB0_.out (.cells #[.bool gb, .string sb, .string tb] 24))
  clear HB0_ HV0_
  go_wp2_with fail
  refine (HH.out _ (HW.out.below HB0__.out)).mono ?_
  rintro e w1 ⟨rfl, hb⟩
  have HB1 := hide (bStep HB0__.out hb)
  have HV1 := hide (HV0__.out.below hb)
  clear hb HB0__ HV0__
  obtain ⟨c3, c4, c5⟩ := VL.cells3 (b := w.heap.size) (g := ga) (s := sa) (t := ta) HV1.out (by simp)
  obtain ⟨c6, c7, c8⟩ := VL.cells3 (b := w.heap.size + 1) (g := gb) (s := sb) (t := tb) HV1.out (by simp)
  go_wp2_with fail
  clear c3 c4 c5 c6 c7 c8
  refine (HF.out _ _).mono ?_
  rintro e wf ⟨rfl, rfl⟩
  have HV1_ := hide (VL.below HV1.out (bAlloc (Below.refl _ _) (.cells #[.bool ga, .string sa, .string ta, .bool gb, .string sb, .string tb] 24)))
  have HB1_ := hide (bAlloc HB1.out (.cells #[.bool ga, .string sa, .string ta, .bool gb, .string sb, .string tb] 24))
  clear HB1 HV1
  go_wp2_with fail
  refine (Hh1.out _ (HW.out.below HB1_.out)).mono ?_
  rintro e w2 ⟨rfl, hb⟩
  have HB2 := hide (bStep HB1_.out hb)
  have HV2 := hide (HV1_.out.below hb)
  clear hb HB1_ HV1_
  have HD3 := hide (HD2.out.push HV2.out (b := w2.heap.size) (by simp) g1 s1 t1)
  clear HD2
  have lo3 : w.heap.size ≤ w2.heap.size := Nat.le_trans HB2.out.size (by simp)
  have HV2_ := hide (HV2.out.pushAt (b := w2.heap.size) (by simp) g1 s1 t1 24)
  have HB2_ := hide (bAlloc HB2.out (.cells #[.bool g1, .string s1, .string t1] 24))
  clear HB2 HV2
  go_wp2_with fail
  refine (Hh1'.out _ (HW.out.below HB2_.out)).mono ?_
  rintro e w3 ⟨rfl, hb⟩
  have HB3 := hide (bStep HB2_.out hb)
  have HV3 := hide (HV2_.out.below hb)
  clear hb HB2_ HV2_
  have HD4 := hide (HD3.out.push HV3.out (b := w3.heap.size) (by simp) g1 s1 t1)
  clear HD3
  have lo4 : w.heap.size ≤ w3.heap.size := Nat.le_trans HB3.out.size (by simp)
  have HV3_ := hide (HV3.out.pushAt (b := w3.heap.size) (by simp) g1 s1 t1 24)
  have HB3_ := hide (bAlloc HB3.out (.cells #[.bool g1, .string s1, .string t1] 24))
  clear HB3 HV3
  go_wp2_with fail
  refine (Hh2.out _ (HW.out.below HB3_.out)).mono ?_
  rintro e w4 ⟨rfl, hb⟩
  have HB4 := hide (bStep HB3_.out hb)
  have HV4 := hide (HV3_.out.below hb)
  clear hb HB3_ HV3_
  have HD5 := hide (HD4.out.push HV4.out (b := w4.heap.size) (by simp) g2 s2 t2)
  clear HD4
  have lo5 : w.heap.size ≤ w4.heap.size := Nat.le_trans HB4.out.size (by simp)
  have HV4_ := hide (HV4.out.pushAt (b := w4.heap.size) (by simp) g2 s2 t2 24)
  have HB4_ := hide (bAlloc HB4.out (.cells #[.bool g2, .string s2, .string t2] 24))
  clear HB4 HV4
  go_wp2_with fail
  refine (Hh2'.out _ (HW.out.below HB4_.out)).mono ?_
  rintro e w5 ⟨rfl, hb⟩
  have HB5 := hide (bStep HB4_.out hb)
  have HV5 := hide (HV4_.out.below hb)
  clear hb HB4_ HV4_
  have HD6 := hide (HD5.out.push HV5.out (b := w5.heap.size) (by simp) g2 s2 t2)
  clear HD5
  have lo6 : w.heap.size ≤ w5.heap.size := Nat.le_trans HB5.out.size (by simp)
  have HV5_ := hide (HV5.out.pushAt (b := w5.heap.size) (by simp) g2 s2 t2 24)
  have HB5_ := hide (bAlloc HB5.out (.cells #[.bool g2, .string s2, .string t2] 24))
  clear HB5 HV5
  obtain ⟨c9, c10, c11⟩ := VL.cells3 (b := w.heap.size) (g := ga) (s := sa) (t := ta) HV5_.out (by simp)
  go_wp2_with fail
  clear c9 c10 c11
  refine (Hh3.out _ (HW.out.below HB5_.out)).mono ?_
  rintro e w6 ⟨rfl, hb⟩
  have HB6 := hide (bStep HB5_.out hb)
  have HV6 := hide (HV5_.out.below hb)
  clear hb HB5_ HV5_
  obtain ⟨c12, c13, c14⟩ := VL.cells3 (b := w.heap.size) (g := ga) (s := sa) (t := ta) HV6.out (by simp)
  go_wp2_with fail
  clear c12 c13 c14
  refine (Hh3'.out _ (HW.out.below HB6.out)).mono ?_
  rintro e w7 ⟨rfl, hb⟩
  have HB7 := hide (bStep HB6.out hb)
  have HV7 := hide (HV6.out.below hb)
  clear hb HB6 HV6
  go_wp2_with fail
  refine (Hh4.out _ (HW.out.below HB7.out)).mono ?_
  rintro e w8 ⟨rfl, hb⟩
  have HB8 := hide (bStep HB7.out hb)
  have HV8 := hide (HV7.out.below hb)
  clear hb HB7 HV7
  have HD7 := hide (HD6.out.push HV8.out (b := w8.heap.size) (by simp) g4 s4 t4)
  clear HD6
  have lo7 : w.heap.size ≤ w8.heap.size := Nat.le_trans HB8.out.size (by simp)
  have HV8_ := hide (HV8.out.pushAt (b := w8.heap.size) (by simp) g4 s4 t4 24)
  have HB8_ := hide (bAlloc HB8.out (.cells #[.bool g4, .string s4, .string t4] 24))
  clear HB8 HV8
  go_wp2_with fail
  refine (Hh4'.out _ (HW.out.below HB8_.out)).mono ?_
  rintro e w9 ⟨rfl, hb⟩
  have HB9 := hide (bStep HB8_.out hb)
  have HV9 := hide (HV8_.out.below hb)
  clear hb HB8_ HV8_
  have HD8 := hide (HD7.out.push HV9.out (b := w9.heap.size) (by simp) g4 s4 t4)
  clear HD7
  have lo8 : w.heap.size ≤ w9.heap.size := Nat.le_trans HB9.out.size (by simp)
  have HV9_ := hide (HV9.out.pushAt (b := w9.heap.size) (by simp) g4 s4 t4 24)
  have HB9_ := hide (bAlloc HB9.out (.cells #[.bool g4, .string s4, .string t4] 24))
  clear HB9 HV9
  go_wp2_with fail
  obtain ⟨NA, hsA⟩ : ∃ N, VS w N (w9.alloc (.cells #[.bool g4, .string s4, .string t4] 24)) [(w9.heap.size, g4, s4, t4), (w8.heap.size, g4, s4, t4), (w5.heap.size, g2, s2, t2), (w4.heap.size, g2, s2, t2), (w3.heap.size, g1, s1, t1), (w2.heap.size, g1, s1, t1), (w.heap.size + 1, gb, sb, tb), (w.heap.size, ga, sa, ta)] := ⟨_, VS.start HB9_.out HV9_.out⟩
  obtain ⟨wA, hwA⟩ : ∃ x, (w9.alloc (.cells #[.bool g4, .string s4, .string t4] 24)) = x := ⟨_, rfl⟩
  rw [hwA] at hsA ⊢
  clear hwA
  clear HB9_ HV9_
  have HSA : Hid (∀ W, VS w NA W [(w9.heap.size, g4, s4, t4), (w8.heap.size, g4, s4, t4), (w5.heap.size, g2, s2, t2), (w4.heap.size, g2, s2, t2), (w3.heap.size, g1, s1, t1), (w2.heap.size, g1, s1, t1), (w.heap.size + 1, gb, sb, tb), (w.heap.size, ga, sa, ta)] → (W.cell? ⟨w.heap.size, 0, none⟩ = some (.bool ga) ∧ W.cell? ⟨w.heap.size, 1, none⟩ = some (.string sa) ∧ W.cell? ⟨w.heap.size, 2, none⟩ = some (.string ta)) ∧ (W.cell? ⟨w.heap.size + 1, 0, none⟩ = some (.bool gb) ∧ W.cell? ⟨w.heap.size + 1, 1, none⟩ = some (.string sb) ∧ W.cell? ⟨w.heap.size + 1, 2, none⟩ = some (.string tb)) ∧ (W.cell? ⟨w2.heap.size, 0, none⟩ = some (.bool g1) ∧ W.cell? ⟨w2.heap.size, 1, none⟩ = some (.string s1) ∧ W.cell? ⟨w2.heap.size, 2, none⟩ = some (.string t1)) ∧ (W.cell? ⟨w3.heap.size, 0, none⟩ = some (.bool g1) ∧ W.cell? ⟨w3.heap.size, 1, none⟩ = some (.string s1) ∧ W.cell? ⟨w3.heap.size, 2, none⟩ = some (.string t1)) ∧ (W.cell? ⟨w4.heap.size, 0, none⟩ = some (.bool g2) ∧ W.cell? ⟨w4.heap.size, 1, none⟩ = some (.string s2) ∧ W.cell? ⟨w4.heap.size, 2, none⟩ = some (.string t2)) ∧ (W.cell? ⟨w5.heap.size, 0, none⟩ = some (.bool g2) ∧ W.cell? ⟨w5.heap.size, 1, none⟩ = some (.string s2) ∧ W.cell? ⟨w5.heap.size, 2, none⟩ = some (.string t2)) ∧ (W.cell? ⟨w8.heap.size, 0, none⟩ = some (.bool g4) ∧ W.cell? ⟨w8.heap.size, 1, none⟩ = some (.string s4) ∧ W.cell? ⟨w8.heap.size, 2, none⟩ = some (.string t4)) ∧ (W.cell? ⟨w9.heap.size, 0, none⟩ = some (.bool g4) ∧ W.cell? ⟨w9.heap.size, 1, none⟩ = some (.string s4) ∧ W.cell? ⟨w9.heap.size, 2, none⟩ = some (.string t4))) := fun W h => ⟨VL.cells3 h.vl (by simp), VL.cells3 h.vl (by simp), VL.cells3 h.vl (by simp), VL.cells3 h.vl (by simp), VL.cells3 h.vl (by simp), VL.cells3 h.vl (by simp), VL.cells3 h.vl (by simp), VL.cells3 h.vl (by simp)⟩
  go_cut [155] (fun z155 wx => z155 = .bool false ∧ VS w NA wx [(w9.heap.size, g4, s4, t4), (w8.heap.size, g4, s4, t4), (w5.heap.size, g2, s2, t2), (w4.heap.size, g2, s2, t2), (w3.heap.size, g1, s1, t1), (w2.heap.size, g1, s1, t1), (w.heap.size + 1, gb, sb, tb), (w.heap.size, ga, sa, ta)])
  case first =>
    have hd := hsA.drew
    go_region_held3 (fun w' => (w'.cell? ⟨w.heap.size, 0, none⟩ = some (.bool ga) ∧ w'.cell? ⟨w.heap.size, 1, none⟩ = some (.string sa) ∧ w'.cell? ⟨w.heap.size, 2, none⟩ = some (.string ta)) ∧ (w'.cell? ⟨w.heap.size + 1, 0, none⟩ = some (.bool gb) ∧ w'.cell? ⟨w.heap.size + 1, 1, none⟩ = some (.string sb) ∧ w'.cell? ⟨w.heap.size + 1, 2, none⟩ = some (.string tb)) ∧ (w'.cell? ⟨w2.heap.size, 0, none⟩ = some (.bool g1) ∧ w'.cell? ⟨w2.heap.size, 1, none⟩ = some (.string s1) ∧ w'.cell? ⟨w2.heap.size, 2, none⟩ = some (.string t1)) ∧ (w'.cell? ⟨w3.heap.size, 0, none⟩ = some (.bool g1) ∧ w'.cell? ⟨w3.heap.size, 1, none⟩ = some (.string s1) ∧ w'.cell? ⟨w3.heap.size, 2, none⟩ = some (.string t1)) ∧ (w'.cell? ⟨w4.heap.size, 0, none⟩ = some (.bool g2) ∧ w'.cell? ⟨w4.heap.size, 1, none⟩ = some (.string s2) ∧ w'.cell? ⟨w4.heap.size, 2, none⟩ = some (.string t2)) ∧ (w'.cell? ⟨w5.heap.size, 0, none⟩ = some (.bool g2) ∧ w'.cell? ⟨w5.heap.size, 1, none⟩ = some (.string s2) ∧ w'.cell? ⟨w5.heap.size, 2, none⟩ = some (.string t2)) ∧ (w'.cell? ⟨w8.heap.size, 0, none⟩ = some (.bool g4) ∧ w'.cell? ⟨w8.heap.size, 1, none⟩ = some (.string s4) ∧ w'.cell? ⟨w8.heap.size, 2, none⟩ = some (.string t4)) ∧ (w'.cell? ⟨w9.heap.size, 0, none⟩ = some (.bool g4) ∧ w'.cell? ⟨w9.heap.size, 1, none⟩ = some (.string s4) ∧ w'.cell? ⟨w9.heap.size, 2, none⟩ = some (.string t4)))
      (first | exact HSA.out _ (by assumption) | exact HSA.out _ (VS.alloc (by assumption) _) | exact HSA.out _ (VS.setZ (by assumption) (by assumption) _ _ _))
      ((first
        | (go_at_call 21; (with_reducible refine (Hhv.out _ (VS.law (by first | assumption | exact VS.alloc (by assumption) _) HW.out)).mono ?_); rintro e wa ⟨rfl, hb⟩; have hd := VS.below (w := w) (N := NA) (L := [(w9.heap.size, g4, s4, t4), (w8.heap.size, g4, s4, t4), (w5.heap.size, g2, s2, t2), (w4.heap.size, g2, s2, t2), (w3.heap.size, g1, s1, t1), (w2.heap.size, g1, s1, t1), (w.heap.size + 1, gb, sb, tb), (w.heap.size, ga, sa, ta)]) (by first | assumption | exact VS.alloc (by assumption) _) hb; clear hb)
        | (go_at_call 22; (with_reducible refine (Hhv'.out _ (VS.law (by first | assumption | exact VS.alloc (by assumption) _) HW.out)).mono ?_); rintro e wa ⟨rfl, hb⟩; have hd := VS.below (w := w) (N := NA) (L := [(w9.heap.size, g4, s4, t4), (w8.heap.size, g4, s4, t4), (w5.heap.size, g2, s2, t2), (w4.heap.size, g2, s2, t2), (w3.heap.size, g1, s1, t1), (w2.heap.size, g1, s1, t1), (w.heap.size + 1, gb, sb, tb), (w.heap.size, ga, sa, ta)]) (by first | assumption | exact VS.alloc (by assumption) _) hb; clear hb)
        | (go_at_call 23; (with_reducible refine (Hhc.out _ (VS.law (by first | assumption | exact VS.alloc (by assumption) _) HW.out)).mono ?_); rintro e wa ⟨rfl, hb⟩; have hd := VS.below (w := w) (N := NA) (L := [(w9.heap.size, g4, s4, t4), (w8.heap.size, g4, s4, t4), (w5.heap.size, g2, s2, t2), (w4.heap.size, g2, s2, t2), (w3.heap.size, g1, s1, t1), (w2.heap.size, g1, s1, t1), (w.heap.size + 1, gb, sb, tb), (w.heap.size, ga, sa, ta)]) (by first | assumption | exact VS.alloc (by assumption) _) hb; clear hb)
        | (go_at_call 24; (with_reducible refine (Hhc'.out _ (VS.law (by first | assumption | exact VS.alloc (by assumption) _) HW.out)).mono ?_); rintro e wa ⟨rfl, hb⟩; have hd := VS.below (w := w) (N := NA) (L := [(w9.heap.size, g4, s4, t4), (w8.heap.size, g4, s4, t4), (w5.heap.size, g2, s2, t2), (w4.heap.size, g2, s2, t2), (w3.heap.size, g1, s1, t1), (w2.heap.size, g1, s1, t1), (w.heap.size + 1, gb, sb, tb), (w.heap.size, ga, sa, ta)]) (by first | assumption | exact VS.alloc (by assumption) _) hb; clear hb)
        ))
    all_goals
      go_wp2_with fail
      go_meet
      first
      | exact ⟨rfl, by assumption⟩
      | exact ⟨rfl, VS.alloc (by assumption) _⟩
  case rest =>
  obtain ⟨rfl, hscA⟩ := hcut
  have HBcA := hide hscA.bel
  have HVcA := hide hscA.vl
  clear hsA hscA HSA
  obtain ⟨wqA, rfl⟩ : ∃ x, x = wc := ⟨_, rfl⟩
  obtain ⟨c15, c16, c17⟩ := VL.cells3 (b := w.heap.size) (g := ga) (s := sa) (t := ta) HVcA.out (by simp)
  obtain ⟨c18, c19, c20⟩ := VL.cells3 (b := w.heap.size + 1) (g := gb) (s := sb) (t := tb) HVcA.out (by simp)
  go_wp2_with fail
  clear c15 c16 c17 c18 c19 c20
  refine (Hh5.out _ (HW.out.below HBcA.out)).mono ?_
  rintro e w10 ⟨rfl, hb⟩
  have HB10 := hide (bStep HBcA.out hb)
  have HV10 := hide (HVcA.out.below hb)
  clear hb HBcA HVcA
  obtain ⟨c21, c22, c23, c24, c25, c26⟩ := VL.get (b := w2.heap.size) (g := g1) (s := s1) (t := t1) HV10.out (by simp)
  have HV10_ : Hid (VL (((w10.setCell ⟨w2.heap.size, 0, none⟩ (.bool g5)).setCell ⟨w2.heap.size, 1, none⟩ (.string s5)).setCell ⟨w2.heap.size, 2, none⟩ (.string t5)) [(w9.heap.size, g4, s4, t4), (w8.heap.size, g4, s4, t4), (w5.heap.size, g2, s2, t2), (w4.heap.size, g2, s2, t2), (w3.heap.size, g1, s1, t1), (w2.heap.size, g5, s5, t5), (w.heap.size + 1, gb, sb, tb), (w.heap.size, ga, sa, ta)]) := VL.upd HV10.out HD8.out 5 (show 5 < 8 by decide) (g5, s5, t5)
  have HD9 : Hid (Ord [(w9.heap.size, g4, s4, t4), (w8.heap.size, g4, s4, t4), (w5.heap.size, g2, s2, t2), (w4.heap.size, g2, s2, t2), (w3.heap.size, g1, s1, t1), (w2.heap.size, g5, s5, t5), (w.heap.size + 1, gb, sb, tb), (w.heap.size, ga, sa, ta)]) := Ord.upd HD8.out 5 (show 5 < 8 by decide) (g5, s5, t5)
  have HB10_ : Hid (Below w.heap.size w (((w10.setCell ⟨w2.heap.size, 0, none⟩ (.bool g5)).setCell ⟨w2.heap.size, 1, none⟩ (.string s5)).setCell ⟨w2.heap.size, 2, none⟩ (.string t5))) := bset3 HB10.out lo3 _ _ _
  clear HV10 HB10 HD8
  obtain ⟨c30, c31, c32⟩ := VL.cells3 (b := w.heap.size) (g := ga) (s := sa) (t := ta) HV10_.out (by simp)
  obtain ⟨c33, c34, c35⟩ := VL.cells3 (b := w.heap.size + 1) (g := gb) (s := sb) (t := tb) HV10_.out (by simp)
  go_wp2_with fail
  clear c21 c22 c23 c24 c25 c26 c30 c31 c32 c33 c34 c35
  refine (Hh5'.out _ (HW.out.below HB10_.out)).mono ?_
  rintro e w11 ⟨rfl, hb⟩
  have HB11 := hide (bStep HB10_.out hb)
  have HV11 := hide (HV10_.out.below hb)
  clear hb HB10_ HV10_
  obtain ⟨c36, c37, c38, c39, c40, c41⟩ := VL.get (b := w3.heap.size) (g := g1) (s := s1) (t := t1) HV11.out (by simp)
  have HV11_ : Hid (VL (((w11.setCell ⟨w3.heap.size, 0, none⟩ (.bool g5)).setCell ⟨w3.heap.size, 1, none⟩ (.string s5)).setCell ⟨w3.heap.size, 2, none⟩ (.string t5)) [(w9.heap.size, g4, s4, t4), (w8.heap.size, g4, s4, t4), (w5.heap.size, g2, s2, t2), (w4.heap.size, g2, s2, t2), (w3.heap.size, g5, s5, t5), (w2.heap.size, g5, s5, t5), (w.heap.size + 1, gb, sb, tb), (w.heap.size, ga, sa, ta)]) := VL.upd HV11.out HD9.out 4 (show 4 < 8 by decide) (g5, s5, t5)
  have HD10 : Hid (Ord [(w9.heap.size, g4, s4, t4), (w8.heap.size, g4, s4, t4), (w5.heap.size, g2, s2, t2), (w4.heap.size, g2, s2, t2), (w3.heap.size, g5, s5, t5), (w2.heap.size, g5, s5, t5), (w.heap.size + 1, gb, sb, tb), (w.heap.size, ga, sa, ta)]) := Ord.upd HD9.out 4 (show 4 < 8 by decide) (g5, s5, t5)
  have HB11_ : Hid (Below w.heap.size w (((w11.setCell ⟨w3.heap.size, 0, none⟩ (.bool g5)).setCell ⟨w3.heap.size, 1, none⟩ (.string s5)).setCell ⟨w3.heap.size, 2, none⟩ (.string t5))) := bset3 HB11.out lo4 _ _ _
  clear HV11 HB11 HD9
  obtain ⟨c45, c46, c47⟩ := VL.cells3 (b := w.heap.size) (g := ga) (s := sa) (t := ta) HV11_.out (by simp)
  obtain ⟨c48, c49, c50⟩ := VL.cells3 (b := w.heap.size + 1) (g := gb) (s := sb) (t := tb) HV11_.out (by simp)
  go_wp2_with fail
  clear c36 c37 c38 c39 c40 c41 c45 c46 c47 c48 c49 c50
  refine (Hh6.out _ (HW.out.below HB11_.out)).mono ?_
  rintro e w12 ⟨rfl, hb⟩
  have HB12 := hide (bStep HB11_.out hb)
  have HV12 := hide (HV11_.out.below hb)
  clear hb HB11_ HV11_
  obtain ⟨c51, c52, c53, c54, c55, c56⟩ := VL.get (b := w4.heap.size) (g := g2) (s := s2) (t := t2) HV12.out (by simp)
  have HV12_ : Hid (VL (((w12.setCell ⟨w4.heap.size, 0, none⟩ (.bool g6)).setCell ⟨w4.heap.size, 1, none⟩ (.string s6)).setCell ⟨w4.heap.size, 2, none⟩ (.string t6)) [(w9.heap.size, g4, s4, t4), (w8.heap.size, g4, s4, t4), (w5.heap.size, g2, s2, t2), (w4.heap.size, g6, s6, t6), (w3.heap.size, g5, s5, t5), (w2.heap.size, g5, s5, t5), (w.heap.size + 1, gb, sb, tb), (w.heap.size, ga, sa, ta)]) := VL.upd HV12.out HD10.out 3 (show 3 < 8 by decide) (g6, s6, t6)
  have HD11 : Hid (Ord [(w9.heap.size, g4, s4, t4), (w8.heap.size, g4, s4, t4), (w5.heap.size, g2, s2, t2), (w4.heap.size, g6, s6, t6), (w3.heap.size, g5, s5, t5), (w2.heap.size, g5, s5, t5), (w.heap.size + 1, gb, sb, tb), (w.heap.size, ga, sa, ta)]) := Ord.upd HD10.out 3 (show 3 < 8 by decide) (g6, s6, t6)
  have HB12_ : Hid (Below w.heap.size w (((w12.setCell ⟨w4.heap.size, 0, none⟩ (.bool g6)).setCell ⟨w4.heap.size, 1, none⟩ (.string s6)).setCell ⟨w4.heap.size, 2, none⟩ (.string t6))) := bset3 HB12.out lo5 _ _ _
  clear HV12 HB12 HD10
  obtain ⟨c60, c61, c62⟩ := VL.cells3 (b := w.heap.size) (g := ga) (s := sa) (t := ta) HV12_.out (by simp)
  obtain ⟨c63, c64, c65⟩ := VL.cells3 (b := w.heap.size + 1) (g := gb) (s := sb) (t := tb) HV12_.out (by simp)
  go_wp2_with fail
  clear c51 c52 c53 c54 c55 c56 c60 c61 c62 c63 c64 c65
  refine (Hh6'.out _ (HW.out.below HB12_.out)).mono ?_
  rintro e w13 ⟨rfl, hb⟩
  have HB13 := hide (bStep HB12_.out hb)
  have HV13 := hide (HV12_.out.below hb)
  clear hb HB12_ HV12_
  obtain ⟨c66, c67, c68, c69, c70, c71⟩ := VL.get (b := w5.heap.size) (g := g2) (s := s2) (t := t2) HV13.out (by simp)
  have HV13_ : Hid (VL (((w13.setCell ⟨w5.heap.size, 0, none⟩ (.bool g6)).setCell ⟨w5.heap.size, 1, none⟩ (.string s6)).setCell ⟨w5.heap.size, 2, none⟩ (.string t6)) [(w9.heap.size, g4, s4, t4), (w8.heap.size, g4, s4, t4), (w5.heap.size, g6, s6, t6), (w4.heap.size, g6, s6, t6), (w3.heap.size, g5, s5, t5), (w2.heap.size, g5, s5, t5), (w.heap.size + 1, gb, sb, tb), (w.heap.size, ga, sa, ta)]) := VL.upd HV13.out HD11.out 2 (show 2 < 8 by decide) (g6, s6, t6)
  have HD12 : Hid (Ord [(w9.heap.size, g4, s4, t4), (w8.heap.size, g4, s4, t4), (w5.heap.size, g6, s6, t6), (w4.heap.size, g6, s6, t6), (w3.heap.size, g5, s5, t5), (w2.heap.size, g5, s5, t5), (w.heap.size + 1, gb, sb, tb), (w.heap.size, ga, sa, ta)]) := Ord.upd HD11.out 2 (show 2 < 8 by decide) (g6, s6, t6)
  have HB13_ : Hid (Below w.heap.size w (((w13.setCell ⟨w5.heap.size, 0, none⟩ (.bool g6)).setCell ⟨w5.heap.size, 1, none⟩ (.string s6)).setCell ⟨w5.heap.size, 2, none⟩ (.string t6))) := bset3 HB13.out lo6 _ _ _
  clear HV13 HB13 HD11
  obtain ⟨c75, c76, c77⟩ := VL.cells3 (b := w2.heap.size) (g := g5) (s := s5) (t := t5) HV13_.out (by simp)
  obtain ⟨c78, c79, c80⟩ := VL.cells3 (b := w3.heap.size) (g := g5) (s := s5) (t := t5) HV13_.out (by simp)
  obtain ⟨c81, c82, c83⟩ := VL.cells3 (b := w4.heap.size) (g := g6) (s := s6) (t := t6) HV13_.out (by simp)
  obtain ⟨c84, c85, c86⟩ := VL.cells3 (b := w5.heap.size) (g := g6) (s := s6) (t := t6) HV13_.out (by simp)
  obtain ⟨c87, c88, c89⟩ := VL.cells3 (b := w.heap.size) (g := ga) (s := sa) (t := ta) HV13_.out (by simp)
  obtain ⟨c90, c91, c92⟩ := VL.cells3 (b := w.heap.size + 1) (g := gb) (s := sb) (t := tb) HV13_.out (by simp)
  go_wp2_with fail
  clear c66 c67 c68 c69 c70 c71 c75 c76 c77 c78 c79 c80 c81 c82 c83 c84 c85 c86 c87 c88 c89 c90 c91 c92
  refine (Hh7.out _ (HW.out.below HB13_.out)).mono ?_
  rintro e w14 ⟨rfl, hb⟩
  have HB14 := hide (bStep HB13_.out hb)
  have HV14 := hide (HV13_.out.below hb)
  clear hb HB13_ HV13_
  obtain ⟨c93, c94, c95, c96, c97, c98⟩ := VL.get (b := w2.heap.size) (g := g5) (s := s5) (t := t5) HV14.out (by simp)
  have HV14_ : Hid (VL (((w14.setCell ⟨w2.heap.size, 0, none⟩ (.bool g7)).setCell ⟨w2.heap.size, 1, none⟩ (.string s7)).setCell ⟨w2.heap.size, 2, none⟩ (.string t7)) [(w9.heap.size, g4, s4, t4), (w8.heap.size, g4, s4, t4), (w5.heap.size, g6, s6, t6), (w4.heap.size, g6, s6, t6), (w3.heap.size, g5, s5, t5), (w2.heap.size, g7, s7, t7), (w.heap.size + 1, gb, sb, tb), (w.heap.size, ga, sa, ta)]) := VL.upd HV14.out HD12.out 5 (show 5 < 8 by decide) (g7, s7, t7)
  have HD13 : Hid (Ord [(w9.heap.size, g4, s4, t4), (w8.heap.size, g4, s4, t4), (w5.heap.size, g6, s6, t6), (w4.heap.size, g6, s6, t6), (w3.heap.size, g5, s5, t5), (w2.heap.size, g7, s7, t7), (w.heap.size + 1, gb, sb, tb), (w.heap.size, ga, sa, ta)]) := Ord.upd HD12.out 5 (show 5 < 8 by decide) (g7, s7, t7)
  have HB14_ : Hid (Below w.heap.size w (((w14.setCell ⟨w2.heap.size, 0, none⟩ (.bool g7)).setCell ⟨w2.heap.size, 1, none⟩ (.string s7)).setCell ⟨w2.heap.size, 2, none⟩ (.string t7))) := bset3 HB14.out lo3 _ _ _
  clear HV14 HB14 HD12
  obtain ⟨c102, c103, c104⟩ := VL.cells3 (b := w.heap.size) (g := ga) (s := sa) (t := ta) HV14_.out (by simp)
  obtain ⟨c105, c106, c107⟩ := VL.cells3 (b := w.heap.size + 1) (g := gb) (s := sb) (t := tb) HV14_.out (by simp)
  go_wp2_with fail
  clear c93 c94 c95 c96 c97 c98 c102 c103 c104 c105 c106 c107
  refine (Hh7'.out _ (HW.out.below HB14_.out)).mono ?_
  rintro e w15 ⟨rfl, hb⟩
  have HB15 := hide (bStep HB14_.out hb)
  have HV15 := hide (HV14_.out.below hb)
  clear hb HB14_ HV14_
  obtain ⟨c108, c109, c110, c111, c112, c113⟩ := VL.get (b := w3.heap.size) (g := g5) (s := s5) (t := t5) HV15.out (by simp)
  have HV15_ : Hid (VL (((w15.setCell ⟨w3.heap.size, 0, none⟩ (.bool g7)).setCell ⟨w3.heap.size, 1, none⟩ (.string s7)).setCell ⟨w3.heap.size, 2, none⟩ (.string t7)) [(w9.heap.size, g4, s4, t4), (w8.heap.size, g4, s4, t4), (w5.heap.size, g6, s6, t6), (w4.heap.size, g6, s6, t6), (w3.heap.size, g7, s7, t7), (w2.heap.size, g7, s7, t7), (w.heap.size + 1, gb, sb, tb), (w.heap.size, ga, sa, ta)]) := VL.upd HV15.out HD13.out 4 (show 4 < 8 by decide) (g7, s7, t7)
  have HD14 : Hid (Ord [(w9.heap.size, g4, s4, t4), (w8.heap.size, g4, s4, t4), (w5.heap.size, g6, s6, t6), (w4.heap.size, g6, s6, t6), (w3.heap.size, g7, s7, t7), (w2.heap.size, g7, s7, t7), (w.heap.size + 1, gb, sb, tb), (w.heap.size, ga, sa, ta)]) := Ord.upd HD13.out 4 (show 4 < 8 by decide) (g7, s7, t7)
  have HB15_ : Hid (Below w.heap.size w (((w15.setCell ⟨w3.heap.size, 0, none⟩ (.bool g7)).setCell ⟨w3.heap.size, 1, none⟩ (.string s7)).setCell ⟨w3.heap.size, 2, none⟩ (.string t7))) := bset3 HB15.out lo4 _ _ _
  clear HV15 HB15 HD13
  obtain ⟨c117, c118, c119⟩ := VL.cells3 (b := w.heap.size) (g := ga) (s := sa) (t := ta) HV15_.out (by simp)
  obtain ⟨c120, c121, c122⟩ := VL.cells3 (b := w.heap.size + 1) (g := gb) (s := sb) (t := tb) HV15_.out (by simp)
  go_wp2_with fail
  clear c108 c109 c110 c111 c112 c113 c117 c118 c119 c120 c121 c122
  refine (Hh8.out _ (HW.out.below HB15_.out)).mono ?_
  rintro e w16 ⟨rfl, hb⟩
  have HB16 := hide (bStep HB15_.out hb)
  have HV16 := hide (HV15_.out.below hb)
  clear hb HB15_ HV15_
  obtain ⟨c123, c124, c125, c126, c127, c128⟩ := VL.get (b := w4.heap.size) (g := g6) (s := s6) (t := t6) HV16.out (by simp)
  have HV16_ : Hid (VL (((w16.setCell ⟨w4.heap.size, 0, none⟩ (.bool g8)).setCell ⟨w4.heap.size, 1, none⟩ (.string s8)).setCell ⟨w4.heap.size, 2, none⟩ (.string t8)) [(w9.heap.size, g4, s4, t4), (w8.heap.size, g4, s4, t4), (w5.heap.size, g6, s6, t6), (w4.heap.size, g8, s8, t8), (w3.heap.size, g7, s7, t7), (w2.heap.size, g7, s7, t7), (w.heap.size + 1, gb, sb, tb), (w.heap.size, ga, sa, ta)]) := VL.upd HV16.out HD14.out 3 (show 3 < 8 by decide) (g8, s8, t8)
  have HD15 : Hid (Ord [(w9.heap.size, g4, s4, t4), (w8.heap.size, g4, s4, t4), (w5.heap.size, g6, s6, t6), (w4.heap.size, g8, s8, t8), (w3.heap.size, g7, s7, t7), (w2.heap.size, g7, s7, t7), (w.heap.size + 1, gb, sb, tb), (w.heap.size, ga, sa, ta)]) := Ord.upd HD14.out 3 (show 3 < 8 by decide) (g8, s8, t8)
  have HB16_ : Hid (Below w.heap.size w (((w16.setCell ⟨w4.heap.size, 0, none⟩ (.bool g8)).setCell ⟨w4.heap.size, 1, none⟩ (.string s8)).setCell ⟨w4.heap.size, 2, none⟩ (.string t8))) := bset3 HB16.out lo5 _ _ _
  clear HV16 HB16 HD14
  obtain ⟨c132, c133, c134⟩ := VL.cells3 (b := w.heap.size) (g := ga) (s := sa) (t := ta) HV16_.out (by simp)
  obtain ⟨c135, c136, c137⟩ := VL.cells3 (b := w.heap.size + 1) (g := gb) (s := sb) (t := tb) HV16_.out (by simp)
  go_wp2_with fail
  clear c123 c124 c125 c126 c127 c128 c132 c133 c134 c135 c136 c137
  refine (Hh8'.out _ (HW.out.below HB16_.out)).mono ?_
  rintro e w17 ⟨rfl, hb⟩
  have HB17 := hide (bStep HB16_.out hb)
  have HV17 := hide (HV16_.out.below hb)
  clear hb HB16_ HV16_
  obtain ⟨c138, c139, c140, c141, c142, c143⟩ := VL.get (b := w5.heap.size) (g := g6) (s := s6) (t := t6) HV17.out (by simp)
  have HV17_ : Hid (VL (((w17.setCell ⟨w5.heap.size, 0, none⟩ (.bool g8)).setCell ⟨w5.heap.size, 1, none⟩ (.string s8)).setCell ⟨w5.heap.size, 2, none⟩ (.string t8)) [(w9.heap.size, g4, s4, t4), (w8.heap.size, g4, s4, t4), (w5.heap.size, g8, s8, t8), (w4.heap.size, g8, s8, t8), (w3.heap.size, g7, s7, t7), (w2.heap.size, g7, s7, t7), (w.heap.size + 1, gb, sb, tb), (w.heap.size, ga, sa, ta)]) := VL.upd HV17.out HD15.out 2 (show 2 < 8 by decide) (g8, s8, t8)
  have HD16 : Hid (Ord [(w9.heap.size, g4, s4, t4), (w8.heap.size, g4, s4, t4), (w5.heap.size, g8, s8, t8), (w4.heap.size, g8, s8, t8), (w3.heap.size, g7, s7, t7), (w2.heap.size, g7, s7, t7), (w.heap.size + 1, gb, sb, tb), (w.heap.size, ga, sa, ta)]) := Ord.upd HD15.out 2 (show 2 < 8 by decide) (g8, s8, t8)
  have HB17_ : Hid (Below w.heap.size w (((w17.setCell ⟨w5.heap.size, 0, none⟩ (.bool g8)).setCell ⟨w5.heap.size, 1, none⟩ (.string s8)).setCell ⟨w5.heap.size, 2, none⟩ (.string t8))) := bset3 HB17.out lo6 _ _ _
  clear HV17 HB17 HD15
  obtain ⟨c147, c148, c149⟩ := VL.cells3 (b := w2.heap.size) (g := g7) (s := s7) (t := t7) HV17_.out (by simp)
  obtain ⟨c150, c151, c152⟩ := VL.cells3 (b := w3.heap.size) (g := g7) (s := s7) (t := t7) HV17_.out (by simp)
  obtain ⟨c153, c154, c155⟩ := VL.cells3 (b := w4.heap.size) (g := g8) (s := s8) (t := t8) HV17_.out (by simp)
  obtain ⟨c156, c157, c158⟩ := VL.cells3 (b := w5.heap.size) (g := g8) (s := s8) (t := t8) HV17_.out (by simp)
  go_wp2_with fail
  clear c138 c139 c140 c141 c142 c143 c147 c148 c149 c150 c151 c152 c153 c154 c155 c156 c157 c158
  go_ret
  exact ⟨rfl, HB17_.out⟩
theorem rationalMatches_walk (ga : Bool) (sa ta : ByteArray) (gb : Bool) (sb tb : ByteArray) (n d : Int) (g0 : Bool) (sn sd x : ByteArray) (w : World) (hn : inI64 n) (hd : inI64 d) (hw : LawW w) :
    Calls Tryz.prog 3 #[.agg #[.bool ga, .string sa, .string ta], .agg #[.bool gb, .string sb, .string tb], .int .i64 n, .int .i64 d, .bool g0, .string sn, .string sd, .string x] w fun e w' => e = .returned (.bool true) ∧ Below w.heap.size w w' := by
  rcases Bool.eq_false_or_eq_true (fewQ 40 [(ga, sa, ta), (gb, sb, tb)]) with hf | hf
  · by_cases h1 : sn.size ≤ 40
    · by_cases h2 : sd.size ≤ 40
      · by_cases h3 : x.size ≤ 90
        · exact match_ok ga sa ta gb sb tb n d g0 sn sd x w hf h1 h2 h3 hn hd hw
        · exact match_bad3 ga sa ta gb sb tb n d g0 sn sd x w hf h1 h2 (by omega) hw
      · exact match_bad2 ga sa ta gb sb tb n d g0 sn sd x w hf h1 (by omega) hw
    · exact match_bad1 ga sa ta gb sb tb n d g0 sn sd x w hf (by omega) hw
  · exact match_bad0 ga sa ta gb sb tb n d g0 sn sd x w hf hw
end Go.Proofs.YtncocgfgbocnkaaGreatDoor
