/- observatoryref05: Valid, Contains, Add, Meet by letters. -/
import Derived.Test.YtbojlmnajndleaaGreatDoorIvW
import Derived.Test.YtbojlmnajndleaaGreatDoorRgV
import Derived.BigGuard
set_option linter.unusedVariables false
set_option linter.unusedSimpArgs false
namespace Go.Proofs.YtbojlmnajndleaaGreatDoor
open Go.RowKit Go.Sort

def YV (g : Bool) (s t : ByteArray) (b : Bool) : Prop := ∀ W, LawW W → Calls Tryz.prog 38 #[.agg #[.bool g, .string s, .string t]] W fun e w' => e = .returned (.bool b) ∧ Below W.heap.size W w'
def YC (g : Bool) (s t : ByteArray) (g' : Bool) (s' t' : ByteArray) (z : Int) : Prop := ∀ W, LawW W → Calls Tryz.prog 32 #[.agg #[.bool g, .string s, .string t], .agg #[.bool g', .string s', .string t']] W fun e w' => e = .returned (.int .i64 z) ∧ Below W.heap.size W w'
def JV (g : Bool) (s t : ByteArray) (h : Bool) (u v : ByteArray) (b : Bool) : Prop := ∀ W, LawW W → Calls Tryz.prog 20 #[.agg #[.bool g, .string s, .string t, .bool h, .string u, .string v]] W fun e w' => e = .returned (.bool b) ∧ Below W.heap.size W w'

set_option maxHeartbeats 4000000 in
set_option maxRecDepth 100000 in
theorem rv_valid1 (ga : Bool) (sa ta : ByteArray) (gb : Bool) (sb tb : ByteArray) (w : World) (h1 : YV ga sa ta false) (hw : LawW w) :
    Calls Tryz.prog 20 #[.agg #[.bool ga, .string sa, .string ta, .bool gb, .string sb, .string tb]] w fun e w' => e = .returned (.bool false) ∧ Below w.heap.size w w' := by
  unfold YV at h1
  have Hh1 := hide h1
  have HW := hide hw
  have HV0 : Hid (VB w w []) := VB.nil w
  clear h1 hw 
  go_enter Tryz.func20, Tryz.ntmps20
  have HV0_ := hide (HV0.out.push6 (b := w.heap.size) (by simp) (.bool ga) (.string sa) (.string ta) (.bool gb) (.string sb) (.string tb) 26)
  clear HV0
  obtain ⟨c1, c2, c3, c4, c5, c6⟩ := HV0_.out.at6 0 rfl
  go_wp2_with fail
  clear c1 c2 c3 c4 c5 c6
  refine (Hh1.out _ (HV0_.out.law HW.out)).mono ?_
  rintro e w1 ⟨rfl, hb⟩
  have HV1 := hide (HV0_.out.below hb)
  clear hb HV0_
  go_wp2_with fail
  go_ret
  exact ⟨rfl, HV1.out.bel⟩
set_option maxHeartbeats 4000000 in
set_option maxRecDepth 100000 in
theorem rv_valid2 (ga : Bool) (sa ta : ByteArray) (gb : Bool) (sb tb : ByteArray) (w : World) (h1 : YV ga sa ta true) (h2 : YV gb sb tb false) (hw : LawW w) :
    Calls Tryz.prog 20 #[.agg #[.bool ga, .string sa, .string ta, .bool gb, .string sb, .string tb]] w fun e w' => e = .returned (.bool false) ∧ Below w.heap.size w w' := by
  unfold YV at h1
  have Hh1 := hide h1
  unfold YV at h2
  have Hh2 := hide h2
  have HW := hide hw
  have HV0 : Hid (VB w w []) := VB.nil w
  clear h1 h2 hw 
  go_enter Tryz.func20, Tryz.ntmps20
  have HV0_ := hide (HV0.out.push6 (b := w.heap.size) (by simp) (.bool ga) (.string sa) (.string ta) (.bool gb) (.string sb) (.string tb) 26)
  clear HV0
  obtain ⟨c1, c2, c3, c4, c5, c6⟩ := HV0_.out.at6 0 rfl
  go_wp2_with fail
  clear c1 c2 c3 c4 c5 c6
  refine (Hh1.out _ (HV0_.out.law HW.out)).mono ?_
  rintro e w1 ⟨rfl, hb⟩
  have HV1 := hide (HV0_.out.below hb)
  clear hb HV0_
  obtain ⟨c7, c8, c9, c10, c11, c12⟩ := HV1.out.at6 0 rfl
  go_wp2_with fail
  clear c7 c8 c9 c10 c11 c12
  refine (Hh2.out _ (HV1.out.law HW.out)).mono ?_
  rintro e w2 ⟨rfl, hb⟩
  have HV2 := hide (HV1.out.below hb)
  clear hb HV1
  go_wp2_with fail
  go_ret
  exact ⟨rfl, HV2.out.bel⟩
set_option maxHeartbeats 4000000 in
set_option maxRecDepth 100000 in
theorem rv_valid3 (ga : Bool) (sa ta : ByteArray) (gb : Bool) (sb tb : ByteArray) (z : Int) (w : World) (h1 : YV ga sa ta true) (h2 : YV gb sb tb true) (h3 : YC ga sa ta gb sb tb z) (hw : LawW w) :
    Calls Tryz.prog 20 #[.agg #[.bool ga, .string sa, .string ta, .bool gb, .string sb, .string tb]] w fun e w' => e = .returned (.bool (decide (z ≤ 0))) ∧ Below w.heap.size w w' := by
  unfold YV at h1
  have Hh1 := hide h1
  unfold YV at h2
  have Hh2 := hide h2
  unfold YC at h3
  have Hh3 := hide h3
  have HW := hide hw
  have HV0 : Hid (VB w w []) := VB.nil w
  clear h1 h2 h3 hw 
  go_enter Tryz.func20, Tryz.ntmps20
  have HV0_ := hide (HV0.out.push6 (b := w.heap.size) (by simp) (.bool ga) (.string sa) (.string ta) (.bool gb) (.string sb) (.string tb) 26)
  clear HV0
  obtain ⟨c1, c2, c3, c4, c5, c6⟩ := HV0_.out.at6 0 rfl
  go_wp2_with fail
  clear c1 c2 c3 c4 c5 c6
  refine (Hh1.out _ (HV0_.out.law HW.out)).mono ?_
  rintro e w1 ⟨rfl, hb⟩
  have HV1 := hide (HV0_.out.below hb)
  clear hb HV0_
  obtain ⟨c7, c8, c9, c10, c11, c12⟩ := HV1.out.at6 0 rfl
  go_wp2_with fail
  clear c7 c8 c9 c10 c11 c12
  refine (Hh2.out _ (HV1.out.law HW.out)).mono ?_
  rintro e w2 ⟨rfl, hb⟩
  have HV2 := hide (HV1.out.below hb)
  clear hb HV1
  obtain ⟨c13, c14, c15, c16, c17, c18⟩ := HV2.out.at6 0 rfl
  go_wp2_with fail
  clear c13 c14 c15 c16 c17 c18
  refine (Hh3.out _ (HV2.out.law HW.out)).mono ?_
  rintro e w3 ⟨rfl, hb⟩
  have HV3 := hide (HV2.out.below hb)
  clear hb HV2
  go_wp2_with fail
  go_ret
  exact ⟨rfl, HV3.out.bel⟩
set_option maxHeartbeats 4000000 in
set_option maxRecDepth 100000 in
theorem rv_contains1 (ga : Bool) (sa ta : ByteArray) (gb : Bool) (sb tb : ByteArray) (gr : Bool) (sr tr : ByteArray) (w : World) (h1 : JV ga sa ta gb sb tb false) (hw : LawW w) :
    Calls Tryz.prog 22 #[.agg #[.bool ga, .string sa, .string ta, .bool gb, .string sb, .string tb], .agg #[.bool gr, .string sr, .string tr]] w fun e w' => e = .returned (.bool false) ∧ Below w.heap.size w w' := by
  unfold JV at h1
  have Hh1 := hide h1
  have HW := hide hw
  have HV0 : Hid (VB w w []) := VB.nil w
  clear h1 hw 
  go_enter Tryz.func22, Tryz.ntmps22
  have HV0_ := hide (HV0.out.push6 (b := w.heap.size) (by simp) (.bool ga) (.string sa) (.string ta) (.bool gb) (.string sb) (.string tb) 26)
  clear HV0
  have HV0__ := hide (HV0_.out.push3 (b := w.heap.size + 1) (by simp) (.bool gr) (.string sr) (.string tr) 24)
  clear HV0_
  obtain ⟨c1, c2, c3, c4, c5, c6⟩ := HV0__.out.at6 1 rfl
  go_wp2_with fail
  clear c1 c2 c3 c4 c5 c6
  refine (Hh1.out _ (HV0__.out.law HW.out)).mono ?_
  rintro e w1 ⟨rfl, hb⟩
  have HV1 := hide (HV0__.out.below hb)
  clear hb HV0__
  go_wp2_with fail
  go_ret
  exact ⟨rfl, HV1.out.bel⟩
set_option maxHeartbeats 4000000 in
set_option maxRecDepth 100000 in
theorem rv_contains2 (ga : Bool) (sa ta : ByteArray) (gb : Bool) (sb tb : ByteArray) (gr : Bool) (sr tr : ByteArray) (w : World) (h1 : JV ga sa ta gb sb tb true) (h2 : YV gr sr tr false) (hw : LawW w) :
    Calls Tryz.prog 22 #[.agg #[.bool ga, .string sa, .string ta, .bool gb, .string sb, .string tb], .agg #[.bool gr, .string sr, .string tr]] w fun e w' => e = .returned (.bool false) ∧ Below w.heap.size w w' := by
  unfold JV at h1
  have Hh1 := hide h1
  unfold YV at h2
  have Hh2 := hide h2
  have HW := hide hw
  have HV0 : Hid (VB w w []) := VB.nil w
  clear h1 h2 hw 
  go_enter Tryz.func22, Tryz.ntmps22
  have HV0_ := hide (HV0.out.push6 (b := w.heap.size) (by simp) (.bool ga) (.string sa) (.string ta) (.bool gb) (.string sb) (.string tb) 26)
  clear HV0
  have HV0__ := hide (HV0_.out.push3 (b := w.heap.size + 1) (by simp) (.bool gr) (.string sr) (.string tr) 24)
  clear HV0_
  obtain ⟨c1, c2, c3, c4, c5, c6⟩ := HV0__.out.at6 1 rfl
  go_wp2_with fail
  clear c1 c2 c3 c4 c5 c6
  refine (Hh1.out _ (HV0__.out.law HW.out)).mono ?_
  rintro e w1 ⟨rfl, hb⟩
  have HV1 := hide (HV0__.out.below hb)
  clear hb HV0__
  obtain ⟨c7, c8, c9⟩ := HV1.out.at3 0 rfl
  go_wp2_with fail
  clear c7 c8 c9
  refine (Hh2.out _ (HV1.out.law HW.out)).mono ?_
  rintro e w2 ⟨rfl, hb⟩
  have HV2 := hide (HV1.out.below hb)
  clear hb HV1
  go_wp2_with fail
  go_ret
  exact ⟨rfl, HV2.out.bel⟩
set_option maxHeartbeats 4000000 in
set_option maxRecDepth 100000 in
theorem rv_contains3 (ga : Bool) (sa ta : ByteArray) (gb : Bool) (sb tb : ByteArray) (gr : Bool) (sr tr : ByteArray) (z : Int) (w : World) (h1 : JV ga sa ta gb sb tb true) (h2 : YV gr sr tr true) (h3 : YC ga sa ta gr sr tr z) (f1 : decide (z ≤ 0) = false) (hw : LawW w) :
    Calls Tryz.prog 22 #[.agg #[.bool ga, .string sa, .string ta, .bool gb, .string sb, .string tb], .agg #[.bool gr, .string sr, .string tr]] w fun e w' => e = .returned (.bool false) ∧ Below w.heap.size w w' := by
  unfold JV at h1
  have Hh1 := hide h1
  unfold YV at h2
  have Hh2 := hide h2
  unfold YC at h3
  have Hh3 := hide h3
  have HW := hide hw
  have HV0 : Hid (VB w w []) := VB.nil w
  clear h1 h2 h3 hw 
  go_enter Tryz.func22, Tryz.ntmps22
  have HV0_ := hide (HV0.out.push6 (b := w.heap.size) (by simp) (.bool ga) (.string sa) (.string ta) (.bool gb) (.string sb) (.string tb) 26)
  clear HV0
  have HV0__ := hide (HV0_.out.push3 (b := w.heap.size + 1) (by simp) (.bool gr) (.string sr) (.string tr) 24)
  clear HV0_
  obtain ⟨c1, c2, c3, c4, c5, c6⟩ := HV0__.out.at6 1 rfl
  go_wp2_with fail
  clear c1 c2 c3 c4 c5 c6
  refine (Hh1.out _ (HV0__.out.law HW.out)).mono ?_
  rintro e w1 ⟨rfl, hb⟩
  have HV1 := hide (HV0__.out.below hb)
  clear hb HV0__
  obtain ⟨c7, c8, c9⟩ := HV1.out.at3 0 rfl
  go_wp2_with fail
  clear c7 c8 c9
  refine (Hh2.out _ (HV1.out.law HW.out)).mono ?_
  rintro e w2 ⟨rfl, hb⟩
  have HV2 := hide (HV1.out.below hb)
  clear hb HV1
  obtain ⟨c10, c11, c12, c13, c14, c15⟩ := HV2.out.at6 1 rfl
  obtain ⟨c16, c17, c18⟩ := HV2.out.at3 0 rfl
  go_wp2_with fail
  clear c10 c11 c12 c13 c14 c15 c16 c17 c18
  refine (Hh3.out _ (HV2.out.law HW.out)).mono ?_
  rintro e w3 ⟨rfl, hb⟩
  have HV3 := hide (HV2.out.below hb)
  clear hb HV2
  go_wp2_with fail
  go_ret
  exact ⟨rfl, HV3.out.bel⟩
set_option maxHeartbeats 4000000 in
set_option maxRecDepth 100000 in
theorem rv_contains4 (ga : Bool) (sa ta : ByteArray) (gb : Bool) (sb tb : ByteArray) (gr : Bool) (sr tr : ByteArray) (z : Int) (y : Int) (w : World) (h1 : JV ga sa ta gb sb tb true) (h2 : YV gr sr tr true) (h3 : YC ga sa ta gr sr tr z) (f1 : decide (z ≤ 0) = true) (h4 : YC gr sr tr gb sb tb y) (hw : LawW w) :
    Calls Tryz.prog 22 #[.agg #[.bool ga, .string sa, .string ta, .bool gb, .string sb, .string tb], .agg #[.bool gr, .string sr, .string tr]] w fun e w' => e = .returned (.bool (decide (y ≤ 0))) ∧ Below w.heap.size w w' := by
  unfold JV at h1
  have Hh1 := hide h1
  unfold YV at h2
  have Hh2 := hide h2
  unfold YC at h3
  have Hh3 := hide h3
  unfold YC at h4
  have Hh4 := hide h4
  have HW := hide hw
  have HV0 : Hid (VB w w []) := VB.nil w
  clear h1 h2 h3 h4 hw 
  go_enter Tryz.func22, Tryz.ntmps22
  have HV0_ := hide (HV0.out.push6 (b := w.heap.size) (by simp) (.bool ga) (.string sa) (.string ta) (.bool gb) (.string sb) (.string tb) 26)
  clear HV0
  have HV0__ := hide (HV0_.out.push3 (b := w.heap.size + 1) (by simp) (.bool gr) (.string sr) (.string tr) 24)
  clear HV0_
  obtain ⟨c1, c2, c3, c4, c5, c6⟩ := HV0__.out.at6 1 rfl
  go_wp2_with fail
  clear c1 c2 c3 c4 c5 c6
  refine (Hh1.out _ (HV0__.out.law HW.out)).mono ?_
  rintro e w1 ⟨rfl, hb⟩
  have HV1 := hide (HV0__.out.below hb)
  clear hb HV0__
  obtain ⟨c7, c8, c9⟩ := HV1.out.at3 0 rfl
  go_wp2_with fail
  clear c7 c8 c9
  refine (Hh2.out _ (HV1.out.law HW.out)).mono ?_
  rintro e w2 ⟨rfl, hb⟩
  have HV2 := hide (HV1.out.below hb)
  clear hb HV1
  obtain ⟨c10, c11, c12, c13, c14, c15⟩ := HV2.out.at6 1 rfl
  obtain ⟨c16, c17, c18⟩ := HV2.out.at3 0 rfl
  go_wp2_with fail
  clear c10 c11 c12 c13 c14 c15 c16 c17 c18
  refine (Hh3.out _ (HV2.out.law HW.out)).mono ?_
  rintro e w3 ⟨rfl, hb⟩
  have HV3 := hide (HV2.out.below hb)
  clear hb HV2
  obtain ⟨c19, c20, c21, c22, c23, c24⟩ := HV3.out.at6 1 rfl
  obtain ⟨c25, c26, c27⟩ := HV3.out.at3 0 rfl
  go_wp2_with fail
  clear c19 c20 c21 c22 c23 c24 c25 c26 c27
  refine (Hh4.out _ (HV3.out.law HW.out)).mono ?_
  rintro e w4 ⟨rfl, hb⟩
  have HV4 := hide (HV3.out.below hb)
  clear hb HV3
  go_wp2_with fail
  go_ret
  exact ⟨rfl, HV4.out.bel⟩
set_option maxHeartbeats 4000000 in
set_option maxRecDepth 100000 in
theorem rv_add1 (ga : Bool) (sa ta : ByteArray) (gb : Bool) (sb tb : ByteArray) (gc : Bool) (sc tc : ByteArray) (gd : Bool) (sd td : ByteArray) (w : World) (h1 : JV ga sa ta gb sb tb false) (hw : LawW w) :
    Calls Tryz.prog 12 #[.agg #[.bool ga, .string sa, .string ta, .bool gb, .string sb, .string tb], .agg #[.bool gc, .string sc, .string tc, .bool gd, .string sd, .string td]] w fun e w' => e = .returned (.tuple #[.agg #[.bool false, .string ⟨#[]⟩, .string ⟨#[]⟩, .bool false, .string ⟨#[]⟩, .string ⟨#[]⟩], .int .i64 1]) ∧ Below w.heap.size w w' := by
  unfold JV at h1
  have Hh1 := hide h1
  have HW := hide hw
  have HV0 : Hid (VB w w []) := VB.nil w
  clear h1 hw 
  go_enter Tryz.func12, Tryz.ntmps12
  have HV0_ := hide (HV0.out.push6 (b := w.heap.size) (by simp) (.bool ga) (.string sa) (.string ta) (.bool gb) (.string sb) (.string tb) 26)
  clear HV0
  have HV0__ := hide (HV0_.out.push6 (b := w.heap.size + 1) (by simp) (.bool gc) (.string sc) (.string tc) (.bool gd) (.string sd) (.string td) 26)
  clear HV0_
  have HV0___ := hide (HV0__.out.push6 (b := w.heap.size + 2) (by simp) (.bool false) (.string ⟨#[]⟩) (.string ⟨#[]⟩) (.bool false) (.string ⟨#[]⟩) (.string ⟨#[]⟩) 26)
  clear HV0__
  obtain ⟨c1, c2, c3, c4, c5, c6⟩ := HV0___.out.at6 2 rfl
  go_wp2_with fail
  clear c1 c2 c3 c4 c5 c6
  refine (Hh1.out _ (HV0___.out.law HW.out)).mono ?_
  rintro e w1 ⟨rfl, hb⟩
  have HV1 := hide (HV0___.out.below hb)
  clear hb HV0___
  obtain ⟨c7, c8, c9, c10, c11, c12⟩ := HV1.out.at6 0 rfl
  obtain ⟨fc7, fc8, fc9, fc10, fc11, fc12⟩ := HV1.out.fz6 0 rfl
  have HV1_ := hide (HV1.out.put6 0 rfl (.bool false) (.string ⟨#[]⟩) (.string ⟨#[]⟩) (.bool false) (.string ⟨#[]⟩) (.string ⟨#[]⟩))
  clear HV1
  go_wp2_with fail
  clear c7 c8 c9 c10 c11 c12 fc7 fc8 fc9 fc10 fc11 fc12
  obtain ⟨d0, d1, d2, d3, d4, d5⟩ := HV1_.out.at6 0 rfl
  exact bodyPost_ret (v := .tuple #[.agg #[.bool false, .string ⟨#[]⟩, .string ⟨#[]⟩, .bool false, .string ⟨#[]⟩, .string ⟨#[]⟩], .int .i64 1]) (by simp [results, Tryz.results12, go_sem, d0, d1, d2, d3, d4, d5]) rfl ⟨rfl, HV1_.out.bel⟩
set_option maxHeartbeats 4000000 in
set_option maxRecDepth 100000 in
theorem rv_add2 (ga : Bool) (sa ta : ByteArray) (gb : Bool) (sb tb : ByteArray) (gc : Bool) (sc tc : ByteArray) (gd : Bool) (sd td : ByteArray) (w : World) (h1 : JV ga sa ta gb sb tb true) (h2 : JV gc sc tc gd sd td false) (hw : LawW w) :
    Calls Tryz.prog 12 #[.agg #[.bool ga, .string sa, .string ta, .bool gb, .string sb, .string tb], .agg #[.bool gc, .string sc, .string tc, .bool gd, .string sd, .string td]] w fun e w' => e = .returned (.tuple #[.agg #[.bool false, .string ⟨#[]⟩, .string ⟨#[]⟩, .bool false, .string ⟨#[]⟩, .string ⟨#[]⟩], .int .i64 1]) ∧ Below w.heap.size w w' := by
  unfold JV at h1
  have Hh1 := hide h1
  unfold JV at h2
  have Hh2 := hide h2
  have HW := hide hw
  have HV0 : Hid (VB w w []) := VB.nil w
  clear h1 h2 hw 
  go_enter Tryz.func12, Tryz.ntmps12
  have HV0_ := hide (HV0.out.push6 (b := w.heap.size) (by simp) (.bool ga) (.string sa) (.string ta) (.bool gb) (.string sb) (.string tb) 26)
  clear HV0
  have HV0__ := hide (HV0_.out.push6 (b := w.heap.size + 1) (by simp) (.bool gc) (.string sc) (.string tc) (.bool gd) (.string sd) (.string td) 26)
  clear HV0_
  have HV0___ := hide (HV0__.out.push6 (b := w.heap.size + 2) (by simp) (.bool false) (.string ⟨#[]⟩) (.string ⟨#[]⟩) (.bool false) (.string ⟨#[]⟩) (.string ⟨#[]⟩) 26)
  clear HV0__
  obtain ⟨c1, c2, c3, c4, c5, c6⟩ := HV0___.out.at6 2 rfl
  go_wp2_with fail
  clear c1 c2 c3 c4 c5 c6
  refine (Hh1.out _ (HV0___.out.law HW.out)).mono ?_
  rintro e w1 ⟨rfl, hb⟩
  have HV1 := hide (HV0___.out.below hb)
  clear hb HV0___
  obtain ⟨c7, c8, c9, c10, c11, c12⟩ := HV1.out.at6 1 rfl
  go_wp2_with fail
  clear c7 c8 c9 c10 c11 c12
  refine (Hh2.out _ (HV1.out.law HW.out)).mono ?_
  rintro e w2 ⟨rfl, hb⟩
  have HV2 := hide (HV1.out.below hb)
  clear hb HV1
  obtain ⟨c13, c14, c15, c16, c17, c18⟩ := HV2.out.at6 0 rfl
  obtain ⟨fc13, fc14, fc15, fc16, fc17, fc18⟩ := HV2.out.fz6 0 rfl
  have HV2_ := hide (HV2.out.put6 0 rfl (.bool false) (.string ⟨#[]⟩) (.string ⟨#[]⟩) (.bool false) (.string ⟨#[]⟩) (.string ⟨#[]⟩))
  clear HV2
  go_wp2_with fail
  clear c13 c14 c15 c16 c17 c18 fc13 fc14 fc15 fc16 fc17 fc18
  obtain ⟨d0, d1, d2, d3, d4, d5⟩ := HV2_.out.at6 0 rfl
  exact bodyPost_ret (v := .tuple #[.agg #[.bool false, .string ⟨#[]⟩, .string ⟨#[]⟩, .bool false, .string ⟨#[]⟩, .string ⟨#[]⟩], .int .i64 1]) (by simp [results, Tryz.results12, go_sem, d0, d1, d2, d3, d4, d5]) rfl ⟨rfl, HV2_.out.bel⟩
set_option maxHeartbeats 4000000 in
set_option maxRecDepth 100000 in
theorem rv_add3 (ga : Bool) (sa ta : ByteArray) (gb : Bool) (sb tb : ByteArray) (gc : Bool) (sc tc : ByteArray) (gd : Bool) (sd td : ByteArray) (gx : Bool) (sx tx : ByteArray) (gy : Bool) (sy ty : ByteArray) (w : World) (h1 : JV ga sa ta gb sb tb true) (h2 : JV gc sc tc gd sd td true) (h3 : XA 28 ga sa ta gc sc tc gx sx tx 0) (h4 : XA 28 gb sb tb gd sd td gy sy ty 0) (hw : LawW w) :
    Calls Tryz.prog 12 #[.agg #[.bool ga, .string sa, .string ta, .bool gb, .string sb, .string tb], .agg #[.bool gc, .string sc, .string tc, .bool gd, .string sd, .string td]] w fun e w' => e = .returned (.tuple #[.agg #[.bool gx, .string sx, .string tx, .bool gy, .string sy, .string ty], .int .i64 0]) ∧ Below w.heap.size w w' := by
  unfold JV at h1
  have Hh1 := hide h1
  unfold JV at h2
  have Hh2 := hide h2
  unfold XA at h3
  have Hh3 := hide h3
  unfold XA at h4
  have Hh4 := hide h4
  have HW := hide hw
  have HV0 : Hid (VB w w []) := VB.nil w
  clear h1 h2 h3 h4 hw 
  go_enter Tryz.func12, Tryz.ntmps12
  have HV0_ := hide (HV0.out.push6 (b := w.heap.size) (by simp) (.bool ga) (.string sa) (.string ta) (.bool gb) (.string sb) (.string tb) 26)
  clear HV0
  have HV0__ := hide (HV0_.out.push6 (b := w.heap.size + 1) (by simp) (.bool gc) (.string sc) (.string tc) (.bool gd) (.string sd) (.string td) 26)
  clear HV0_
  have HV0___ := hide (HV0__.out.push6 (b := w.heap.size + 2) (by simp) (.bool false) (.string ⟨#[]⟩) (.string ⟨#[]⟩) (.bool false) (.string ⟨#[]⟩) (.string ⟨#[]⟩) 26)
  clear HV0__
  obtain ⟨c1, c2, c3, c4, c5, c6⟩ := HV0___.out.at6 2 rfl
  go_wp2_with fail
  clear c1 c2 c3 c4 c5 c6
  refine (Hh1.out _ (HV0___.out.law HW.out)).mono ?_
  rintro e w1 ⟨rfl, hb⟩
  have HV1 := hide (HV0___.out.below hb)
  clear hb HV0___
  obtain ⟨c7, c8, c9, c10, c11, c12⟩ := HV1.out.at6 1 rfl
  go_wp2_with fail
  clear c7 c8 c9 c10 c11 c12
  refine (Hh2.out _ (HV1.out.law HW.out)).mono ?_
  rintro e w2 ⟨rfl, hb⟩
  have HV2 := hide (HV1.out.below hb)
  clear hb HV1
  obtain ⟨c13, c14, c15, c16, c17, c18⟩ := HV2.out.at6 2 rfl
  obtain ⟨c19, c20, c21, c22, c23, c24⟩ := HV2.out.at6 1 rfl
  go_wp2_with fail
  clear c13 c14 c15 c16 c17 c18 c19 c20 c21 c22 c23 c24
  refine (Hh3.out _ (HV2.out.law HW.out)).mono ?_
  rintro e w3 ⟨rfl, hb⟩
  have HV3 := hide (HV2.out.below hb)
  clear hb HV2
  have HV3_ := hide (HV3.out.push3 (b := w3.heap.size) (by simp) (.bool gx) (.string sx) (.string tx) 24)
  clear HV3
  obtain ⟨c25, c26, c27, c28, c29, c30⟩ := HV3_.out.at6 3 rfl
  obtain ⟨c31, c32, c33, c34, c35, c36⟩ := HV3_.out.at6 2 rfl
  go_wp2_with fail
  clear c25 c26 c27 c28 c29 c30 c31 c32 c33 c34 c35 c36
  refine (Hh4.out _ (HV3_.out.law HW.out)).mono ?_
  rintro e w4 ⟨rfl, hb⟩
  have HV4 := hide (HV3_.out.below hb)
  clear hb HV3_
  have HV4_ := hide (HV4.out.push3 (b := w4.heap.size) (by simp) (.bool gy) (.string sy) (.string ty) 24)
  clear HV4
  obtain ⟨c37, c38, c39⟩ := HV4_.out.at3 1 rfl
  obtain ⟨c40, c41, c42⟩ := HV4_.out.at3 0 rfl
  obtain ⟨c43, c44, c45, c46, c47, c48⟩ := HV4_.out.at6 2 rfl
  obtain ⟨fc43, fc44, fc45, fc46, fc47, fc48⟩ := HV4_.out.fz6 2 rfl
  have HV4__ := hide (HV4_.out.put6 2 rfl (.bool gx) (.string sx) (.string tx) (.bool gy) (.string sy) (.string ty))
  clear HV4_
  go_wp2_with fail
  clear c37 c38 c39 c40 c41 c42 c43 c44 c45 c46 c47 c48 fc43 fc44 fc45 fc46 fc47 fc48
  obtain ⟨d0, d1, d2, d3, d4, d5⟩ := HV4__.out.at6 2 rfl
  exact bodyPost_ret (v := .tuple #[.agg #[.bool gx, .string sx, .string tx, .bool gy, .string sy, .string ty], .int .i64 0]) (by simp [results, Tryz.results12, go_sem, d0, d1, d2, d3, d4, d5]) rfl ⟨rfl, HV4__.out.bel⟩
set_option maxHeartbeats 4000000 in
set_option maxRecDepth 100000 in
theorem rv_meet1 (ga : Bool) (sa ta : ByteArray) (gb : Bool) (sb tb : ByteArray) (gc : Bool) (sc tc : ByteArray) (gd : Bool) (sd td : ByteArray) (w : World) (h1 : JV ga sa ta gb sb tb false) (hw : LawW w) :
    Calls Tryz.prog 18 #[.agg #[.bool ga, .string sa, .string ta, .bool gb, .string sb, .string tb], .agg #[.bool gc, .string sc, .string tc, .bool gd, .string sd, .string td]] w fun e w' => e = .returned (.tuple #[.agg #[.bool false, .string ⟨#[]⟩, .string ⟨#[]⟩, .bool false, .string ⟨#[]⟩, .string ⟨#[]⟩], .bool false]) ∧ Below w.heap.size w w' := by
  unfold JV at h1
  have Hh1 := hide h1
  have HW := hide hw
  have HV0 : Hid (VB w w []) := VB.nil w
  clear h1 hw 
  go_enter Tryz.func18, Tryz.ntmps18
  have HV0_ := hide (HV0.out.push6 (b := w.heap.size) (by simp) (.bool ga) (.string sa) (.string ta) (.bool gb) (.string sb) (.string tb) 26)
  clear HV0
  have HV0__ := hide (HV0_.out.push6 (b := w.heap.size + 1) (by simp) (.bool gc) (.string sc) (.string tc) (.bool gd) (.string sd) (.string td) 26)
  clear HV0_
  have HV0___ := hide (HV0__.out.push6 (b := w.heap.size + 2) (by simp) (.bool false) (.string ⟨#[]⟩) (.string ⟨#[]⟩) (.bool false) (.string ⟨#[]⟩) (.string ⟨#[]⟩) 26)
  clear HV0__
  obtain ⟨c1, c2, c3, c4, c5, c6⟩ := HV0___.out.at6 2 rfl
  go_wp2_with fail
  clear c1 c2 c3 c4 c5 c6
  refine (Hh1.out _ (HV0___.out.law HW.out)).mono ?_
  rintro e w1 ⟨rfl, hb⟩
  have HV1 := hide (HV0___.out.below hb)
  clear hb HV0___
  obtain ⟨c7, c8, c9, c10, c11, c12⟩ := HV1.out.at6 0 rfl
  obtain ⟨fc7, fc8, fc9, fc10, fc11, fc12⟩ := HV1.out.fz6 0 rfl
  have HV1_ := hide (HV1.out.put6 0 rfl (.bool false) (.string ⟨#[]⟩) (.string ⟨#[]⟩) (.bool false) (.string ⟨#[]⟩) (.string ⟨#[]⟩))
  clear HV1
  go_wp2_with fail
  clear c7 c8 c9 c10 c11 c12 fc7 fc8 fc9 fc10 fc11 fc12
  obtain ⟨d0, d1, d2, d3, d4, d5⟩ := HV1_.out.at6 0 rfl
  exact bodyPost_ret (v := .tuple #[.agg #[.bool false, .string ⟨#[]⟩, .string ⟨#[]⟩, .bool false, .string ⟨#[]⟩, .string ⟨#[]⟩], .bool false]) (by simp [results, Tryz.results18, go_sem, d0, d1, d2, d3, d4, d5]) rfl ⟨rfl, HV1_.out.bel⟩
set_option maxHeartbeats 4000000 in
set_option maxRecDepth 100000 in
theorem rv_meet2 (ga : Bool) (sa ta : ByteArray) (gb : Bool) (sb tb : ByteArray) (gc : Bool) (sc tc : ByteArray) (gd : Bool) (sd td : ByteArray) (w : World) (h1 : JV ga sa ta gb sb tb true) (h2 : JV gc sc tc gd sd td false) (hw : LawW w) :
    Calls Tryz.prog 18 #[.agg #[.bool ga, .string sa, .string ta, .bool gb, .string sb, .string tb], .agg #[.bool gc, .string sc, .string tc, .bool gd, .string sd, .string td]] w fun e w' => e = .returned (.tuple #[.agg #[.bool false, .string ⟨#[]⟩, .string ⟨#[]⟩, .bool false, .string ⟨#[]⟩, .string ⟨#[]⟩], .bool false]) ∧ Below w.heap.size w w' := by
  unfold JV at h1
  have Hh1 := hide h1
  unfold JV at h2
  have Hh2 := hide h2
  have HW := hide hw
  have HV0 : Hid (VB w w []) := VB.nil w
  clear h1 h2 hw 
  go_enter Tryz.func18, Tryz.ntmps18
  have HV0_ := hide (HV0.out.push6 (b := w.heap.size) (by simp) (.bool ga) (.string sa) (.string ta) (.bool gb) (.string sb) (.string tb) 26)
  clear HV0
  have HV0__ := hide (HV0_.out.push6 (b := w.heap.size + 1) (by simp) (.bool gc) (.string sc) (.string tc) (.bool gd) (.string sd) (.string td) 26)
  clear HV0_
  have HV0___ := hide (HV0__.out.push6 (b := w.heap.size + 2) (by simp) (.bool false) (.string ⟨#[]⟩) (.string ⟨#[]⟩) (.bool false) (.string ⟨#[]⟩) (.string ⟨#[]⟩) 26)
  clear HV0__
  obtain ⟨c1, c2, c3, c4, c5, c6⟩ := HV0___.out.at6 2 rfl
  go_wp2_with fail
  clear c1 c2 c3 c4 c5 c6
  refine (Hh1.out _ (HV0___.out.law HW.out)).mono ?_
  rintro e w1 ⟨rfl, hb⟩
  have HV1 := hide (HV0___.out.below hb)
  clear hb HV0___
  obtain ⟨c7, c8, c9, c10, c11, c12⟩ := HV1.out.at6 1 rfl
  go_wp2_with fail
  clear c7 c8 c9 c10 c11 c12
  refine (Hh2.out _ (HV1.out.law HW.out)).mono ?_
  rintro e w2 ⟨rfl, hb⟩
  have HV2 := hide (HV1.out.below hb)
  clear hb HV1
  obtain ⟨c13, c14, c15, c16, c17, c18⟩ := HV2.out.at6 0 rfl
  obtain ⟨fc13, fc14, fc15, fc16, fc17, fc18⟩ := HV2.out.fz6 0 rfl
  have HV2_ := hide (HV2.out.put6 0 rfl (.bool false) (.string ⟨#[]⟩) (.string ⟨#[]⟩) (.bool false) (.string ⟨#[]⟩) (.string ⟨#[]⟩))
  clear HV2
  go_wp2_with fail
  clear c13 c14 c15 c16 c17 c18 fc13 fc14 fc15 fc16 fc17 fc18
  obtain ⟨d0, d1, d2, d3, d4, d5⟩ := HV2_.out.at6 0 rfl
  exact bodyPost_ret (v := .tuple #[.agg #[.bool false, .string ⟨#[]⟩, .string ⟨#[]⟩, .bool false, .string ⟨#[]⟩, .string ⟨#[]⟩], .bool false]) (by simp [results, Tryz.results18, go_sem, d0, d1, d2, d3, d4, d5]) rfl ⟨rfl, HV2_.out.bel⟩
set_option maxHeartbeats 4000000 in
set_option maxRecDepth 100000 in
theorem rv_meet3ttt (ga : Bool) (sa ta : ByteArray) (gb : Bool) (sb tb : ByteArray) (gc : Bool) (sc tc : ByteArray) (gd : Bool) (sd td : ByteArray) (z y : Int) (w : World) (h1 : JV ga sa ta gb sb tb true) (h2 : JV gc sc tc gd sd td true) (h3 : YC gc sc tc ga sa ta z) (h4 : YC gd sd td gb sb tb y) (f1 : decide (0 < z) = true) (f2 : decide (y < 0) = true) (h5 : JV gc sc tc gd sd td true) (hw : LawW w) :
    Calls Tryz.prog 18 #[.agg #[.bool ga, .string sa, .string ta, .bool gb, .string sb, .string tb], .agg #[.bool gc, .string sc, .string tc, .bool gd, .string sd, .string td]] w fun e w' => e = .returned (.tuple #[.agg #[.bool gc, .string sc, .string tc, .bool gd, .string sd, .string td], .bool true]) ∧ Below w.heap.size w w' := by
  unfold JV at h1
  have Hh1 := hide h1
  unfold JV at h2
  have Hh2 := hide h2
  unfold YC at h3
  have Hh3 := hide h3
  unfold YC at h4
  have Hh4 := hide h4
  unfold JV at h5
  have Hh5 := hide h5
  have HW := hide hw
  have HV0 : Hid (VB w w []) := VB.nil w
  clear h1 h2 h3 h4 h5 hw 
  go_enter Tryz.func18, Tryz.ntmps18
  have HV0_ := hide (HV0.out.push6 (b := w.heap.size) (by simp) (.bool ga) (.string sa) (.string ta) (.bool gb) (.string sb) (.string tb) 26)
  clear HV0
  have HV0__ := hide (HV0_.out.push6 (b := w.heap.size + 1) (by simp) (.bool gc) (.string sc) (.string tc) (.bool gd) (.string sd) (.string td) 26)
  clear HV0_
  have HV0___ := hide (HV0__.out.push6 (b := w.heap.size + 2) (by simp) (.bool false) (.string ⟨#[]⟩) (.string ⟨#[]⟩) (.bool false) (.string ⟨#[]⟩) (.string ⟨#[]⟩) 26)
  clear HV0__
  obtain ⟨c1, c2, c3, c4, c5, c6⟩ := HV0___.out.at6 2 rfl
  go_wp2_with fail
  clear c1 c2 c3 c4 c5 c6
  refine (Hh1.out _ (HV0___.out.law HW.out)).mono ?_
  rintro e w1 ⟨rfl, hb⟩
  have HV1 := hide (HV0___.out.below hb)
  clear hb HV0___
  obtain ⟨c7, c8, c9, c10, c11, c12⟩ := HV1.out.at6 1 rfl
  go_wp2_with fail
  clear c7 c8 c9 c10 c11 c12
  refine (Hh2.out _ (HV1.out.law HW.out)).mono ?_
  rintro e w2 ⟨rfl, hb⟩
  have HV2 := hide (HV1.out.below hb)
  clear hb HV1
  obtain ⟨c13, c14, c15, c16, c17, c18⟩ := HV2.out.at6 2 rfl
  obtain ⟨c19, c20, c21, c22, c23, c24⟩ := HV2.out.at6 1 rfl
  go_wp2_with fail
  clear c13 c14 c15 c16 c17 c18 c19 c20 c21 c22 c23 c24
  refine (Hh3.out _ (HV2.out.law HW.out)).mono ?_
  rintro e w3 ⟨rfl, hb⟩
  have HV3 := hide (HV2.out.below hb)
  clear hb HV2
  obtain ⟨c25, c26, c27, c28, c29, c30⟩ := HV3.out.at6 1 rfl
  obtain ⟨c31, c32, c33, c34, c35, c36⟩ := HV3.out.at6 2 rfl
  obtain ⟨fc31, fc32, fc33, fc34, fc35, fc36⟩ := HV3.out.fz6 2 rfl
  have HV3_ : Hid (VB w (w3.setCell ⟨w.heap.size, 0, none⟩ (.bool gc)) [(w.heap.size + 2, [.bool false, .string ⟨#[]⟩, .string ⟨#[]⟩, .bool false, .string ⟨#[]⟩, .string ⟨#[]⟩]), (w.heap.size + 1, [.bool gc, .string sc, .string tc, .bool gd, .string sd, .string td]), (w.heap.size, [.bool gc, .string sa, .string ta, .bool gb, .string sb, .string tb])]) := HV3.out.set 2 (show 2 < 3 by decide) 0 (show 0 < 6 by decide) (.bool gc)
  clear HV3
  have HV3__ : Hid (VB w ((w3.setCell ⟨w.heap.size, 0, none⟩ (.bool gc)).setCell ⟨w.heap.size, 1, none⟩ (.string sc)) [(w.heap.size + 2, [.bool false, .string ⟨#[]⟩, .string ⟨#[]⟩, .bool false, .string ⟨#[]⟩, .string ⟨#[]⟩]), (w.heap.size + 1, [.bool gc, .string sc, .string tc, .bool gd, .string sd, .string td]), (w.heap.size, [.bool gc, .string sc, .string ta, .bool gb, .string sb, .string tb])]) := HV3_.out.set 2 (show 2 < 3 by decide) 1 (show 1 < 6 by decide) (.string sc)
  clear HV3_
  have HV3___ : Hid (VB w (((w3.setCell ⟨w.heap.size, 0, none⟩ (.bool gc)).setCell ⟨w.heap.size, 1, none⟩ (.string sc)).setCell ⟨w.heap.size, 2, none⟩ (.string tc)) [(w.heap.size + 2, [.bool false, .string ⟨#[]⟩, .string ⟨#[]⟩, .bool false, .string ⟨#[]⟩, .string ⟨#[]⟩]), (w.heap.size + 1, [.bool gc, .string sc, .string tc, .bool gd, .string sd, .string td]), (w.heap.size, [.bool gc, .string sc, .string tc, .bool gb, .string sb, .string tb])]) := HV3__.out.set 2 (show 2 < 3 by decide) 2 (show 2 < 6 by decide) (.string tc)
  clear HV3__
  obtain ⟨c37, c38, c39, c40, c41, c42⟩ := HV3___.out.at6 1 rfl
  obtain ⟨c43, c44, c45, c46, c47, c48⟩ := HV3___.out.at6 2 rfl
  go_wp2_with fail
  clear c25 c26 c27 c28 c29 c30 c31 c32 c33 c34 c35 c36 fc31 fc32 fc33 fc34 fc35 fc36 c37 c38 c39 c40 c41 c42 c43 c44 c45 c46 c47 c48
  refine (Hh4.out _ (HV3___.out.law HW.out)).mono ?_
  rintro e w4 ⟨rfl, hb⟩
  have HV4 := hide (HV3___.out.below hb)
  clear hb HV3___
  obtain ⟨c49, c50, c51, c52, c53, c54⟩ := HV4.out.at6 1 rfl
  obtain ⟨c55, c56, c57, c58, c59, c60⟩ := HV4.out.at6 2 rfl
  obtain ⟨fc55, fc56, fc57, fc58, fc59, fc60⟩ := HV4.out.fz6 2 rfl
  have HV4_ : Hid (VB w (w4.setCell ⟨w.heap.size, 3, none⟩ (.bool gd)) [(w.heap.size + 2, [.bool false, .string ⟨#[]⟩, .string ⟨#[]⟩, .bool false, .string ⟨#[]⟩, .string ⟨#[]⟩]), (w.heap.size + 1, [.bool gc, .string sc, .string tc, .bool gd, .string sd, .string td]), (w.heap.size, [.bool gc, .string sc, .string tc, .bool gd, .string sb, .string tb])]) := HV4.out.set 2 (show 2 < 3 by decide) 3 (show 3 < 6 by decide) (.bool gd)
  clear HV4
  have HV4__ : Hid (VB w ((w4.setCell ⟨w.heap.size, 3, none⟩ (.bool gd)).setCell ⟨w.heap.size, 4, none⟩ (.string sd)) [(w.heap.size + 2, [.bool false, .string ⟨#[]⟩, .string ⟨#[]⟩, .bool false, .string ⟨#[]⟩, .string ⟨#[]⟩]), (w.heap.size + 1, [.bool gc, .string sc, .string tc, .bool gd, .string sd, .string td]), (w.heap.size, [.bool gc, .string sc, .string tc, .bool gd, .string sd, .string tb])]) := HV4_.out.set 2 (show 2 < 3 by decide) 4 (show 4 < 6 by decide) (.string sd)
  clear HV4_
  have HV4___ : Hid (VB w (((w4.setCell ⟨w.heap.size, 3, none⟩ (.bool gd)).setCell ⟨w.heap.size, 4, none⟩ (.string sd)).setCell ⟨w.heap.size, 5, none⟩ (.string td)) [(w.heap.size + 2, [.bool false, .string ⟨#[]⟩, .string ⟨#[]⟩, .bool false, .string ⟨#[]⟩, .string ⟨#[]⟩]), (w.heap.size + 1, [.bool gc, .string sc, .string tc, .bool gd, .string sd, .string td]), (w.heap.size, [.bool gc, .string sc, .string tc, .bool gd, .string sd, .string td])]) := HV4__.out.set 2 (show 2 < 3 by decide) 5 (show 5 < 6 by decide) (.string td)
  clear HV4__
  obtain ⟨c61, c62, c63, c64, c65, c66⟩ := HV4___.out.at6 2 rfl
  go_wp2_with fail
  clear c49 c50 c51 c52 c53 c54 c55 c56 c57 c58 c59 c60 fc55 fc56 fc57 fc58 fc59 fc60 c61 c62 c63 c64 c65 c66
  refine (Hh5.out _ (HV4___.out.law HW.out)).mono ?_
  rintro e w5 ⟨rfl, hb⟩
  have HV5 := hide (HV4___.out.below hb)
  clear hb HV4___
  obtain ⟨c67, c68, c69, c70, c71, c72⟩ := HV5.out.at6 2 rfl
  obtain ⟨c73, c74, c75, c76, c77, c78⟩ := HV5.out.at6 0 rfl
  obtain ⟨fc73, fc74, fc75, fc76, fc77, fc78⟩ := HV5.out.fz6 0 rfl
  have HV5_ := hide (HV5.out.put6 0 rfl (.bool gc) (.string sc) (.string tc) (.bool gd) (.string sd) (.string td))
  clear HV5
  go_wp2_with fail
  clear c67 c68 c69 c70 c71 c72 c73 c74 c75 c76 c77 c78 fc73 fc74 fc75 fc76 fc77 fc78
  obtain ⟨d0, d1, d2, d3, d4, d5⟩ := HV5_.out.at6 0 rfl
  exact bodyPost_ret (v := .tuple #[.agg #[.bool gc, .string sc, .string tc, .bool gd, .string sd, .string td], .bool true]) (by simp [results, Tryz.results18, go_sem, d0, d1, d2, d3, d4, d5]) rfl ⟨rfl, HV5_.out.bel⟩
set_option maxHeartbeats 4000000 in
set_option maxRecDepth 100000 in
theorem rv_meet3ttf (ga : Bool) (sa ta : ByteArray) (gb : Bool) (sb tb : ByteArray) (gc : Bool) (sc tc : ByteArray) (gd : Bool) (sd td : ByteArray) (z y : Int) (w : World) (h1 : JV ga sa ta gb sb tb true) (h2 : JV gc sc tc gd sd td true) (h3 : YC gc sc tc ga sa ta z) (h4 : YC gd sd td gb sb tb y) (f1 : decide (0 < z) = true) (f2 : decide (y < 0) = true) (h5 : JV gc sc tc gd sd td false) (hw : LawW w) :
    Calls Tryz.prog 18 #[.agg #[.bool ga, .string sa, .string ta, .bool gb, .string sb, .string tb], .agg #[.bool gc, .string sc, .string tc, .bool gd, .string sd, .string td]] w fun e w' => e = .returned (.tuple #[.agg #[.bool false, .string ⟨#[]⟩, .string ⟨#[]⟩, .bool false, .string ⟨#[]⟩, .string ⟨#[]⟩], .bool false]) ∧ Below w.heap.size w w' := by
  unfold JV at h1
  have Hh1 := hide h1
  unfold JV at h2
  have Hh2 := hide h2
  unfold YC at h3
  have Hh3 := hide h3
  unfold YC at h4
  have Hh4 := hide h4
  unfold JV at h5
  have Hh5 := hide h5
  have HW := hide hw
  have HV0 : Hid (VB w w []) := VB.nil w
  clear h1 h2 h3 h4 h5 hw 
  go_enter Tryz.func18, Tryz.ntmps18
  have HV0_ := hide (HV0.out.push6 (b := w.heap.size) (by simp) (.bool ga) (.string sa) (.string ta) (.bool gb) (.string sb) (.string tb) 26)
  clear HV0
  have HV0__ := hide (HV0_.out.push6 (b := w.heap.size + 1) (by simp) (.bool gc) (.string sc) (.string tc) (.bool gd) (.string sd) (.string td) 26)
  clear HV0_
  have HV0___ := hide (HV0__.out.push6 (b := w.heap.size + 2) (by simp) (.bool false) (.string ⟨#[]⟩) (.string ⟨#[]⟩) (.bool false) (.string ⟨#[]⟩) (.string ⟨#[]⟩) 26)
  clear HV0__
  obtain ⟨c1, c2, c3, c4, c5, c6⟩ := HV0___.out.at6 2 rfl
  go_wp2_with fail
  clear c1 c2 c3 c4 c5 c6
  refine (Hh1.out _ (HV0___.out.law HW.out)).mono ?_
  rintro e w1 ⟨rfl, hb⟩
  have HV1 := hide (HV0___.out.below hb)
  clear hb HV0___
  obtain ⟨c7, c8, c9, c10, c11, c12⟩ := HV1.out.at6 1 rfl
  go_wp2_with fail
  clear c7 c8 c9 c10 c11 c12
  refine (Hh2.out _ (HV1.out.law HW.out)).mono ?_
  rintro e w2 ⟨rfl, hb⟩
  have HV2 := hide (HV1.out.below hb)
  clear hb HV1
  obtain ⟨c13, c14, c15, c16, c17, c18⟩ := HV2.out.at6 2 rfl
  obtain ⟨c19, c20, c21, c22, c23, c24⟩ := HV2.out.at6 1 rfl
  go_wp2_with fail
  clear c13 c14 c15 c16 c17 c18 c19 c20 c21 c22 c23 c24
  refine (Hh3.out _ (HV2.out.law HW.out)).mono ?_
  rintro e w3 ⟨rfl, hb⟩
  have HV3 := hide (HV2.out.below hb)
  clear hb HV2
  obtain ⟨c25, c26, c27, c28, c29, c30⟩ := HV3.out.at6 1 rfl
  obtain ⟨c31, c32, c33, c34, c35, c36⟩ := HV3.out.at6 2 rfl
  obtain ⟨fc31, fc32, fc33, fc34, fc35, fc36⟩ := HV3.out.fz6 2 rfl
  have HV3_ : Hid (VB w (w3.setCell ⟨w.heap.size, 0, none⟩ (.bool gc)) [(w.heap.size + 2, [.bool false, .string ⟨#[]⟩, .string ⟨#[]⟩, .bool false, .string ⟨#[]⟩, .string ⟨#[]⟩]), (w.heap.size + 1, [.bool gc, .string sc, .string tc, .bool gd, .string sd, .string td]), (w.heap.size, [.bool gc, .string sa, .string ta, .bool gb, .string sb, .string tb])]) := HV3.out.set 2 (show 2 < 3 by decide) 0 (show 0 < 6 by decide) (.bool gc)
  clear HV3
  have HV3__ : Hid (VB w ((w3.setCell ⟨w.heap.size, 0, none⟩ (.bool gc)).setCell ⟨w.heap.size, 1, none⟩ (.string sc)) [(w.heap.size + 2, [.bool false, .string ⟨#[]⟩, .string ⟨#[]⟩, .bool false, .string ⟨#[]⟩, .string ⟨#[]⟩]), (w.heap.size + 1, [.bool gc, .string sc, .string tc, .bool gd, .string sd, .string td]), (w.heap.size, [.bool gc, .string sc, .string ta, .bool gb, .string sb, .string tb])]) := HV3_.out.set 2 (show 2 < 3 by decide) 1 (show 1 < 6 by decide) (.string sc)
  clear HV3_
  have HV3___ : Hid (VB w (((w3.setCell ⟨w.heap.size, 0, none⟩ (.bool gc)).setCell ⟨w.heap.size, 1, none⟩ (.string sc)).setCell ⟨w.heap.size, 2, none⟩ (.string tc)) [(w.heap.size + 2, [.bool false, .string ⟨#[]⟩, .string ⟨#[]⟩, .bool false, .string ⟨#[]⟩, .string ⟨#[]⟩]), (w.heap.size + 1, [.bool gc, .string sc, .string tc, .bool gd, .string sd, .string td]), (w.heap.size, [.bool gc, .string sc, .string tc, .bool gb, .string sb, .string tb])]) := HV3__.out.set 2 (show 2 < 3 by decide) 2 (show 2 < 6 by decide) (.string tc)
  clear HV3__
  obtain ⟨c37, c38, c39, c40, c41, c42⟩ := HV3___.out.at6 1 rfl
  obtain ⟨c43, c44, c45, c46, c47, c48⟩ := HV3___.out.at6 2 rfl
  go_wp2_with fail
  clear c25 c26 c27 c28 c29 c30 c31 c32 c33 c34 c35 c36 fc31 fc32 fc33 fc34 fc35 fc36 c37 c38 c39 c40 c41 c42 c43 c44 c45 c46 c47 c48
  refine (Hh4.out _ (HV3___.out.law HW.out)).mono ?_
  rintro e w4 ⟨rfl, hb⟩
  have HV4 := hide (HV3___.out.below hb)
  clear hb HV3___
  obtain ⟨c49, c50, c51, c52, c53, c54⟩ := HV4.out.at6 1 rfl
  obtain ⟨c55, c56, c57, c58, c59, c60⟩ := HV4.out.at6 2 rfl
  obtain ⟨fc55, fc56, fc57, fc58, fc59, fc60⟩ := HV4.out.fz6 2 rfl
  have HV4_ : Hid (VB w (w4.setCell ⟨w.heap.size, 3, none⟩ (.bool gd)) [(w.heap.size + 2, [.bool false, .string ⟨#[]⟩, .string ⟨#[]⟩, .bool false, .string ⟨#[]⟩, .string ⟨#[]⟩]), (w.heap.size + 1, [.bool gc, .string sc, .string tc, .bool gd, .string sd, .string td]), (w.heap.size, [.bool gc, .string sc, .string tc, .bool gd, .string sb, .string tb])]) := HV4.out.set 2 (show 2 < 3 by decide) 3 (show 3 < 6 by decide) (.bool gd)
  clear HV4
  have HV4__ : Hid (VB w ((w4.setCell ⟨w.heap.size, 3, none⟩ (.bool gd)).setCell ⟨w.heap.size, 4, none⟩ (.string sd)) [(w.heap.size + 2, [.bool false, .string ⟨#[]⟩, .string ⟨#[]⟩, .bool false, .string ⟨#[]⟩, .string ⟨#[]⟩]), (w.heap.size + 1, [.bool gc, .string sc, .string tc, .bool gd, .string sd, .string td]), (w.heap.size, [.bool gc, .string sc, .string tc, .bool gd, .string sd, .string tb])]) := HV4_.out.set 2 (show 2 < 3 by decide) 4 (show 4 < 6 by decide) (.string sd)
  clear HV4_
  have HV4___ : Hid (VB w (((w4.setCell ⟨w.heap.size, 3, none⟩ (.bool gd)).setCell ⟨w.heap.size, 4, none⟩ (.string sd)).setCell ⟨w.heap.size, 5, none⟩ (.string td)) [(w.heap.size + 2, [.bool false, .string ⟨#[]⟩, .string ⟨#[]⟩, .bool false, .string ⟨#[]⟩, .string ⟨#[]⟩]), (w.heap.size + 1, [.bool gc, .string sc, .string tc, .bool gd, .string sd, .string td]), (w.heap.size, [.bool gc, .string sc, .string tc, .bool gd, .string sd, .string td])]) := HV4__.out.set 2 (show 2 < 3 by decide) 5 (show 5 < 6 by decide) (.string td)
  clear HV4__
  obtain ⟨c61, c62, c63, c64, c65, c66⟩ := HV4___.out.at6 2 rfl
  go_wp2_with fail
  clear c49 c50 c51 c52 c53 c54 c55 c56 c57 c58 c59 c60 fc55 fc56 fc57 fc58 fc59 fc60 c61 c62 c63 c64 c65 c66
  refine (Hh5.out _ (HV4___.out.law HW.out)).mono ?_
  rintro e w5 ⟨rfl, hb⟩
  have HV5 := hide (HV4___.out.below hb)
  clear hb HV4___
  obtain ⟨c67, c68, c69, c70, c71, c72⟩ := HV5.out.at6 2 rfl
  obtain ⟨c73, c74, c75, c76, c77, c78⟩ := HV5.out.at6 0 rfl
  obtain ⟨fc73, fc74, fc75, fc76, fc77, fc78⟩ := HV5.out.fz6 0 rfl
  have HV5_ := hide (HV5.out.put6 0 rfl (.bool false) (.string ⟨#[]⟩) (.string ⟨#[]⟩) (.bool false) (.string ⟨#[]⟩) (.string ⟨#[]⟩))
  clear HV5
  go_wp2_with fail
  clear c67 c68 c69 c70 c71 c72 c73 c74 c75 c76 c77 c78 fc73 fc74 fc75 fc76 fc77 fc78
  obtain ⟨d0, d1, d2, d3, d4, d5⟩ := HV5_.out.at6 0 rfl
  exact bodyPost_ret (v := .tuple #[.agg #[.bool false, .string ⟨#[]⟩, .string ⟨#[]⟩, .bool false, .string ⟨#[]⟩, .string ⟨#[]⟩], .bool false]) (by simp [results, Tryz.results18, go_sem, d0, d1, d2, d3, d4, d5]) rfl ⟨rfl, HV5_.out.bel⟩
set_option maxHeartbeats 4000000 in
set_option maxRecDepth 100000 in
theorem rv_meet3tft (ga : Bool) (sa ta : ByteArray) (gb : Bool) (sb tb : ByteArray) (gc : Bool) (sc tc : ByteArray) (gd : Bool) (sd td : ByteArray) (z y : Int) (w : World) (h1 : JV ga sa ta gb sb tb true) (h2 : JV gc sc tc gd sd td true) (h3 : YC gc sc tc ga sa ta z) (h4 : YC gd sd td gb sb tb y) (f1 : decide (0 < z) = true) (f2 : decide (y < 0) = false) (h5 : JV gc sc tc gb sb tb true) (hw : LawW w) :
    Calls Tryz.prog 18 #[.agg #[.bool ga, .string sa, .string ta, .bool gb, .string sb, .string tb], .agg #[.bool gc, .string sc, .string tc, .bool gd, .string sd, .string td]] w fun e w' => e = .returned (.tuple #[.agg #[.bool gc, .string sc, .string tc, .bool gb, .string sb, .string tb], .bool true]) ∧ Below w.heap.size w w' := by
  unfold JV at h1
  have Hh1 := hide h1
  unfold JV at h2
  have Hh2 := hide h2
  unfold YC at h3
  have Hh3 := hide h3
  unfold YC at h4
  have Hh4 := hide h4
  unfold JV at h5
  have Hh5 := hide h5
  have HW := hide hw
  have HV0 : Hid (VB w w []) := VB.nil w
  clear h1 h2 h3 h4 h5 hw 
  go_enter Tryz.func18, Tryz.ntmps18
  have HV0_ := hide (HV0.out.push6 (b := w.heap.size) (by simp) (.bool ga) (.string sa) (.string ta) (.bool gb) (.string sb) (.string tb) 26)
  clear HV0
  have HV0__ := hide (HV0_.out.push6 (b := w.heap.size + 1) (by simp) (.bool gc) (.string sc) (.string tc) (.bool gd) (.string sd) (.string td) 26)
  clear HV0_
  have HV0___ := hide (HV0__.out.push6 (b := w.heap.size + 2) (by simp) (.bool false) (.string ⟨#[]⟩) (.string ⟨#[]⟩) (.bool false) (.string ⟨#[]⟩) (.string ⟨#[]⟩) 26)
  clear HV0__
  obtain ⟨c1, c2, c3, c4, c5, c6⟩ := HV0___.out.at6 2 rfl
  go_wp2_with fail
  clear c1 c2 c3 c4 c5 c6
  refine (Hh1.out _ (HV0___.out.law HW.out)).mono ?_
  rintro e w1 ⟨rfl, hb⟩
  have HV1 := hide (HV0___.out.below hb)
  clear hb HV0___
  obtain ⟨c7, c8, c9, c10, c11, c12⟩ := HV1.out.at6 1 rfl
  go_wp2_with fail
  clear c7 c8 c9 c10 c11 c12
  refine (Hh2.out _ (HV1.out.law HW.out)).mono ?_
  rintro e w2 ⟨rfl, hb⟩
  have HV2 := hide (HV1.out.below hb)
  clear hb HV1
  obtain ⟨c13, c14, c15, c16, c17, c18⟩ := HV2.out.at6 2 rfl
  obtain ⟨c19, c20, c21, c22, c23, c24⟩ := HV2.out.at6 1 rfl
  go_wp2_with fail
  clear c13 c14 c15 c16 c17 c18 c19 c20 c21 c22 c23 c24
  refine (Hh3.out _ (HV2.out.law HW.out)).mono ?_
  rintro e w3 ⟨rfl, hb⟩
  have HV3 := hide (HV2.out.below hb)
  clear hb HV2
  obtain ⟨c25, c26, c27, c28, c29, c30⟩ := HV3.out.at6 1 rfl
  obtain ⟨c31, c32, c33, c34, c35, c36⟩ := HV3.out.at6 2 rfl
  obtain ⟨fc31, fc32, fc33, fc34, fc35, fc36⟩ := HV3.out.fz6 2 rfl
  have HV3_ : Hid (VB w (w3.setCell ⟨w.heap.size, 0, none⟩ (.bool gc)) [(w.heap.size + 2, [.bool false, .string ⟨#[]⟩, .string ⟨#[]⟩, .bool false, .string ⟨#[]⟩, .string ⟨#[]⟩]), (w.heap.size + 1, [.bool gc, .string sc, .string tc, .bool gd, .string sd, .string td]), (w.heap.size, [.bool gc, .string sa, .string ta, .bool gb, .string sb, .string tb])]) := HV3.out.set 2 (show 2 < 3 by decide) 0 (show 0 < 6 by decide) (.bool gc)
  clear HV3
  have HV3__ : Hid (VB w ((w3.setCell ⟨w.heap.size, 0, none⟩ (.bool gc)).setCell ⟨w.heap.size, 1, none⟩ (.string sc)) [(w.heap.size + 2, [.bool false, .string ⟨#[]⟩, .string ⟨#[]⟩, .bool false, .string ⟨#[]⟩, .string ⟨#[]⟩]), (w.heap.size + 1, [.bool gc, .string sc, .string tc, .bool gd, .string sd, .string td]), (w.heap.size, [.bool gc, .string sc, .string ta, .bool gb, .string sb, .string tb])]) := HV3_.out.set 2 (show 2 < 3 by decide) 1 (show 1 < 6 by decide) (.string sc)
  clear HV3_
  have HV3___ : Hid (VB w (((w3.setCell ⟨w.heap.size, 0, none⟩ (.bool gc)).setCell ⟨w.heap.size, 1, none⟩ (.string sc)).setCell ⟨w.heap.size, 2, none⟩ (.string tc)) [(w.heap.size + 2, [.bool false, .string ⟨#[]⟩, .string ⟨#[]⟩, .bool false, .string ⟨#[]⟩, .string ⟨#[]⟩]), (w.heap.size + 1, [.bool gc, .string sc, .string tc, .bool gd, .string sd, .string td]), (w.heap.size, [.bool gc, .string sc, .string tc, .bool gb, .string sb, .string tb])]) := HV3__.out.set 2 (show 2 < 3 by decide) 2 (show 2 < 6 by decide) (.string tc)
  clear HV3__
  obtain ⟨c37, c38, c39, c40, c41, c42⟩ := HV3___.out.at6 1 rfl
  obtain ⟨c43, c44, c45, c46, c47, c48⟩ := HV3___.out.at6 2 rfl
  go_wp2_with fail
  clear c25 c26 c27 c28 c29 c30 c31 c32 c33 c34 c35 c36 fc31 fc32 fc33 fc34 fc35 fc36 c37 c38 c39 c40 c41 c42 c43 c44 c45 c46 c47 c48
  refine (Hh4.out _ (HV3___.out.law HW.out)).mono ?_
  rintro e w4 ⟨rfl, hb⟩
  have HV4 := hide (HV3___.out.below hb)
  clear hb HV3___
  obtain ⟨c49, c50, c51, c52, c53, c54⟩ := HV4.out.at6 2 rfl
  go_wp2_with fail
  clear c49 c50 c51 c52 c53 c54
  refine (Hh5.out _ (HV4.out.law HW.out)).mono ?_
  rintro e w5 ⟨rfl, hb⟩
  have HV5 := hide (HV4.out.below hb)
  clear hb HV4
  obtain ⟨c55, c56, c57, c58, c59, c60⟩ := HV5.out.at6 2 rfl
  obtain ⟨c61, c62, c63, c64, c65, c66⟩ := HV5.out.at6 0 rfl
  obtain ⟨fc61, fc62, fc63, fc64, fc65, fc66⟩ := HV5.out.fz6 0 rfl
  have HV5_ := hide (HV5.out.put6 0 rfl (.bool gc) (.string sc) (.string tc) (.bool gb) (.string sb) (.string tb))
  clear HV5
  go_wp2_with fail
  clear c55 c56 c57 c58 c59 c60 c61 c62 c63 c64 c65 c66 fc61 fc62 fc63 fc64 fc65 fc66
  obtain ⟨d0, d1, d2, d3, d4, d5⟩ := HV5_.out.at6 0 rfl
  exact bodyPost_ret (v := .tuple #[.agg #[.bool gc, .string sc, .string tc, .bool gb, .string sb, .string tb], .bool true]) (by simp [results, Tryz.results18, go_sem, d0, d1, d2, d3, d4, d5]) rfl ⟨rfl, HV5_.out.bel⟩
set_option maxHeartbeats 4000000 in
set_option maxRecDepth 100000 in
theorem rv_meet3tff (ga : Bool) (sa ta : ByteArray) (gb : Bool) (sb tb : ByteArray) (gc : Bool) (sc tc : ByteArray) (gd : Bool) (sd td : ByteArray) (z y : Int) (w : World) (h1 : JV ga sa ta gb sb tb true) (h2 : JV gc sc tc gd sd td true) (h3 : YC gc sc tc ga sa ta z) (h4 : YC gd sd td gb sb tb y) (f1 : decide (0 < z) = true) (f2 : decide (y < 0) = false) (h5 : JV gc sc tc gb sb tb false) (hw : LawW w) :
    Calls Tryz.prog 18 #[.agg #[.bool ga, .string sa, .string ta, .bool gb, .string sb, .string tb], .agg #[.bool gc, .string sc, .string tc, .bool gd, .string sd, .string td]] w fun e w' => e = .returned (.tuple #[.agg #[.bool false, .string ⟨#[]⟩, .string ⟨#[]⟩, .bool false, .string ⟨#[]⟩, .string ⟨#[]⟩], .bool false]) ∧ Below w.heap.size w w' := by
  unfold JV at h1
  have Hh1 := hide h1
  unfold JV at h2
  have Hh2 := hide h2
  unfold YC at h3
  have Hh3 := hide h3
  unfold YC at h4
  have Hh4 := hide h4
  unfold JV at h5
  have Hh5 := hide h5
  have HW := hide hw
  have HV0 : Hid (VB w w []) := VB.nil w
  clear h1 h2 h3 h4 h5 hw 
  go_enter Tryz.func18, Tryz.ntmps18
  have HV0_ := hide (HV0.out.push6 (b := w.heap.size) (by simp) (.bool ga) (.string sa) (.string ta) (.bool gb) (.string sb) (.string tb) 26)
  clear HV0
  have HV0__ := hide (HV0_.out.push6 (b := w.heap.size + 1) (by simp) (.bool gc) (.string sc) (.string tc) (.bool gd) (.string sd) (.string td) 26)
  clear HV0_
  have HV0___ := hide (HV0__.out.push6 (b := w.heap.size + 2) (by simp) (.bool false) (.string ⟨#[]⟩) (.string ⟨#[]⟩) (.bool false) (.string ⟨#[]⟩) (.string ⟨#[]⟩) 26)
  clear HV0__
  obtain ⟨c1, c2, c3, c4, c5, c6⟩ := HV0___.out.at6 2 rfl
  go_wp2_with fail
  clear c1 c2 c3 c4 c5 c6
  refine (Hh1.out _ (HV0___.out.law HW.out)).mono ?_
  rintro e w1 ⟨rfl, hb⟩
  have HV1 := hide (HV0___.out.below hb)
  clear hb HV0___
  obtain ⟨c7, c8, c9, c10, c11, c12⟩ := HV1.out.at6 1 rfl
  go_wp2_with fail
  clear c7 c8 c9 c10 c11 c12
  refine (Hh2.out _ (HV1.out.law HW.out)).mono ?_
  rintro e w2 ⟨rfl, hb⟩
  have HV2 := hide (HV1.out.below hb)
  clear hb HV1
  obtain ⟨c13, c14, c15, c16, c17, c18⟩ := HV2.out.at6 2 rfl
  obtain ⟨c19, c20, c21, c22, c23, c24⟩ := HV2.out.at6 1 rfl
  go_wp2_with fail
  clear c13 c14 c15 c16 c17 c18 c19 c20 c21 c22 c23 c24
  refine (Hh3.out _ (HV2.out.law HW.out)).mono ?_
  rintro e w3 ⟨rfl, hb⟩
  have HV3 := hide (HV2.out.below hb)
  clear hb HV2
  obtain ⟨c25, c26, c27, c28, c29, c30⟩ := HV3.out.at6 1 rfl
  obtain ⟨c31, c32, c33, c34, c35, c36⟩ := HV3.out.at6 2 rfl
  obtain ⟨fc31, fc32, fc33, fc34, fc35, fc36⟩ := HV3.out.fz6 2 rfl
  have HV3_ : Hid (VB w (w3.setCell ⟨w.heap.size, 0, none⟩ (.bool gc)) [(w.heap.size + 2, [.bool false, .string ⟨#[]⟩, .string ⟨#[]⟩, .bool false, .string ⟨#[]⟩, .string ⟨#[]⟩]), (w.heap.size + 1, [.bool gc, .string sc, .string tc, .bool gd, .string sd, .string td]), (w.heap.size, [.bool gc, .string sa, .string ta, .bool gb, .string sb, .string tb])]) := HV3.out.set 2 (show 2 < 3 by decide) 0 (show 0 < 6 by decide) (.bool gc)
  clear HV3
  have HV3__ : Hid (VB w ((w3.setCell ⟨w.heap.size, 0, none⟩ (.bool gc)).setCell ⟨w.heap.size, 1, none⟩ (.string sc)) [(w.heap.size + 2, [.bool false, .string ⟨#[]⟩, .string ⟨#[]⟩, .bool false, .string ⟨#[]⟩, .string ⟨#[]⟩]), (w.heap.size + 1, [.bool gc, .string sc, .string tc, .bool gd, .string sd, .string td]), (w.heap.size, [.bool gc, .string sc, .string ta, .bool gb, .string sb, .string tb])]) := HV3_.out.set 2 (show 2 < 3 by decide) 1 (show 1 < 6 by decide) (.string sc)
  clear HV3_
  have HV3___ : Hid (VB w (((w3.setCell ⟨w.heap.size, 0, none⟩ (.bool gc)).setCell ⟨w.heap.size, 1, none⟩ (.string sc)).setCell ⟨w.heap.size, 2, none⟩ (.string tc)) [(w.heap.size + 2, [.bool false, .string ⟨#[]⟩, .string ⟨#[]⟩, .bool false, .string ⟨#[]⟩, .string ⟨#[]⟩]), (w.heap.size + 1, [.bool gc, .string sc, .string tc, .bool gd, .string sd, .string td]), (w.heap.size, [.bool gc, .string sc, .string tc, .bool gb, .string sb, .string tb])]) := HV3__.out.set 2 (show 2 < 3 by decide) 2 (show 2 < 6 by decide) (.string tc)
  clear HV3__
  obtain ⟨c37, c38, c39, c40, c41, c42⟩ := HV3___.out.at6 1 rfl
  obtain ⟨c43, c44, c45, c46, c47, c48⟩ := HV3___.out.at6 2 rfl
  go_wp2_with fail
  clear c25 c26 c27 c28 c29 c30 c31 c32 c33 c34 c35 c36 fc31 fc32 fc33 fc34 fc35 fc36 c37 c38 c39 c40 c41 c42 c43 c44 c45 c46 c47 c48
  refine (Hh4.out _ (HV3___.out.law HW.out)).mono ?_
  rintro e w4 ⟨rfl, hb⟩
  have HV4 := hide (HV3___.out.below hb)
  clear hb HV3___
  obtain ⟨c49, c50, c51, c52, c53, c54⟩ := HV4.out.at6 2 rfl
  go_wp2_with fail
  clear c49 c50 c51 c52 c53 c54
  refine (Hh5.out _ (HV4.out.law HW.out)).mono ?_
  rintro e w5 ⟨rfl, hb⟩
  have HV5 := hide (HV4.out.below hb)
  clear hb HV4
  obtain ⟨c55, c56, c57, c58, c59, c60⟩ := HV5.out.at6 2 rfl
  obtain ⟨c61, c62, c63, c64, c65, c66⟩ := HV5.out.at6 0 rfl
  obtain ⟨fc61, fc62, fc63, fc64, fc65, fc66⟩ := HV5.out.fz6 0 rfl
  have HV5_ := hide (HV5.out.put6 0 rfl (.bool false) (.string ⟨#[]⟩) (.string ⟨#[]⟩) (.bool false) (.string ⟨#[]⟩) (.string ⟨#[]⟩))
  clear HV5
  go_wp2_with fail
  clear c55 c56 c57 c58 c59 c60 c61 c62 c63 c64 c65 c66 fc61 fc62 fc63 fc64 fc65 fc66
  obtain ⟨d0, d1, d2, d3, d4, d5⟩ := HV5_.out.at6 0 rfl
  exact bodyPost_ret (v := .tuple #[.agg #[.bool false, .string ⟨#[]⟩, .string ⟨#[]⟩, .bool false, .string ⟨#[]⟩, .string ⟨#[]⟩], .bool false]) (by simp [results, Tryz.results18, go_sem, d0, d1, d2, d3, d4, d5]) rfl ⟨rfl, HV5_.out.bel⟩
set_option maxHeartbeats 4000000 in
set_option maxRecDepth 100000 in
theorem rv_meet3ftt (ga : Bool) (sa ta : ByteArray) (gb : Bool) (sb tb : ByteArray) (gc : Bool) (sc tc : ByteArray) (gd : Bool) (sd td : ByteArray) (z y : Int) (w : World) (h1 : JV ga sa ta gb sb tb true) (h2 : JV gc sc tc gd sd td true) (h3 : YC gc sc tc ga sa ta z) (h4 : YC gd sd td gb sb tb y) (f1 : decide (0 < z) = false) (f2 : decide (y < 0) = true) (h5 : JV ga sa ta gd sd td true) (hw : LawW w) :
    Calls Tryz.prog 18 #[.agg #[.bool ga, .string sa, .string ta, .bool gb, .string sb, .string tb], .agg #[.bool gc, .string sc, .string tc, .bool gd, .string sd, .string td]] w fun e w' => e = .returned (.tuple #[.agg #[.bool ga, .string sa, .string ta, .bool gd, .string sd, .string td], .bool true]) ∧ Below w.heap.size w w' := by
  unfold JV at h1
  have Hh1 := hide h1
  unfold JV at h2
  have Hh2 := hide h2
  unfold YC at h3
  have Hh3 := hide h3
  unfold YC at h4
  have Hh4 := hide h4
  unfold JV at h5
  have Hh5 := hide h5
  have HW := hide hw
  have HV0 : Hid (VB w w []) := VB.nil w
  clear h1 h2 h3 h4 h5 hw 
  go_enter Tryz.func18, Tryz.ntmps18
  have HV0_ := hide (HV0.out.push6 (b := w.heap.size) (by simp) (.bool ga) (.string sa) (.string ta) (.bool gb) (.string sb) (.string tb) 26)
  clear HV0
  have HV0__ := hide (HV0_.out.push6 (b := w.heap.size + 1) (by simp) (.bool gc) (.string sc) (.string tc) (.bool gd) (.string sd) (.string td) 26)
  clear HV0_
  have HV0___ := hide (HV0__.out.push6 (b := w.heap.size + 2) (by simp) (.bool false) (.string ⟨#[]⟩) (.string ⟨#[]⟩) (.bool false) (.string ⟨#[]⟩) (.string ⟨#[]⟩) 26)
  clear HV0__
  obtain ⟨c1, c2, c3, c4, c5, c6⟩ := HV0___.out.at6 2 rfl
  go_wp2_with fail
  clear c1 c2 c3 c4 c5 c6
  refine (Hh1.out _ (HV0___.out.law HW.out)).mono ?_
  rintro e w1 ⟨rfl, hb⟩
  have HV1 := hide (HV0___.out.below hb)
  clear hb HV0___
  obtain ⟨c7, c8, c9, c10, c11, c12⟩ := HV1.out.at6 1 rfl
  go_wp2_with fail
  clear c7 c8 c9 c10 c11 c12
  refine (Hh2.out _ (HV1.out.law HW.out)).mono ?_
  rintro e w2 ⟨rfl, hb⟩
  have HV2 := hide (HV1.out.below hb)
  clear hb HV1
  obtain ⟨c13, c14, c15, c16, c17, c18⟩ := HV2.out.at6 2 rfl
  obtain ⟨c19, c20, c21, c22, c23, c24⟩ := HV2.out.at6 1 rfl
  go_wp2_with fail
  clear c13 c14 c15 c16 c17 c18 c19 c20 c21 c22 c23 c24
  refine (Hh3.out _ (HV2.out.law HW.out)).mono ?_
  rintro e w3 ⟨rfl, hb⟩
  have HV3 := hide (HV2.out.below hb)
  clear hb HV2
  obtain ⟨c25, c26, c27, c28, c29, c30⟩ := HV3.out.at6 1 rfl
  obtain ⟨c31, c32, c33, c34, c35, c36⟩ := HV3.out.at6 2 rfl
  go_wp2_with fail
  clear c25 c26 c27 c28 c29 c30 c31 c32 c33 c34 c35 c36
  refine (Hh4.out _ (HV3.out.law HW.out)).mono ?_
  rintro e w4 ⟨rfl, hb⟩
  have HV4 := hide (HV3.out.below hb)
  clear hb HV3
  obtain ⟨c37, c38, c39, c40, c41, c42⟩ := HV4.out.at6 1 rfl
  obtain ⟨c43, c44, c45, c46, c47, c48⟩ := HV4.out.at6 2 rfl
  obtain ⟨fc43, fc44, fc45, fc46, fc47, fc48⟩ := HV4.out.fz6 2 rfl
  have HV4_ : Hid (VB w (w4.setCell ⟨w.heap.size, 3, none⟩ (.bool gd)) [(w.heap.size + 2, [.bool false, .string ⟨#[]⟩, .string ⟨#[]⟩, .bool false, .string ⟨#[]⟩, .string ⟨#[]⟩]), (w.heap.size + 1, [.bool gc, .string sc, .string tc, .bool gd, .string sd, .string td]), (w.heap.size, [.bool ga, .string sa, .string ta, .bool gd, .string sb, .string tb])]) := HV4.out.set 2 (show 2 < 3 by decide) 3 (show 3 < 6 by decide) (.bool gd)
  clear HV4
  have HV4__ : Hid (VB w ((w4.setCell ⟨w.heap.size, 3, none⟩ (.bool gd)).setCell ⟨w.heap.size, 4, none⟩ (.string sd)) [(w.heap.size + 2, [.bool false, .string ⟨#[]⟩, .string ⟨#[]⟩, .bool false, .string ⟨#[]⟩, .string ⟨#[]⟩]), (w.heap.size + 1, [.bool gc, .string sc, .string tc, .bool gd, .string sd, .string td]), (w.heap.size, [.bool ga, .string sa, .string ta, .bool gd, .string sd, .string tb])]) := HV4_.out.set 2 (show 2 < 3 by decide) 4 (show 4 < 6 by decide) (.string sd)
  clear HV4_
  have HV4___ : Hid (VB w (((w4.setCell ⟨w.heap.size, 3, none⟩ (.bool gd)).setCell ⟨w.heap.size, 4, none⟩ (.string sd)).setCell ⟨w.heap.size, 5, none⟩ (.string td)) [(w.heap.size + 2, [.bool false, .string ⟨#[]⟩, .string ⟨#[]⟩, .bool false, .string ⟨#[]⟩, .string ⟨#[]⟩]), (w.heap.size + 1, [.bool gc, .string sc, .string tc, .bool gd, .string sd, .string td]), (w.heap.size, [.bool ga, .string sa, .string ta, .bool gd, .string sd, .string td])]) := HV4__.out.set 2 (show 2 < 3 by decide) 5 (show 5 < 6 by decide) (.string td)
  clear HV4__
  obtain ⟨c49, c50, c51, c52, c53, c54⟩ := HV4___.out.at6 2 rfl
  go_wp2_with fail
  clear c37 c38 c39 c40 c41 c42 c43 c44 c45 c46 c47 c48 fc43 fc44 fc45 fc46 fc47 fc48 c49 c50 c51 c52 c53 c54
  refine (Hh5.out _ (HV4___.out.law HW.out)).mono ?_
  rintro e w5 ⟨rfl, hb⟩
  have HV5 := hide (HV4___.out.below hb)
  clear hb HV4___
  obtain ⟨c55, c56, c57, c58, c59, c60⟩ := HV5.out.at6 2 rfl
  obtain ⟨c61, c62, c63, c64, c65, c66⟩ := HV5.out.at6 0 rfl
  obtain ⟨fc61, fc62, fc63, fc64, fc65, fc66⟩ := HV5.out.fz6 0 rfl
  have HV5_ := hide (HV5.out.put6 0 rfl (.bool ga) (.string sa) (.string ta) (.bool gd) (.string sd) (.string td))
  clear HV5
  go_wp2_with fail
  clear c55 c56 c57 c58 c59 c60 c61 c62 c63 c64 c65 c66 fc61 fc62 fc63 fc64 fc65 fc66
  obtain ⟨d0, d1, d2, d3, d4, d5⟩ := HV5_.out.at6 0 rfl
  exact bodyPost_ret (v := .tuple #[.agg #[.bool ga, .string sa, .string ta, .bool gd, .string sd, .string td], .bool true]) (by simp [results, Tryz.results18, go_sem, d0, d1, d2, d3, d4, d5]) rfl ⟨rfl, HV5_.out.bel⟩
set_option maxHeartbeats 4000000 in
set_option maxRecDepth 100000 in
theorem rv_meet3ftf (ga : Bool) (sa ta : ByteArray) (gb : Bool) (sb tb : ByteArray) (gc : Bool) (sc tc : ByteArray) (gd : Bool) (sd td : ByteArray) (z y : Int) (w : World) (h1 : JV ga sa ta gb sb tb true) (h2 : JV gc sc tc gd sd td true) (h3 : YC gc sc tc ga sa ta z) (h4 : YC gd sd td gb sb tb y) (f1 : decide (0 < z) = false) (f2 : decide (y < 0) = true) (h5 : JV ga sa ta gd sd td false) (hw : LawW w) :
    Calls Tryz.prog 18 #[.agg #[.bool ga, .string sa, .string ta, .bool gb, .string sb, .string tb], .agg #[.bool gc, .string sc, .string tc, .bool gd, .string sd, .string td]] w fun e w' => e = .returned (.tuple #[.agg #[.bool false, .string ⟨#[]⟩, .string ⟨#[]⟩, .bool false, .string ⟨#[]⟩, .string ⟨#[]⟩], .bool false]) ∧ Below w.heap.size w w' := by
  unfold JV at h1
  have Hh1 := hide h1
  unfold JV at h2
  have Hh2 := hide h2
  unfold YC at h3
  have Hh3 := hide h3
  unfold YC at h4
  have Hh4 := hide h4
  unfold JV at h5
  have Hh5 := hide h5
  have HW := hide hw
  have HV0 : Hid (VB w w []) := VB.nil w
  clear h1 h2 h3 h4 h5 hw 
  go_enter Tryz.func18, Tryz.ntmps18
  have HV0_ := hide (HV0.out.push6 (b := w.heap.size) (by simp) (.bool ga) (.string sa) (.string ta) (.bool gb) (.string sb) (.string tb) 26)
  clear HV0
  have HV0__ := hide (HV0_.out.push6 (b := w.heap.size + 1) (by simp) (.bool gc) (.string sc) (.string tc) (.bool gd) (.string sd) (.string td) 26)
  clear HV0_
  have HV0___ := hide (HV0__.out.push6 (b := w.heap.size + 2) (by simp) (.bool false) (.string ⟨#[]⟩) (.string ⟨#[]⟩) (.bool false) (.string ⟨#[]⟩) (.string ⟨#[]⟩) 26)
  clear HV0__
  obtain ⟨c1, c2, c3, c4, c5, c6⟩ := HV0___.out.at6 2 rfl
  go_wp2_with fail
  clear c1 c2 c3 c4 c5 c6
  refine (Hh1.out _ (HV0___.out.law HW.out)).mono ?_
  rintro e w1 ⟨rfl, hb⟩
  have HV1 := hide (HV0___.out.below hb)
  clear hb HV0___
  obtain ⟨c7, c8, c9, c10, c11, c12⟩ := HV1.out.at6 1 rfl
  go_wp2_with fail
  clear c7 c8 c9 c10 c11 c12
  refine (Hh2.out _ (HV1.out.law HW.out)).mono ?_
  rintro e w2 ⟨rfl, hb⟩
  have HV2 := hide (HV1.out.below hb)
  clear hb HV1
  obtain ⟨c13, c14, c15, c16, c17, c18⟩ := HV2.out.at6 2 rfl
  obtain ⟨c19, c20, c21, c22, c23, c24⟩ := HV2.out.at6 1 rfl
  go_wp2_with fail
  clear c13 c14 c15 c16 c17 c18 c19 c20 c21 c22 c23 c24
  refine (Hh3.out _ (HV2.out.law HW.out)).mono ?_
  rintro e w3 ⟨rfl, hb⟩
  have HV3 := hide (HV2.out.below hb)
  clear hb HV2
  obtain ⟨c25, c26, c27, c28, c29, c30⟩ := HV3.out.at6 1 rfl
  obtain ⟨c31, c32, c33, c34, c35, c36⟩ := HV3.out.at6 2 rfl
  go_wp2_with fail
  clear c25 c26 c27 c28 c29 c30 c31 c32 c33 c34 c35 c36
  refine (Hh4.out _ (HV3.out.law HW.out)).mono ?_
  rintro e w4 ⟨rfl, hb⟩
  have HV4 := hide (HV3.out.below hb)
  clear hb HV3
  obtain ⟨c37, c38, c39, c40, c41, c42⟩ := HV4.out.at6 1 rfl
  obtain ⟨c43, c44, c45, c46, c47, c48⟩ := HV4.out.at6 2 rfl
  obtain ⟨fc43, fc44, fc45, fc46, fc47, fc48⟩ := HV4.out.fz6 2 rfl
  have HV4_ : Hid (VB w (w4.setCell ⟨w.heap.size, 3, none⟩ (.bool gd)) [(w.heap.size + 2, [.bool false, .string ⟨#[]⟩, .string ⟨#[]⟩, .bool false, .string ⟨#[]⟩, .string ⟨#[]⟩]), (w.heap.size + 1, [.bool gc, .string sc, .string tc, .bool gd, .string sd, .string td]), (w.heap.size, [.bool ga, .string sa, .string ta, .bool gd, .string sb, .string tb])]) := HV4.out.set 2 (show 2 < 3 by decide) 3 (show 3 < 6 by decide) (.bool gd)
  clear HV4
  have HV4__ : Hid (VB w ((w4.setCell ⟨w.heap.size, 3, none⟩ (.bool gd)).setCell ⟨w.heap.size, 4, none⟩ (.string sd)) [(w.heap.size + 2, [.bool false, .string ⟨#[]⟩, .string ⟨#[]⟩, .bool false, .string ⟨#[]⟩, .string ⟨#[]⟩]), (w.heap.size + 1, [.bool gc, .string sc, .string tc, .bool gd, .string sd, .string td]), (w.heap.size, [.bool ga, .string sa, .string ta, .bool gd, .string sd, .string tb])]) := HV4_.out.set 2 (show 2 < 3 by decide) 4 (show 4 < 6 by decide) (.string sd)
  clear HV4_
  have HV4___ : Hid (VB w (((w4.setCell ⟨w.heap.size, 3, none⟩ (.bool gd)).setCell ⟨w.heap.size, 4, none⟩ (.string sd)).setCell ⟨w.heap.size, 5, none⟩ (.string td)) [(w.heap.size + 2, [.bool false, .string ⟨#[]⟩, .string ⟨#[]⟩, .bool false, .string ⟨#[]⟩, .string ⟨#[]⟩]), (w.heap.size + 1, [.bool gc, .string sc, .string tc, .bool gd, .string sd, .string td]), (w.heap.size, [.bool ga, .string sa, .string ta, .bool gd, .string sd, .string td])]) := HV4__.out.set 2 (show 2 < 3 by decide) 5 (show 5 < 6 by decide) (.string td)
  clear HV4__
  obtain ⟨c49, c50, c51, c52, c53, c54⟩ := HV4___.out.at6 2 rfl
  go_wp2_with fail
  clear c37 c38 c39 c40 c41 c42 c43 c44 c45 c46 c47 c48 fc43 fc44 fc45 fc46 fc47 fc48 c49 c50 c51 c52 c53 c54
  refine (Hh5.out _ (HV4___.out.law HW.out)).mono ?_
  rintro e w5 ⟨rfl, hb⟩
  have HV5 := hide (HV4___.out.below hb)
  clear hb HV4___
  obtain ⟨c55, c56, c57, c58, c59, c60⟩ := HV5.out.at6 2 rfl
  obtain ⟨c61, c62, c63, c64, c65, c66⟩ := HV5.out.at6 0 rfl
  obtain ⟨fc61, fc62, fc63, fc64, fc65, fc66⟩ := HV5.out.fz6 0 rfl
  have HV5_ := hide (HV5.out.put6 0 rfl (.bool false) (.string ⟨#[]⟩) (.string ⟨#[]⟩) (.bool false) (.string ⟨#[]⟩) (.string ⟨#[]⟩))
  clear HV5
  go_wp2_with fail
  clear c55 c56 c57 c58 c59 c60 c61 c62 c63 c64 c65 c66 fc61 fc62 fc63 fc64 fc65 fc66
  obtain ⟨d0, d1, d2, d3, d4, d5⟩ := HV5_.out.at6 0 rfl
  exact bodyPost_ret (v := .tuple #[.agg #[.bool false, .string ⟨#[]⟩, .string ⟨#[]⟩, .bool false, .string ⟨#[]⟩, .string ⟨#[]⟩], .bool false]) (by simp [results, Tryz.results18, go_sem, d0, d1, d2, d3, d4, d5]) rfl ⟨rfl, HV5_.out.bel⟩
set_option maxHeartbeats 4000000 in
set_option maxRecDepth 100000 in
theorem rv_meet3fft (ga : Bool) (sa ta : ByteArray) (gb : Bool) (sb tb : ByteArray) (gc : Bool) (sc tc : ByteArray) (gd : Bool) (sd td : ByteArray) (z y : Int) (w : World) (h1 : JV ga sa ta gb sb tb true) (h2 : JV gc sc tc gd sd td true) (h3 : YC gc sc tc ga sa ta z) (h4 : YC gd sd td gb sb tb y) (f1 : decide (0 < z) = false) (f2 : decide (y < 0) = false) (h5 : JV ga sa ta gb sb tb true) (hw : LawW w) :
    Calls Tryz.prog 18 #[.agg #[.bool ga, .string sa, .string ta, .bool gb, .string sb, .string tb], .agg #[.bool gc, .string sc, .string tc, .bool gd, .string sd, .string td]] w fun e w' => e = .returned (.tuple #[.agg #[.bool ga, .string sa, .string ta, .bool gb, .string sb, .string tb], .bool true]) ∧ Below w.heap.size w w' := by
  unfold JV at h1
  have Hh1 := hide h1
  unfold JV at h2
  have Hh2 := hide h2
  unfold YC at h3
  have Hh3 := hide h3
  unfold YC at h4
  have Hh4 := hide h4
  unfold JV at h5
  have Hh5 := hide h5
  have HW := hide hw
  have HV0 : Hid (VB w w []) := VB.nil w
  clear h1 h2 h3 h4 h5 hw 
  go_enter Tryz.func18, Tryz.ntmps18
  have HV0_ := hide (HV0.out.push6 (b := w.heap.size) (by simp) (.bool ga) (.string sa) (.string ta) (.bool gb) (.string sb) (.string tb) 26)
  clear HV0
  have HV0__ := hide (HV0_.out.push6 (b := w.heap.size + 1) (by simp) (.bool gc) (.string sc) (.string tc) (.bool gd) (.string sd) (.string td) 26)
  clear HV0_
  have HV0___ := hide (HV0__.out.push6 (b := w.heap.size + 2) (by simp) (.bool false) (.string ⟨#[]⟩) (.string ⟨#[]⟩) (.bool false) (.string ⟨#[]⟩) (.string ⟨#[]⟩) 26)
  clear HV0__
  obtain ⟨c1, c2, c3, c4, c5, c6⟩ := HV0___.out.at6 2 rfl
  go_wp2_with fail
  clear c1 c2 c3 c4 c5 c6
  refine (Hh1.out _ (HV0___.out.law HW.out)).mono ?_
  rintro e w1 ⟨rfl, hb⟩
  have HV1 := hide (HV0___.out.below hb)
  clear hb HV0___
  obtain ⟨c7, c8, c9, c10, c11, c12⟩ := HV1.out.at6 1 rfl
  go_wp2_with fail
  clear c7 c8 c9 c10 c11 c12
  refine (Hh2.out _ (HV1.out.law HW.out)).mono ?_
  rintro e w2 ⟨rfl, hb⟩
  have HV2 := hide (HV1.out.below hb)
  clear hb HV1
  obtain ⟨c13, c14, c15, c16, c17, c18⟩ := HV2.out.at6 2 rfl
  obtain ⟨c19, c20, c21, c22, c23, c24⟩ := HV2.out.at6 1 rfl
  go_wp2_with fail
  clear c13 c14 c15 c16 c17 c18 c19 c20 c21 c22 c23 c24
  refine (Hh3.out _ (HV2.out.law HW.out)).mono ?_
  rintro e w3 ⟨rfl, hb⟩
  have HV3 := hide (HV2.out.below hb)
  clear hb HV2
  obtain ⟨c25, c26, c27, c28, c29, c30⟩ := HV3.out.at6 1 rfl
  obtain ⟨c31, c32, c33, c34, c35, c36⟩ := HV3.out.at6 2 rfl
  go_wp2_with fail
  clear c25 c26 c27 c28 c29 c30 c31 c32 c33 c34 c35 c36
  refine (Hh4.out _ (HV3.out.law HW.out)).mono ?_
  rintro e w4 ⟨rfl, hb⟩
  have HV4 := hide (HV3.out.below hb)
  clear hb HV3
  obtain ⟨c37, c38, c39, c40, c41, c42⟩ := HV4.out.at6 2 rfl
  go_wp2_with fail
  clear c37 c38 c39 c40 c41 c42
  refine (Hh5.out _ (HV4.out.law HW.out)).mono ?_
  rintro e w5 ⟨rfl, hb⟩
  have HV5 := hide (HV4.out.below hb)
  clear hb HV4
  obtain ⟨c43, c44, c45, c46, c47, c48⟩ := HV5.out.at6 2 rfl
  obtain ⟨c49, c50, c51, c52, c53, c54⟩ := HV5.out.at6 0 rfl
  obtain ⟨fc49, fc50, fc51, fc52, fc53, fc54⟩ := HV5.out.fz6 0 rfl
  have HV5_ := hide (HV5.out.put6 0 rfl (.bool ga) (.string sa) (.string ta) (.bool gb) (.string sb) (.string tb))
  clear HV5
  go_wp2_with fail
  clear c43 c44 c45 c46 c47 c48 c49 c50 c51 c52 c53 c54 fc49 fc50 fc51 fc52 fc53 fc54
  obtain ⟨d0, d1, d2, d3, d4, d5⟩ := HV5_.out.at6 0 rfl
  exact bodyPost_ret (v := .tuple #[.agg #[.bool ga, .string sa, .string ta, .bool gb, .string sb, .string tb], .bool true]) (by simp [results, Tryz.results18, go_sem, d0, d1, d2, d3, d4, d5]) rfl ⟨rfl, HV5_.out.bel⟩
set_option maxHeartbeats 4000000 in
set_option maxRecDepth 100000 in
theorem rv_meet3fff (ga : Bool) (sa ta : ByteArray) (gb : Bool) (sb tb : ByteArray) (gc : Bool) (sc tc : ByteArray) (gd : Bool) (sd td : ByteArray) (z y : Int) (w : World) (h1 : JV ga sa ta gb sb tb true) (h2 : JV gc sc tc gd sd td true) (h3 : YC gc sc tc ga sa ta z) (h4 : YC gd sd td gb sb tb y) (f1 : decide (0 < z) = false) (f2 : decide (y < 0) = false) (h5 : JV ga sa ta gb sb tb false) (hw : LawW w) :
    Calls Tryz.prog 18 #[.agg #[.bool ga, .string sa, .string ta, .bool gb, .string sb, .string tb], .agg #[.bool gc, .string sc, .string tc, .bool gd, .string sd, .string td]] w fun e w' => e = .returned (.tuple #[.agg #[.bool false, .string ⟨#[]⟩, .string ⟨#[]⟩, .bool false, .string ⟨#[]⟩, .string ⟨#[]⟩], .bool false]) ∧ Below w.heap.size w w' := by
  unfold JV at h1
  have Hh1 := hide h1
  unfold JV at h2
  have Hh2 := hide h2
  unfold YC at h3
  have Hh3 := hide h3
  unfold YC at h4
  have Hh4 := hide h4
  unfold JV at h5
  have Hh5 := hide h5
  have HW := hide hw
  have HV0 : Hid (VB w w []) := VB.nil w
  clear h1 h2 h3 h4 h5 hw 
  go_enter Tryz.func18, Tryz.ntmps18
  have HV0_ := hide (HV0.out.push6 (b := w.heap.size) (by simp) (.bool ga) (.string sa) (.string ta) (.bool gb) (.string sb) (.string tb) 26)
  clear HV0
  have HV0__ := hide (HV0_.out.push6 (b := w.heap.size + 1) (by simp) (.bool gc) (.string sc) (.string tc) (.bool gd) (.string sd) (.string td) 26)
  clear HV0_
  have HV0___ := hide (HV0__.out.push6 (b := w.heap.size + 2) (by simp) (.bool false) (.string ⟨#[]⟩) (.string ⟨#[]⟩) (.bool false) (.string ⟨#[]⟩) (.string ⟨#[]⟩) 26)
  clear HV0__
  obtain ⟨c1, c2, c3, c4, c5, c6⟩ := HV0___.out.at6 2 rfl
  go_wp2_with fail
  clear c1 c2 c3 c4 c5 c6
  refine (Hh1.out _ (HV0___.out.law HW.out)).mono ?_
  rintro e w1 ⟨rfl, hb⟩
  have HV1 := hide (HV0___.out.below hb)
  clear hb HV0___
  obtain ⟨c7, c8, c9, c10, c11, c12⟩ := HV1.out.at6 1 rfl
  go_wp2_with fail
  clear c7 c8 c9 c10 c11 c12
  refine (Hh2.out _ (HV1.out.law HW.out)).mono ?_
  rintro e w2 ⟨rfl, hb⟩
  have HV2 := hide (HV1.out.below hb)
  clear hb HV1
  obtain ⟨c13, c14, c15, c16, c17, c18⟩ := HV2.out.at6 2 rfl
  obtain ⟨c19, c20, c21, c22, c23, c24⟩ := HV2.out.at6 1 rfl
  go_wp2_with fail
  clear c13 c14 c15 c16 c17 c18 c19 c20 c21 c22 c23 c24
  refine (Hh3.out _ (HV2.out.law HW.out)).mono ?_
  rintro e w3 ⟨rfl, hb⟩
  have HV3 := hide (HV2.out.below hb)
  clear hb HV2
  obtain ⟨c25, c26, c27, c28, c29, c30⟩ := HV3.out.at6 1 rfl
  obtain ⟨c31, c32, c33, c34, c35, c36⟩ := HV3.out.at6 2 rfl
  go_wp2_with fail
  clear c25 c26 c27 c28 c29 c30 c31 c32 c33 c34 c35 c36
  refine (Hh4.out _ (HV3.out.law HW.out)).mono ?_
  rintro e w4 ⟨rfl, hb⟩
  have HV4 := hide (HV3.out.below hb)
  clear hb HV3
  obtain ⟨c37, c38, c39, c40, c41, c42⟩ := HV4.out.at6 2 rfl
  go_wp2_with fail
  clear c37 c38 c39 c40 c41 c42
  refine (Hh5.out _ (HV4.out.law HW.out)).mono ?_
  rintro e w5 ⟨rfl, hb⟩
  have HV5 := hide (HV4.out.below hb)
  clear hb HV4
  obtain ⟨c43, c44, c45, c46, c47, c48⟩ := HV5.out.at6 2 rfl
  obtain ⟨c49, c50, c51, c52, c53, c54⟩ := HV5.out.at6 0 rfl
  obtain ⟨fc49, fc50, fc51, fc52, fc53, fc54⟩ := HV5.out.fz6 0 rfl
  have HV5_ := hide (HV5.out.put6 0 rfl (.bool false) (.string ⟨#[]⟩) (.string ⟨#[]⟩) (.bool false) (.string ⟨#[]⟩) (.string ⟨#[]⟩))
  clear HV5
  go_wp2_with fail
  clear c43 c44 c45 c46 c47 c48 c49 c50 c51 c52 c53 c54 fc49 fc50 fc51 fc52 fc53 fc54
  obtain ⟨d0, d1, d2, d3, d4, d5⟩ := HV5_.out.at6 0 rfl
  exact bodyPost_ret (v := .tuple #[.agg #[.bool false, .string ⟨#[]⟩, .string ⟨#[]⟩, .bool false, .string ⟨#[]⟩, .string ⟨#[]⟩], .bool false]) (by simp [results, Tryz.results18, go_sem, d0, d1, d2, d3, d4, d5]) rfl ⟨rfl, HV5_.out.bel⟩
end Go.Proofs.YtbojlmnajndleaaGreatDoor
