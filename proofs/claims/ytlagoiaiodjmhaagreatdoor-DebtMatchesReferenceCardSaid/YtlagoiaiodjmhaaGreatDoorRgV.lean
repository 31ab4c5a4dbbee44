/- RgA, RgB, RgC, RgD in one text. -/
import Derived.Test.YtlagoiaiodjmhaaGreatDoorRfW
import Derived.Test.YtlagoiaiodjmhaaGreatDoorPkJ
import Derived.BigGuard
set_option linter.unusedVariables false
set_option linter.unusedSimpArgs false
/- observatoryref04: Valid, lowest, Of, Make, Minus. -/
namespace Go.Proofs.YtlagoiaiodjmhaaGreatDoor
open Go.RowKit

def RV (s : ByteArray) (b : Bool) : Prop := ∀ W, Calls Tryz.prog 74 #[.string s] W fun e w' => e = .returned (.bool b) ∧ Below W.heap.size W w'
def R2 (F : FuncId) (a b s : ByteArray) : Prop := ∀ W, Calls Tryz.prog F #[.string a, .string b] W fun e w' => e = .returned (.tuple #[.string s, .int .i64 0]) ∧ Below W.heap.size W w'
def R3 (F : FuncId) (a b s t : ByteArray) : Prop := ∀ W, Calls Tryz.prog F #[.string a, .string b] W fun e w' => e = .returned (.tuple #[.string s, .string t, .int .i64 0]) ∧ Below W.heap.size W w'
/-- What the functions of the reference return. -/
def QV (g : Bool) (s t : ByteArray) (b : Bool) : Prop := ∀ W, Calls Tryz.prog 54 #[.agg #[.bool g, .string s, .string t]] W fun e w' => e = .returned (.bool b) ∧ Below W.heap.size W w'
def QL (g : Bool) (s t : ByteArray) (g' : Bool) (s' t' : ByteArray) : Prop := ∀ W, Calls Tryz.prog 52 #[.bool g, .string s, .string t] W fun e w' => e = .returned (.agg #[.bool g', .string s', .string t']) ∧ Below W.heap.size W w'
def Q2 (F : FuncId) (ga : Bool) (sa ta : ByteArray) (gb : Bool) (sb tb : ByteArray) (g : Bool) (s t : ByteArray) (k : Int) : Prop := ∀ W, Calls Tryz.prog F #[.agg #[.bool ga, .string sa, .string ta], .agg #[.bool gb, .string sb, .string tb]] W fun e w' => e = .returned (.tuple #[.agg #[.bool g, .string s, .string t], .int .i64 k]) ∧ Below W.heap.size W w'
def RA (n : Int) (s : ByteArray) : Prop := ∀ W, Calls Tryz.prog 53 #[.int .i64 n] W fun e w' => e = .returned (.string s) ∧ Below W.heap.size W w'

set_option maxHeartbeats 4000000 in
set_option maxRecDepth 100000 in
theorem r4_valid1 (g : Bool) (s t : ByteArray) (w : World) (h1 : RV s false) :
    Calls Tryz.prog 54 #[.agg #[.bool g, .string s, .string t]] w fun e w' => e = .returned (.bool false) ∧ Below w.heap.size w w' := by
  unfold RV at h1
  have Hh1 := hide h1
  have HB0 : Hid (Below w.heap.size w w) := Below.refl _ _
  have HV0 : Hid (VL w []) := VL.nil w
  clear h1 
  go_enter Tryz.func54, Tryz.ntmps54
  have HV0_ := hide (HV0.out.pushAt (b := w.heap.size) (by simp) g s t 57)
  have HB0_ := hide (bAlloc HB0.out (.cells #[.bool g, .string s, .string t] 57))
  clear HB0 HV0
  obtain ⟨c3, c4, c5⟩ := VL.cells3 (b := w.heap.size) (g := g) (s := s) (t := t) HV0_.out (by simp)
  go_wp2_with fail
  clear c3 c4 c5
  refine (Hh1.out _).mono ?_
  rintro e w1 ⟨rfl, hb⟩
  have HB1 := hide (bStep HB0_.out hb)
  have HV1 := hide (HV0_.out.below hb)
  clear hb HB0_ HV0_
  go_wp2_with fail
  go_ret
  exact ⟨rfl, HB1.out⟩
set_option maxHeartbeats 4000000 in
set_option maxRecDepth 100000 in
theorem r4_valid2 (g : Bool) (s t : ByteArray) (w : World) (h1 : RV s true) (h2 : RV t false) :
    Calls Tryz.prog 54 #[.agg #[.bool g, .string s, .string t]] w fun e w' => e = .returned (.bool false) ∧ Below w.heap.size w w' := by
  unfold RV at h1
  have Hh1 := hide h1
  unfold RV at h2
  have Hh2 := hide h2
  have HB0 : Hid (Below w.heap.size w w) := Below.refl _ _
  have HV0 : Hid (VL w []) := VL.nil w
  clear h1 h2 
  go_enter Tryz.func54, Tryz.ntmps54
  have HV0_ := hide (HV0.out.pushAt (b := w.heap.size) (by simp) g s t 57)
  have HB0_ := hide (bAlloc HB0.out (.cells #[.bool g, .string s, .string t] 57))
  clear HB0 HV0
  obtain ⟨c3, c4, c5⟩ := VL.cells3 (b := w.heap.size) (g := g) (s := s) (t := t) HV0_.out (by simp)
  go_wp2_with fail
  clear c3 c4 c5
  refine (Hh1.out _).mono ?_
  rintro e w1 ⟨rfl, hb⟩
  have HB1 := hide (bStep HB0_.out hb)
  have HV1 := hide (HV0_.out.below hb)
  clear hb HB0_ HV0_
  obtain ⟨c6, c7, c8⟩ := VL.cells3 (b := w.heap.size) (g := g) (s := s) (t := t) HV1.out (by simp)
  go_wp2_with fail
  clear c6 c7 c8
  refine (Hh2.out _).mono ?_
  rintro e w2 ⟨rfl, hb⟩
  have HB2 := hide (bStep HB1.out hb)
  have HV2 := hide (HV1.out.below hb)
  clear hb HB1 HV1
  go_wp2_with fail
  go_ret
  exact ⟨rfl, HB2.out⟩
set_option maxHeartbeats 4000000 in
set_option maxRecDepth 100000 in
theorem r4_valid3 (g : Bool) (s : ByteArray) (w : World) (h1 : RV s true) (h2 : RV ⟨#[48]⟩ true) :
    Calls Tryz.prog 54 #[.agg #[.bool g, .string s, .string ⟨#[48]⟩]] w fun e w' => e = .returned (.bool false) ∧ Below w.heap.size w w' := by
  unfold RV at h1
  have Hh1 := hide h1
  unfold RV at h2
  have Hh2 := hide h2
  have HB0 : Hid (Below w.heap.size w w) := Below.refl _ _
  have HV0 : Hid (VL w []) := VL.nil w
  clear h1 h2 
  go_enter Tryz.func54, Tryz.ntmps54
  have HV0_ := hide (HV0.out.pushAt (b := w.heap.size) (by simp) g s ⟨#[48]⟩ 57)
  have HB0_ := hide (bAlloc HB0.out (.cells #[.bool g, .string s, .string ⟨#[48]⟩] 57))
  clear HB0 HV0
  obtain ⟨c3, c4, c5⟩ := VL.cells3 (b := w.heap.size) (g := g) (s := s) (t := ⟨#[48]⟩) HV0_.out (by simp)
  go_wp2_with fail
  clear c3 c4 c5
  refine (Hh1.out _).mono ?_
  rintro e w1 ⟨rfl, hb⟩
  have HB1 := hide (bStep HB0_.out hb)
  have HV1 := hide (HV0_.out.below hb)
  clear hb HB0_ HV0_
  obtain ⟨c6, c7, c8⟩ := VL.cells3 (b := w.heap.size) (g := g) (s := s) (t := ⟨#[48]⟩) HV1.out (by simp)
  go_wp2_with fail
  clear c6 c7 c8
  refine (Hh2.out _).mono ?_
  rintro e w2 ⟨rfl, hb⟩
  have HB2 := hide (bStep HB1.out hb)
  have HV2 := hide (HV1.out.below hb)
  clear hb HB1 HV1
  obtain ⟨c9, c10, c11⟩ := VL.cells3 (b := w.heap.size) (g := g) (s := s) (t := ⟨#[48]⟩) HV2.out (by simp)
  go_wp2_with fail
  clear c9 c10 c11
  go_ret
  exact ⟨rfl, HB2.out⟩
set_option maxHeartbeats 4000000 in
set_option maxRecDepth 100000 in
theorem r4_valid5 (g : Bool) (s t u : ByteArray) (b : Bool) (w : World) (h1 : RV s true) (h2 : RV t true) (h3 : R2 72 s t u) (f1 : (t.toList == [48]) = false) (f2 : (s.toList == [48]) = false) (f3 : (u.toList == [49]) = b) :
    Calls Tryz.prog 54 #[.agg #[.bool g, .string s, .string t]] w fun e w' => e = .returned (.bool b) ∧ Below w.heap.size w w' := by
  unfold RV at h1
  have Hh1 := hide h1
  unfold RV at h2
  have Hh2 := hide h2
  unfold R2 at h3
  have Hh3 := hide h3
  have HB0 : Hid (Below w.heap.size w w) := Below.refl _ _
  have HV0 : Hid (VL w []) := VL.nil w
  clear h1 h2 h3 
  go_enter Tryz.func54, Tryz.ntmps54
  have HV0_ := hide (HV0.out.pushAt (b := w.heap.size) (by simp) g s t 57)
  have HB0_ := hide (bAlloc HB0.out (.cells #[.bool g, .string s, .string t] 57))
  clear HB0 HV0
  obtain ⟨c3, c4, c5⟩ := VL.cells3 (b := w.heap.size) (g := g) (s := s) (t := t) HV0_.out (by simp)
  go_wp2_with fail
  clear c3 c4 c5
  refine (Hh1.out _).mono ?_
  rintro e w1 ⟨rfl, hb⟩
  have HB1 := hide (bStep HB0_.out hb)
  have HV1 := hide (HV0_.out.below hb)
  clear hb HB0_ HV0_
  obtain ⟨c6, c7, c8⟩ := VL.cells3 (b := w.heap.size) (g := g) (s := s) (t := t) HV1.out (by simp)
  go_wp2_with fail
  clear c6 c7 c8
  refine (Hh2.out _).mono ?_
  rintro e w2 ⟨rfl, hb⟩
  have HB2 := hide (bStep HB1.out hb)
  have HV2 := hide (HV1.out.below hb)
  clear hb HB1 HV1
  obtain ⟨c9, c10, c11⟩ := VL.cells3 (b := w.heap.size) (g := g) (s := s) (t := t) HV2.out (by simp)
  go_wp2_with fail
  clear c9 c10 c11
  refine (Hh3.out _).mono ?_
  rintro e w3 ⟨rfl, hb⟩
  have HB3 := hide (bStep HB2.out hb)
  have HV3 := hide (HV2.out.below hb)
  clear hb HB2 HV2
  go_wp2_with fail
  go_ret
  exact ⟨rfl, HB3.out⟩
set_option maxHeartbeats 4000000 in
set_option maxRecDepth 100000 in
theorem r4_valid4a (t : ByteArray) (w : World) (h1 : RV ⟨#[48]⟩ true) (h2 : RV t true) (f1 : (t.toList == [48]) = false) (f2 : (t.toList == [49]) = true) :
    Calls Tryz.prog 54 #[.agg #[.bool false, .string ⟨#[48]⟩, .string t]] w fun e w' => e = .returned (.bool true) ∧ Below w.heap.size w w' := by
  unfold RV at h1
  have Hh1 := hide h1
  unfold RV at h2
  have Hh2 := hide h2
  have HB0 : Hid (Below w.heap.size w w) := Below.refl _ _
  have HV0 : Hid (VL w []) := VL.nil w
  clear h1 h2 
  go_enter Tryz.func54, Tryz.ntmps54
  have HV0_ := hide (HV0.out.pushAt (b := w.heap.size) (by simp) false ⟨#[48]⟩ t 57)
  have HB0_ := hide (bAlloc HB0.out (.cells #[.bool false, .string ⟨#[48]⟩, .string t] 57))
  clear HB0 HV0
  obtain ⟨c3, c4, c5⟩ := VL.cells3 (b := w.heap.size) (g := false) (s := ⟨#[48]⟩) (t := t) HV0_.out (by simp)
  go_wp2_with fail
  clear c3 c4 c5
  refine (Hh1.out _).mono ?_
  rintro e w1 ⟨rfl, hb⟩
  have HB1 := hide (bStep HB0_.out hb)
  have HV1 := hide (HV0_.out.below hb)
  clear hb HB0_ HV0_
  obtain ⟨c6, c7, c8⟩ := VL.cells3 (b := w.heap.size) (g := false) (s := ⟨#[48]⟩) (t := t) HV1.out (by simp)
  go_wp2_with fail
  clear c6 c7 c8
  refine (Hh2.out _).mono ?_
  rintro e w2 ⟨rfl, hb⟩
  have HB2 := hide (bStep HB1.out hb)
  have HV2 := hide (HV1.out.below hb)
  clear hb HB1 HV1
  obtain ⟨c9, c10, c11⟩ := VL.cells3 (b := w.heap.size) (g := false) (s := ⟨#[48]⟩) (t := t) HV2.out (by simp)
  go_wp2_with fail
  clear c9 c10 c11
  go_ret
  exact ⟨rfl, HB2.out⟩
set_option maxHeartbeats 4000000 in
set_option maxRecDepth 100000 in
theorem r4_valid4b (t : ByteArray) (w : World) (h1 : RV ⟨#[48]⟩ true) (h2 : RV t true) (f1 : (t.toList == [48]) = false) (f2 : (t.toList == [49]) = true) :
    Calls Tryz.prog 54 #[.agg #[.bool true, .string ⟨#[48]⟩, .string t]] w fun e w' => e = .returned (.bool false) ∧ Below w.heap.size w w' := by
  unfold RV at h1
  have Hh1 := hide h1
  unfold RV at h2
  have Hh2 := hide h2
  have HB0 : Hid (Below w.heap.size w w) := Below.refl _ _
  have HV0 : Hid (VL w []) := VL.nil w
  clear h1 h2 
  go_enter Tryz.func54, Tryz.ntmps54
  have HV0_ := hide (HV0.out.pushAt (b := w.heap.size) (by simp) true ⟨#[48]⟩ t 57)
  have HB0_ := hide (bAlloc HB0.out (.cells #[.bool true, .string ⟨#[48]⟩, .string t] 57))
  clear HB0 HV0
  obtain ⟨c3, c4, c5⟩ := VL.cells3 (b := w.heap.size) (g := true) (s := ⟨#[48]⟩) (t := t) HV0_.out (by simp)
  go_wp2_with fail
  clear c3 c4 c5
  refine (Hh1.out _).mono ?_
  rintro e w1 ⟨rfl, hb⟩
  have HB1 := hide (bStep HB0_.out hb)
  have HV1 := hide (HV0_.out.below hb)
  clear hb HB0_ HV0_
  obtain ⟨c6, c7, c8⟩ := VL.cells3 (b := w.heap.size) (g := true) (s := ⟨#[48]⟩) (t := t) HV1.out (by simp)
  go_wp2_with fail
  clear c6 c7 c8
  refine (Hh2.out _).mono ?_
  rintro e w2 ⟨rfl, hb⟩
  have HB2 := hide (bStep HB1.out hb)
  have HV2 := hide (HV1.out.below hb)
  clear hb HB1 HV1
  obtain ⟨c9, c10, c11⟩ := VL.cells3 (b := w.heap.size) (g := true) (s := ⟨#[48]⟩) (t := t) HV2.out (by simp)
  go_wp2_with fail
  clear c9 c10 c11
  go_ret
  exact ⟨rfl, HB2.out⟩
set_option maxHeartbeats 4000000 in
set_option maxRecDepth 100000 in
theorem r4_valid4c (t : ByteArray) (w : World) (h1 : RV ⟨#[48]⟩ true) (h2 : RV t true) (f1 : (t.toList == [48]) = false) (f2 : (t.toList == [49]) = false) :
    Calls Tryz.prog 54 #[.agg #[.bool false, .string ⟨#[48]⟩, .string t]] w fun e w' => e = .returned (.bool false) ∧ Below w.heap.size w w' := by
  unfold RV at h1
  have Hh1 := hide h1
  unfold RV at h2
  have Hh2 := hide h2
  have HB0 : Hid (Below w.heap.size w w) := Below.refl _ _
  have HV0 : Hid (VL w []) := VL.nil w
  clear h1 h2 
  go_enter Tryz.func54, Tryz.ntmps54
  have HV0_ := hide (HV0.out.pushAt (b := w.heap.size) (by simp) false ⟨#[48]⟩ t 57)
  have HB0_ := hide (bAlloc HB0.out (.cells #[.bool false, .string ⟨#[48]⟩, .string t] 57))
  clear HB0 HV0
  obtain ⟨c3, c4, c5⟩ := VL.cells3 (b := w.heap.size) (g := false) (s := ⟨#[48]⟩) (t := t) HV0_.out (by simp)
  go_wp2_with fail
  clear c3 c4 c5
  refine (Hh1.out _).mono ?_
  rintro e w1 ⟨rfl, hb⟩
  have HB1 := hide (bStep HB0_.out hb)
  have HV1 := hide (HV0_.out.below hb)
  clear hb HB0_ HV0_
  obtain ⟨c6, c7, c8⟩ := VL.cells3 (b := w.heap.size) (g := false) (s := ⟨#[48]⟩) (t := t) HV1.out (by simp)
  go_wp2_with fail
  clear c6 c7 c8
  refine (Hh2.out _).mono ?_
  rintro e w2 ⟨rfl, hb⟩
  have HB2 := hide (bStep HB1.out hb)
  have HV2 := hide (HV1.out.below hb)
  clear hb HB1 HV1
  obtain ⟨c9, c10, c11⟩ := VL.cells3 (b := w.heap.size) (g := false) (s := ⟨#[48]⟩) (t := t) HV2.out (by simp)
  go_wp2_with fail
  clear c9 c10 c11
  go_ret
  exact ⟨rfl, HB2.out⟩
set_option maxHeartbeats 4000000 in
set_option maxRecDepth 100000 in
theorem r4_valid4d (t : ByteArray) (w : World) (h1 : RV ⟨#[48]⟩ true) (h2 : RV t true) (f1 : (t.toList == [48]) = false) (f2 : (t.toList == [49]) = false) :
    Calls Tryz.prog 54 #[.agg #[.bool true, .string ⟨#[48]⟩, .string t]] w fun e w' => e = .returned (.bool false) ∧ Below w.heap.size w w' := by
  unfold RV at h1
  have Hh1 := hide h1
  unfold RV at h2
  have Hh2 := hide h2
  have HB0 : Hid (Below w.heap.size w w) := Below.refl _ _
  have HV0 : Hid (VL w []) := VL.nil w
  clear h1 h2 
  go_enter Tryz.func54, Tryz.ntmps54
  have HV0_ := hide (HV0.out.pushAt (b := w.heap.size) (by simp) true ⟨#[48]⟩ t 57)
  have HB0_ := hide (bAlloc HB0.out (.cells #[.bool true, .string ⟨#[48]⟩, .string t] 57))
  clear HB0 HV0
  obtain ⟨c3, c4, c5⟩ := VL.cells3 (b := w.heap.size) (g := true) (s := ⟨#[48]⟩) (t := t) HV0_.out (by simp)
  go_wp2_with fail
  clear c3 c4 c5
  refine (Hh1.out _).mono ?_
  rintro e w1 ⟨rfl, hb⟩
  have HB1 := hide (bStep HB0_.out hb)
  have HV1 := hide (HV0_.out.below hb)
  clear hb HB0_ HV0_
  obtain ⟨c6, c7, c8⟩ := VL.cells3 (b := w.heap.size) (g := true) (s := ⟨#[48]⟩) (t := t) HV1.out (by simp)
  go_wp2_with fail
  clear c6 c7 c8
  refine (Hh2.out _).mono ?_
  rintro e w2 ⟨rfl, hb⟩
  have HB2 := hide (bStep HB1.out hb)
  have HV2 := hide (HV1.out.below hb)
  clear hb HB1 HV1
  obtain ⟨c9, c10, c11⟩ := VL.cells3 (b := w.heap.size) (g := true) (s := ⟨#[48]⟩) (t := t) HV2.out (by simp)
  go_wp2_with fail
  clear c9 c10 c11
  go_ret
  exact ⟨rfl, HB2.out⟩
theorem r4_zero (w : World) : Calls Tryz.prog 71 #[] w fun e w' => e = .returned (.agg #[.bool false, .string ⟨#[48]⟩, .string ⟨#[49]⟩]) ∧ Below w.heap.size w w' := by
  go_enter Tryz.func71, Tryz.ntmps71
  go_wp2_with fail
  exact bodyPost_ret (v := .agg #[.bool false, .string ⟨#[48]⟩, .string ⟨#[49]⟩]) (by simp [results, Tryz.results71, go_sem]) rfl ⟨rfl, (Below.refl _ _).alloc (Nat.le_refl _) _⟩
set_option maxHeartbeats 4000000 in
set_option maxRecDepth 100000 in
theorem r4_lowest0 (g : Bool) (t : ByteArray) (w : World)  :
    Calls Tryz.prog 52 #[.bool g, .string ⟨#[48]⟩, .string t] w fun e w' => e = .returned (.agg #[.bool false, .string ⟨#[48]⟩, .string ⟨#[49]⟩]) ∧ Below w.heap.size w w' := by
  have HB0 : Hid (Below w.heap.size w w) := Below.refl _ _
  have HV0 : Hid (VL w []) := VL.nil w
  go_enter Tryz.func52, Tryz.ntmps52
  have HV0_ := hide (HV0.out.pushAt (b := w.heap.size) (by simp) false ⟨#[]⟩ ⟨#[]⟩ 57)
  have HB0_ := hide (bAlloc HB0.out (.cells #[.bool false, .string ⟨#[]⟩, .string ⟨#[]⟩] 57))
  clear HB0 HV0
  go_wp2_with fail
  refine (r4_zero _).mono ?_
  rintro e w1 ⟨rfl, hb⟩
  have HB1 := hide (bStep HB0_.out hb)
  have HV1 := hide (HV0_.out.below hb)
  clear hb HB0_ HV0_
  obtain ⟨k1_0, k1_1, k1_2, k1_3, k1_4, k1_5⟩ := VL.get (b := w.heap.size) (g := false) (s := ⟨#[]⟩) (t := ⟨#[]⟩) HV1.out (by simp)
  go_wp2_with fail
  clear k1_0 k1_1 k1_2 k1_3 k1_4 k1_5
  obtain ⟨d0, d1, d2, _, _, _⟩ := (VL.get (b := w.heap.size) (g := false) (s := ⟨#[]⟩) (t := ⟨#[]⟩) HV1.out (by simp)).set3 false ⟨#[48]⟩ ⟨#[49]⟩
  exact bodyPost_ret (v := .agg #[.bool false, .string ⟨#[48]⟩, .string ⟨#[49]⟩]) (by simp [results, Tryz.results52, go_sem, d0, d1, d2]) rfl ⟨rfl, bset3 HB1.out (by omega) _ _ _⟩
set_option maxHeartbeats 4000000 in
set_option maxRecDepth 100000 in
theorem r4_lowest1 (g : Bool) (s t u s1 r1 t1 r2 : ByteArray) (w : World) (h1 : R2 72 s t u) (h2 : R3 73 s u s1 r1) (h3 : R3 73 t u t1 r2) (f1 : (s.toList == [48]) = false) :
    Calls Tryz.prog 52 #[.bool g, .string s, .string t] w fun e w' => e = .returned (.agg #[.bool g, .string s1, .string t1]) ∧ Below w.heap.size w w' := by
  unfold R2 at h1
  have Hh1 := hide h1
  unfold R3 at h2
  have Hh2 := hide h2
  unfold R3 at h3
  have Hh3 := hide h3
  have HB0 : Hid (Below w.heap.size w w) := Below.refl _ _
  have HV0 : Hid (VL w []) := VL.nil w
  clear h1 h2 h3 
  go_enter Tryz.func52, Tryz.ntmps52
  have HV0_ := hide (HV0.out.pushAt (b := w.heap.size) (by simp) false ⟨#[]⟩ ⟨#[]⟩ 57)
  have HB0_ := hide (bAlloc HB0.out (.cells #[.bool false, .string ⟨#[]⟩, .string ⟨#[]⟩] 57))
  clear HB0 HV0
  go_wp2_with fail
  refine (Hh1.out _).mono ?_
  rintro e w1 ⟨rfl, hb⟩
  have HB1 := hide (bStep HB0_.out hb)
  have HV1 := hide (HV0_.out.below hb)
  clear hb HB0_ HV0_
  go_wp2_with fail
  refine (Hh2.out _).mono ?_
  rintro e w2 ⟨rfl, hb⟩
  have HB2 := hide (bStep HB1.out hb)
  have HV2 := hide (HV1.out.below hb)
  clear hb HB1 HV1
  go_wp2_with fail
  refine (Hh3.out _).mono ?_
  rintro e w3 ⟨rfl, hb⟩
  have HB3 := hide (bStep HB2.out hb)
  have HV3 := hide (HV2.out.below hb)
  clear hb HB2 HV2
  obtain ⟨k1_0, k1_1, k1_2, k1_3, k1_4, k1_5⟩ := VL.get (b := w.heap.size) (g := false) (s := ⟨#[]⟩) (t := ⟨#[]⟩) HV3.out (by simp)
  go_wp2_with fail
  clear k1_0 k1_1 k1_2 k1_3 k1_4 k1_5
  obtain ⟨d0, d1, d2, _, _, _⟩ := (VL.get (b := w.heap.size) (g := false) (s := ⟨#[]⟩) (t := ⟨#[]⟩) HV3.out (by simp)).set3 g s1 t1
  exact bodyPost_ret (v := .agg #[.bool g, .string s1, .string t1]) (by simp [results, Tryz.results52, go_sem, d0, d1, d2]) rfl ⟨rfl, bset3 HB3.out (by omega) _ _ _⟩
theorem rv_t {s : ByteArray} (hs : s.size ≤ maxLen) (h : vldN s = true) : RV s true := fun W => (ref_vt s W hs h).mono fun _ _ ⟨a, b⟩ => ⟨a, by rw [← b]; exact Below.refl _ _⟩
theorem rv_f {s : ByteArray} (hs : s.size ≤ maxLen) (h : vldN s = false) : RV s false := fun W => (ref_vf s W hs h).mono fun _ _ ⟨a, b⟩ => ⟨a, by rw [← b]; exact Below.refl _ _⟩
theorem cap999 {n : Nat} (h : n < capK 999) : n < capN := Nat.lt_of_lt_of_le h (capK_le (by decide))
theorem r2_gcd {x y : Nat} (hx : x < capK 999) (hy : y < capK 999) : R2 72 (natS x) (natS y) (natS (Nat.gcd x y)) := fun W => ref_Gcd x y W hx hy
theorem r3_div {x y : Nat} (hx : x < capN) (hy : y < capK 999) (h0 : 0 < y) : R3 73 (natS x) (natS y) (natS (x / y)) (natS (x % y)) := fun W => ref_Div x y W hx hy h0
theorem size_lt999 {n : Nat} (h : (natS n).size ≤ 999) : n < capK 999 := (capK_len (by decide)).1 (by rw [← natS_size]; exact h)
theorem is48 {n : Nat} (h : 0 < n) : ((natS n).toList == [48]) = false := str_ne (t := ⟨#[48]⟩) (natS_ne_zero h) rfl
theorem is49 (n : Nat) : ((natS n).toList == [49]) = decide (n = 1) := by
  by_cases e : n = 1
  · rw [decide_eq_true e]; exact str_eq (by rw [e, natS_one])
  · rw [decide_eq_false e]; exact str_ne (t := ⟨#[49]⟩) (fun h => e (natS_inj (h.trans natS_one.symm))) rfl
/-- Valid of the reference. -/
theorem r4_valid (g : Bool) (s t : ByteArray) (hs : s.size ≤ 999) (ht : t.size ≤ 999) : QV g s t (vldR g s t) := fun W => by
  have ms : s.size ≤ maxLen := by unfold maxLen; omega
  have mt : t.size ≤ maxLen := by unfold maxLen; omega
  rcases Bool.eq_false_or_eq_true (vldN s) with v1 | v1
  · rcases Bool.eq_false_or_eq_true (vldN t) with v2 | v2
    · have h1 := rv_t ms v1
      have h2 := rv_t mt v2
      obtain ⟨n, hn, rfl⟩ := vldN_obtain v1
      obtain ⟨d, hd, rfl⟩ := vldN_obtain v2
      rw [vldR_nat hn hd]
      by_cases hd0 : d = 0
      · subst hd0
        rw [natS_zero] at h2 ⊢
        rw [decide_eq_false (by simp)]
        exact r4_valid3 g _ W h1 h2
      · rw [decide_eq_true hd0, Bool.true_and]
        have fd := is48 (n := d) (by omega)
        by_cases hn0 : n = 0
        · subst hn0
          rw [if_pos rfl, natS_zero] at *
          have f1 := is49 d
          rcases Bool.eq_false_or_eq_true (decide (d = 1)) with hh | hh
          · rw [hh] at f1 ⊢
            cases g
            · exact r4_valid4a _ W h1 h2 fd f1
            · exact r4_valid4b _ W h1 h2 fd f1
          · rw [hh] at f1 ⊢
            cases g
            · exact r4_valid4c _ W h1 h2 fd f1
            · exact r4_valid4d _ W h1 h2 fd f1
        · rw [if_neg hn0]
          exact r4_valid5 g _ _ _ _ W h1 h2 (r2_gcd (size_lt999 hs) (size_lt999 ht)) fd (is48 (by omega)) (is49 _)
    · rw [vldR_bad (.inr ⟨v1, v2⟩)]
      exact r4_valid2 g s t W (rv_t ms v1) (rv_f mt v2)
  · rw [vldR_bad (.inl v1)]
    exact r4_valid1 g s t W (rv_f ms v1)
theorem r4_lowest (g : Bool) {n d : Nat} (hn : n < capK 999) (hd : d < capK 999) (hd0 : 0 < d) {g' : Bool} {s' t' : ByteArray} (hq : IsQ (mkQ g n d) g' s' t') : QL g (natS n) (natS d) g' s' t' := fun W => by
  by_cases h0 : 0 < n
  · obtain ⟨hl, hv⟩ := lowest_eq (g := g) hd0 h0
    unfold IsQ at hq
    rw [← hv, mkQ_low_eq hl] at hq
    simp only [Value.agg.injEq, Array.mk.injEq, List.cons.injEq, Value.bool.injEq, Value.string.injEq, and_true] at hq
    obtain ⟨rfl, rfl, rfl⟩ := hq
    have hg0 : 0 < Nat.gcd n d := Nat.gcd_pos_of_pos_left _ h0
    have hgk : Nat.gcd n d < capK 999 := Nat.lt_of_le_of_lt (Nat.le_of_dvd h0 (Nat.gcd_dvd_left n d)) hn
    exact r4_lowest1 g _ _ _ _ _ _ _ W (r2_gcd hn hd) (r3_div (cap999 hn) hgk hg0) (r3_div (cap999 hd) hgk hg0) (is48 h0)
  · obtain rfl : n = 0 := by omega
    have e0 : mkQ g 0 d = 0 := by
      unfold mkQ; cases g <;> simp
    rw [e0] at hq
    unfold IsQ at hq
    rw [rqV_zero] at hq
    simp only [Value.agg.injEq, Array.mk.injEq, List.cons.injEq, Value.bool.injEq, Value.string.injEq, and_true] at hq
    obtain ⟨rfl, rfl, rfl⟩ := hq
    rw [natS_zero]
    exact r4_lowest0 g _ W
set_option maxHeartbeats 4000000 in
set_option maxRecDepth 100000 in
theorem r4_of0 (n : Int) (w : World)  :
    Calls Tryz.prog 37 #[.int .i64 n, .int .i64 0] w fun e w' => e = .returned (.tuple #[.agg #[.bool false, .string ⟨#[]⟩, .string ⟨#[]⟩], .int .i64 14]) ∧ Below w.heap.size w w' := by
  have HB0 : Hid (Below w.heap.size w w) := Below.refl _ _
  have HV0 : Hid (VL w []) := VL.nil w
  go_enter Tryz.func37, Tryz.ntmps37
  go_wp2_with fail
  exact bodyPost_ret (v := .tuple #[.agg #[.bool false, .string ⟨#[]⟩, .string ⟨#[]⟩], .int .i64 14]) (by simp [results, Tryz.results37, go_sem]) rfl ⟨rfl, bAlloc (Below.refl _ _) _⟩
set_option maxHeartbeats 4000000 in
set_option maxRecDepth 100000 in
theorem r4_of1 (n d : Int) (b1 b2 : Bool) (u v : ByteArray) (g : Bool) (s t : ByteArray) (w : World) (h1 : RA n u) (h2 : RA d v) (h3 : QL (b1 != b2) u v g s t) (f1 : decide (n < 0) = b1) (f2 : decide (d < 0) = b2) (f3 : (d == 0) = false) :
    Calls Tryz.prog 37 #[.int .i64 n, .int .i64 d] w fun e w' => e = .returned (.tuple #[.agg #[.bool g, .string s, .string t], .int .i64 0]) ∧ Below w.heap.size w w' := by
  unfold RA at h1
  have Hh1 := hide h1
  unfold RA at h2
  have Hh2 := hide h2
  unfold QL at h3
  have Hh3 := hide h3
  have HB0 : Hid (Below w.heap.size w w) := Below.refl _ _
  have HV0 : Hid (VL w []) := VL.nil w
  clear h1 h2 h3 
  go_enter Tryz.func37, Tryz.ntmps37
  have HV0_ := hide (HV0.out.pushAt (b := w.heap.size) (by simp) false ⟨#[]⟩ ⟨#[]⟩ 57)
  have HB0_ := hide (bAlloc HB0.out (.cells #[.bool false, .string ⟨#[]⟩, .string ⟨#[]⟩] 57))
  clear HB0 HV0
  go_wp2_with fail
  refine (Hh1.out _).mono ?_
  rintro e w1 ⟨rfl, hb⟩
  have HB1 := hide (bStep HB0_.out hb)
  have HV1 := hide (HV0_.out.below hb)
  clear hb HB0_ HV0_
  go_wp2_with fail
  refine (Hh2.out _).mono ?_
  rintro e w2 ⟨rfl, hb⟩
  have HB2 := hide (bStep HB1.out hb)
  have HV2 := hide (HV1.out.below hb)
  clear hb HB1 HV1
  go_wp2_with fail
  refine (Hh3.out _).mono ?_
  rintro e w3 ⟨rfl, hb⟩
  have HB3 := hide (bStep HB2.out hb)
  have HV3 := hide (HV2.out.below hb)
  clear hb HB2 HV2
  obtain ⟨k1_0, k1_1, k1_2, k1_3, k1_4, k1_5⟩ := VL.get (b := w.heap.size) (g := false) (s := ⟨#[]⟩) (t := ⟨#[]⟩) HV3.out (by simp)
  go_wp2_with fail
  clear k1_0 k1_1 k1_2 k1_3 k1_4 k1_5
  obtain ⟨d0, d1, d2, _, _, _⟩ := (VL.get (b := w.heap.size) (g := false) (s := ⟨#[]⟩) (t := ⟨#[]⟩) HV3.out (by simp)).set3 g s t
  exact bodyPost_ret (v := .tuple #[.agg #[.bool g, .string s, .string t], .int .i64 0]) (by simp [results, Tryz.results37, go_sem, d0, d1, d2]) rfl ⟨rfl, bset3 HB3.out (by omega) _ _ _⟩
end Go.Proofs.YtlagoiaiodjmhaaGreatDoor
/- observatoryref04: Add, Mul, Sub, Div. -/
namespace Go.Proofs.YtlagoiaiodjmhaaGreatDoor
open Go.RowKit

def RI (a b : ByteArray) (c : Int) : Prop := ∀ W, Calls Tryz.prog 57 #[.string a, .string b] W fun e w' => e = .returned (.int .i64 c) ∧ Below W.heap.size W w'

set_option maxHeartbeats 4000000 in
set_option maxRecDepth 100000 in
theorem r4_Add1 (ga : Bool) (sa ta : ByteArray) (gb : Bool) (sb tb : ByteArray) (w : World) (ha : QV ga sa ta false) :
    Calls Tryz.prog 38 #[.agg #[.bool ga, .string sa, .string ta], .agg #[.bool gb, .string sb, .string tb]] w fun e w' => e = .returned (.tuple #[.agg #[.bool false, .string ⟨#[]⟩, .string ⟨#[]⟩], .int .i64 1]) ∧ Below w.heap.size w w' := by
  unfold QV at ha
  have Hha := hide ha
  have HB0 : Hid (Below w.heap.size w w) := Below.refl _ _
  have HV0 : Hid (VL w []) := VL.nil w
  clear ha 
  go_enter Tryz.func38, Tryz.ntmps38
  have HV0_ := hide (HV0.out.pushAt (b := w.heap.size) (by simp) ga sa ta 57)
  have HB0_ := hide (bAlloc HB0.out (.cells #[.bool ga, .string sa, .string ta] 57))
  clear HB0 HV0
  have HV0__ := hide (HV0_.out.pushAt (b := w.heap.size + 1) (by simp) gb sb tb 57)
  have HB0__ := hide (bAlloc HB0_.out (.cells #[.bool gb, .string sb, .string tb] 57))
  clear HB0_ HV0_
  have HV0___ := hide (HV0__.out.pushAt (b := w.heap.size + 2) (by simp) false ⟨#[]⟩ ⟨#[]⟩ 57)
  have HB0___ := hide (bAlloc HB0__.out (.cells #[.bool false, .string ⟨#[]⟩, .string ⟨#[]⟩] 57))
  clear HB0__ HV0__
  obtain ⟨c3, c4, c5⟩ := VL.cells3 (b := w.heap.size) (g := ga) (s := sa) (t := ta) HV0___.out (by simp)
  go_wp2_with fail
  clear c3 c4 c5
  refine (Hha.out _).mono ?_
  rintro e w1 ⟨rfl, hb⟩
  have HB1 := hide (bStep HB0___.out hb)
  have HV1 := hide (HV0___.out.below hb)
  clear hb HB0___ HV0___
  obtain ⟨k1_0, k1_1, k1_2, k1_3, k1_4, k1_5⟩ := VL.get (b := w.heap.size + 2) (g := false) (s := ⟨#[]⟩) (t := ⟨#[]⟩) HV1.out (by simp)
  go_wp2_with fail
  clear k1_0 k1_1 k1_2 k1_3 k1_4 k1_5
  obtain ⟨d0, d1, d2, _, _, _⟩ := (VL.get (b := w.heap.size + 2) (g := false) (s := ⟨#[]⟩) (t := ⟨#[]⟩) HV1.out (by simp)).set3 false ⟨#[]⟩ ⟨#[]⟩
  exact bodyPost_ret (v := .tuple #[.agg #[.bool false, .string ⟨#[]⟩, .string ⟨#[]⟩], .int .i64 1]) (by simp [results, Tryz.results38, go_sem, d0, d1, d2]) rfl ⟨rfl, bset3 HB1.out (by omega) _ _ _⟩
set_option maxHeartbeats 4000000 in
set_option maxRecDepth 100000 in
theorem r4_Add2 (ga : Bool) (sa ta : ByteArray) (gb : Bool) (sb tb : ByteArray) (w : World) (ha : QV ga sa ta true) (hb : QV gb sb tb false) :
    Calls Tryz.prog 38 #[.agg #[.bool ga, .string sa, .string ta], .agg #[.bool gb, .string sb, .string tb]] w fun e w' => e = .returned (.tuple #[.agg #[.bool false, .string ⟨#[]⟩, .string ⟨#[]⟩], .int .i64 1]) ∧ Below w.heap.size w w' := by
  unfold QV at ha
  have Hha := hide ha
  unfold QV at hb
  have Hhb := hide hb
  have HB0 : Hid (Below w.heap.size w w) := Below.refl _ _
  have HV0 : Hid (VL w []) := VL.nil w
  clear ha hb 
  go_enter Tryz.func38, Tryz.ntmps38
  have HV0_ := hide (HV0.out.pushAt (b := w.heap.size) (by simp) ga sa ta 57)
  have HB0_ := hide (bAlloc HB0.out (.cells #[.bool ga, .string sa, .string ta] 57))
  clear HB0 HV0
  have HV0__ := hide (HV0_.out.pushAt (b := w.heap.size + 1) (by simp) gb sb tb 57)
  have HB0__ := hide (bAlloc HB0_.out (.cells #[.bool gb, .string sb, .string tb] 57))
  clear HB0_ HV0_
  have HV0___ := hide (HV0__.out.pushAt (b := w.heap.size + 2) (by simp) false ⟨#[]⟩ ⟨#[]⟩ 57)
  have HB0___ := hide (bAlloc HB0__.out (.cells #[.bool false, .string ⟨#[]⟩, .string ⟨#[]⟩] 57))
  clear HB0__ HV0__
  obtain ⟨c3, c4, c5⟩ := VL.cells3 (b := w.heap.size) (g := ga) (s := sa) (t := ta) HV0___.out (by simp)
  go_wp2_with fail
  clear c3 c4 c5
  refine (Hha.out _).mono ?_
  rintro e w1 ⟨rfl, hb⟩
  have HB1 := hide (bStep HB0___.out hb)
  have HV1 := hide (HV0___.out.below hb)
  clear hb HB0___ HV0___
  obtain ⟨c6, c7, c8⟩ := VL.cells3 (b := w.heap.size + 1) (g := gb) (s := sb) (t := tb) HV1.out (by simp)
  go_wp2_with fail
  clear c6 c7 c8
  refine (Hhb.out _).mono ?_
  rintro e w2 ⟨rfl, hb⟩
  have HB2 := hide (bStep HB1.out hb)
  have HV2 := hide (HV1.out.below hb)
  clear hb HB1 HV1
  obtain ⟨k1_0, k1_1, k1_2, k1_3, k1_4, k1_5⟩ := VL.get (b := w.heap.size + 2) (g := false) (s := ⟨#[]⟩) (t := ⟨#[]⟩) HV2.out (by simp)
  go_wp2_with fail
  clear k1_0 k1_1 k1_2 k1_3 k1_4 k1_5
  obtain ⟨d0, d1, d2, _, _, _⟩ := (VL.get (b := w.heap.size + 2) (g := false) (s := ⟨#[]⟩) (t := ⟨#[]⟩) HV2.out (by simp)).set3 false ⟨#[]⟩ ⟨#[]⟩
  exact bodyPost_ret (v := .tuple #[.agg #[.bool false, .string ⟨#[]⟩, .string ⟨#[]⟩], .int .i64 1]) (by simp [results, Tryz.results38, go_sem, d0, d1, d2]) rfl ⟨rfl, bset3 HB2.out (by omega) _ _ _⟩
set_option maxHeartbeats 4000000 in
set_option maxRecDepth 100000 in
theorem r4_Add3 (ga : Bool) (sa ta : ByteArray) (gb : Bool) (sb tb : ByteArray) (p q d n : ByteArray) (g : Bool) (s t : ByteArray) (w : World) (ha : QV ga sa ta true) (hb : QV gb sb tb true) (h1 : R2 55 sa tb p) (h2 : R2 55 sb ta q) (h3 : R2 55 ta tb d) (f1 : (ga == gb) = true) (h4 : R2 56 p q n) (h5 : QL ga n d g s t) :
    Calls Tryz.prog 38 #[.agg #[.bool ga, .string sa, .string ta], .agg #[.bool gb, .string sb, .string tb]] w fun e w' => e = .returned (.tuple #[.agg #[.bool g, .string s, .string t], .int .i64 0]) ∧ Below w.heap.size w w' := by
  unfold QV at ha
  have Hha := hide ha
  unfold QV at hb
  have Hhb := hide hb
  unfold R2 at h1
  have Hh1 := hide h1
  unfold R2 at h2
  have Hh2 := hide h2
  unfold R2 at h3
  have Hh3 := hide h3
  unfold R2 at h4
  have Hh4 := hide h4
  unfold QL at h5
  have Hh5 := hide h5
  have HB0 : Hid (Below w.heap.size w w) := Below.refl _ _
  have HV0 : Hid (VL w []) := VL.nil w
  clear ha hb h1 h2 h3 h4 h5 
  go_enter Tryz.func38, Tryz.ntmps38
  have HV0_ := hide (HV0.out.pushAt (b := w.heap.size) (by simp) ga sa ta 57)
  have HB0_ := hide (bAlloc HB0.out (.cells #[.bool ga, .string sa, .string ta] 57))
  clear HB0 HV0
  have HV0__ := hide (HV0_.out.pushAt (b := w.heap.size + 1) (by simp) gb sb tb 57)
  have HB0__ := hide (bAlloc HB0_.out (.cells #[.bool gb, .string sb, .string tb] 57))
  clear HB0_ HV0_
  have HV0___ := hide (HV0__.out.pushAt (b := w.heap.size + 2) (by simp) false ⟨#[]⟩ ⟨#[]⟩ 57)
  have HB0___ := hide (bAlloc HB0__.out (.cells #[.bool false, .string ⟨#[]⟩, .string ⟨#[]⟩] 57))
  clear HB0__ HV0__
  obtain ⟨c3, c4, c5⟩ := VL.cells3 (b := w.heap.size) (g := ga) (s := sa) (t := ta) HV0___.out (by simp)
  go_wp2_with fail
  clear c3 c4 c5
  refine (Hha.out _).mono ?_
  rintro e w1 ⟨rfl, hb⟩
  have HB1 := hide (bStep HB0___.out hb)
  have HV1 := hide (HV0___.out.below hb)
  clear hb HB0___ HV0___
  obtain ⟨c6, c7, c8⟩ := VL.cells3 (b := w.heap.size + 1) (g := gb) (s := sb) (t := tb) HV1.out (by simp)
  go_wp2_with fail
  clear c6 c7 c8
  refine (Hhb.out _).mono ?_
  rintro e w2 ⟨rfl, hb⟩
  have HB2 := hide (bStep HB1.out hb)
  have HV2 := hide (HV1.out.below hb)
  clear hb HB1 HV1
  obtain ⟨c9, c10, c11⟩ := VL.cells3 (b := w.heap.size) (g := ga) (s := sa) (t := ta) HV2.out (by simp)
  obtain ⟨c12, c13, c14⟩ := VL.cells3 (b := w.heap.size + 1) (g := gb) (s := sb) (t := tb) HV2.out (by simp)
  go_wp2_with fail
  clear c9 c10 c11 c12 c13 c14
  refine (Hh1.out _).mono ?_
  rintro e w3 ⟨rfl, hb⟩
  have HB3 := hide (bStep HB2.out hb)
  have HV3 := hide (HV2.out.below hb)
  clear hb HB2 HV2
  obtain ⟨c15, c16, c17⟩ := VL.cells3 (b := w.heap.size) (g := ga) (s := sa) (t := ta) HV3.out (by simp)
  obtain ⟨c18, c19, c20⟩ := VL.cells3 (b := w.heap.size + 1) (g := gb) (s := sb) (t := tb) HV3.out (by simp)
  go_wp2_with fail
  clear c15 c16 c17 c18 c19 c20
  refine (Hh2.out _).mono ?_
  rintro e w4 ⟨rfl, hb⟩
  have HB4 := hide (bStep HB3.out hb)
  have HV4 := hide (HV3.out.below hb)
  clear hb HB3 HV3
  obtain ⟨c21, c22, c23⟩ := VL.cells3 (b := w.heap.size) (g := ga) (s := sa) (t := ta) HV4.out (by simp)
  obtain ⟨c24, c25, c26⟩ := VL.cells3 (b := w.heap.size + 1) (g := gb) (s := sb) (t := tb) HV4.out (by simp)
  go_wp2_with fail
  clear c21 c22 c23 c24 c25 c26
  refine (Hh3.out _).mono ?_
  rintro e w5 ⟨rfl, hb⟩
  have HB5 := hide (bStep HB4.out hb)
  have HV5 := hide (HV4.out.below hb)
  clear hb HB4 HV4
  obtain ⟨c27, c28, c29⟩ := VL.cells3 (b := w.heap.size) (g := ga) (s := sa) (t := ta) HV5.out (by simp)
  obtain ⟨c30, c31, c32⟩ := VL.cells3 (b := w.heap.size + 1) (g := gb) (s := sb) (t := tb) HV5.out (by simp)
  go_wp2_with fail
  clear c27 c28 c29 c30 c31 c32
  refine (Hh4.out _).mono ?_
  rintro e w6 ⟨rfl, hb⟩
  have HB6 := hide (bStep HB5.out hb)
  have HV6 := hide (HV5.out.below hb)
  clear hb HB5 HV5
  obtain ⟨c33, c34, c35⟩ := VL.cells3 (b := w.heap.size) (g := ga) (s := sa) (t := ta) HV6.out (by simp)
  obtain ⟨c36, c37, c38⟩ := VL.cells3 (b := w.heap.size + 1) (g := gb) (s := sb) (t := tb) HV6.out (by simp)
  go_wp2_with fail
  clear c33 c34 c35 c36 c37 c38
  refine (Hh5.out _).mono ?_
  rintro e w7 ⟨rfl, hb⟩
  have HB7 := hide (bStep HB6.out hb)
  have HV7 := hide (HV6.out.below hb)
  clear hb HB6 HV6
  obtain ⟨k1_0, k1_1, k1_2, k1_3, k1_4, k1_5⟩ := VL.get (b := w.heap.size + 2) (g := false) (s := ⟨#[]⟩) (t := ⟨#[]⟩) HV7.out (by simp)
  go_wp2_with fail
  clear k1_0 k1_1 k1_2 k1_3 k1_4 k1_5
  obtain ⟨d0, d1, d2, _, _, _⟩ := (VL.get (b := w.heap.size + 2) (g := false) (s := ⟨#[]⟩) (t := ⟨#[]⟩) HV7.out (by simp)).set3 g s t
  exact bodyPost_ret (v := .tuple #[.agg #[.bool g, .string s, .string t], .int .i64 0]) (by simp [results, Tryz.results38, go_sem, d0, d1, d2]) rfl ⟨rfl, bset3 HB7.out (by omega) _ _ _⟩
set_option maxHeartbeats 4000000 in
set_option maxRecDepth 100000 in
theorem r4_Add4 (ga : Bool) (sa ta : ByteArray) (gb : Bool) (sb tb : ByteArray) (p q d n : ByteArray) (g : Bool) (s t : ByteArray) (c : Int) (w : World) (ha : QV ga sa ta true) (hb : QV gb sb tb true) (h1 : R2 55 sa tb p) (h2 : R2 55 sb ta q) (h3 : R2 55 ta tb d) (f1 : (ga == gb) = false) (h4 : RI p q c) (f2 : decide (0 ≤ c) = true) (h5 : R2 58 p q n) (h6 : QL ga n d g s t) :
    Calls Tryz.prog 38 #[.agg #[.bool ga, .string sa, .string ta], .agg #[.bool gb, .string sb, .string tb]] w fun e w' => e = .returned (.tuple #[.agg #[.bool g, .string s, .string t], .int .i64 0]) ∧ Below w.heap.size w w' := by
  unfold QV at ha
  have Hha := hide ha
  unfold QV at hb
  have Hhb := hide hb
  unfold R2 at h1
  have Hh1 := hide h1
  unfold R2 at h2
  have Hh2 := hide h2
  unfold R2 at h3
  have Hh3 := hide h3
  unfold RI at h4
  have Hh4 := hide h4
  unfold R2 at h5
  have Hh5 := hide h5
  unfold QL at h6
  have Hh6 := hide h6
  have HB0 : Hid (Below w.heap.size w w) := Below.refl _ _
  have HV0 : Hid (VL w []) := VL.nil w
  clear ha hb h1 h2 h3 h4 h5 h6 
  go_enter Tryz.func38, Tryz.ntmps38
  have HV0_ := hide (HV0.out.pushAt (b := w.heap.size) (by simp) ga sa ta 57)
  have HB0_ := hide (bAlloc HB0.out (.cells #[.bool ga, .string sa, .string ta] 57))
  clear HB0 HV0
  have HV0__ := hide (HV0_.out.pushAt (b := w.heap.size + 1) (by simp) gb sb tb 57)
  have HB0__ := hide (bAlloc HB0_.out (.cells #[.bool gb, .string sb, .string tb] 57))
  clear HB0_ HV0_
  have HV0___ := hide (HV0__.out.pushAt (b := w.heap.size + 2) (by simp) false ⟨#[]⟩ ⟨#[]⟩ 57)
  have HB0___ := hide (bAlloc HB0__.out (.cells #[.bool false, .string ⟨#[]⟩, .string ⟨#[]⟩] 57))
  clear HB0__ HV0__
  obtain ⟨c3, c4, c5⟩ := VL.cells3 (b := w.heap.size) (g := ga) (s := sa) (t := ta) HV0___.out (by simp)
  go_wp2_with fail
  clear c3 c4 c5
  refine (Hha.out _).mono ?_
  rintro e w1 ⟨rfl, hb⟩
  have HB1 := hide (bStep HB0___.out hb)
  have HV1 := hide (HV0___.out.below hb)
  clear hb HB0___ HV0___
  obtain ⟨c6, c7, c8⟩ := VL.cells3 (b := w.heap.size + 1) (g := gb) (s := sb) (t := tb) HV1.out (by simp)
  go_wp2_with fail
  clear c6 c7 c8
  refine (Hhb.out _).mono ?_
  rintro e w2 ⟨rfl, hb⟩
  have HB2 := hide (bStep HB1.out hb)
  have HV2 := hide (HV1.out.below hb)
  clear hb HB1 HV1
  obtain ⟨c9, c10, c11⟩ := VL.cells3 (b := w.heap.size) (g := ga) (s := sa) (t := ta) HV2.out (by simp)
  obtain ⟨c12, c13, c14⟩ := VL.cells3 (b := w.heap.size + 1) (g := gb) (s := sb) (t := tb) HV2.out (by simp)
  go_wp2_with fail
  clear c9 c10 c11 c12 c13 c14
  refine (Hh1.out _).mono ?_
  rintro e w3 ⟨rfl, hb⟩
  have HB3 := hide (bStep HB2.out hb)
  have HV3 := hide (HV2.out.below hb)
  clear hb HB2 HV2
  obtain ⟨c15, c16, c17⟩ := VL.cells3 (b := w.heap.size) (g := ga) (s := sa) (t := ta) HV3.out (by simp)
  obtain ⟨c18, c19, c20⟩ := VL.cells3 (b := w.heap.size + 1) (g := gb) (s := sb) (t := tb) HV3.out (by simp)
  go_wp2_with fail
  clear c15 c16 c17 c18 c19 c20
  refine (Hh2.out _).mono ?_
  rintro e w4 ⟨rfl, hb⟩
  have HB4 := hide (bStep HB3.out hb)
  have HV4 := hide (HV3.out.below hb)
  clear hb HB3 HV3
  obtain ⟨c21, c22, c23⟩ := VL.cells3 (b := w.heap.size) (g := ga) (s := sa) (t := ta) HV4.out (by simp)
  obtain ⟨c24, c25, c26⟩ := VL.cells3 (b := w.heap.size + 1) (g := gb) (s := sb) (t := tb) HV4.out (by simp)
  go_wp2_with fail
  clear c21 c22 c23 c24 c25 c26
  refine (Hh3.out _).mono ?_
  rintro e w5 ⟨rfl, hb⟩
  have HB5 := hide (bStep HB4.out hb)
  have HV5 := hide (HV4.out.below hb)
  clear hb HB4 HV4
  obtain ⟨c27, c28, c29⟩ := VL.cells3 (b := w.heap.size) (g := ga) (s := sa) (t := ta) HV5.out (by simp)
  obtain ⟨c30, c31, c32⟩ := VL.cells3 (b := w.heap.size + 1) (g := gb) (s := sb) (t := tb) HV5.out (by simp)
  go_wp2_with fail
  clear c27 c28 c29 c30 c31 c32
  refine (Hh4.out _).mono ?_
  rintro e w6 ⟨rfl, hb⟩
  have HB6 := hide (bStep HB5.out hb)
  have HV6 := hide (HV5.out.below hb)
  clear hb HB5 HV5
  go_wp2_with fail
  refine (Hh5.out _).mono ?_
  rintro e w7 ⟨rfl, hb⟩
  have HB7 := hide (bStep HB6.out hb)
  have HV7 := hide (HV6.out.below hb)
  clear hb HB6 HV6
  obtain ⟨c33, c34, c35⟩ := VL.cells3 (b := w.heap.size) (g := ga) (s := sa) (t := ta) HV7.out (by simp)
  obtain ⟨c36, c37, c38⟩ := VL.cells3 (b := w.heap.size + 1) (g := gb) (s := sb) (t := tb) HV7.out (by simp)
  go_wp2_with fail
  clear c33 c34 c35 c36 c37 c38
  refine (Hh6.out _).mono ?_
  rintro e w8 ⟨rfl, hb⟩
  have HB8 := hide (bStep HB7.out hb)
  have HV8 := hide (HV7.out.below hb)
  clear hb HB7 HV7
  obtain ⟨k1_0, k1_1, k1_2, k1_3, k1_4, k1_5⟩ := VL.get (b := w.heap.size + 2) (g := false) (s := ⟨#[]⟩) (t := ⟨#[]⟩) HV8.out (by simp)
  go_wp2_with fail
  clear k1_0 k1_1 k1_2 k1_3 k1_4 k1_5
  obtain ⟨d0, d1, d2, _, _, _⟩ := (VL.get (b := w.heap.size + 2) (g := false) (s := ⟨#[]⟩) (t := ⟨#[]⟩) HV8.out (by simp)).set3 g s t
  exact bodyPost_ret (v := .tuple #[.agg #[.bool g, .string s, .string t], .int .i64 0]) (by simp [results, Tryz.results38, go_sem, d0, d1, d2]) rfl ⟨rfl, bset3 HB8.out (by omega) _ _ _⟩
set_option maxHeartbeats 4000000 in
set_option maxRecDepth 100000 in
theorem r4_Add5 (ga : Bool) (sa ta : ByteArray) (gb : Bool) (sb tb : ByteArray) (p q d n : ByteArray) (g : Bool) (s t : ByteArray) (c : Int) (w : World) (ha : QV ga sa ta true) (hb : QV gb sb tb true) (h1 : R2 55 sa tb p) (h2 : R2 55 sb ta q) (h3 : R2 55 ta tb d) (f1 : (ga == gb) = false) (h4 : RI p q c) (f2 : decide (0 ≤ c) = false) (h5 : R2 58 q p n) (h6 : QL gb n d g s t) :
    Calls Tryz.prog 38 #[.agg #[.bool ga, .string sa, .string ta], .agg #[.bool gb, .string sb, .string tb]] w fun e w' => e = .returned (.tuple #[.agg #[.bool g, .string s, .string t], .int .i64 0]) ∧ Below w.heap.size w w' := by
  unfold QV at ha
  have Hha := hide ha
  unfold QV at hb
  have Hhb := hide hb
  unfold R2 at h1
  have Hh1 := hide h1
  unfold R2 at h2
  have Hh2 := hide h2
  unfold R2 at h3
  have Hh3 := hide h3
  unfold RI at h4
  have Hh4 := hide h4
  unfold R2 at h5
  have Hh5 := hide h5
  unfold QL at h6
  have Hh6 := hide h6
  have HB0 : Hid (Below w.heap.size w w) := Below.refl _ _
  have HV0 : Hid (VL w []) := VL.nil w
  clear ha hb h1 h2 h3 h4 h5 h6 
  go_enter Tryz.func38, Tryz.ntmps38
  have HV0_ := hide (HV0.out.pushAt (b := w.heap.size) (by simp) ga sa ta 57)
  have HB0_ := hide (bAlloc HB0.out (.cells #[.bool ga, .string sa, .string ta] 57))
  clear HB0 HV0
  have HV0__ := hide (HV0_.out.pushAt (b := w.heap.size + 1) (by simp) gb sb tb 57)
  have HB0__ := hide (bAlloc HB0_.out (.cells #[.bool gb, .string sb, .string tb] 57))
  clear HB0_ HV0_
  have HV0___ := hide (HV0__.out.pushAt (b := w.heap.size + 2) (by simp) false ⟨#[]⟩ ⟨#[]⟩ 57)
  have HB0___ := hide (bAlloc HB0__.out (.cells #[.bool false, .string ⟨#[]⟩, .string ⟨#[]⟩] 57))
  clear HB0__ HV0__
  obtain ⟨c3, c4, c5⟩ := VL.cells3 (b := w.heap.size) (g := ga) (s := sa) (t := ta) HV0___.out (by simp)
  go_wp2_with fail
  clear c3 c4 c5
  refine (Hha.out _).mono ?_
  rintro e w1 ⟨rfl, hb⟩
  have HB1 := hide (bStep HB0___.out hb)
  have HV1 := hide (HV0___.out.below hb)
  clear hb HB0___ HV0___
  obtain ⟨c6, c7, c8⟩ := VL.cells3 (b := w.heap.size + 1) (g := gb) (s := sb) (t := tb) HV1.out (by simp)
  go_wp2_with fail
  clear c6 c7 c8
  refine (Hhb.out _).mono ?_
  rintro e w2 ⟨rfl, hb⟩
  have HB2 := hide (bStep HB1.out hb)
  have HV2 := hide (HV1.out.below hb)
  clear hb HB1 HV1
  obtain ⟨c9, c10, c11⟩ := VL.cells3 (b := w.heap.size) (g := ga) (s := sa) (t := ta) HV2.out (by simp)
  obtain ⟨c12, c13, c14⟩ := VL.cells3 (b := w.heap.size + 1) (g := gb) (s := sb) (t := tb) HV2.out (by simp)
  go_wp2_with fail
  clear c9 c10 c11 c12 c13 c14
  refine (Hh1.out _).mono ?_
  rintro e w3 ⟨rfl, hb⟩
  have HB3 := hide (bStep HB2.out hb)
  have HV3 := hide (HV2.out.below hb)
  clear hb HB2 HV2
  obtain ⟨c15, c16, c17⟩ := VL.cells3 (b := w.heap.size) (g := ga) (s := sa) (t := ta) HV3.out (by simp)
  obtain ⟨c18, c19, c20⟩ := VL.cells3 (b := w.heap.size + 1) (g := gb) (s := sb) (t := tb) HV3.out (by simp)
  go_wp2_with fail
  clear c15 c16 c17 c18 c19 c20
  refine (Hh2.out _).mono ?_
  rintro e w4 ⟨rfl, hb⟩
  have HB4 := hide (bStep HB3.out hb)
  have HV4 := hide (HV3.out.below hb)
  clear hb HB3 HV3
  obtain ⟨c21, c22, c23⟩ := VL.cells3 (b := w.heap.size) (g := ga) (s := sa) (t := ta) HV4.out (by simp)
  obtain ⟨c24, c25, c26⟩ := VL.cells3 (b := w.heap.size + 1) (g := gb) (s := sb) (t := tb) HV4.out (by simp)
  go_wp2_with fail
  clear c21 c22 c23 c24 c25 c26
  refine (Hh3.out _).mono ?_
  rintro e w5 ⟨rfl, hb⟩
  have HB5 := hide (bStep HB4.out hb)
  have HV5 := hide (HV4.out.below hb)
  clear hb HB4 HV4
  obtain ⟨c27, c28, c29⟩ := VL.cells3 (b := w.heap.size) (g := ga) (s := sa) (t := ta) HV5.out (by simp)
  obtain ⟨c30, c31, c32⟩ := VL.cells3 (b := w.heap.size + 1) (g := gb) (s := sb) (t := tb) HV5.out (by simp)
  go_wp2_with fail
  clear c27 c28 c29 c30 c31 c32
  refine (Hh4.out _).mono ?_
  rintro e w6 ⟨rfl, hb⟩
  have HB6 := hide (bStep HB5.out hb)
  have HV6 := hide (HV5.out.below hb)
  clear hb HB5 HV5
  go_wp2_with fail
  refine (Hh5.out _).mono ?_
  rintro e w7 ⟨rfl, hb⟩
  have HB7 := hide (bStep HB6.out hb)
  have HV7 := hide (HV6.out.below hb)
  clear hb HB6 HV6
  obtain ⟨c33, c34, c35⟩ := VL.cells3 (b := w.heap.size) (g := ga) (s := sa) (t := ta) HV7.out (by simp)
  obtain ⟨c36, c37, c38⟩ := VL.cells3 (b := w.heap.size + 1) (g := gb) (s := sb) (t := tb) HV7.out (by simp)
  go_wp2_with fail
  clear c33 c34 c35 c36 c37 c38
  refine (Hh6.out _).mono ?_
  rintro e w8 ⟨rfl, hb⟩
  have HB8 := hide (bStep HB7.out hb)
  have HV8 := hide (HV7.out.below hb)
  clear hb HB7 HV7
  obtain ⟨k1_0, k1_1, k1_2, k1_3, k1_4, k1_5⟩ := VL.get (b := w.heap.size + 2) (g := false) (s := ⟨#[]⟩) (t := ⟨#[]⟩) HV8.out (by simp)
  go_wp2_with fail
  clear k1_0 k1_1 k1_2 k1_3 k1_4 k1_5
  obtain ⟨d0, d1, d2, _, _, _⟩ := (VL.get (b := w.heap.size + 2) (g := false) (s := ⟨#[]⟩) (t := ⟨#[]⟩) HV8.out (by simp)).set3 g s t
  exact bodyPost_ret (v := .tuple #[.agg #[.bool g, .string s, .string t], .int .i64 0]) (by simp [results, Tryz.results38, go_sem, d0, d1, d2]) rfl ⟨rfl, bset3 HB8.out (by omega) _ _ _⟩
theorem VL.cells3o {W : World} {L : List (Nat × Bool × ByteArray × ByteArray)} (h : VL W L) {b c : Nat} {g : Bool} {s t : ByteArray} (hm : (b, g, s, t) ∈ L) (hne : b ≠ c) {x y z : Value} : let W' := ((W.setCell ⟨c, 0, none⟩ x).setCell ⟨c, 1, none⟩ y).setCell ⟨c, 2, none⟩ z
    W'.cell? ⟨b, 0, none⟩ = some (.bool g) ∧ W'.cell? ⟨b, 1, none⟩ = some (.string s) ∧ W'.cell? ⟨b, 2, none⟩ = some (.string t) :=
  ⟨RC.c0 ((h _ hm).only (Only2.set3 _ _ _ _ _) hne), RC.c1 ((h _ hm).only (Only2.set3 _ _ _ _ _) hne), RC.c2 ((h _ hm).only (Only2.set3 _ _ _ _ _) hne)⟩
end Go.Proofs.YtlagoiaiodjmhaaGreatDoor
/- observatoryref04: Compare, Text, Parse. -/
namespace Go.Proofs.YtlagoiaiodjmhaaGreatDoor
open Go.RowKit

theorem cmpX_both {a b c d : Nat} (h : a / b = c / d) (hr : a % b = 0) (hs : c % d = 0) : cmpX a b c d = 0 := by
  rw [cmpX_rest h, hr, hs]
  unfold cmpX
  simp
end Go.Proofs.YtlagoiaiodjmhaaGreatDoor
/- observatoryref04: contracts; Parse. -/
namespace Go.Proofs.YtlagoiaiodjmhaaGreatDoor
open Go.RowKit

theorem IsQ.parts {q : Rat} {g : Bool} {s t : ByteArray} (e : IsQ q g s t) : ngQ q = g ∧ natS (nmQ q) = s ∧ natS q.den = t := by
  unfold IsQ rqV at e
  simpa only [Value.agg.injEq, Array.mk.injEq, List.cons.injEq, Value.bool.injEq, Value.string.injEq, and_true] using e
theorem size_999 {n k : Nat} (h : n < capK k) (hk : k ≤ 999) : (natS n).size ≤ 999 := by
  rw [natS_size]; exact (capK_len (by decide)).2 (Nat.lt_of_lt_of_le h (capK_le hk))
theorem qvd_of {q : Rat} {g : Bool} {s t : ByteArray} {k : Nat} (h : Sz k q) (hk : k ≤ 999) (e : IsQ q g s t) : QV g s t true := by
  obtain ⟨rfl, rfl, rfl⟩ := e.parts
  have := r4_valid (ngQ q) (natS (nmQ q)) (natS q.den) (size_999 h.1 hk) (size_999 h.2 hk)
  rwa [vldR_q (h.fit (by omega))] at this
theorem r2_mul {x y : Nat} (hx : x < capN) (hy : y < capN) (h : x * y < capN) : R2 55 (natS x) (natS y) (natS (x * y)) := fun W => (ref_Mul x y W hx hy).mono fun _ _ h' => h'.ok h
theorem r2_add {x y : Nat} (hx : x < capN) (hy : y < capN) (h : x + y < capN) : R2 56 (natS x) (natS y) (natS (x + y)) := fun W => (ref_Add x y W hx hy).mono fun _ _ h' => h'.ok h
theorem r2_sub {x y : Nat} (hx : x < capN) (hy : y < capN) (h : y ≤ x) : R2 58 (natS x) (natS y) (natS (x - y)) := fun W => ref_Sub x y W hx hy h
theorem ri_cmp {x y : Nat} (hx : x < capN) (hy : y < capN) : RI (natS x) (natS y) (cmpN x y) := fun W => ref_Compare x y W hx hy
theorem q2_add {p q r : Rat} {g g1 g2 : Bool} {s t s1 t1 s2 t2 : ByteArray} {j k : Nat} (hp : Sz j p) (hq : Sz k q) (hjk : j + k + 1 ≤ 998) (e : p + q = r) (ep : IsQ p g1 s1 t1) (eq : IsQ q g2 s2 t2) (er : IsQ r g s t) : Q2 38 g1 s1 t1 g2 s2 t2 g s t 0 := fun W => by
  subst e
  have va := qvd_of hp (by omega) ep
  have vb := qvd_of hq (by omega) eq
  obtain ⟨rfl, rfl, rfl⟩ := ep.parts
  obtain ⟨rfl, rfl, rfl⟩ := eq.parts
  obtain ⟨c1, c2, c3, c4⟩ := hp.cross hq
  have f1 := hp.fit (show j ≤ 1000 by omega)
  have f2 := hq.fit (show k ≤ 1000 by omega)
  have k1 : capK (j + k) ≤ capK 999 := capK_le (by omega)
  have k2 : capK (j + k + 1) ≤ capK 999 := capK_le (by omega)
  have b1 : nmQ p * q.den < capN := cap999 (Nat.lt_of_lt_of_le c1 k1)
  have b2 : nmQ q * p.den < capN := cap999 (Nat.lt_of_lt_of_le c2 k1)
  have b3 : p.den * q.den < capN := cap999 (Nat.lt_of_lt_of_le c3 k1)
  have m1 := r2_mul f1.1 f2.2 b1
  have m2 := r2_mul f2.1 f1.2 b2
  have m3 := r2_mul f1.2 f2.2 b3
  have hd0 := Nat.mul_pos (den_pos p) (den_pos q)
  by_cases h : ngQ p = ngQ q
  · have el : IsQ (mkQ (ngQ p) (nmQ p * q.den + nmQ q * p.den) (p.den * q.den)) g s t := by rw [add_same h]; exact er
    exact r4_Add3 _ _ _ _ _ _ _ _ _ _ g s t W va vb m1 m2 m3 (by rw [h]; exact beq_self_eq_true _) (r2_add b1 b2 (cap999 (Nat.lt_of_lt_of_le c4 k2))) (r4_lowest _ (Nat.lt_of_lt_of_le c4 k2) (Nat.lt_of_lt_of_le c3 k1) hd0 el)
  · have hb : (ngQ p == ngQ q) = false := beq_eq_false_iff_ne.2 h
    rcases Nat.lt_or_ge (nmQ p * q.den) (nmQ q * p.den) with hl | hl
    · have el : IsQ (mkQ (ngQ q) (nmQ q * p.den - nmQ p * q.den) (p.den * q.den)) g s t := by rw [add_right h (Nat.le_of_lt hl)]; exact er
      exact r4_Add5 _ _ _ _ _ _ _ _ _ _ g s t _ W va vb m1 m2 m3 hb (ri_cmp b1 b2) (by rw [cmpN_lt hl]; rfl) (r2_sub b2 b1 (Nat.le_of_lt hl)) (r4_lowest _ (Nat.lt_of_le_of_lt (Nat.sub_le _ _) (Nat.lt_of_lt_of_le c2 k1)) (Nat.lt_of_lt_of_le c3 k1) hd0 el)
    · have el : IsQ (mkQ (ngQ p) (nmQ p * q.den - nmQ q * p.den) (p.den * q.den)) g s t := by rw [add_left h hl]; exact er
      have hc : decide (0 ≤ cmpN (nmQ p * q.den) (nmQ q * p.den)) = true := decide_eq_true (by have h := cmpN_neg (x := nmQ p * q.den) (y := nmQ q * p.den); omega)
      exact r4_Add4 _ _ _ _ _ _ _ _ _ _ g s t _ W va vb m1 m2 m3 hb (ri_cmp b1 b2) hc (r2_sub b1 b2 hl) (r4_lowest _ (Nat.lt_of_le_of_lt (Nat.sub_le _ _) (Nat.lt_of_lt_of_le c1 k1)) (Nat.lt_of_lt_of_le c3 k1) hd0 el)
end Go.Proofs.YtlagoiaiodjmhaaGreatDoor
