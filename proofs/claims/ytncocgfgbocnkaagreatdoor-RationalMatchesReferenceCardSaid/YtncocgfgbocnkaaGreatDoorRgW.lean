/- RgA, RgB, RgC, RgD, RgE, RgF in one text. -/
import Derived.Test.YtncocgfgbocnkaaGreatDoorRfW
import Derived.Test.YtncocgfgbocnkaaGreatDoorRaN
import Derived.BigGuard
set_option linter.unusedVariables false
set_option linter.unusedSimpArgs false
/- observatoryref04: Valid, lowest, Of, Make, Minus. -/
namespace Go.Proofs.YtncocgfgbocnkaaGreatDoor
open Go.RowKit

def RV (s : ByteArray) (b : Bool) : Prop := ∀ W, Calls Tryz.prog 43 #[.string s] W fun e w' => e = .returned (.bool b) ∧ Below W.heap.size W w'
def R2 (F : FuncId) (a b s : ByteArray) : Prop := ∀ W, Calls Tryz.prog F #[.string a, .string b] W fun e w' => e = .returned (.tuple #[.string s, .int .i64 0]) ∧ Below W.heap.size W w'
def R3 (F : FuncId) (a b s t : ByteArray) : Prop := ∀ W, Calls Tryz.prog F #[.string a, .string b] W fun e w' => e = .returned (.tuple #[.string s, .string t, .int .i64 0]) ∧ Below W.heap.size W w'
/-- What the functions of the reference return. -/
def QV (g : Bool) (s t : ByteArray) (b : Bool) : Prop := ∀ W, Calls Tryz.prog 22 #[.agg #[.bool g, .string s, .string t]] W fun e w' => e = .returned (.bool b) ∧ Below W.heap.size W w'
def QL (g : Bool) (s t : ByteArray) (g' : Bool) (s' t' : ByteArray) : Prop := ∀ W, Calls Tryz.prog 40 #[.bool g, .string s, .string t] W fun e w' => e = .returned (.agg #[.bool g', .string s', .string t']) ∧ Below W.heap.size W w'
def QM (g : Bool) (s t : ByteArray) (g' : Bool) (s' t' : ByteArray) : Prop := ∀ W, Calls Tryz.prog 61 #[.agg #[.bool g, .string s, .string t]] W fun e w' => e = .returned (.agg #[.bool g', .string s', .string t']) ∧ Below W.heap.size W w'
def Q2 (F : FuncId) (ga : Bool) (sa ta : ByteArray) (gb : Bool) (sb tb : ByteArray) (g : Bool) (s t : ByteArray) (k : Int) : Prop := ∀ W, Calls Tryz.prog F #[.agg #[.bool ga, .string sa, .string ta], .agg #[.bool gb, .string sb, .string tb]] W fun e w' => e = .returned (.tuple #[.agg #[.bool g, .string s, .string t], .int .i64 k]) ∧ Below W.heap.size W w'
def RA (n : Int) (s : ByteArray) : Prop := ∀ W, Calls Tryz.prog 36 #[.int .i64 n] W fun e w' => e = .returned (.string s) ∧ Below W.heap.size W w'

set_option maxHeartbeats 4000000 in
set_option maxRecDepth 100000 in
theorem r4_valid1 (g : Bool) (s t : ByteArray) (w : World) (h1 : RV s false) :
    Calls Tryz.prog 22 #[.agg #[.bool g, .string s, .string t]] w fun e w' => e = .returned (.bool false) ∧ Below w.heap.size w w' := by
  unfold RV at h1
  have Hh1 := hide h1
  have HB0 : Hid (Below w.heap.size w w) := Below.refl _ _
  have HV0 : Hid (VL w []) := VL.nil w
  clear h1 
  go_enter Tryz.func22, Tryz.ntmps22
  have HV0_ := hide (HV0.out.pushAt (b := w.heap.size) (by simp) g s t 24)
  have HB0_ := hide (bAlloc HB0.out (.cells #[.bool g, .string s, .string t] 24))
  clear HB0 HV0
  obtain ⟨c3, c4, c5⟩ := VL.cells3 (b := w.heap.size) (g := g) (s := s) (t := t) HV0_.out (by simp)
  go_wp2_with fail
  clear c3 c4 c5
  refine (Hh1.out _).mono ?_
  rintro e w1 ⟨rfl, hb⟩
  have HB1 := hide (bStep HB0_.out hb)
  have HV1 := hide (HV0_.out.below hb)
  clear hb HB0_ HV0_
  go_wp2_with fail
  go_ret
  exact ⟨rfl, HB1.out⟩
set_option maxHeartbeats 4000000 in
set_option maxRecDepth 100000 in
theorem r4_valid2 (g : Bool) (s t : ByteArray) (w : World) (h1 : RV s true) (h2 : RV t false) :
    Calls Tryz.prog 22 #[.agg #[.bool g, .string s, .string t]] w fun e w' => e = .returned (.bool false) ∧ Below w.heap.size w w' := by
  unfold RV at h1
  have Hh1 := hide h1
  unfold RV at h2
  have Hh2 := hide h2
  have HB0 : Hid (Below w.heap.size w w) := Below.refl _ _
  have HV0 : Hid (VL w []) := VL.nil w
  clear h1 h2 
  go_enter Tryz.func22, Tryz.ntmps22
  have HV0_ := hide (HV0.out.pushAt (b := w.heap.size) (by simp) g s t 24)
  have HB0_ := hide (bAlloc HB0.out (.cells #[.bool g, .string s, .string t] 24))
  clear HB0 HV0
  obtain ⟨c3, c4, c5⟩ := VL.cells3 (b := w.heap.size) (g := g) (s := s) (t := t) HV0_.out (by simp)
  go_wp2_with fail
  clear c3 c4 c5
  refine (Hh1.out _).mono ?_
  rintro e w1 ⟨rfl, hb⟩
  have HB1 := hide (bStep HB0_.out hb)
  have HV1 := hide (HV0_.out.below hb)
  clear hb HB0_ HV0_
  obtain ⟨c6, c7, c8⟩ := VL.cells3 (b := w.heap.size) (g := g) (s := s) (t := t) HV1.out (by simp)
  go_wp2_with fail
  clear c6 c7 c8
  refine (Hh2.out _).mono ?_
  rintro e w2 ⟨rfl, hb⟩
  have HB2 := hide (bStep HB1.out hb)
  have HV2 := hide (HV1.out.below hb)
  clear hb HB1 HV1
  go_wp2_with fail
  go_ret
  exact ⟨rfl, HB2.out⟩
set_option maxHeartbeats 4000000 in
set_option maxRecDepth 100000 in
theorem r4_valid3 (g : Bool) (s : ByteArray) (w : World) (h1 : RV s true) (h2 : RV ⟨#[48]⟩ true) :
    Calls Tryz.prog 22 #[.agg #[.bool g, .string s, .string ⟨#[48]⟩]] w fun e w' => e = .returned (.bool false) ∧ Below w.heap.size w w' := by
  unfold RV at h1
  have Hh1 := hide h1
  unfold RV at h2
  have Hh2 := hide h2
  have HB0 : Hid (Below w.heap.size w w) := Below.refl _ _
  have HV0 : Hid (VL w []) := VL.nil w
  clear h1 h2 
  go_enter Tryz.func22, Tryz.ntmps22
  have HV0_ := hide (HV0.out.pushAt (b := w.heap.size) (by simp) g s ⟨#[48]⟩ 24)
  have HB0_ := hide (bAlloc HB0.out (.cells #[.bool g, .string s, .string ⟨#[48]⟩] 24))
  clear HB0 HV0
  obtain ⟨c3, c4, c5⟩ := VL.cells3 (b := w.heap.size) (g := g) (s := s) (t := ⟨#[48]⟩) HV0_.out (by simp)
  go_wp2_with fail
  clear c3 c4 c5
  refine (Hh1.out _).mono ?_
  rintro e w1 ⟨rfl, hb⟩
  have HB1 := hide (bStep HB0_.out hb)
  have HV1 := hide (HV0_.out.below hb)
  clear hb HB0_ HV0_
  obtain ⟨c6, c7, c8⟩ := VL.cells3 (b := w.heap.size) (g := g) (s := s) (t := ⟨#[48]⟩) HV1.out (by simp)
  go_wp2_with fail
  clear c6 c7 c8
  refine (Hh2.out _).mono ?_
  rintro e w2 ⟨rfl, hb⟩
  have HB2 := hide (bStep HB1.out hb)
  have HV2 := hide (HV1.out.below hb)
  clear hb HB1 HV1
  obtain ⟨c9, c10, c11⟩ := VL.cells3 (b := w.heap.size) (g := g) (s := s) (t := ⟨#[48]⟩) HV2.out (by simp)
  go_wp2_with fail
  clear c9 c10 c11
  go_ret
  exact ⟨rfl, HB2.out⟩
set_option maxHeartbeats 4000000 in
set_option maxRecDepth 100000 in
theorem r4_valid5 (g : Bool) (s t u : ByteArray) (b : Bool) (w : World) (h1 : RV s true) (h2 : RV t true) (h3 : R2 47 s t u) (f1 : (t.toList == [48]) = false) (f2 : (s.toList == [48]) = false) (f3 : (u.toList == [49]) = b) :
    Calls Tryz.prog 22 #[.agg #[.bool g, .string s, .string t]] w fun e w' => e = .returned (.bool b) ∧ Below w.heap.size w w' := by
  unfold RV at h1
  have Hh1 := hide h1
  unfold RV at h2
  have Hh2 := hide h2
  unfold R2 at h3
  have Hh3 := hide h3
  have HB0 : Hid (Below w.heap.size w w) := Below.refl _ _
  have HV0 : Hid (VL w []) := VL.nil w
  clear h1 h2 h3 
  go_enter Tryz.func22, Tryz.ntmps22
  have HV0_ := hide (HV0.out.pushAt (b := w.heap.size) (by simp) g s t 24)
  have HB0_ := hide (bAlloc HB0.out (.cells #[.bool g, .string s, .string t] 24))
  clear HB0 HV0
  obtain ⟨c3, c4, c5⟩ := VL.cells3 (b := w.heap.size) (g := g) (s := s) (t := t) HV0_.out (by simp)
  go_wp2_with fail
  clear c3 c4 c5
  refine (Hh1.out _).mono ?_
  rintro e w1 ⟨rfl, hb⟩
  have HB1 := hide (bStep HB0_.out hb)
  have HV1 := hide (HV0_.out.below hb)
  clear hb HB0_ HV0_
  obtain ⟨c6, c7, c8⟩ := VL.cells3 (b := w.heap.size) (g := g) (s := s) (t := t) HV1.out (by simp)
  go_wp2_with fail
  clear c6 c7 c8
  refine (Hh2.out _).mono ?_
  rintro e w2 ⟨rfl, hb⟩
  have HB2 := hide (bStep HB1.out hb)
  have HV2 := hide (HV1.out.below hb)
  clear hb HB1 HV1
  obtain ⟨c9, c10, c11⟩ := VL.cells3 (b := w.heap.size) (g := g) (s := s) (t := t) HV2.out (by simp)
  go_wp2_with fail
  clear c9 c10 c11
  refine (Hh3.out _).mono ?_
  rintro e w3 ⟨rfl, hb⟩
  have HB3 := hide (bStep HB2.out hb)
  have HV3 := hide (HV2.out.below hb)
  clear hb HB2 HV2
  go_wp2_with fail
  go_ret
  exact ⟨rfl, HB3.out⟩
set_option maxHeartbeats 4000000 in
set_option maxRecDepth 100000 in
theorem r4_valid4a (t : ByteArray) (w : World) (h1 : RV ⟨#[48]⟩ true) (h2 : RV t true) (f1 : (t.toList == [48]) = false) (f2 : (t.toList == [49]) = true) :
    Calls Tryz.prog 22 #[.agg #[.bool false, .string ⟨#[48]⟩, .string t]] w fun e w' => e = .returned (.bool true) ∧ Below w.heap.size w w' := by
  unfold RV at h1
  have Hh1 := hide h1
  unfold RV at h2
  have Hh2 := hide h2
  have HB0 : Hid (Below w.heap.size w w) := Below.refl _ _
  have HV0 : Hid (VL w []) := VL.nil w
  clear h1 h2 
  go_enter Tryz.func22, Tryz.ntmps22
  have HV0_ := hide (HV0.out.pushAt (b := w.heap.size) (by simp) false ⟨#[48]⟩ t 24)
  have HB0_ := hide (bAlloc HB0.out (.cells #[.bool false, .string ⟨#[48]⟩, .string t] 24))
  clear HB0 HV0
  obtain ⟨c3, c4, c5⟩ := VL.cells3 (b := w.heap.size) (g := false) (s := ⟨#[48]⟩) (t := t) HV0_.out (by simp)
  go_wp2_with fail
  clear c3 c4 c5
  refine (Hh1.out _).mono ?_
  rintro e w1 ⟨rfl, hb⟩
  have HB1 := hide (bStep HB0_.out hb)
  have HV1 := hide (HV0_.out.below hb)
  clear hb HB0_ HV0_
  obtain ⟨c6, c7, c8⟩ := VL.cells3 (b := w.heap.size) (g := false) (s := ⟨#[48]⟩) (t := t) HV1.out (by simp)
  go_wp2_with fail
  clear c6 c7 c8
  refine (Hh2.out _).mono ?_
  rintro e w2 ⟨rfl, hb⟩
  have HB2 := hide (bStep HB1.out hb)
  have HV2 := hide (HV1.out.below hb)
  clear hb HB1 HV1
  obtain ⟨c9, c10, c11⟩ := VL.cells3 (b := w.heap.size) (g := false) (s := ⟨#[48]⟩) (t := t) HV2.out (by simp)
  go_wp2_with fail
  clear c9 c10 c11
  go_ret
  exact ⟨rfl, HB2.out⟩
set_option maxHeartbeats 4000000 in
set_option maxRecDepth 100000 in
theorem r4_valid4b (t : ByteArray) (w : World) (h1 : RV ⟨#[48]⟩ true) (h2 : RV t true) (f1 : (t.toList == [48]) = false) (f2 : (t.toList == [49]) = true) :
    Calls Tryz.prog 22 #[.agg #[.bool true, .string ⟨#[48]⟩, .string t]] w fun e w' => e = .returned (.bool false) ∧ Below w.heap.size w w' := by
  unfold RV at h1
  have Hh1 := hide h1
  unfold RV at h2
  have Hh2 := hide h2
  have HB0 : Hid (Below w.heap.size w w) := Below.refl _ _
  have HV0 : Hid (VL w []) := VL.nil w
  clear h1 h2 
  go_enter Tryz.func22, Tryz.ntmps22
  have HV0_ := hide (HV0.out.pushAt (b := w.heap.size) (by simp) true ⟨#[48]⟩ t 24)
  have HB0_ := hide (bAlloc HB0.out (.cells #[.bool true, .string ⟨#[48]⟩, .string t] 24))
  clear HB0 HV0
  obtain ⟨c3, c4, c5⟩ := VL.cells3 (b := w.heap.size) (g := true) (s := ⟨#[48]⟩) (t := t) HV0_.out (by simp)
  go_wp2_with fail
  clear c3 c4 c5
  refine (Hh1.out _).mono ?_
  rintro e w1 ⟨rfl, hb⟩
  have HB1 := hide (bStep HB0_.out hb)
  have HV1 := hide (HV0_.out.below hb)
  clear hb HB0_ HV0_
  obtain ⟨c6, c7, c8⟩ := VL.cells3 (b := w.heap.size) (g := true) (s := ⟨#[48]⟩) (t := t) HV1.out (by simp)
  go_wp2_with fail
  clear c6 c7 c8
  refine (Hh2.out _).mono ?_
  rintro e w2 ⟨rfl, hb⟩
  have HB2 := hide (bStep HB1.out hb)
  have HV2 := hide (HV1.out.below hb)
  clear hb HB1 HV1
  obtain ⟨c9, c10, c11⟩ := VL.cells3 (b := w.heap.size) (g := true) (s := ⟨#[48]⟩) (t := t) HV2.out (by simp)
  go_wp2_with fail
  clear c9 c10 c11
  go_ret
  exact ⟨rfl, HB2.out⟩
set_option maxHeartbeats 4000000 in
set_option maxRecDepth 100000 in
theorem r4_valid4c (t : ByteArray) (w : World) (h1 : RV ⟨#[48]⟩ true) (h2 : RV t true) (f1 : (t.toList == [48]) = false) (f2 : (t.toList == [49]) = false) :
    Calls Tryz.prog 22 #[.agg #[.bool false, .string ⟨#[48]⟩, .string t]] w fun e w' => e = .returned (.bool false) ∧ Below w.heap.size w w' := by
  unfold RV at h1
  have Hh1 := hide h1
  unfold RV at h2
  have Hh2 := hide h2
  have HB0 : Hid (Below w.heap.size w w) := Below.refl _ _
  have HV0 : Hid (VL w []) := VL.nil w
  clear h1 h2 
  go_enter Tryz.func22, Tryz.ntmps22
  have HV0_ := hide (HV0.out.pushAt (b := w.heap.size) (by simp) false ⟨#[48]⟩ t 24)
  have HB0_ := hide (bAlloc HB0.out (.cells #[.bool false, .string ⟨#[48]⟩, .string t] 24))
  clear HB0 HV0
  obtain ⟨c3, c4, c5⟩ := VL.cells3 (b := w.heap.size) (g := false) (s := ⟨#[48]⟩) (t := t) HV0_.out (by simp)
  go_wp2_with fail
  clear c3 c4 c5
  refine (Hh1.out _).mono ?_
  rintro e w1 ⟨rfl, hb⟩
  have HB1 := hide (bStep HB0_.out hb)
  have HV1 := hide (HV0_.out.below hb)
  clear hb HB0_ HV0_
  obtain ⟨c6, c7, c8⟩ := VL.cells3 (b := w.heap.size) (g := false) (s := ⟨#[48]⟩) (t := t) HV1.out (by simp)
  go_wp2_with fail
  clear c6 c7 c8
  refine (Hh2.out _).mono ?_
  rintro e w2 ⟨rfl, hb⟩
  have HB2 := hide (bStep HB1.out hb)
  have HV2 := hide (HV1.out.below hb)
  clear hb HB1 HV1
  obtain ⟨c9, c10, c11⟩ := VL.cells3 (b := w.heap.size) (g := false) (s := ⟨#[48]⟩) (t := t) HV2.out (by simp)
  go_wp2_with fail
  clear c9 c10 c11
  go_ret
  exact ⟨rfl, HB2.out⟩
set_option maxHeartbeats 4000000 in
set_option maxRecDepth 100000 in
theorem r4_valid4d (t : ByteArray) (w : World) (h1 : RV ⟨#[48]⟩ true) (h2 : RV t true) (f1 : (t.toList == [48]) = false) (f2 : (t.toList == [49]) = false) :
    Calls Tryz.prog 22 #[.agg #[.bool true, .string ⟨#[48]⟩, .string t]] w fun e w' => e = .returned (.bool false) ∧ Below w.heap.size w w' := by
  unfold RV at h1
  have Hh1 := hide h1
  unfold RV at h2
  have Hh2 := hide h2
  have HB0 : Hid (Below w.heap.size w w) := Below.refl _ _
  have HV0 : Hid (VL w []) := VL.nil w
  clear h1 h2 
  go_enter Tryz.func22, Tryz.ntmps22
  have HV0_ := hide (HV0.out.pushAt (b := w.heap.size) (by simp) true ⟨#[48]⟩ t 24)
  have HB0_ := hide (bAlloc HB0.out (.cells #[.bool true, .string ⟨#[48]⟩, .string t] 24))
  clear HB0 HV0
  obtain ⟨c3, c4, c5⟩ := VL.cells3 (b := w.heap.size) (g := true) (s := ⟨#[48]⟩) (t := t) HV0_.out (by simp)
  go_wp2_with fail
  clear c3 c4 c5
  refine (Hh1.out _).mono ?_
  rintro e w1 ⟨rfl, hb⟩
  have HB1 := hide (bStep HB0_.out hb)
  have HV1 := hide (HV0_.out.below hb)
  clear hb HB0_ HV0_
  obtain ⟨c6, c7, c8⟩ := VL.cells3 (b := w.heap.size) (g := true) (s := ⟨#[48]⟩) (t := t) HV1.out (by simp)
  go_wp2_with fail
  clear c6 c7 c8
  refine (Hh2.out _).mono ?_
  rintro e w2 ⟨rfl, hb⟩
  have HB2 := hide (bStep HB1.out hb)
  have HV2 := hide (HV1.out.below hb)
  clear hb HB1 HV1
  obtain ⟨c9, c10, c11⟩ := VL.cells3 (b := w.heap.size) (g := true) (s := ⟨#[48]⟩) (t := t) HV2.out (by simp)
  go_wp2_with fail
  clear c9 c10 c11
  go_ret
  exact ⟨rfl, HB2.out⟩
theorem r4_zero (w : World) : Calls Tryz.prog 64 #[] w fun e w' => e = .returned (.agg #[.bool false, .string ⟨#[48]⟩, .string ⟨#[49]⟩]) ∧ Below w.heap.size w w' := by
  go_enter Tryz.func64, Tryz.ntmps64
  go_wp2_with fail
  exact bodyPost_ret (v := .agg #[.bool false, .string ⟨#[48]⟩, .string ⟨#[49]⟩]) (by simp [results, Tryz.results64, go_sem]) rfl ⟨rfl, (Below.refl _ _).alloc (Nat.le_refl _) _⟩
set_option maxHeartbeats 4000000 in
set_option maxRecDepth 100000 in
theorem r4_lowest0 (g : Bool) (t : ByteArray) (w : World)  :
    Calls Tryz.prog 40 #[.bool g, .string ⟨#[48]⟩, .string t] w fun e w' => e = .returned (.agg #[.bool false, .string ⟨#[48]⟩, .string ⟨#[49]⟩]) ∧ Below w.heap.size w w' := by
  have HB0 : Hid (Below w.heap.size w w) := Below.refl _ _
  have HV0 : Hid (VL w []) := VL.nil w
  go_enter Tryz.func40, Tryz.ntmps40
  have HV0_ := hide (HV0.out.pushAt (b := w.heap.size) (by simp) false ⟨#[]⟩ ⟨#[]⟩ 24)
  have HB0_ := hide (bAlloc HB0.out (.cells #[.bool false, .string ⟨#[]⟩, .string ⟨#[]⟩] 24))
  clear HB0 HV0
  go_wp2_with fail
  refine (r4_zero _).mono ?_
  rintro e w1 ⟨rfl, hb⟩
  have HB1 := hide (bStep HB0_.out hb)
  have HV1 := hide (HV0_.out.below hb)
  clear hb HB0_ HV0_
  obtain ⟨k1_0, k1_1, k1_2, k1_3, k1_4, k1_5⟩ := VL.get (b := w.heap.size) (g := false) (s := ⟨#[]⟩) (t := ⟨#[]⟩) HV1.out (by simp)
  go_wp2_with fail
  clear k1_0 k1_1 k1_2 k1_3 k1_4 k1_5
  obtain ⟨d0, d1, d2, _, _, _⟩ := (VL.get (b := w.heap.size) (g := false) (s := ⟨#[]⟩) (t := ⟨#[]⟩) HV1.out (by simp)).set3 false ⟨#[48]⟩ ⟨#[49]⟩
  exact bodyPost_ret (v := .agg #[.bool false, .string ⟨#[48]⟩, .string ⟨#[49]⟩]) (by simp [results, Tryz.results40, go_sem, d0, d1, d2]) rfl ⟨rfl, bset3 HB1.out (by omega) _ _ _⟩
set_option maxHeartbeats 4000000 in
set_option maxRecDepth 100000 in
theorem r4_lowest1 (g : Bool) (s t u s1 r1 t1 r2 : ByteArray) (w : World) (h1 : R2 47 s t u) (h2 : R3 65 s u s1 r1) (h3 : R3 65 t u t1 r2) (f1 : (s.toList == [48]) = false) :
    Calls Tryz.prog 40 #[.bool g, .string s, .string t] w fun e w' => e = .returned (.agg #[.bool g, .string s1, .string t1]) ∧ Below w.heap.size w w' := by
  unfold R2 at h1
  have Hh1 := hide h1
  unfold R3 at h2
  have Hh2 := hide h2
  unfold R3 at h3
  have Hh3 := hide h3
  have HB0 : Hid (Below w.heap.size w w) := Below.refl _ _
  have HV0 : Hid (VL w []) := VL.nil w
  clear h1 h2 h3 
  go_enter Tryz.func40, Tryz.ntmps40
  have HV0_ := hide (HV0.out.pushAt (b := w.heap.size) (by simp) false ⟨#[]⟩ ⟨#[]⟩ 24)
  have HB0_ := hide (bAlloc HB0.out (.cells #[.bool false, .string ⟨#[]⟩, .string ⟨#[]⟩] 24))
  clear HB0 HV0
  go_wp2_with fail
  refine (Hh1.out _).mono ?_
  rintro e w1 ⟨rfl, hb⟩
  have HB1 := hide (bStep HB0_.out hb)
  have HV1 := hide (HV0_.out.below hb)
  clear hb HB0_ HV0_
  go_wp2_with fail
  refine (Hh2.out _).mono ?_
  rintro e w2 ⟨rfl, hb⟩
  have HB2 := hide (bStep HB1.out hb)
  have HV2 := hide (HV1.out.below hb)
  clear hb HB1 HV1
  go_wp2_with fail
  refine (Hh3.out _).mono ?_
  rintro e w3 ⟨rfl, hb⟩
  have HB3 := hide (bStep HB2.out hb)
  have HV3 := hide (HV2.out.below hb)
  clear hb HB2 HV2
  obtain ⟨k1_0, k1_1, k1_2, k1_3, k1_4, k1_5⟩ := VL.get (b := w.heap.size) (g := false) (s := ⟨#[]⟩) (t := ⟨#[]⟩) HV3.out (by simp)
  go_wp2_with fail
  clear k1_0 k1_1 k1_2 k1_3 k1_4 k1_5
  obtain ⟨d0, d1, d2, _, _, _⟩ := (VL.get (b := w.heap.size) (g := false) (s := ⟨#[]⟩) (t := ⟨#[]⟩) HV3.out (by simp)).set3 g s1 t1
  exact bodyPost_ret (v := .agg #[.bool g, .string s1, .string t1]) (by simp [results, Tryz.results40, go_sem, d0, d1, d2]) rfl ⟨rfl, bset3 HB3.out (by omega) _ _ _⟩
theorem rv_t {s : ByteArray} (hs : s.size ≤ maxLen) (h : vldN s = true) : RV s true := fun W => (ref_vt s W hs h).mono fun _ _ ⟨a, b⟩ => ⟨a, by rw [← b]; exact Below.refl _ _⟩
theorem rv_f {s : ByteArray} (hs : s.size ≤ maxLen) (h : vldN s = false) : RV s false := fun W => (ref_vf s W hs h).mono fun _ _ ⟨a, b⟩ => ⟨a, by rw [← b]; exact Below.refl _ _⟩
theorem cap999 {n : Nat} (h : n < capK 999) : n < capN := Nat.lt_of_lt_of_le h (capK_le (by decide))
theorem r2_gcd {x y : Nat} (hx : x < capK 999) (hy : y < capK 999) : R2 47 (natS x) (natS y) (natS (Nat.gcd x y)) := fun W => ref_Gcd x y W hx hy
theorem r3_div {x y : Nat} (hx : x < capN) (hy : y < capK 999) (h0 : 0 < y) : R3 65 (natS x) (natS y) (natS (x / y)) (natS (x % y)) := fun W => ref_Div x y W hx hy h0
theorem size_lt999 {n : Nat} (h : (natS n).size ≤ 999) : n < capK 999 := (capK_len (by decide)).1 (by rw [← natS_size]; exact h)
theorem is48 {n : Nat} (h : 0 < n) : ((natS n).toList == [48]) = false := str_ne (t := ⟨#[48]⟩) (natS_ne_zero h) rfl
theorem is49 (n : Nat) : ((natS n).toList == [49]) = decide (n = 1) := by
  by_cases e : n = 1
  · rw [decide_eq_true e]; exact str_eq (by rw [e, natS_one])
  · rw [decide_eq_false e]; exact str_ne (t := ⟨#[49]⟩) (fun h => e (natS_inj (h.trans natS_one.symm))) rfl
/-- Valid of the reference. -/
theorem r4_valid (g : Bool) (s t : ByteArray) (hs : s.size ≤ 999) (ht : t.size ≤ 999) : QV g s t (vldR g s t) := fun W => by
  have ms : s.size ≤ maxLen := by unfold maxLen; omega
  have mt : t.size ≤ maxLen := by unfold maxLen; omega
  rcases Bool.eq_false_or_eq_true (vldN s) with v1 | v1
  · rcases Bool.eq_false_or_eq_true (vldN t) with v2 | v2
    · have h1 := rv_t ms v1
      have h2 := rv_t mt v2
      obtain ⟨n, hn, rfl⟩ := vldN_obtain v1
      obtain ⟨d, hd, rfl⟩ := vldN_obtain v2
      rw [vldR_nat hn hd]
      by_cases hd0 : d = 0
      · subst hd0
        rw [natS_zero] at h2 ⊢
        rw [decide_eq_false (by simp)]
        exact r4_valid3 g _ W h1 h2
      · rw [decide_eq_true hd0, Bool.true_and]
        have fd := is48 (n := d) (by omega)
        by_cases hn0 : n = 0
        · subst hn0
          rw [if_pos rfl, natS_zero] at *
          have f1 := is49 d
          rcases Bool.eq_false_or_eq_true (decide (d = 1)) with hh | hh
          · rw [hh] at f1 ⊢
            cases g
            · exact r4_valid4a _ W h1 h2 fd f1
            · exact r4_valid4b _ W h1 h2 fd f1
          · rw [hh] at f1 ⊢
            cases g
            · exact r4_valid4c _ W h1 h2 fd f1
            · exact r4_valid4d _ W h1 h2 fd f1
        · rw [if_neg hn0]
          exact r4_valid5 g _ _ _ _ W h1 h2 (r2_gcd (size_lt999 hs) (size_lt999 ht)) fd (is48 (by omega)) (is49 _)
    · rw [vldR_bad (.inr ⟨v1, v2⟩)]
      exact r4_valid2 g s t W (rv_t ms v1) (rv_f mt v2)
  · rw [vldR_bad (.inl v1)]
    exact r4_valid1 g s t W (rv_f ms v1)
theorem r4_lowest (g : Bool) {n d : Nat} (hn : n < capK 999) (hd : d < capK 999) (hd0 : 0 < d) {g' : Bool} {s' t' : ByteArray} (hq : IsQ (mkQ g n d) g' s' t') : QL g (natS n) (natS d) g' s' t' := fun W => by
  by_cases h0 : 0 < n
  · obtain ⟨hl, hv⟩ := lowest_eq (g := g) hd0 h0
    unfold IsQ at hq
    rw [← hv, mkQ_low_eq hl] at hq
    simp only [Value.agg.injEq, Array.mk.injEq, List.cons.injEq, Value.bool.injEq, Value.string.injEq, and_true] at hq
    obtain ⟨rfl, rfl, rfl⟩ := hq
    have hg0 : 0 < Nat.gcd n d := Nat.gcd_pos_of_pos_left _ h0
    have hgk : Nat.gcd n d < capK 999 := Nat.lt_of_le_of_lt (Nat.le_of_dvd h0 (Nat.gcd_dvd_left n d)) hn
    exact r4_lowest1 g _ _ _ _ _ _ _ W (r2_gcd hn hd) (r3_div (cap999 hn) hgk hg0) (r3_div (cap999 hd) hgk hg0) (is48 h0)
  · obtain rfl : n = 0 := by omega
    have e0 : mkQ g 0 d = 0 := by
      unfold mkQ; cases g <;> simp
    rw [e0] at hq
    unfold IsQ at hq
    rw [rqV_zero] at hq
    simp only [Value.agg.injEq, Array.mk.injEq, List.cons.injEq, Value.bool.injEq, Value.string.injEq, and_true] at hq
    obtain ⟨rfl, rfl, rfl⟩ := hq
    rw [natS_zero]
    exact r4_lowest0 g _ W
set_option maxHeartbeats 4000000 in
set_option maxRecDepth 100000 in
theorem r4_of0 (n : Int) (w : World)  :
    Calls Tryz.prog 14 #[.int .i64 n, .int .i64 0] w fun e w' => e = .returned (.tuple #[.agg #[.bool false, .string ⟨#[]⟩, .string ⟨#[]⟩], .int .i64 14]) ∧ Below w.heap.size w w' := by
  have HB0 : Hid (Below w.heap.size w w) := Below.refl _ _
  have HV0 : Hid (VL w []) := VL.nil w
  go_enter Tryz.func14, Tryz.ntmps14
  go_wp2_with fail
  exact bodyPost_ret (v := .tuple #[.agg #[.bool false, .string ⟨#[]⟩, .string ⟨#[]⟩], .int .i64 14]) (by simp [results, Tryz.results14, go_sem]) rfl ⟨rfl, bAlloc (Below.refl _ _) _⟩
set_option maxHeartbeats 4000000 in
set_option maxRecDepth 100000 in
theorem r4_of1 (n d : Int) (b1 b2 : Bool) (u v : ByteArray) (g : Bool) (s t : ByteArray) (w : World) (h1 : RA n u) (h2 : RA d v) (h3 : QL (b1 != b2) u v g s t) (f1 : decide (n < 0) = b1) (f2 : decide (d < 0) = b2) (f3 : (d == 0) = false) :
    Calls Tryz.prog 14 #[.int .i64 n, .int .i64 d] w fun e w' => e = .returned (.tuple #[.agg #[.bool g, .string s, .string t], .int .i64 0]) ∧ Below w.heap.size w w' := by
  unfold RA at h1
  have Hh1 := hide h1
  unfold RA at h2
  have Hh2 := hide h2
  unfold QL at h3
  have Hh3 := hide h3
  have HB0 : Hid (Below w.heap.size w w) := Below.refl _ _
  have HV0 : Hid (VL w []) := VL.nil w
  clear h1 h2 h3 
  go_enter Tryz.func14, Tryz.ntmps14
  have HV0_ := hide (HV0.out.pushAt (b := w.heap.size) (by simp) false ⟨#[]⟩ ⟨#[]⟩ 24)
  have HB0_ := hide (bAlloc HB0.out (.cells #[.bool false, .string ⟨#[]⟩, .string ⟨#[]⟩] 24))
  clear HB0 HV0
  go_wp2_with fail
  refine (Hh1.out _).mono ?_
  rintro e w1 ⟨rfl, hb⟩
  have HB1 := hide (bStep HB0_.out hb)
  have HV1 := hide (HV0_.out.below hb)
  clear hb HB0_ HV0_
  go_wp2_with fail
  refine (Hh2.out _).mono ?_
  rintro e w2 ⟨rfl, hb⟩
  have HB2 := hide (bStep HB1.out hb)
  have HV2 := hide (HV1.out.below hb)
  clear hb HB1 HV1
  go_wp2_with fail
  refine (Hh3.out _).mono ?_
  rintro e w3 ⟨rfl, hb⟩
  have HB3 := hide (bStep HB2.out hb)
  have HV3 := hide (HV2.out.below hb)
  clear hb HB2 HV2
  obtain ⟨k1_0, k1_1, k1_2, k1_3, k1_4, k1_5⟩ := VL.get (b := w.heap.size) (g := false) (s := ⟨#[]⟩) (t := ⟨#[]⟩) HV3.out (by simp)
  go_wp2_with fail
  clear k1_0 k1_1 k1_2 k1_3 k1_4 k1_5
  obtain ⟨d0, d1, d2, _, _, _⟩ := (VL.get (b := w.heap.size) (g := false) (s := ⟨#[]⟩) (t := ⟨#[]⟩) HV3.out (by simp)).set3 g s t
  exact bodyPost_ret (v := .tuple #[.agg #[.bool g, .string s, .string t], .int .i64 0]) (by simp [results, Tryz.results14, go_sem, d0, d1, d2]) rfl ⟨rfl, bset3 HB3.out (by omega) _ _ _⟩
set_option maxHeartbeats 4000000 in
set_option maxRecDepth 100000 in
theorem r4_make1 (g : Bool) (s t : ByteArray) (w : World) (h1 : RV s false) :
    Calls Tryz.prog 16 #[.bool g, .string s, .string t] w fun e w' => e = .returned (.tuple #[.agg #[.bool false, .string ⟨#[]⟩, .string ⟨#[]⟩], .int .i64 1]) ∧ Below w.heap.size w w' := by
  unfold RV at h1
  have Hh1 := hide h1
  have HB0 : Hid (Below w.heap.size w w) := Below.refl _ _
  have HV0 : Hid (VL w []) := VL.nil w
  clear h1 
  go_enter Tryz.func16, Tryz.ntmps16
  have HV0_ := hide (HV0.out.pushAt (b := w.heap.size) (by simp) false ⟨#[]⟩ ⟨#[]⟩ 24)
  have HB0_ := hide (bAlloc HB0.out (.cells #[.bool false, .string ⟨#[]⟩, .string ⟨#[]⟩] 24))
  clear HB0 HV0
  go_wp2_with fail
  refine (Hh1.out _).mono ?_
  rintro e w1 ⟨rfl, hb⟩
  have HB1 := hide (bStep HB0_.out hb)
  have HV1 := hide (HV0_.out.below hb)
  clear hb HB0_ HV0_
  obtain ⟨k1_0, k1_1, k1_2, k1_3, k1_4, k1_5⟩ := VL.get (b := w.heap.size) (g := false) (s := ⟨#[]⟩) (t := ⟨#[]⟩) HV1.out (by simp)
  go_wp2_with fail
  clear k1_0 k1_1 k1_2 k1_3 k1_4 k1_5
  obtain ⟨d0, d1, d2, _, _, _⟩ := (VL.get (b := w.heap.size) (g := false) (s := ⟨#[]⟩) (t := ⟨#[]⟩) HV1.out (by simp)).set3 false ⟨#[]⟩ ⟨#[]⟩
  exact bodyPost_ret (v := .tuple #[.agg #[.bool false, .string ⟨#[]⟩, .string ⟨#[]⟩], .int .i64 1]) (by simp [results, Tryz.results16, go_sem, d0, d1, d2]) rfl ⟨rfl, bset3 HB1.out (by omega) _ _ _⟩
set_option maxHeartbeats 4000000 in
set_option maxRecDepth 100000 in
theorem r4_make2 (g : Bool) (s t : ByteArray) (w : World) (h1 : RV s true) (h2 : RV t false) :
    Calls Tryz.prog 16 #[.bool g, .string s, .string t] w fun e w' => e = .returned (.tuple #[.agg #[.bool false, .string ⟨#[]⟩, .string ⟨#[]⟩], .int .i64 1]) ∧ Below w.heap.size w w' := by
  unfold RV at h1
  have Hh1 := hide h1
  unfold RV at h2
  have Hh2 := hide h2
  have HB0 : Hid (Below w.heap.size w w) := Below.refl _ _
  have HV0 : Hid (VL w []) := VL.nil w
  clear h1 h2 
  go_enter Tryz.func16, Tryz.ntmps16
  have HV0_ := hide (HV0.out.pushAt (b := w.heap.size) (by simp) false ⟨#[]⟩ ⟨#[]⟩ 24)
  have HB0_ := hide (bAlloc HB0.out (.cells #[.bool false, .string ⟨#[]⟩, .string ⟨#[]⟩] 24))
  clear HB0 HV0
  go_wp2_with fail
  refine (Hh1.out _).mono ?_
  rintro e w1 ⟨rfl, hb⟩
  have HB1 := hide (bStep HB0_.out hb)
  have HV1 := hide (HV0_.out.below hb)
  clear hb HB0_ HV0_
  go_wp2_with fail
  refine (Hh2.out _).mono ?_
  rintro e w2 ⟨rfl, hb⟩
  have HB2 := hide (bStep HB1.out hb)
  have HV2 := hide (HV1.out.below hb)
  clear hb HB1 HV1
  obtain ⟨k1_0, k1_1, k1_2, k1_3, k1_4, k1_5⟩ := VL.get (b := w.heap.size) (g := false) (s := ⟨#[]⟩) (t := ⟨#[]⟩) HV2.out (by simp)
  go_wp2_with fail
  clear k1_0 k1_1 k1_2 k1_3 k1_4 k1_5
  obtain ⟨d0, d1, d2, _, _, _⟩ := (VL.get (b := w.heap.size) (g := false) (s := ⟨#[]⟩) (t := ⟨#[]⟩) HV2.out (by simp)).set3 false ⟨#[]⟩ ⟨#[]⟩
  exact bodyPost_ret (v := .tuple #[.agg #[.bool false, .string ⟨#[]⟩, .string ⟨#[]⟩], .int .i64 1]) (by simp [results, Tryz.results16, go_sem, d0, d1, d2]) rfl ⟨rfl, bset3 HB2.out (by omega) _ _ _⟩
set_option maxHeartbeats 4000000 in
set_option maxRecDepth 100000 in
theorem r4_make3 (g : Bool) (s : ByteArray) (w : World) (h1 : RV s true) (h2 : RV ⟨#[48]⟩ true) :
    Calls Tryz.prog 16 #[.bool g, .string s, .string ⟨#[48]⟩] w fun e w' => e = .returned (.tuple #[.agg #[.bool false, .string ⟨#[]⟩, .string ⟨#[]⟩], .int .i64 14]) ∧ Below w.heap.size w w' := by
  unfold RV at h1
  have Hh1 := hide h1
  unfold RV at h2
  have Hh2 := hide h2
  have HB0 : Hid (Below w.heap.size w w) := Below.refl _ _
  have HV0 : Hid (VL w []) := VL.nil w
  clear h1 h2 
  go_enter Tryz.func16, Tryz.ntmps16
  have HV0_ := hide (HV0.out.pushAt (b := w.heap.size) (by simp) false ⟨#[]⟩ ⟨#[]⟩ 24)
  have HB0_ := hide (bAlloc HB0.out (.cells #[.bool false, .string ⟨#[]⟩, .string ⟨#[]⟩] 24))
  clear HB0 HV0
  go_wp2_with fail
  refine (Hh1.out _).mono ?_
  rintro e w1 ⟨rfl, hb⟩
  have HB1 := hide (bStep HB0_.out hb)
  have HV1 := hide (HV0_.out.below hb)
  clear hb HB0_ HV0_
  go_wp2_with fail
  refine (Hh2.out _).mono ?_
  rintro e w2 ⟨rfl, hb⟩
  have HB2 := hide (bStep HB1.out hb)
  have HV2 := hide (HV1.out.below hb)
  clear hb HB1 HV1
  obtain ⟨k1_0, k1_1, k1_2, k1_3, k1_4, k1_5⟩ := VL.get (b := w.heap.size) (g := false) (s := ⟨#[]⟩) (t := ⟨#[]⟩) HV2.out (by simp)
  go_wp2_with fail
  clear k1_0 k1_1 k1_2 k1_3 k1_4 k1_5
  obtain ⟨d0, d1, d2, _, _, _⟩ := (VL.get (b := w.heap.size) (g := false) (s := ⟨#[]⟩) (t := ⟨#[]⟩) HV2.out (by simp)).set3 false ⟨#[]⟩ ⟨#[]⟩
  exact bodyPost_ret (v := .tuple #[.agg #[.bool false, .string ⟨#[]⟩, .string ⟨#[]⟩], .int .i64 14]) (by simp [results, Tryz.results16, go_sem, d0, d1, d2]) rfl ⟨rfl, bset3 HB2.out (by omega) _ _ _⟩
set_option maxHeartbeats 4000000 in
set_option maxRecDepth 100000 in
theorem r4_make4 (g : Bool) (s t : ByteArray) (g1 : Bool) (s1 t1 : ByteArray) (w : World) (h1 : RV s true) (h2 : RV t true) (h3 : QL g s t g1 s1 t1) (f1 : (t.toList == [48]) = false) :
    Calls Tryz.prog 16 #[.bool g, .string s, .string t] w fun e w' => e = .returned (.tuple #[.agg #[.bool g1, .string s1, .string t1], .int .i64 0]) ∧ Below w.heap.size w w' := by
  unfold RV at h1
  have Hh1 := hide h1
  unfold RV at h2
  have Hh2 := hide h2
  unfold QL at h3
  have Hh3 := hide h3
  have HB0 : Hid (Below w.heap.size w w) := Below.refl _ _
  have HV0 : Hid (VL w []) := VL.nil w
  clear h1 h2 h3 
  go_enter Tryz.func16, Tryz.ntmps16
  have HV0_ := hide (HV0.out.pushAt (b := w.heap.size) (by simp) false ⟨#[]⟩ ⟨#[]⟩ 24)
  have HB0_ := hide (bAlloc HB0.out (.cells #[.bool false, .string ⟨#[]⟩, .string ⟨#[]⟩] 24))
  clear HB0 HV0
  go_wp2_with fail
  refine (Hh1.out _).mono ?_
  rintro e w1 ⟨rfl, hb⟩
  have HB1 := hide (bStep HB0_.out hb)
  have HV1 := hide (HV0_.out.below hb)
  clear hb HB0_ HV0_
  go_wp2_with fail
  refine (Hh2.out _).mono ?_
  rintro e w2 ⟨rfl, hb⟩
  have HB2 := hide (bStep HB1.out hb)
  have HV2 := hide (HV1.out.below hb)
  clear hb HB1 HV1
  go_wp2_with fail
  refine (Hh3.out _).mono ?_
  rintro e w3 ⟨rfl, hb⟩
  have HB3 := hide (bStep HB2.out hb)
  have HV3 := hide (HV2.out.below hb)
  clear hb HB2 HV2
  obtain ⟨k1_0, k1_1, k1_2, k1_3, k1_4, k1_5⟩ := VL.get (b := w.heap.size) (g := false) (s := ⟨#[]⟩) (t := ⟨#[]⟩) HV3.out (by simp)
  go_wp2_with fail
  clear k1_0 k1_1 k1_2 k1_3 k1_4 k1_5
  obtain ⟨d0, d1, d2, _, _, _⟩ := (VL.get (b := w.heap.size) (g := false) (s := ⟨#[]⟩) (t := ⟨#[]⟩) HV3.out (by simp)).set3 g1 s1 t1
  exact bodyPost_ret (v := .tuple #[.agg #[.bool g1, .string s1, .string t1], .int .i64 0]) (by simp [results, Tryz.results16, go_sem, d0, d1, d2]) rfl ⟨rfl, bset3 HB3.out (by omega) _ _ _⟩
set_option maxHeartbeats 4000000 in
set_option maxRecDepth 100000 in
theorem r4_minus0 (g : Bool) (t : ByteArray) (w : World)  :
    Calls Tryz.prog 61 #[.agg #[.bool g, .string ⟨#[48]⟩, .string t]] w fun e w' => e = .returned (.agg #[.bool g, .string ⟨#[48]⟩, .string t]) ∧ Below w.heap.size w w' := by
  have HB0 : Hid (Below w.heap.size w w) := Below.refl _ _
  have HV0 : Hid (VL w []) := VL.nil w
  go_enter Tryz.func61, Tryz.ntmps61
  go_wp2_with fail
  exact bodyPost_ret (v := .agg #[.bool g, .string ⟨#[48]⟩, .string t]) (by simp [results, Tryz.results61, go_sem]) rfl ⟨rfl, bAlloc (bAlloc (Below.refl _ _) _) _⟩
set_option maxHeartbeats 4000000 in
set_option maxRecDepth 100000 in
theorem r4_minus1 (g : Bool) (s t : ByteArray) (w : World) (f1 : (s.toList == [48]) = false) :
    Calls Tryz.prog 61 #[.agg #[.bool g, .string s, .string t]] w fun e w' => e = .returned (.agg #[.bool (!g), .string s, .string t]) ∧ Below w.heap.size w w' := by
  have HB0 : Hid (Below w.heap.size w w) := Below.refl _ _
  have HV0 : Hid (VL w []) := VL.nil w
  go_enter Tryz.func61, Tryz.ntmps61
  go_wp2_with fail
  exact bodyPost_ret (v := .agg #[.bool (!g), .string s, .string t]) (by simp [results, Tryz.results61, go_sem]) rfl ⟨rfl, bAlloc (bAlloc (Below.refl _ _) _) _⟩
theorem r4_minus {q : Rat} {g g' : Bool} {s t s' t' : ByteArray} (e : IsQ q g s t) (e' : IsQ (-q) g' s' t') : QM g s t g' s' t' := fun W => by
  by_cases h0 : q = 0
  · subst h0
    rw [show -(0 : Rat) = 0 by grind] at e'
    unfold IsQ at e e'
    rw [e] at e'
    simp only [Value.agg.injEq, Array.mk.injEq, List.cons.injEq, Value.bool.injEq, Value.string.injEq, and_true] at e'
    obtain ⟨rfl, rfl, rfl⟩ := e'
    rw [rqV_zero] at e
    simp only [Value.agg.injEq, Array.mk.injEq, List.cons.injEq, Value.bool.injEq, Value.string.injEq, and_true] at e
    obtain ⟨rfl, rfl, rfl⟩ := e
    exact r4_minus0 _ _ W
  · have f1 := isQ_num e h0
    unfold IsQ rqV at e e'
    simp only [Value.agg.injEq, Array.mk.injEq, List.cons.injEq, Value.bool.injEq, Value.string.injEq, and_true] at e e'
    obtain ⟨e1, e2, e3⟩ := neg_parts q
    obtain ⟨a1, a2, a3⟩ := e
    obtain ⟨b1, b2, b3⟩ := e'
    rw [e2, a2] at b2
    rw [e3, a3] at b3
    subst b2 b3
    have hg : g' = !g := by
      rw [← b1, ← a1]
      unfold ngQ
      rw [Rat.neg_num]
      have hn : q.num ≠ 0 := fun h => h0 (Rat.num_eq_zero.1 h)
      by_cases hlt : q.num < 0
      · rw [decide_eq_true hlt, decide_eq_false (by omega)]; rfl
      · rw [decide_eq_false hlt, decide_eq_true (by omega)]; rfl
    subst hg
    exact r4_minus1 _ _ _ W f1
end Go.Proofs.YtncocgfgbocnkaaGreatDoor
/- observatoryref04: Add, Mul, Sub, Div. -/
namespace Go.Proofs.YtncocgfgbocnkaaGreatDoor
open Go.RowKit

def RI (a b : ByteArray) (c : Int) : Prop := ∀ W, Calls Tryz.prog 59 #[.string a, .string b] W fun e w' => e = .returned (.int .i64 c) ∧ Below W.heap.size W w'

set_option maxHeartbeats 4000000 in
set_option maxRecDepth 100000 in
theorem r4_Add1 (ga : Bool) (sa ta : ByteArray) (gb : Bool) (sb tb : ByteArray) (w : World) (ha : QV ga sa ta false) :
    Calls Tryz.prog 26 #[.agg #[.bool ga, .string sa, .string ta], .agg #[.bool gb, .string sb, .string tb]] w fun e w' => e = .returned (.tuple #[.agg #[.bool false, .string ⟨#[]⟩, .string ⟨#[]⟩], .int .i64 1]) ∧ Below w.heap.size w w' := by
  unfold QV at ha
  have Hha := hide ha
  have HB0 : Hid (Below w.heap.size w w) := Below.refl _ _
  have HV0 : Hid (VL w []) := VL.nil w
  clear ha 
  go_enter Tryz.func26, Tryz.ntmps26
  have HV0_ := hide (HV0.out.pushAt (b := w.heap.size) (by simp) ga sa ta 24)
  have HB0_ := hide (bAlloc HB0.out (.cells #[.bool ga, .string sa, .string ta] 24))
  clear HB0 HV0
  have HV0__ := hide (HV0_.out.pushAt (b := w.heap.size + 1) (by simp) gb sb tb 24)
  have HB0__ := hide (bAlloc HB0_.out (.cells #[.bool gb, .string sb, .string tb] 24))
  clear HB0_ HV0_
  have HV0___ := hide (HV0__.out.pushAt (b := w.heap.size + 2) (by simp) false ⟨#[]⟩ ⟨#[]⟩ 24)
  have HB0___ := hide (bAlloc HB0__.out (.cells #[.bool false, .string ⟨#[]⟩, .string ⟨#[]⟩] 24))
  clear HB0__ HV0__
  obtain ⟨c3, c4, c5⟩ := VL.cells3 (b := w.heap.size) (g := ga) (s := sa) (t := ta) HV0___.out (by simp)
  go_wp2_with fail
  clear c3 c4 c5
  refine (Hha.out _).mono ?_
  rintro e w1 ⟨rfl, hb⟩
  have HB1 := hide (bStep HB0___.out hb)
  have HV1 := hide (HV0___.out.below hb)
  clear hb HB0___ HV0___
  obtain ⟨k1_0, k1_1, k1_2, k1_3, k1_4, k1_5⟩ := VL.get (b := w.heap.size + 2) (g := false) (s := ⟨#[]⟩) (t := ⟨#[]⟩) HV1.out (by simp)
  go_wp2_with fail
  clear k1_0 k1_1 k1_2 k1_3 k1_4 k1_5
  obtain ⟨d0, d1, d2, _, _, _⟩ := (VL.get (b := w.heap.size + 2) (g := false) (s := ⟨#[]⟩) (t := ⟨#[]⟩) HV1.out (by simp)).set3 false ⟨#[]⟩ ⟨#[]⟩
  exact bodyPost_ret (v := .tuple #[.agg #[.bool false, .string ⟨#[]⟩, .string ⟨#[]⟩], .int .i64 1]) (by simp [results, Tryz.results26, go_sem, d0, d1, d2]) rfl ⟨rfl, bset3 HB1.out (by omega) _ _ _⟩
set_option maxHeartbeats 4000000 in
set_option maxRecDepth 100000 in
theorem r4_Add2 (ga : Bool) (sa ta : ByteArray) (gb : Bool) (sb tb : ByteArray) (w : World) (ha : QV ga sa ta true) (hb : QV gb sb tb false) :
    Calls Tryz.prog 26 #[.agg #[.bool ga, .string sa, .string ta], .agg #[.bool gb, .string sb, .string tb]] w fun e w' => e = .returned (.tuple #[.agg #[.bool false, .string ⟨#[]⟩, .string ⟨#[]⟩], .int .i64 1]) ∧ Below w.heap.size w w' := by
  unfold QV at ha
  have Hha := hide ha
  unfold QV at hb
  have Hhb := hide hb
  have HB0 : Hid (Below w.heap.size w w) := Below.refl _ _
  have HV0 : Hid (VL w []) := VL.nil w
  clear ha hb 
  go_enter Tryz.func26, Tryz.ntmps26
  have HV0_ := hide (HV0.out.pushAt (b := w.heap.size) (by simp) ga sa ta 24)
  have HB0_ := hide (bAlloc HB0.out (.cells #[.bool ga, .string sa, .string ta] 24))
  clear HB0 HV0
  have HV0__ := hide (HV0_.out.pushAt (b := w.heap.size + 1) (by simp) gb sb tb 24)
  have HB0__ := hide (bAlloc HB0_.out (.cells #[.bool gb, .string sb, .string tb] 24))
  clear HB0_ HV0_
  have HV0___ := hide (HV0__.out.pushAt (b := w.heap.size + 2) (by simp) false ⟨#[]⟩ ⟨#[]⟩ 24)
  have HB0___ := hide (bAlloc HB0__.out (.cells #[.bool false, .string ⟨#[]⟩, .string ⟨#[]⟩] 24))
  clear HB0__ HV0__
  obtain ⟨c3, c4, c5⟩ := VL.cells3 (b := w.heap.size) (g := ga) (s := sa) (t := ta) HV0___.out (by simp)
  go_wp2_with fail
  clear c3 c4 c5
  refine (Hha.out _).mono ?_
  rintro e w1 ⟨rfl, hb⟩
  have HB1 := hide (bStep HB0___.out hb)
  have HV1 := hide (HV0___.out.below hb)
  clear hb HB0___ HV0___
  obtain ⟨c6, c7, c8⟩ := VL.cells3 (b := w.heap.size + 1) (g := gb) (s := sb) (t := tb) HV1.out (by simp)
  go_wp2_with fail
  clear c6 c7 c8
  refine (Hhb.out _).mono ?_
  rintro e w2 ⟨rfl, hb⟩
  have HB2 := hide (bStep HB1.out hb)
  have HV2 := hide (HV1.out.below hb)
  clear hb HB1 HV1
  obtain ⟨k1_0, k1_1, k1_2, k1_3, k1_4, k1_5⟩ := VL.get (b := w.heap.size + 2) (g := false) (s := ⟨#[]⟩) (t := ⟨#[]⟩) HV2.out (by simp)
  go_wp2_with fail
  clear k1_0 k1_1 k1_2 k1_3 k1_4 k1_5
  obtain ⟨d0, d1, d2, _, _, _⟩ := (VL.get (b := w.heap.size + 2) (g := false) (s := ⟨#[]⟩) (t := ⟨#[]⟩) HV2.out (by simp)).set3 false ⟨#[]⟩ ⟨#[]⟩
  exact bodyPost_ret (v := .tuple #[.agg #[.bool false, .string ⟨#[]⟩, .string ⟨#[]⟩], .int .i64 1]) (by simp [results, Tryz.results26, go_sem, d0, d1, d2]) rfl ⟨rfl, bset3 HB2.out (by omega) _ _ _⟩
set_option maxHeartbeats 4000000 in
set_option maxRecDepth 100000 in
theorem r4_Sub1 (ga : Bool) (sa ta : ByteArray) (gb : Bool) (sb tb : ByteArray) (w : World) (ha : QV ga sa ta false) :
    Calls Tryz.prog 28 #[.agg #[.bool ga, .string sa, .string ta], .agg #[.bool gb, .string sb, .string tb]] w fun e w' => e = .returned (.tuple #[.agg #[.bool false, .string ⟨#[]⟩, .string ⟨#[]⟩], .int .i64 1]) ∧ Below w.heap.size w w' := by
  unfold QV at ha
  have Hha := hide ha
  have HB0 : Hid (Below w.heap.size w w) := Below.refl _ _
  have HV0 : Hid (VL w []) := VL.nil w
  clear ha 
  go_enter Tryz.func28, Tryz.ntmps28
  have HV0_ := hide (HV0.out.pushAt (b := w.heap.size) (by simp) ga sa ta 24)
  have HB0_ := hide (bAlloc HB0.out (.cells #[.bool ga, .string sa, .string ta] 24))
  clear HB0 HV0
  have HV0__ := hide (HV0_.out.pushAt (b := w.heap.size + 1) (by simp) gb sb tb 24)
  have HB0__ := hide (bAlloc HB0_.out (.cells #[.bool gb, .string sb, .string tb] 24))
  clear HB0_ HV0_
  have HV0___ := hide (HV0__.out.pushAt (b := w.heap.size + 2) (by simp) false ⟨#[]⟩ ⟨#[]⟩ 24)
  have HB0___ := hide (bAlloc HB0__.out (.cells #[.bool false, .string ⟨#[]⟩, .string ⟨#[]⟩] 24))
  clear HB0__ HV0__
  obtain ⟨c3, c4, c5⟩ := VL.cells3 (b := w.heap.size) (g := ga) (s := sa) (t := ta) HV0___.out (by simp)
  go_wp2_with fail
  clear c3 c4 c5
  refine (Hha.out _).mono ?_
  rintro e w1 ⟨rfl, hb⟩
  have HB1 := hide (bStep HB0___.out hb)
  have HV1 := hide (HV0___.out.below hb)
  clear hb HB0___ HV0___
  obtain ⟨k1_0, k1_1, k1_2, k1_3, k1_4, k1_5⟩ := VL.get (b := w.heap.size + 2) (g := false) (s := ⟨#[]⟩) (t := ⟨#[]⟩) HV1.out (by simp)
  go_wp2_with fail
  clear k1_0 k1_1 k1_2 k1_3 k1_4 k1_5
  obtain ⟨d0, d1, d2, _, _, _⟩ := (VL.get (b := w.heap.size + 2) (g := false) (s := ⟨#[]⟩) (t := ⟨#[]⟩) HV1.out (by simp)).set3 false ⟨#[]⟩ ⟨#[]⟩
  exact bodyPost_ret (v := .tuple #[.agg #[.bool false, .string ⟨#[]⟩, .string ⟨#[]⟩], .int .i64 1]) (by simp [results, Tryz.results28, go_sem, d0, d1, d2]) rfl ⟨rfl, bset3 HB1.out (by omega) _ _ _⟩
set_option maxHeartbeats 4000000 in
set_option maxRecDepth 100000 in
theorem r4_Sub2 (ga : Bool) (sa ta : ByteArray) (gb : Bool) (sb tb : ByteArray) (w : World) (ha : QV ga sa ta true) (hb : QV gb sb tb false) :
    Calls Tryz.prog 28 #[.agg #[.bool ga, .string sa, .string ta], .agg #[.bool gb, .string sb, .string tb]] w fun e w' => e = .returned (.tuple #[.agg #[.bool false, .string ⟨#[]⟩, .string ⟨#[]⟩], .int .i64 1]) ∧ Below w.heap.size w w' := by
  unfold QV at ha
  have Hha := hide ha
  unfold QV at hb
  have Hhb := hide hb
  have HB0 : Hid (Below w.heap.size w w) := Below.refl _ _
  have HV0 : Hid (VL w []) := VL.nil w
  clear ha hb 
  go_enter Tryz.func28, Tryz.ntmps28
  have HV0_ := hide (HV0.out.pushAt (b := w.heap.size) (by simp) ga sa ta 24)
  have HB0_ := hide (bAlloc HB0.out (.cells #[.bool ga, .string sa, .string ta] 24))
  clear HB0 HV0
  have HV0__ := hide (HV0_.out.pushAt (b := w.heap.size + 1) (by simp) gb sb tb 24)
  have HB0__ := hide (bAlloc HB0_.out (.cells #[.bool gb, .string sb, .string tb] 24))
  clear HB0_ HV0_
  have HV0___ := hide (HV0__.out.pushAt (b := w.heap.size + 2) (by simp) false ⟨#[]⟩ ⟨#[]⟩ 24)
  have HB0___ := hide (bAlloc HB0__.out (.cells #[.bool false, .string ⟨#[]⟩, .string ⟨#[]⟩] 24))
  clear HB0__ HV0__
  obtain ⟨c3, c4, c5⟩ := VL.cells3 (b := w.heap.size) (g := ga) (s := sa) (t := ta) HV0___.out (by simp)
  go_wp2_with fail
  clear c3 c4 c5
  refine (Hha.out _).mono ?_
  rintro e w1 ⟨rfl, hb⟩
  have HB1 := hide (bStep HB0___.out hb)
  have HV1 := hide (HV0___.out.below hb)
  clear hb HB0___ HV0___
  obtain ⟨c6, c7, c8⟩ := VL.cells3 (b := w.heap.size + 1) (g := gb) (s := sb) (t := tb) HV1.out (by simp)
  go_wp2_with fail
  clear c6 c7 c8
  refine (Hhb.out _).mono ?_
  rintro e w2 ⟨rfl, hb⟩
  have HB2 := hide (bStep HB1.out hb)
  have HV2 := hide (HV1.out.below hb)
  clear hb HB1 HV1
  obtain ⟨k1_0, k1_1, k1_2, k1_3, k1_4, k1_5⟩ := VL.get (b := w.heap.size + 2) (g := false) (s := ⟨#[]⟩) (t := ⟨#[]⟩) HV2.out (by simp)
  go_wp2_with fail
  clear k1_0 k1_1 k1_2 k1_3 k1_4 k1_5
  obtain ⟨d0, d1, d2, _, _, _⟩ := (VL.get (b := w.heap.size + 2) (g := false) (s := ⟨#[]⟩) (t := ⟨#[]⟩) HV2.out (by simp)).set3 false ⟨#[]⟩ ⟨#[]⟩
  exact bodyPost_ret (v := .tuple #[.agg #[.bool false, .string ⟨#[]⟩, .string ⟨#[]⟩], .int .i64 1]) (by simp [results, Tryz.results28, go_sem, d0, d1, d2]) rfl ⟨rfl, bset3 HB2.out (by omega) _ _ _⟩
set_option maxHeartbeats 4000000 in
set_option maxRecDepth 100000 in
theorem r4_Mul1 (ga : Bool) (sa ta : ByteArray) (gb : Bool) (sb tb : ByteArray) (w : World) (ha : QV ga sa ta false) :
    Calls Tryz.prog 30 #[.agg #[.bool ga, .string sa, .string ta], .agg #[.bool gb, .string sb, .string tb]] w fun e w' => e = .returned (.tuple #[.agg #[.bool false, .string ⟨#[]⟩, .string ⟨#[]⟩], .int .i64 1]) ∧ Below w.heap.size w w' := by
  unfold QV at ha
  have Hha := hide ha
  have HB0 : Hid (Below w.heap.size w w) := Below.refl _ _
  have HV0 : Hid (VL w []) := VL.nil w
  clear ha 
  go_enter Tryz.func30, Tryz.ntmps30
  have HV0_ := hide (HV0.out.pushAt (b := w.heap.size) (by simp) ga sa ta 24)
  have HB0_ := hide (bAlloc HB0.out (.cells #[.bool ga, .string sa, .string ta] 24))
  clear HB0 HV0
  have HV0__ := hide (HV0_.out.pushAt (b := w.heap.size + 1) (by simp) gb sb tb 24)
  have HB0__ := hide (bAlloc HB0_.out (.cells #[.bool gb, .string sb, .string tb] 24))
  clear HB0_ HV0_
  have HV0___ := hide (HV0__.out.pushAt (b := w.heap.size + 2) (by simp) false ⟨#[]⟩ ⟨#[]⟩ 24)
  have HB0___ := hide (bAlloc HB0__.out (.cells #[.bool false, .string ⟨#[]⟩, .string ⟨#[]⟩] 24))
  clear HB0__ HV0__
  obtain ⟨c3, c4, c5⟩ := VL.cells3 (b := w.heap.size) (g := ga) (s := sa) (t := ta) HV0___.out (by simp)
  go_wp2_with fail
  clear c3 c4 c5
  refine (Hha.out _).mono ?_
  rintro e w1 ⟨rfl, hb⟩
  have HB1 := hide (bStep HB0___.out hb)
  have HV1 := hide (HV0___.out.below hb)
  clear hb HB0___ HV0___
  obtain ⟨k1_0, k1_1, k1_2, k1_3, k1_4, k1_5⟩ := VL.get (b := w.heap.size + 2) (g := false) (s := ⟨#[]⟩) (t := ⟨#[]⟩) HV1.out (by simp)
  go_wp2_with fail
  clear k1_0 k1_1 k1_2 k1_3 k1_4 k1_5
  obtain ⟨d0, d1, d2, _, _, _⟩ := (VL.get (b := w.heap.size + 2) (g := false) (s := ⟨#[]⟩) (t := ⟨#[]⟩) HV1.out (by simp)).set3 false ⟨#[]⟩ ⟨#[]⟩
  exact bodyPost_ret (v := .tuple #[.agg #[.bool false, .string ⟨#[]⟩, .string ⟨#[]⟩], .int .i64 1]) (by simp [results, Tryz.results30, go_sem, d0, d1, d2]) rfl ⟨rfl, bset3 HB1.out (by omega) _ _ _⟩
set_option maxHeartbeats 4000000 in
set_option maxRecDepth 100000 in
theorem r4_Mul2 (ga : Bool) (sa ta : ByteArray) (gb : Bool) (sb tb : ByteArray) (w : World) (ha : QV ga sa ta true) (hb : QV gb sb tb false) :
    Calls Tryz.prog 30 #[.agg #[.bool ga, .string sa, .string ta], .agg #[.bool gb, .string sb, .string tb]] w fun e w' => e = .returned (.tuple #[.agg #[.bool false, .string ⟨#[]⟩, .string ⟨#[]⟩], .int .i64 1]) ∧ Below w.heap.size w w' := by
  unfold QV at ha
  have Hha := hide ha
  unfold QV at hb
  have Hhb := hide hb
  have HB0 : Hid (Below w.heap.size w w) := Below.refl _ _
  have HV0 : Hid (VL w []) := VL.nil w
  clear ha hb 
  go_enter Tryz.func30, Tryz.ntmps30
  have HV0_ := hide (HV0.out.pushAt (b := w.heap.size) (by simp) ga sa ta 24)
  have HB0_ := hide (bAlloc HB0.out (.cells #[.bool ga, .string sa, .string ta] 24))
  clear HB0 HV0
  have HV0__ := hide (HV0_.out.pushAt (b := w.heap.size + 1) (by simp) gb sb tb 24)
  have HB0__ := hide (bAlloc HB0_.out (.cells #[.bool gb, .string sb, .string tb] 24))
  clear HB0_ HV0_
  have HV0___ := hide (HV0__.out.pushAt (b := w.heap.size + 2) (by simp) false ⟨#[]⟩ ⟨#[]⟩ 24)
  have HB0___ := hide (bAlloc HB0__.out (.cells #[.bool false, .string ⟨#[]⟩, .string ⟨#[]⟩] 24))
  clear HB0__ HV0__
  obtain ⟨c3, c4, c5⟩ := VL.cells3 (b := w.heap.size) (g := ga) (s := sa) (t := ta) HV0___.out (by simp)
  go_wp2_with fail
  clear c3 c4 c5
  refine (Hha.out _).mono ?_
  rintro e w1 ⟨rfl, hb⟩
  have HB1 := hide (bStep HB0___.out hb)
  have HV1 := hide (HV0___.out.below hb)
  clear hb HB0___ HV0___
  obtain ⟨c6, c7, c8⟩ := VL.cells3 (b := w.heap.size + 1) (g := gb) (s := sb) (t := tb) HV1.out (by simp)
  go_wp2_with fail
  clear c6 c7 c8
  refine (Hhb.out _).mono ?_
  rintro e w2 ⟨rfl, hb⟩
  have HB2 := hide (bStep HB1.out hb)
  have HV2 := hide (HV1.out.below hb)
  clear hb HB1 HV1
  obtain ⟨k1_0, k1_1, k1_2, k1_3, k1_4, k1_5⟩ := VL.get (b := w.heap.size + 2) (g := false) (s := ⟨#[]⟩) (t := ⟨#[]⟩) HV2.out (by simp)
  go_wp2_with fail
  clear k1_0 k1_1 k1_2 k1_3 k1_4 k1_5
  obtain ⟨d0, d1, d2, _, _, _⟩ := (VL.get (b := w.heap.size + 2) (g := false) (s := ⟨#[]⟩) (t := ⟨#[]⟩) HV2.out (by simp)).set3 false ⟨#[]⟩ ⟨#[]⟩
  exact bodyPost_ret (v := .tuple #[.agg #[.bool false, .string ⟨#[]⟩, .string ⟨#[]⟩], .int .i64 1]) (by simp [results, Tryz.results30, go_sem, d0, d1, d2]) rfl ⟨rfl, bset3 HB2.out (by omega) _ _ _⟩
set_option maxHeartbeats 4000000 in
set_option maxRecDepth 100000 in
theorem r4_Div1 (ga : Bool) (sa ta : ByteArray) (gb : Bool) (sb tb : ByteArray) (w : World) (ha : QV ga sa ta false) :
    Calls Tryz.prog 32 #[.agg #[.bool ga, .string sa, .string ta], .agg #[.bool gb, .string sb, .string tb]] w fun e w' => e = .returned (.tuple #[.agg #[.bool false, .string ⟨#[]⟩, .string ⟨#[]⟩], .int .i64 1]) ∧ Below w.heap.size w w' := by
  unfold QV at ha
  have Hha := hide ha
  have HB0 : Hid (Below w.heap.size w w) := Below.refl _ _
  have HV0 : Hid (VL w []) := VL.nil w
  clear ha 
  go_enter Tryz.func32, Tryz.ntmps32
  have HV0_ := hide (HV0.out.pushAt (b := w.heap.size) (by simp) ga sa ta 24)
  have HB0_ := hide (bAlloc HB0.out (.cells #[.bool ga, .string sa, .string ta] 24))
  clear HB0 HV0
  have HV0__ := hide (HV0_.out.pushAt (b := w.heap.size + 1) (by simp) gb sb tb 24)
  have HB0__ := hide (bAlloc HB0_.out (.cells #[.bool gb, .string sb, .string tb] 24))
  clear HB0_ HV0_
  have HV0___ := hide (HV0__.out.pushAt (b := w.heap.size + 2) (by simp) false ⟨#[]⟩ ⟨#[]⟩ 24)
  have HB0___ := hide (bAlloc HB0__.out (.cells #[.bool false, .string ⟨#[]⟩, .string ⟨#[]⟩] 24))
  clear HB0__ HV0__
  obtain ⟨c3, c4, c5⟩ := VL.cells3 (b := w.heap.size) (g := ga) (s := sa) (t := ta) HV0___.out (by simp)
  go_wp2_with fail
  clear c3 c4 c5
  refine (Hha.out _).mono ?_
  rintro e w1 ⟨rfl, hb⟩
  have HB1 := hide (bStep HB0___.out hb)
  have HV1 := hide (HV0___.out.below hb)
  clear hb HB0___ HV0___
  obtain ⟨k1_0, k1_1, k1_2, k1_3, k1_4, k1_5⟩ := VL.get (b := w.heap.size + 2) (g := false) (s := ⟨#[]⟩) (t := ⟨#[]⟩) HV1.out (by simp)
  go_wp2_with fail
  clear k1_0 k1_1 k1_2 k1_3 k1_4 k1_5
  obtain ⟨d0, d1, d2, _, _, _⟩ := (VL.get (b := w.heap.size + 2) (g := false) (s := ⟨#[]⟩) (t := ⟨#[]⟩) HV1.out (by simp)).set3 false ⟨#[]⟩ ⟨#[]⟩
  exact bodyPost_ret (v := .tuple #[.agg #[.bool false, .string ⟨#[]⟩, .string ⟨#[]⟩], .int .i64 1]) (by simp [results, Tryz.results32, go_sem, d0, d1, d2]) rfl ⟨rfl, bset3 HB1.out (by omega) _ _ _⟩
set_option maxHeartbeats 4000000 in
set_option maxRecDepth 100000 in
theorem r4_Div2 (ga : Bool) (sa ta : ByteArray) (gb : Bool) (sb tb : ByteArray) (w : World) (ha : QV ga sa ta true) (hb : QV gb sb tb false) :
    Calls Tryz.prog 32 #[.agg #[.bool ga, .string sa, .string ta], .agg #[.bool gb, .string sb, .string tb]] w fun e w' => e = .returned (.tuple #[.agg #[.bool false, .string ⟨#[]⟩, .string ⟨#[]⟩], .int .i64 1]) ∧ Below w.heap.size w w' := by
  unfold QV at ha
  have Hha := hide ha
  unfold QV at hb
  have Hhb := hide hb
  have HB0 : Hid (Below w.heap.size w w) := Below.refl _ _
  have HV0 : Hid (VL w []) := VL.nil w
  clear ha hb 
  go_enter Tryz.func32, Tryz.ntmps32
  have HV0_ := hide (HV0.out.pushAt (b := w.heap.size) (by simp) ga sa ta 24)
  have HB0_ := hide (bAlloc HB0.out (.cells #[.bool ga, .string sa, .string ta] 24))
  clear HB0 HV0
  have HV0__ := hide (HV0_.out.pushAt (b := w.heap.size + 1) (by simp) gb sb tb 24)
  have HB0__ := hide (bAlloc HB0_.out (.cells #[.bool gb, .string sb, .string tb] 24))
  clear HB0_ HV0_
  have HV0___ := hide (HV0__.out.pushAt (b := w.heap.size + 2) (by simp) false ⟨#[]⟩ ⟨#[]⟩ 24)
  have HB0___ := hide (bAlloc HB0__.out (.cells #[.bool false, .string ⟨#[]⟩, .string ⟨#[]⟩] 24))
  clear HB0__ HV0__
  obtain ⟨c3, c4, c5⟩ := VL.cells3 (b := w.heap.size) (g := ga) (s := sa) (t := ta) HV0___.out (by simp)
  go_wp2_with fail
  clear c3 c4 c5
  refine (Hha.out _).mono ?_
  rintro e w1 ⟨rfl, hb⟩
  have HB1 := hide (bStep HB0___.out hb)
  have HV1 := hide (HV0___.out.below hb)
  clear hb HB0___ HV0___
  obtain ⟨c6, c7, c8⟩ := VL.cells3 (b := w.heap.size + 1) (g := gb) (s := sb) (t := tb) HV1.out (by simp)
  go_wp2_with fail
  clear c6 c7 c8
  refine (Hhb.out _).mono ?_
  rintro e w2 ⟨rfl, hb⟩
  have HB2 := hide (bStep HB1.out hb)
  have HV2 := hide (HV1.out.below hb)
  clear hb HB1 HV1
  obtain ⟨k1_0, k1_1, k1_2, k1_3, k1_4, k1_5⟩ := VL.get (b := w.heap.size + 2) (g := false) (s := ⟨#[]⟩) (t := ⟨#[]⟩) HV2.out (by simp)
  go_wp2_with fail
  clear k1_0 k1_1 k1_2 k1_3 k1_4 k1_5
  obtain ⟨d0, d1, d2, _, _, _⟩ := (VL.get (b := w.heap.size + 2) (g := false) (s := ⟨#[]⟩) (t := ⟨#[]⟩) HV2.out (by simp)).set3 false ⟨#[]⟩ ⟨#[]⟩
  exact bodyPost_ret (v := .tuple #[.agg #[.bool false, .string ⟨#[]⟩, .string ⟨#[]⟩], .int .i64 1]) (by simp [results, Tryz.results32, go_sem, d0, d1, d2]) rfl ⟨rfl, bset3 HB2.out (by omega) _ _ _⟩
set_option maxHeartbeats 4000000 in
set_option maxRecDepth 100000 in
theorem r4_Mul3 (ga : Bool) (sa ta : ByteArray) (gb : Bool) (sb tb : ByteArray) (n d : ByteArray) (g : Bool) (s t : ByteArray) (w : World) (ha : QV ga sa ta true) (hb : QV gb sb tb true) (h1 : R2 57 sa sb n) (h2 : R2 57 ta tb d) (h3 : QL (ga != gb) n d g s t) :
    Calls Tryz.prog 30 #[.agg #[.bool ga, .string sa, .string ta], .agg #[.bool gb, .string sb, .string tb]] w fun e w' => e = .returned (.tuple #[.agg #[.bool g, .string s, .string t], .int .i64 0]) ∧ Below w.heap.size w w' := by
  unfold QV at ha
  have Hha := hide ha
  unfold QV at hb
  have Hhb := hide hb
  unfold R2 at h1
  have Hh1 := hide h1
  unfold R2 at h2
  have Hh2 := hide h2
  unfold QL at h3
  have Hh3 := hide h3
  have HB0 : Hid (Below w.heap.size w w) := Below.refl _ _
  have HV0 : Hid (VL w []) := VL.nil w
  clear ha hb h1 h2 h3 
  go_enter Tryz.func30, Tryz.ntmps30
  have HV0_ := hide (HV0.out.pushAt (b := w.heap.size) (by simp) ga sa ta 24)
  have HB0_ := hide (bAlloc HB0.out (.cells #[.bool ga, .string sa, .string ta] 24))
  clear HB0 HV0
  have HV0__ := hide (HV0_.out.pushAt (b := w.heap.size + 1) (by simp) gb sb tb 24)
  have HB0__ := hide (bAlloc HB0_.out (.cells #[.bool gb, .string sb, .string tb] 24))
  clear HB0_ HV0_
  have HV0___ := hide (HV0__.out.pushAt (b := w.heap.size + 2) (by simp) false ⟨#[]⟩ ⟨#[]⟩ 24)
  have HB0___ := hide (bAlloc HB0__.out (.cells #[.bool false, .string ⟨#[]⟩, .string ⟨#[]⟩] 24))
  clear HB0__ HV0__
  obtain ⟨c3, c4, c5⟩ := VL.cells3 (b := w.heap.size) (g := ga) (s := sa) (t := ta) HV0___.out (by simp)
  go_wp2_with fail
  clear c3 c4 c5
  refine (Hha.out _).mono ?_
  rintro e w1 ⟨rfl, hb⟩
  have HB1 := hide (bStep HB0___.out hb)
  have HV1 := hide (HV0___.out.below hb)
  clear hb HB0___ HV0___
  obtain ⟨c6, c7, c8⟩ := VL.cells3 (b := w.heap.size + 1) (g := gb) (s := sb) (t := tb) HV1.out (by simp)
  go_wp2_with fail
  clear c6 c7 c8
  refine (Hhb.out _).mono ?_
  rintro e w2 ⟨rfl, hb⟩
  have HB2 := hide (bStep HB1.out hb)
  have HV2 := hide (HV1.out.below hb)
  clear hb HB1 HV1
  obtain ⟨c9, c10, c11⟩ := VL.cells3 (b := w.heap.size) (g := ga) (s := sa) (t := ta) HV2.out (by simp)
  obtain ⟨c12, c13, c14⟩ := VL.cells3 (b := w.heap.size + 1) (g := gb) (s := sb) (t := tb) HV2.out (by simp)
  go_wp2_with fail
  clear c9 c10 c11 c12 c13 c14
  refine (Hh1.out _).mono ?_
  rintro e w3 ⟨rfl, hb⟩
  have HB3 := hide (bStep HB2.out hb)
  have HV3 := hide (HV2.out.below hb)
  clear hb HB2 HV2
  obtain ⟨c15, c16, c17⟩ := VL.cells3 (b := w.heap.size) (g := ga) (s := sa) (t := ta) HV3.out (by simp)
  obtain ⟨c18, c19, c20⟩ := VL.cells3 (b := w.heap.size + 1) (g := gb) (s := sb) (t := tb) HV3.out (by simp)
  go_wp2_with fail
  clear c15 c16 c17 c18 c19 c20
  refine (Hh2.out _).mono ?_
  rintro e w4 ⟨rfl, hb⟩
  have HB4 := hide (bStep HB3.out hb)
  have HV4 := hide (HV3.out.below hb)
  clear hb HB3 HV3
  obtain ⟨c21, c22, c23⟩ := VL.cells3 (b := w.heap.size) (g := ga) (s := sa) (t := ta) HV4.out (by simp)
  obtain ⟨c24, c25, c26⟩ := VL.cells3 (b := w.heap.size + 1) (g := gb) (s := sb) (t := tb) HV4.out (by simp)
  go_wp2_with fail
  clear c21 c22 c23 c24 c25 c26
  refine (Hh3.out _).mono ?_
  rintro e w5 ⟨rfl, hb⟩
  have HB5 := hide (bStep HB4.out hb)
  have HV5 := hide (HV4.out.below hb)
  clear hb HB4 HV4
  obtain ⟨k1_0, k1_1, k1_2, k1_3, k1_4, k1_5⟩ := VL.get (b := w.heap.size + 2) (g := false) (s := ⟨#[]⟩) (t := ⟨#[]⟩) HV5.out (by simp)
  go_wp2_with fail
  clear k1_0 k1_1 k1_2 k1_3 k1_4 k1_5
  obtain ⟨d0, d1, d2, _, _, _⟩ := (VL.get (b := w.heap.size + 2) (g := false) (s := ⟨#[]⟩) (t := ⟨#[]⟩) HV5.out (by simp)).set3 g s t
  exact bodyPost_ret (v := .tuple #[.agg #[.bool g, .string s, .string t], .int .i64 0]) (by simp [results, Tryz.results30, go_sem, d0, d1, d2]) rfl ⟨rfl, bset3 HB5.out (by omega) _ _ _⟩
set_option maxHeartbeats 4000000 in
set_option maxRecDepth 100000 in
theorem r4_Add3 (ga : Bool) (sa ta : ByteArray) (gb : Bool) (sb tb : ByteArray) (p q d n : ByteArray) (g : Bool) (s t : ByteArray) (w : World) (ha : QV ga sa ta true) (hb : QV gb sb tb true) (h1 : R2 57 sa tb p) (h2 : R2 57 sb ta q) (h3 : R2 57 ta tb d) (f1 : (ga == gb) = true) (h4 : R2 58 p q n) (h5 : QL ga n d g s t) :
    Calls Tryz.prog 26 #[.agg #[.bool ga, .string sa, .string ta], .agg #[.bool gb, .string sb, .string tb]] w fun e w' => e = .returned (.tuple #[.agg #[.bool g, .string s, .string t], .int .i64 0]) ∧ Below w.heap.size w w' := by
  unfold QV at ha
  have Hha := hide ha
  unfold QV at hb
  have Hhb := hide hb
  unfold R2 at h1
  have Hh1 := hide h1
  unfold R2 at h2
  have Hh2 := hide h2
  unfold R2 at h3
  have Hh3 := hide h3
  unfold R2 at h4
  have Hh4 := hide h4
  unfold QL at h5
  have Hh5 := hide h5
  have HB0 : Hid (Below w.heap.size w w) := Below.refl _ _
  have HV0 : Hid (VL w []) := VL.nil w
  clear ha hb h1 h2 h3 h4 h5 
  go_enter Tryz.func26, Tryz.ntmps26
  have HV0_ := hide (HV0.out.pushAt (b := w.heap.size) (by simp) ga sa ta 24)
  have HB0_ := hide (bAlloc HB0.out (.cells #[.bool ga, .string sa, .string ta] 24))
  clear HB0 HV0
  have HV0__ := hide (HV0_.out.pushAt (b := w.heap.size + 1) (by simp) gb sb tb 24)
  have HB0__ := hide (bAlloc HB0_.out (.cells #[.bool gb, .string sb, .string tb] 24))
  clear HB0_ HV0_
  have HV0___ := hide (HV0__.out.pushAt (b := w.heap.size + 2) (by simp) false ⟨#[]⟩ ⟨#[]⟩ 24)
  have HB0___ := hide (bAlloc HB0__.out (.cells #[.bool false, .string ⟨#[]⟩, .string ⟨#[]⟩] 24))
  clear HB0__ HV0__
  obtain ⟨c3, c4, c5⟩ := VL.cells3 (b := w.heap.size) (g := ga) (s := sa) (t := ta) HV0___.out (by simp)
  go_wp2_with fail
  clear c3 c4 c5
  refine (Hha.out _).mono ?_
  rintro e w1 ⟨rfl, hb⟩
  have HB1 := hide (bStep HB0___.out hb)
  have HV1 := hide (HV0___.out.below hb)
  clear hb HB0___ HV0___
  obtain ⟨c6, c7, c8⟩ := VL.cells3 (b := w.heap.size + 1) (g := gb) (s := sb) (t := tb) HV1.out (by simp)
  go_wp2_with fail
  clear c6 c7 c8
  refine (Hhb.out _).mono ?_
  rintro e w2 ⟨rfl, hb⟩
  have HB2 := hide (bStep HB1.out hb)
  have HV2 := hide (HV1.out.below hb)
  clear hb HB1 HV1
  obtain ⟨c9, c10, c11⟩ := VL.cells3 (b := w.heap.size) (g := ga) (s := sa) (t := ta) HV2.out (by simp)
  obtain ⟨c12, c13, c14⟩ := VL.cells3 (b := w.heap.size + 1) (g := gb) (s := sb) (t := tb) HV2.out (by simp)
  go_wp2_with fail
  clear c9 c10 c11 c12 c13 c14
  refine (Hh1.out _).mono ?_
  rintro e w3 ⟨rfl, hb⟩
  have HB3 := hide (bStep HB2.out hb)
  have HV3 := hide (HV2.out.below hb)
  clear hb HB2 HV2
  obtain ⟨c15, c16, c17⟩ := VL.cells3 (b := w.heap.size) (g := ga) (s := sa) (t := ta) HV3.out (by simp)
  obtain ⟨c18, c19, c20⟩ := VL.cells3 (b := w.heap.size + 1) (g := gb) (s := sb) (t := tb) HV3.out (by simp)
  go_wp2_with fail
  clear c15 c16 c17 c18 c19 c20
  refine (Hh2.out _).mono ?_
  rintro e w4 ⟨rfl, hb⟩
  have HB4 := hide (bStep HB3.out hb)
  have HV4 := hide (HV3.out.below hb)
  clear hb HB3 HV3
  obtain ⟨c21, c22, c23⟩ := VL.cells3 (b := w.heap.size) (g := ga) (s := sa) (t := ta) HV4.out (by simp)
  obtain ⟨c24, c25, c26⟩ := VL.cells3 (b := w.heap.size + 1) (g := gb) (s := sb) (t := tb) HV4.out (by simp)
  go_wp2_with fail
  clear c21 c22 c23 c24 c25 c26
  refine (Hh3.out _).mono ?_
  rintro e w5 ⟨rfl, hb⟩
  have HB5 := hide (bStep HB4.out hb)
  have HV5 := hide (HV4.out.below hb)
  clear hb HB4 HV4
  obtain ⟨c27, c28, c29⟩ := VL.cells3 (b := w.heap.size) (g := ga) (s := sa) (t := ta) HV5.out (by simp)
  obtain ⟨c30, c31, c32⟩ := VL.cells3 (b := w.heap.size + 1) (g := gb) (s := sb) (t := tb) HV5.out (by simp)
  go_wp2_with fail
  clear c27 c28 c29 c30 c31 c32
  refine (Hh4.out _).mono ?_
  rintro e w6 ⟨rfl, hb⟩
  have HB6 := hide (bStep HB5.out hb)
  have HV6 := hide (HV5.out.below hb)
  clear hb HB5 HV5
  obtain ⟨c33, c34, c35⟩ := VL.cells3 (b := w.heap.size) (g := ga) (s := sa) (t := ta) HV6.out (by simp)
  obtain ⟨c36, c37, c38⟩ := VL.cells3 (b := w.heap.size + 1) (g := gb) (s := sb) (t := tb) HV6.out (by simp)
  go_wp2_with fail
  clear c33 c34 c35 c36 c37 c38
  refine (Hh5.out _).mono ?_
  rintro e w7 ⟨rfl, hb⟩
  have HB7 := hide (bStep HB6.out hb)
  have HV7 := hide (HV6.out.below hb)
  clear hb HB6 HV6
  obtain ⟨k1_0, k1_1, k1_2, k1_3, k1_4, k1_5⟩ := VL.get (b := w.heap.size + 2) (g := false) (s := ⟨#[]⟩) (t := ⟨#[]⟩) HV7.out (by simp)
  go_wp2_with fail
  clear k1_0 k1_1 k1_2 k1_3 k1_4 k1_5
  obtain ⟨d0, d1, d2, _, _, _⟩ := (VL.get (b := w.heap.size + 2) (g := false) (s := ⟨#[]⟩) (t := ⟨#[]⟩) HV7.out (by simp)).set3 g s t
  exact bodyPost_ret (v := .tuple #[.agg #[.bool g, .string s, .string t], .int .i64 0]) (by simp [results, Tryz.results26, go_sem, d0, d1, d2]) rfl ⟨rfl, bset3 HB7.out (by omega) _ _ _⟩
set_option maxHeartbeats 4000000 in
set_option maxRecDepth 100000 in
theorem r4_Add4 (ga : Bool) (sa ta : ByteArray) (gb : Bool) (sb tb : ByteArray) (p q d n : ByteArray) (g : Bool) (s t : ByteArray) (c : Int) (w : World) (ha : QV ga sa ta true) (hb : QV gb sb tb true) (h1 : R2 57 sa tb p) (h2 : R2 57 sb ta q) (h3 : R2 57 ta tb d) (f1 : (ga == gb) = false) (h4 : RI p q c) (f2 : decide (0 ≤ c) = true) (h5 : R2 60 p q n) (h6 : QL ga n d g s t) :
    Calls Tryz.prog 26 #[.agg #[.bool ga, .string sa, .string ta], .agg #[.bool gb, .string sb, .string tb]] w fun e w' => e = .returned (.tuple #[.agg #[.bool g, .string s, .string t], .int .i64 0]) ∧ Below w.heap.size w w' := by
  unfold QV at ha
  have Hha := hide ha
  unfold QV at hb
  have Hhb := hide hb
  unfold R2 at h1
  have Hh1 := hide h1
  unfold R2 at h2
  have Hh2 := hide h2
  unfold R2 at h3
  have Hh3 := hide h3
  unfold RI at h4
  have Hh4 := hide h4
  unfold R2 at h5
  have Hh5 := hide h5
  unfold QL at h6
  have Hh6 := hide h6
  have HB0 : Hid (Below w.heap.size w w) := Below.refl _ _
  have HV0 : Hid (VL w []) := VL.nil w
  clear ha hb h1 h2 h3 h4 h5 h6 
  go_enter Tryz.func26, Tryz.ntmps26
  have HV0_ := hide (HV0.out.pushAt (b := w.heap.size) (by simp) ga sa ta 24)
  have HB0_ := hide (bAlloc HB0.out (.cells #[.bool ga, .string sa, .string ta] 24))
  clear HB0 HV0
  have HV0__ := hide (HV0_.out.pushAt (b := w.heap.size + 1) (by simp) gb sb tb 24)
  have HB0__ := hide (bAlloc HB0_.out (.cells #[.bool gb, .string sb, .string tb] 24))
  clear HB0_ HV0_
  have HV0___ := hide (HV0__.out.pushAt (b := w.heap.size + 2) (by simp) false ⟨#[]⟩ ⟨#[]⟩ 24)
  have HB0___ := hide (bAlloc HB0__.out (.cells #[.bool false, .string ⟨#[]⟩, .string ⟨#[]⟩] 24))
  clear HB0__ HV0__
  obtain ⟨c3, c4, c5⟩ := VL.cells3 (b := w.heap.size) (g := ga) (s := sa) (t := ta) HV0___.out (by simp)
  go_wp2_with fail
  clear c3 c4 c5
  refine (Hha.out _).mono ?_
  rintro e w1 ⟨rfl, hb⟩
  have HB1 := hide (bStep HB0___.out hb)
  have HV1 := hide (HV0___.out.below hb)
  clear hb HB0___ HV0___
  obtain ⟨c6, c7, c8⟩ := VL.cells3 (b := w.heap.size + 1) (g := gb) (s := sb) (t := tb) HV1.out (by simp)
  go_wp2_with fail
  clear c6 c7 c8
  refine (Hhb.out _).mono ?_
  rintro e w2 ⟨rfl, hb⟩
  have HB2 := hide (bStep HB1.out hb)
  have HV2 := hide (HV1.out.below hb)
  clear hb HB1 HV1
  obtain ⟨c9, c10, c11⟩ := VL.cells3 (b := w.heap.size) (g := ga) (s := sa) (t := ta) HV2.out (by simp)
  obtain ⟨c12, c13, c14⟩ := VL.cells3 (b := w.heap.size + 1) (g := gb) (s := sb) (t := tb) HV2.out (by simp)
  go_wp2_with fail
  clear c9 c10 c11 c12 c13 c14
  refine (Hh1.out _).mono ?_
  rintro e w3 ⟨rfl, hb⟩
  have HB3 := hide (bStep HB2.out hb)
  have HV3 := hide (HV2.out.below hb)
  clear hb HB2 HV2
  obtain ⟨c15, c16, c17⟩ := VL.cells3 (b := w.heap.size) (g := ga) (s := sa) (t := ta) HV3.out (by simp)
  obtain ⟨c18, c19, c20⟩ := VL.cells3 (b := w.heap.size + 1) (g := gb) (s := sb) (t := tb) HV3.out (by simp)
  go_wp2_with fail
  clear c15 c16 c17 c18 c19 c20
  refine (Hh2.out _).mono ?_
  rintro e w4 ⟨rfl, hb⟩
  have HB4 := hide (bStep HB3.out hb)
  have HV4 := hide (HV3.out.below hb)
  clear hb HB3 HV3
  obtain ⟨c21, c22, c23⟩ := VL.cells3 (b := w.heap.size) (g := ga) (s := sa) (t := ta) HV4.out (by simp)
  obtain ⟨c24, c25, c26⟩ := VL.cells3 (b := w.heap.size + 1) (g := gb) (s := sb) (t := tb) HV4.out (by simp)
  go_wp2_with fail
  clear c21 c22 c23 c24 c25 c26
  refine (Hh3.out _).mono ?_
  rintro e w5 ⟨rfl, hb⟩
  have HB5 := hide (bStep HB4.out hb)
  have HV5 := hide (HV4.out.below hb)
  clear hb HB4 HV4
  obtain ⟨c27, c28, c29⟩ := VL.cells3 (b := w.heap.size) (g := ga) (s := sa) (t := ta) HV5.out (by simp)
  obtain ⟨c30, c31, c32⟩ := VL.cells3 (b := w.heap.size + 1) (g := gb) (s := sb) (t := tb) HV5.out (by simp)
  go_wp2_with fail
  clear c27 c28 c29 c30 c31 c32
  refine (Hh4.out _).mono ?_
  rintro e w6 ⟨rfl, hb⟩
  have HB6 := hide (bStep HB5.out hb)
  have HV6 := hide (HV5.out.below hb)
  clear hb HB5 HV5
  go_wp2_with fail
  refine (Hh5.out _).mono ?_
  rintro e w7 ⟨rfl, hb⟩
  have HB7 := hide (bStep HB6.out hb)
  have HV7 := hide (HV6.out.below hb)
  clear hb HB6 HV6
  obtain ⟨c33, c34, c35⟩ := VL.cells3 (b := w.heap.size) (g := ga) (s := sa) (t := ta) HV7.out (by simp)
  obtain ⟨c36, c37, c38⟩ := VL.cells3 (b := w.heap.size + 1) (g := gb) (s := sb) (t := tb) HV7.out (by simp)
  go_wp2_with fail
  clear c33 c34 c35 c36 c37 c38
  refine (Hh6.out _).mono ?_
  rintro e w8 ⟨rfl, hb⟩
  have HB8 := hide (bStep HB7.out hb)
  have HV8 := hide (HV7.out.below hb)
  clear hb HB7 HV7
  obtain ⟨k1_0, k1_1, k1_2, k1_3, k1_4, k1_5⟩ := VL.get (b := w.heap.size + 2) (g := false) (s := ⟨#[]⟩) (t := ⟨#[]⟩) HV8.out (by simp)
  go_wp2_with fail
  clear k1_0 k1_1 k1_2 k1_3 k1_4 k1_5
  obtain ⟨d0, d1, d2, _, _, _⟩ := (VL.get (b := w.heap.size + 2) (g := false) (s := ⟨#[]⟩) (t := ⟨#[]⟩) HV8.out (by simp)).set3 g s t
  exact bodyPost_ret (v := .tuple #[.agg #[.bool g, .string s, .string t], .int .i64 0]) (by simp [results, Tryz.results26, go_sem, d0, d1, d2]) rfl ⟨rfl, bset3 HB8.out (by omega) _ _ _⟩
set_option maxHeartbeats 4000000 in
set_option maxRecDepth 100000 in
theorem r4_Add5 (ga : Bool) (sa ta : ByteArray) (gb : Bool) (sb tb : ByteArray) (p q d n : ByteArray) (g : Bool) (s t : ByteArray) (c : Int) (w : World) (ha : QV ga sa ta true) (hb : QV gb sb tb true) (h1 : R2 57 sa tb p) (h2 : R2 57 sb ta q) (h3 : R2 57 ta tb d) (f1 : (ga == gb) = false) (h4 : RI p q c) (f2 : decide (0 ≤ c) = false) (h5 : R2 60 q p n) (h6 : QL gb n d g s t) :
    Calls Tryz.prog 26 #[.agg #[.bool ga, .string sa, .string ta], .agg #[.bool gb, .string sb, .string tb]] w fun e w' => e = .returned (.tuple #[.agg #[.bool g, .string s, .string t], .int .i64 0]) ∧ Below w.heap.size w w' := by
  unfold QV at ha
  have Hha := hide ha
  unfold QV at hb
  have Hhb := hide hb
  unfold R2 at h1
  have Hh1 := hide h1
  unfold R2 at h2
  have Hh2 := hide h2
  unfold R2 at h3
  have Hh3 := hide h3
  unfold RI at h4
  have Hh4 := hide h4
  unfold R2 at h5
  have Hh5 := hide h5
  unfold QL at h6
  have Hh6 := hide h6
  have HB0 : Hid (Below w.heap.size w w) := Below.refl _ _
  have HV0 : Hid (VL w []) := VL.nil w
  clear ha hb h1 h2 h3 h4 h5 h6 
  go_enter Tryz.func26, Tryz.ntmps26
  have HV0_ := hide (HV0.out.pushAt (b := w.heap.size) (by simp) ga sa ta 24)
  have HB0_ := hide (bAlloc HB0.out (.cells #[.bool ga, .string sa, .string ta] 24))
  clear HB0 HV0
  have HV0__ := hide (HV0_.out.pushAt (b := w.heap.size + 1) (by simp) gb sb tb 24)
  have HB0__ := hide (bAlloc HB0_.out (.cells #[.bool gb, .string sb, .string tb] 24))
  clear HB0_ HV0_
  have HV0___ := hide (HV0__.out.pushAt (b := w.heap.size + 2) (by simp) false ⟨#[]⟩ ⟨#[]⟩ 24)
  have HB0___ := hide (bAlloc HB0__.out (.cells #[.bool false, .string ⟨#[]⟩, .string ⟨#[]⟩] 24))
  clear HB0__ HV0__
  obtain ⟨c3, c4, c5⟩ := VL.cells3 (b := w.heap.size) (g := ga) (s := sa) (t := ta) HV0___.out (by simp)
  go_wp2_with fail
  clear c3 c4 c5
  refine (Hha.out _).mono ?_
  rintro e w1 ⟨rfl, hb⟩
  have HB1 := hide (bStep HB0___.out hb)
  have HV1 := hide (HV0___.out.below hb)
  clear hb HB0___ HV0___
  obtain ⟨c6, c7, c8⟩ := VL.cells3 (b := w.heap.size + 1) (g := gb) (s := sb) (t := tb) HV1.out (by simp)
  go_wp2_with fail
  clear c6 c7 c8
  refine (Hhb.out _).mono ?_
  rintro e w2 ⟨rfl, hb⟩
  have HB2 := hide (bStep HB1.out hb)
  have HV2 := hide (HV1.out.below hb)
  clear hb HB1 HV1
  obtain ⟨c9, c10, c11⟩ := VL.cells3 (b := w.heap.size) (g := ga) (s := sa) (t := ta) HV2.out (by simp)
  obtain ⟨c12, c13, c14⟩ := VL.cells3 (b := w.heap.size + 1) (g := gb) (s := sb) (t := tb) HV2.out (by simp)
  go_wp2_with fail
  clear c9 c10 c11 c12 c13 c14
  refine (Hh1.out _).mono ?_
  rintro e w3 ⟨rfl, hb⟩
  have HB3 := hide (bStep HB2.out hb)
  have HV3 := hide (HV2.out.below hb)
  clear hb HB2 HV2
  obtain ⟨c15, c16, c17⟩ := VL.cells3 (b := w.heap.size) (g := ga) (s := sa) (t := ta) HV3.out (by simp)
  obtain ⟨c18, c19, c20⟩ := VL.cells3 (b := w.heap.size + 1) (g := gb) (s := sb) (t := tb) HV3.out (by simp)
  go_wp2_with fail
  clear c15 c16 c17 c18 c19 c20
  refine (Hh2.out _).mono ?_
  rintro e w4 ⟨rfl, hb⟩
  have HB4 := hide (bStep HB3.out hb)
  have HV4 := hide (HV3.out.below hb)
  clear hb HB3 HV3
  obtain ⟨c21, c22, c23⟩ := VL.cells3 (b := w.heap.size) (g := ga) (s := sa) (t := ta) HV4.out (by simp)
  obtain ⟨c24, c25, c26⟩ := VL.cells3 (b := w.heap.size + 1) (g := gb) (s := sb) (t := tb) HV4.out (by simp)
  go_wp2_with fail
  clear c21 c22 c23 c24 c25 c26
  refine (Hh3.out _).mono ?_
  rintro e w5 ⟨rfl, hb⟩
  have HB5 := hide (bStep HB4.out hb)
  have HV5 := hide (HV4.out.below hb)
  clear hb HB4 HV4
  obtain ⟨c27, c28, c29⟩ := VL.cells3 (b := w.heap.size) (g := ga) (s := sa) (t := ta) HV5.out (by simp)
  obtain ⟨c30, c31, c32⟩ := VL.cells3 (b := w.heap.size + 1) (g := gb) (s := sb) (t := tb) HV5.out (by simp)
  go_wp2_with fail
  clear c27 c28 c29 c30 c31 c32
  refine (Hh4.out _).mono ?_
  rintro e w6 ⟨rfl, hb⟩
  have HB6 := hide (bStep HB5.out hb)
  have HV6 := hide (HV5.out.below hb)
  clear hb HB5 HV5
  go_wp2_with fail
  refine (Hh5.out _).mono ?_
  rintro e w7 ⟨rfl, hb⟩
  have HB7 := hide (bStep HB6.out hb)
  have HV7 := hide (HV6.out.below hb)
  clear hb HB6 HV6
  obtain ⟨c33, c34, c35⟩ := VL.cells3 (b := w.heap.size) (g := ga) (s := sa) (t := ta) HV7.out (by simp)
  obtain ⟨c36, c37, c38⟩ := VL.cells3 (b := w.heap.size + 1) (g := gb) (s := sb) (t := tb) HV7.out (by simp)
  go_wp2_with fail
  clear c33 c34 c35 c36 c37 c38
  refine (Hh6.out _).mono ?_
  rintro e w8 ⟨rfl, hb⟩
  have HB8 := hide (bStep HB7.out hb)
  have HV8 := hide (HV7.out.below hb)
  clear hb HB7 HV7
  obtain ⟨k1_0, k1_1, k1_2, k1_3, k1_4, k1_5⟩ := VL.get (b := w.heap.size + 2) (g := false) (s := ⟨#[]⟩) (t := ⟨#[]⟩) HV8.out (by simp)
  go_wp2_with fail
  clear k1_0 k1_1 k1_2 k1_3 k1_4 k1_5
  obtain ⟨d0, d1, d2, _, _, _⟩ := (VL.get (b := w.heap.size + 2) (g := false) (s := ⟨#[]⟩) (t := ⟨#[]⟩) HV8.out (by simp)).set3 g s t
  exact bodyPost_ret (v := .tuple #[.agg #[.bool g, .string s, .string t], .int .i64 0]) (by simp [results, Tryz.results26, go_sem, d0, d1, d2]) rfl ⟨rfl, bset3 HB8.out (by omega) _ _ _⟩
theorem VL.cells3o {W : World} {L : List (Nat × Bool × ByteArray × ByteArray)} (h : VL W L) {b c : Nat} {g : Bool} {s t : ByteArray} (hm : (b, g, s, t) ∈ L) (hne : b ≠ c) {x y z : Value} : let W' := ((W.setCell ⟨c, 0, none⟩ x).setCell ⟨c, 1, none⟩ y).setCell ⟨c, 2, none⟩ z
    W'.cell? ⟨b, 0, none⟩ = some (.bool g) ∧ W'.cell? ⟨b, 1, none⟩ = some (.string s) ∧ W'.cell? ⟨b, 2, none⟩ = some (.string t) :=
  ⟨RC.c0 ((h _ hm).only (Only2.set3 _ _ _ _ _) hne), RC.c1 ((h _ hm).only (Only2.set3 _ _ _ _ _) hne), RC.c2 ((h _ hm).only (Only2.set3 _ _ _ _ _) hne)⟩
set_option maxHeartbeats 4000000 in
set_option maxRecDepth 100000 in
theorem r4_Sub3 (ga : Bool) (sa ta : ByteArray) (gb : Bool) (sb tb : ByteArray) (gc : Bool) (sc tc : ByteArray) (g : Bool) (s t : ByteArray) (k : Int) (w : World) (ha : QV ga sa ta true) (hb : QV gb sb tb true) (h1 : QM gb sb tb gc sc tc) (h2 : Q2 26 ga sa ta gc sc tc g s t k) :
    Calls Tryz.prog 28 #[.agg #[.bool ga, .string sa, .string ta], .agg #[.bool gb, .string sb, .string tb]] w fun e w' => e = .returned (.tuple #[.agg #[.bool g, .string s, .string t], .int .i64 k]) ∧ Below w.heap.size w w' := by
  unfold QV at ha
  have Hha := hide ha
  unfold QV at hb
  have Hhb := hide hb
  unfold QM at h1
  have Hh1 := hide h1
  unfold Q2 at h2
  have Hh2 := hide h2
  have HB0 : Hid (Below w.heap.size w w) := Below.refl _ _
  have HV0 : Hid (VL w []) := VL.nil w
  clear ha hb h1 h2 
  go_enter Tryz.func28, Tryz.ntmps28
  have HV0_ := hide (HV0.out.pushAt (b := w.heap.size) (by simp) ga sa ta 24)
  have HB0_ := hide (bAlloc HB0.out (.cells #[.bool ga, .string sa, .string ta] 24))
  clear HB0 HV0
  have HV0__ := hide (HV0_.out.pushAt (b := w.heap.size + 1) (by simp) gb sb tb 24)
  have HB0__ := hide (bAlloc HB0_.out (.cells #[.bool gb, .string sb, .string tb] 24))
  clear HB0_ HV0_
  have HV0___ := hide (HV0__.out.pushAt (b := w.heap.size + 2) (by simp) false ⟨#[]⟩ ⟨#[]⟩ 24)
  have HB0___ := hide (bAlloc HB0__.out (.cells #[.bool false, .string ⟨#[]⟩, .string ⟨#[]⟩] 24))
  clear HB0__ HV0__
  obtain ⟨c3, c4, c5⟩ := VL.cells3 (b := w.heap.size) (g := ga) (s := sa) (t := ta) HV0___.out (by simp)
  go_wp2_with fail
  clear c3 c4 c5
  refine (Hha.out _).mono ?_
  rintro e w1 ⟨rfl, hb⟩
  have HB1 := hide (bStep HB0___.out hb)
  have HV1 := hide (HV0___.out.below hb)
  clear hb HB0___ HV0___
  obtain ⟨c6, c7, c8⟩ := VL.cells3 (b := w.heap.size + 1) (g := gb) (s := sb) (t := tb) HV1.out (by simp)
  go_wp2_with fail
  clear c6 c7 c8
  refine (Hhb.out _).mono ?_
  rintro e w2 ⟨rfl, hb⟩
  have HB2 := hide (bStep HB1.out hb)
  have HV2 := hide (HV1.out.below hb)
  clear hb HB1 HV1
  go_wp2_with fail
  have hvl := VL.below HV2.out (Below.refl _ _).drew
  have HBD := hide (HB2.out.drew)
  have HS0 : Hid (∀ W, VL W [(w.heap.size + 2, false, ⟨#[]⟩, ⟨#[]⟩), (w.heap.size + 1, gb, sb, tb), (w.heap.size, ga, sa, ta)] → (W.cell? ⟨w.heap.size, 0, none⟩ = some (.bool ga) ∧ W.cell? ⟨w.heap.size, 1, none⟩ = some (.string sa) ∧ W.cell? ⟨w.heap.size, 2, none⟩ = some (.string ta)) ∧ (W.cell? ⟨w.heap.size + 1, 0, none⟩ = some (.bool gb) ∧ W.cell? ⟨w.heap.size + 1, 1, none⟩ = some (.string sb) ∧ W.cell? ⟨w.heap.size + 1, 2, none⟩ = some (.string tb))) := fun W h => ⟨VL.cells3 h (by simp), VL.cells3 h (by simp)⟩
  go_region_held3 (fun w' => (w'.cell? ⟨w.heap.size, 0, none⟩ = some (.bool ga) ∧ w'.cell? ⟨w.heap.size, 1, none⟩ = some (.string sa) ∧ w'.cell? ⟨w.heap.size, 2, none⟩ = some (.string ta)) ∧ (w'.cell? ⟨w.heap.size + 1, 0, none⟩ = some (.bool gb) ∧ w'.cell? ⟨w.heap.size + 1, 1, none⟩ = some (.string sb) ∧ w'.cell? ⟨w.heap.size + 1, 2, none⟩ = some (.string tb)))
    (first | exact HS0.out _ hvl4 | exact HS0.out _ hvl3 | exact HS0.out _ hvl | exact HS0.out _ (by assumption) | exact ⟨VL.cells3o hvl4 (by simp) (by omega), VL.cells3o hvl4 (by simp) (by omega)⟩)
    ((first
      | (go_at_call 61; (with_reducible refine (Hh1.out _).mono ?_); rintro e w3 ⟨rfl, hb3⟩; have hvl3 := VL.below hvl hb3; have HB3 := hide (bStep HBD.out hb3); clear hb3)
      | (go_at_call 26; (with_reducible refine (Hh2.out _).mono ?_); rintro e w4 ⟨rfl, hb4⟩; have hvl4 := VL.below hvl3 hb4; have HB4 := hide (bStep HB3.out hb4); clear hb4; obtain ⟨z0, z1, z2, fz0, fz1, fz2⟩ := VL.get (b := w.heap.size + 2) (g := false) (s := ⟨#[]⟩) (t := ⟨#[]⟩) hvl4 (by simp))))
  all_goals
    go_wp2_with fail
    obtain ⟨d0, d1, d2, _, _, _⟩ := (VL.get (b := w.heap.size + 2) (g := false) (s := ⟨#[]⟩) (t := ⟨#[]⟩) hvl4 (by simp)).set3 g s t
    exact bodyPost_ret (v := .tuple #[.agg #[.bool g, .string s, .string t], .int .i64 k]) (by simp [results, Tryz.results28, go_sem, d0, d1, d2]) rfl ⟨rfl, bset3 HB4.out (by omega) _ _ _⟩
set_option maxHeartbeats 4000000 in
set_option maxRecDepth 100000 in
theorem r4_Div3 (ga : Bool) (sa ta : ByteArray) (gb : Bool) (tb : ByteArray) (w : World) (ha : QV ga sa ta true) (hb : QV gb ⟨#[48]⟩ tb true) :
    Calls Tryz.prog 32 #[.agg #[.bool ga, .string sa, .string ta], .agg #[.bool gb, .string ⟨#[48]⟩, .string tb]] w fun e w' => e = .returned (.tuple #[.agg #[.bool false, .string ⟨#[]⟩, .string ⟨#[]⟩], .int .i64 14]) ∧ Below w.heap.size w w' := by
  unfold QV at ha
  have Hha := hide ha
  unfold QV at hb
  have Hhb := hide hb
  have HB0 : Hid (Below w.heap.size w w) := Below.refl _ _
  have HV0 : Hid (VL w []) := VL.nil w
  clear ha hb 
  go_enter Tryz.func32, Tryz.ntmps32
  have HV0_ := hide (HV0.out.pushAt (b := w.heap.size) (by simp) ga sa ta 24)
  have HB0_ := hide (bAlloc HB0.out (.cells #[.bool ga, .string sa, .string ta] 24))
  clear HB0 HV0
  have HV0__ := hide (HV0_.out.pushAt (b := w.heap.size + 1) (by simp) gb ⟨#[48]⟩ tb 24)
  have HB0__ := hide (bAlloc HB0_.out (.cells #[.bool gb, .string ⟨#[48]⟩, .string tb] 24))
  clear HB0_ HV0_
  have HV0___ := hide (HV0__.out.pushAt (b := w.heap.size + 2) (by simp) false ⟨#[]⟩ ⟨#[]⟩ 24)
  have HB0___ := hide (bAlloc HB0__.out (.cells #[.bool false, .string ⟨#[]⟩, .string ⟨#[]⟩] 24))
  clear HB0__ HV0__
  obtain ⟨c3, c4, c5⟩ := VL.cells3 (b := w.heap.size) (g := ga) (s := sa) (t := ta) HV0___.out (by simp)
  go_wp2_with fail
  clear c3 c4 c5
  refine (Hha.out _).mono ?_
  rintro e w1 ⟨rfl, hb⟩
  have HB1 := hide (bStep HB0___.out hb)
  have HV1 := hide (HV0___.out.below hb)
  clear hb HB0___ HV0___
  obtain ⟨c6, c7, c8⟩ := VL.cells3 (b := w.heap.size + 1) (g := gb) (s := ⟨#[48]⟩) (t := tb) HV1.out (by simp)
  go_wp2_with fail
  clear c6 c7 c8
  refine (Hhb.out _).mono ?_
  rintro e w2 ⟨rfl, hb⟩
  have HB2 := hide (bStep HB1.out hb)
  have HV2 := hide (HV1.out.below hb)
  clear hb HB1 HV1
  obtain ⟨c9, c10, c11⟩ := VL.cells3 (b := w.heap.size + 1) (g := gb) (s := ⟨#[48]⟩) (t := tb) HV2.out (by simp)
  obtain ⟨k1_0, k1_1, k1_2, k1_3, k1_4, k1_5⟩ := VL.get (b := w.heap.size + 2) (g := false) (s := ⟨#[]⟩) (t := ⟨#[]⟩) HV2.out (by simp)
  go_wp2_with fail
  clear c9 c10 c11 k1_0 k1_1 k1_2 k1_3 k1_4 k1_5
  obtain ⟨d0, d1, d2, _, _, _⟩ := (VL.get (b := w.heap.size + 2) (g := false) (s := ⟨#[]⟩) (t := ⟨#[]⟩) HV2.out (by simp)).set3 false ⟨#[]⟩ ⟨#[]⟩
  exact bodyPost_ret (v := .tuple #[.agg #[.bool false, .string ⟨#[]⟩, .string ⟨#[]⟩], .int .i64 14]) (by simp [results, Tryz.results32, go_sem, d0, d1, d2]) rfl ⟨rfl, bset3 HB2.out (by omega) _ _ _⟩
set_option maxHeartbeats 4000000 in
set_option maxRecDepth 100000 in
theorem r4_Div4 (ga : Bool) (sa ta : ByteArray) (gb : Bool) (sb tb : ByteArray) (g : Bool) (s t : ByteArray) (k : Int) (w : World) (ha : QV ga sa ta true) (hb : QV gb sb tb true) (h1 : Q2 30 ga sa ta gb tb sb g s t k) (f1 : (sb.toList == [48]) = false) :
    Calls Tryz.prog 32 #[.agg #[.bool ga, .string sa, .string ta], .agg #[.bool gb, .string sb, .string tb]] w fun e w' => e = .returned (.tuple #[.agg #[.bool g, .string s, .string t], .int .i64 k]) ∧ Below w.heap.size w w' := by
  unfold QV at ha
  have Hha := hide ha
  unfold QV at hb
  have Hhb := hide hb
  unfold Q2 at h1
  have Hh1 := hide h1
  have HB0 : Hid (Below w.heap.size w w) := Below.refl _ _
  have HV0 : Hid (VL w []) := VL.nil w
  clear ha hb h1 
  go_enter Tryz.func32, Tryz.ntmps32
  have HV0_ := hide (HV0.out.pushAt (b := w.heap.size) (by simp) ga sa ta 24)
  have HB0_ := hide (bAlloc HB0.out (.cells #[.bool ga, .string sa, .string ta] 24))
  clear HB0 HV0
  have HV0__ := hide (HV0_.out.pushAt (b := w.heap.size + 1) (by simp) gb sb tb 24)
  have HB0__ := hide (bAlloc HB0_.out (.cells #[.bool gb, .string sb, .string tb] 24))
  clear HB0_ HV0_
  have HV0___ := hide (HV0__.out.pushAt (b := w.heap.size + 2) (by simp) false ⟨#[]⟩ ⟨#[]⟩ 24)
  have HB0___ := hide (bAlloc HB0__.out (.cells #[.bool false, .string ⟨#[]⟩, .string ⟨#[]⟩] 24))
  clear HB0__ HV0__
  obtain ⟨c3, c4, c5⟩ := VL.cells3 (b := w.heap.size) (g := ga) (s := sa) (t := ta) HV0___.out (by simp)
  go_wp2_with fail
  clear c3 c4 c5
  refine (Hha.out _).mono ?_
  rintro e w1 ⟨rfl, hb⟩
  have HB1 := hide (bStep HB0___.out hb)
  have HV1 := hide (HV0___.out.below hb)
  clear hb HB0___ HV0___
  obtain ⟨c6, c7, c8⟩ := VL.cells3 (b := w.heap.size + 1) (g := gb) (s := sb) (t := tb) HV1.out (by simp)
  go_wp2_with fail
  clear c6 c7 c8
  refine (Hhb.out _).mono ?_
  rintro e w2 ⟨rfl, hb⟩
  have HB2 := hide (bStep HB1.out hb)
  have HV2 := hide (HV1.out.below hb)
  clear hb HB1 HV1
  obtain ⟨c9, c10, c11⟩ := VL.cells3 (b := w.heap.size) (g := ga) (s := sa) (t := ta) HV2.out (by simp)
  obtain ⟨c12, c13, c14⟩ := VL.cells3 (b := w.heap.size + 1) (g := gb) (s := sb) (t := tb) HV2.out (by simp)
  go_wp2_with fail
  clear c9 c10 c11 c12 c13 c14
  refine (Hh1.out _).mono ?_
  rintro e w3 ⟨rfl, hb⟩
  have HB3 := hide (bStep HB2.out hb)
  have HV3 := hide (HV2.out.below hb)
  clear hb HB2 HV2
  obtain ⟨k1_0, k1_1, k1_2, k1_3, k1_4, k1_5⟩ := VL.get (b := w.heap.size + 2) (g := false) (s := ⟨#[]⟩) (t := ⟨#[]⟩) HV3.out (by simp)
  go_wp2_with fail
  clear k1_0 k1_1 k1_2 k1_3 k1_4 k1_5
  obtain ⟨d0, d1, d2, _, _, _⟩ := (VL.get (b := w.heap.size + 2) (g := false) (s := ⟨#[]⟩) (t := ⟨#[]⟩) HV3.out (by simp)).set3 g s t
  exact bodyPost_ret (v := .tuple #[.agg #[.bool g, .string s, .string t], .int .i64 k]) (by simp [results, Tryz.results32, go_sem, d0, d1, d2]) rfl ⟨rfl, bset3 HB3.out (by omega) _ _ _⟩
end Go.Proofs.YtncocgfgbocnkaaGreatDoor
/- observatoryref04: Compare, Text, Parse. -/
namespace Go.Proofs.YtncocgfgbocnkaaGreatDoor
open Go.RowKit

theorem cmpX_both {a b c d : Nat} (h : a / b = c / d) (hr : a % b = 0) (hs : c % d = 0) : cmpX a b c d = 0 := by
  rw [cmpX_rest h, hr, hs]
  unfold cmpX
  simp
def RC4 (a b c d : ByteArray) (z : Int) : Prop := ∀ W, Calls Tryz.prog 51 #[.string a, .string b, .string c, .string d] W fun e w' => e = .returned (.int .i64 z) ∧ Below W.heap.size W w'
set_option maxHeartbeats 4000000 in
set_option maxRecDepth 100000 in
theorem r4_compare (x1 x2 y1 y2 : Nat) (w : World) (hx1 : x1 < capK 999) (hx2 : x2 < capK 999) (hy1 : y1 < capK 999) (hy2 : y2 < capK 999) (h0 : 0 < x2) (h00 : 0 < y2) :
    Calls Tryz.prog 51 #[.string (natS x1), .string (natS x2), .string (natS y1), .string (natS y2)] w fun e w' => e = .returned (.int .i64 (cmpX x1 x2 y1 y2)) ∧ Below w.heap.size w w' := by
  obtain ⟨Z, hZ⟩ : ∃ z, cmpX x1 x2 y1 y2 = z := ⟨_, rfl⟩
  rw [hZ]
  have HS : Hid (∃ (p1 p2 q1 q2 : Nat), x2 + y2 = p2 + q2 ∧ natS x1 = natS p1 ∧ natS x2 = natS p2 ∧ natS y1 = natS q1 ∧ natS y2 = natS q2 ∧ p1 < capK 999 ∧ p2 < capK 999 ∧ q1 < capK 999 ∧ q2 < capK 999 ∧ 0 < p2 ∧ 0 < q2 ∧ cmpX p1 p2 q1 q2 = Z) := ⟨x1, x2, y1, y2, rfl, rfl, rfl, rfl, rfl, hx1, hx2, hy1, hy2, h0, h00, hZ⟩
  obtain ⟨M, hM⟩ : ∃ m, x2 + y2 = m := ⟨_, rfl⟩
  rw [hM] at HS
  obtain ⟨s1, e1⟩ : ∃ s, natS x1 = s := ⟨_, rfl⟩
  obtain ⟨s2, e2⟩ : ∃ s, natS x2 = s := ⟨_, rfl⟩
  obtain ⟨t1, e3⟩ : ∃ s, natS y1 = s := ⟨_, rfl⟩
  obtain ⟨t2, e4⟩ : ∃ s, natS y2 = s := ⟨_, rfl⟩
  rw [e1, e2, e3, e4] at HS ⊢
  clear e1 e2 e3 e4 hM hZ hx1 hx2 hy1 hy2 h0 h00
  go_enter Tryz.func51, Tryz.ntmps51
  go_wp2_with fail
  go_loopg [0, 1, 2, 3] M (fun g z0 z1 z2 z3 wx => ∃ (s1 s2 t1 t2 : ByteArray), z0 = .string s1 ∧ z1 = .string s2 ∧ z2 = .string t1 ∧ z3 = .string t2 ∧ Below w.heap.size w wx ∧ ∃ (p1 p2 q1 q2 : Nat), g = p2 + q2 ∧ s1 = natS p1 ∧ s2 = natS p2 ∧ t1 = natS q1 ∧ t2 = natS q2 ∧ p1 < capK 999 ∧ p2 < capK 999 ∧ q1 < capK 999 ∧ q2 < capK 999 ∧ 0 < p2 ∧ 0 < q2 ∧ cmpX p1 p2 q1 q2 = Z)
  case atStart => exact ⟨_, _, _, _, rfl, rfl, rfl, rfl, Below.refl _ _, HS.out⟩
  case round =>
    clear HS
    obtain ⟨s, t, u, v, rfl, rfl, rfl, rfl, hbel, p1, p2, q1, q2, rfl, hs, ht, hu, hv, b1, b2, b3, b4, p0, q0, hz⟩ := hrel
    have HD1 : Hid (R3 65 s t (natS (p1 / p2)) (natS (p1 % p2))) := by show R3 _ _ _ _ _; rw [hs, ht]; exact r3_div (cap999 b1) b2 p0
    have HD2 : Hid (R3 65 u v (natS (q1 / q2)) (natS (q1 % q2))) := by show R3 _ _ _ _ _; rw [hu, hv]; exact r3_div (cap999 b3) b4 q0
    have HCM : Hid (RI (natS (p1 / p2)) (natS (q1 / q2)) (cmpN (p1 / p2) (q1 / q2))) := fun W => ref_Compare _ _ W (Nat.lt_of_le_of_lt (Nat.div_le_self _ _) (cap999 b1)) (Nat.lt_of_le_of_lt (Nat.div_le_self _ _) (cap999 b3))
    unfold R3 at HD1 HD2
    unfold RI at HCM
    have HB := hide hbel
    have hr1 := Nat.mod_lt p1 p0
    have hr2 := Nat.mod_lt q1 q0
    have zr1 : p1 % p2 = 0 → ((natS (p1 % p2)).toList == [48]) = true := fun h => str_eq (by rw [h, natS_zero])
    have nr1 : 0 < p1 % p2 → ((natS (p1 % p2)).toList == [48]) = false := fun h => str_ne (natS_ne_zero h) (by rfl)
    have zr2 : q1 % q2 = 0 → ((natS (q1 % q2)).toList == [48]) = true := fun h => str_eq (by rw [h, natS_zero])
    have nr2 : 0 < q1 % q2 → ((natS (q1 % q2)).toList == [48]) = false := fun h => str_ne (natS_ne_zero h) (by rfl)
    have HIN : Hid (p1 / p2 = q1 / q2 → 0 < p1 % p2 → 0 < q1 % q2 → (q1 % q2 + p1 % p2 < p2 + q2) ∧ ∃ (a1 a2 c1 c2 : Nat), q1 % q2 + p1 % p2 = a2 + c2 ∧ v = natS a1 ∧ natS (q1 % q2) = natS a2 ∧ t = natS c1 ∧ natS (p1 % p2) = natS c2 ∧ a1 < capK 999 ∧ a2 < capK 999 ∧ c1 < capK 999 ∧ c2 < capK 999 ∧ 0 < a2 ∧ 0 < c2 ∧ cmpX a1 a2 c1 c2 = Z) := fun hq g1 g2 => by
      exact ⟨by omega, q2, q1 % q2, p2, p1 % p2, rfl, hv, rfl, ht, rfl, b4, Nat.lt_trans hr2 b4, b2, Nat.lt_trans hr1 b2, g2, g1, by rw [← cmpX_rest hq]; exact hz⟩
    have HC1 := hide (fun h => (cmpX_div_lt p0 q0 h).symm.trans hz)
    have HC2 := hide (fun h => (cmpX_div_gt p0 q0 h).symm.trans hz)
    have HC3 : Hid (p1 / p2 = q1 / q2 → p1 % p2 = 0 → q1 % q2 = 0 → Z = 0) := fun a b c => hz.symm.trans (cmpX_both a b c)
    have HC4 : Hid (p1 / p2 = q1 / q2 → p1 % p2 = 0 → 0 < q1 % q2 → Z = -1) := fun a b c => by
      rw [← hz, cmpX_rest a, b]
      unfold cmpX
      rw [if_pos]
      rw [Nat.mul_zero]; exact Nat.mul_pos p0 c
    have HC5 : Hid (p1 / p2 = q1 / q2 → 0 < p1 % p2 → q1 % q2 = 0 → Z = 1) := fun a b c => hz.symm.trans (cmpX_zero_right a q0 b c)
    obtain ⟨d1, hd1⟩ : ∃ x, natS (p1 / p2) = x := ⟨_, rfl⟩
    obtain ⟨r1, hrr1⟩ : ∃ x, natS (p1 % p2) = x := ⟨_, rfl⟩
    obtain ⟨d2, hd2⟩ : ∃ x, natS (q1 / q2) = x := ⟨_, rfl⟩
    obtain ⟨r2, hrr2⟩ : ∃ x, natS (q1 % q2) = x := ⟨_, rfl⟩
    rw [hd1, hrr1] at HD1
    rw [hd2, hrr2] at HD2
    rw [hd1, hd2] at HCM
    rw [hrr1] at zr1 nr1 HIN
    rw [hrr2] at zr2 nr2 HIN
    clear hs ht hu hv hd1 hd2 hrr1 hrr2 b1 b2 b3 b4 hbel hr1 hr2 p0 q0 hz
    obtain ⟨Q1, hQ1⟩ : ∃ x, p1 / p2 = x := ⟨_, rfl⟩
    obtain ⟨Q2, hQ2⟩ : ∃ x, q1 / q2 = x := ⟨_, rfl⟩
    obtain ⟨S1, hS1⟩ : ∃ x, p1 % p2 = x := ⟨_, rfl⟩
    obtain ⟨S2, hS2⟩ : ∃ x, q1 % q2 = x := ⟨_, rfl⟩
    rw [hQ1, hQ2] at HCM HC1 HC2
    rw [hQ1, hQ2, hS1, hS2] at HC3 HC4 HC5 HIN
    rw [hS1] at zr1 nr1
    rw [hS2] at zr2 nr2
    clear hQ1 hQ2 hS1 hS2
    rcases Nat.lt_trichotomy Q1 Q2 with hq | hq | hq

    · have HR := hide (HC1.out hq)
      rw [cmpN_lt hq] at HCM
      clear hq
      clear zr1 nr1 zr2 nr2
      go_wp2_with fail
      refine (HD1.out _).mono ?_
      rintro e w5 ⟨rfl, hb⟩
      have HB5 := hide (bStep HB.out hb)
      clear hb
      go_wp2_with fail
      refine (HD2.out _).mono ?_
      rintro e w6 ⟨rfl, hb⟩
      have HB6 := hide (bStep HB5.out hb)
      clear hb
      go_wp2_with fail
      refine (HCM.out _).mono ?_
      rintro e w7 ⟨rfl, hb⟩
      have HB7 := hide (bStep HB6.out hb)
      clear hb
      go_wp2_with fail
      go_ret
      exact ⟨by rw [← HR.out]; rfl, HB7.out⟩
    · subst hq
      rw [cmpN_eq] at HCM
      by_cases h1 : S1 = 0
      · have e1 := zr1 h1
        by_cases h2 : S2 = 0
        · have e2 := zr2 h2
          have HR := hide (HC3.out rfl h1 h2)
          clear h1 h2
          clear zr1 nr1 zr2 nr2
          go_wp2_with fail
          refine (HD1.out _).mono ?_
          rintro e w5 ⟨rfl, hb⟩
          have HB5 := hide (bStep HB.out hb)
          clear hb
          go_wp2_with fail
          refine (HD2.out _).mono ?_
          rintro e w6 ⟨rfl, hb⟩
          have HB6 := hide (bStep HB5.out hb)
          clear hb
          go_wp2_with fail
          refine (HCM.out _).mono ?_
          rintro e w7 ⟨rfl, hb⟩
          have HB7 := hide (bStep HB6.out hb)
          clear hb
          go_wp2_with fail
          go_ret
          exact ⟨by rw [HR.out]; rfl, HB7.out⟩
        · have e2 := nr2 (by omega)
          have HR := hide (HC4.out rfl h1 (by omega))
          clear h1 h2
          clear zr1 nr1 zr2 nr2
          go_wp2_with fail
          refine (HD1.out _).mono ?_
          rintro e w5 ⟨rfl, hb⟩
          have HB5 := hide (bStep HB.out hb)
          clear hb
          go_wp2_with fail
          refine (HD2.out _).mono ?_
          rintro e w6 ⟨rfl, hb⟩
          have HB6 := hide (bStep HB5.out hb)
          clear hb
          go_wp2_with fail
          refine (HCM.out _).mono ?_
          rintro e w7 ⟨rfl, hb⟩
          have HB7 := hide (bStep HB6.out hb)
          clear hb
          go_wp2_with fail
          go_ret
          exact ⟨by rw [HR.out]; rfl, HB7.out⟩
      · have e1 := nr1 (by omega)
        by_cases h2 : S2 = 0
        · have e2 := zr2 h2
          have HR := hide (HC5.out rfl (by omega) h2)
          clear h1 h2
          clear zr1 nr1 zr2 nr2
          go_wp2_with fail
          refine (HD1.out _).mono ?_
          rintro e w5 ⟨rfl, hb⟩
          have HB5 := hide (bStep HB.out hb)
          clear hb
          go_wp2_with fail
          refine (HD2.out _).mono ?_
          rintro e w6 ⟨rfl, hb⟩
          have HB6 := hide (bStep HB5.out hb)
          clear hb
          go_wp2_with fail
          refine (HCM.out _).mono ?_
          rintro e w7 ⟨rfl, hb⟩
          have HB7 := hide (bStep HB6.out hb)
          clear hb
          go_wp2_with fail
          go_ret
          exact ⟨by rw [HR.out]; rfl, HB7.out⟩
        · have e2 := nr2 (by omega)
          have HR := hide (HIN.out rfl (by omega) (by omega))
          clear h1 h2
          clear zr1 nr1 zr2 nr2
          go_wp2_with fail
          refine (HD1.out _).mono ?_
          rintro e w5 ⟨rfl, hb⟩
          have HB5 := hide (bStep HB.out hb)
          clear hb
          go_wp2_with fail
          refine (HD2.out _).mono ?_
          rintro e w6 ⟨rfl, hb⟩
          have HB6 := hide (bStep HB5.out hb)
          clear hb
          go_wp2_with fail
          refine (HCM.out _).mono ?_
          rintro e w7 ⟨rfl, hb⟩
          have HB7 := hide (bStep HB6.out hb)
          clear hb
          go_wp2_with fail
          go_roundg (S2 + S1)
          case measure => exact HR.out.1
          case rel => exact ⟨_, _, _, _, rfl, rfl, rfl, rfl, HB7.out, HR.out.2⟩
    · have HR := hide (HC2.out hq)
      rw [cmpN_gt hq] at HCM
      clear hq
      clear zr1 nr1 zr2 nr2
      go_wp2_with fail
      refine (HD1.out _).mono ?_
      rintro e w5 ⟨rfl, hb⟩
      have HB5 := hide (bStep HB.out hb)
      clear hb
      go_wp2_with fail
      refine (HD2.out _).mono ?_
      rintro e w6 ⟨rfl, hb⟩
      have HB6 := hide (bStep HB5.out hb)
      clear hb
      go_wp2_with fail
      refine (HCM.out _).mono ?_
      rintro e w7 ⟨rfl, hb⟩
      have HB7 := hide (bStep HB6.out hb)
      clear hb
      go_wp2_with fail
      go_ret
      exact ⟨by rw [← HR.out]; rfl, HB7.out⟩
set_option maxHeartbeats 4000000 in
set_option maxRecDepth 100000 in
theorem r4_Compare1 (ga : Bool) (sa ta : ByteArray) (gb : Bool) (sb tb : ByteArray) (w : World) (ha : QV ga sa ta false) :
    Calls Tryz.prog 24 #[.agg #[.bool ga, .string sa, .string ta], .agg #[.bool gb, .string sb, .string tb]] w fun e w' => e = .returned (.int .i64 0) ∧ Below w.heap.size w w' := by
  unfold QV at ha
  have Hha := hide ha
  have HB0 : Hid (Below w.heap.size w w) := Below.refl _ _
  have HV0 : Hid (VL w []) := VL.nil w
  clear ha 
  go_enter Tryz.func24, Tryz.ntmps24
  have HV0_ := hide (HV0.out.pushAt (b := w.heap.size) (by simp) ga sa ta 24)
  have HB0_ := hide (bAlloc HB0.out (.cells #[.bool ga, .string sa, .string ta] 24))
  clear HB0 HV0
  have HV0__ := hide (HV0_.out.pushAt (b := w.heap.size + 1) (by simp) gb sb tb 24)
  have HB0__ := hide (bAlloc HB0_.out (.cells #[.bool gb, .string sb, .string tb] 24))
  clear HB0_ HV0_
  obtain ⟨c3, c4, c5⟩ := VL.cells3 (b := w.heap.size) (g := ga) (s := sa) (t := ta) HV0__.out (by simp)
  go_wp2_with fail
  clear c3 c4 c5
  refine (Hha.out _).mono ?_
  rintro e w1 ⟨rfl, hb⟩
  have HB1 := hide (bStep HB0__.out hb)
  have HV1 := hide (HV0__.out.below hb)
  clear hb HB0__ HV0__
  go_wp2_with fail
  go_ret
  exact ⟨rfl, HB1.out⟩
set_option maxHeartbeats 4000000 in
set_option maxRecDepth 100000 in
theorem r4_Compare2 (ga : Bool) (sa ta : ByteArray) (gb : Bool) (sb tb : ByteArray) (w : World) (ha : QV ga sa ta true) (hb : QV gb sb tb false) :
    Calls Tryz.prog 24 #[.agg #[.bool ga, .string sa, .string ta], .agg #[.bool gb, .string sb, .string tb]] w fun e w' => e = .returned (.int .i64 0) ∧ Below w.heap.size w w' := by
  unfold QV at ha
  have Hha := hide ha
  unfold QV at hb
  have Hhb := hide hb
  have HB0 : Hid (Below w.heap.size w w) := Below.refl _ _
  have HV0 : Hid (VL w []) := VL.nil w
  clear ha hb 
  go_enter Tryz.func24, Tryz.ntmps24
  have HV0_ := hide (HV0.out.pushAt (b := w.heap.size) (by simp) ga sa ta 24)
  have HB0_ := hide (bAlloc HB0.out (.cells #[.bool ga, .string sa, .string ta] 24))
  clear HB0 HV0
  have HV0__ := hide (HV0_.out.pushAt (b := w.heap.size + 1) (by simp) gb sb tb 24)
  have HB0__ := hide (bAlloc HB0_.out (.cells #[.bool gb, .string sb, .string tb] 24))
  clear HB0_ HV0_
  obtain ⟨c3, c4, c5⟩ := VL.cells3 (b := w.heap.size) (g := ga) (s := sa) (t := ta) HV0__.out (by simp)
  go_wp2_with fail
  clear c3 c4 c5
  refine (Hha.out _).mono ?_
  rintro e w1 ⟨rfl, hb⟩
  have HB1 := hide (bStep HB0__.out hb)
  have HV1 := hide (HV0__.out.below hb)
  clear hb HB0__ HV0__
  obtain ⟨c6, c7, c8⟩ := VL.cells3 (b := w.heap.size + 1) (g := gb) (s := sb) (t := tb) HV1.out (by simp)
  go_wp2_with fail
  clear c6 c7 c8
  refine (Hhb.out _).mono ?_
  rintro e w2 ⟨rfl, hb⟩
  have HB2 := hide (bStep HB1.out hb)
  have HV2 := hide (HV1.out.below hb)
  clear hb HB1 HV1
  go_wp2_with fail
  go_ret
  exact ⟨rfl, HB2.out⟩
set_option maxHeartbeats 4000000 in
set_option maxRecDepth 100000 in
theorem r4_Compare3 (sa ta sb tb : ByteArray) (w : World) (ha : QV true sa ta true) (hb : QV false sb tb true) :
    Calls Tryz.prog 24 #[.agg #[.bool true, .string sa, .string ta], .agg #[.bool false, .string sb, .string tb]] w fun e w' => e = .returned (.int .i64 (-1)) ∧ Below w.heap.size w w' := by
  unfold QV at ha
  have Hha := hide ha
  unfold QV at hb
  have Hhb := hide hb
  have HB0 : Hid (Below w.heap.size w w) := Below.refl _ _
  have HV0 : Hid (VL w []) := VL.nil w
  clear ha hb 
  go_enter Tryz.func24, Tryz.ntmps24
  have HV0_ := hide (HV0.out.pushAt (b := w.heap.size) (by simp) true sa ta 24)
  have HB0_ := hide (bAlloc HB0.out (.cells #[.bool true, .string sa, .string ta] 24))
  clear HB0 HV0
  have HV0__ := hide (HV0_.out.pushAt (b := w.heap.size + 1) (by simp) false sb tb 24)
  have HB0__ := hide (bAlloc HB0_.out (.cells #[.bool false, .string sb, .string tb] 24))
  clear HB0_ HV0_
  obtain ⟨c3, c4, c5⟩ := VL.cells3 (b := w.heap.size) (g := true) (s := sa) (t := ta) HV0__.out (by simp)
  go_wp2_with fail
  clear c3 c4 c5
  refine (Hha.out _).mono ?_
  rintro e w1 ⟨rfl, hb⟩
  have HB1 := hide (bStep HB0__.out hb)
  have HV1 := hide (HV0__.out.below hb)
  clear hb HB0__ HV0__
  obtain ⟨c6, c7, c8⟩ := VL.cells3 (b := w.heap.size + 1) (g := false) (s := sb) (t := tb) HV1.out (by simp)
  go_wp2_with fail
  clear c6 c7 c8
  refine (Hhb.out _).mono ?_
  rintro e w2 ⟨rfl, hb⟩
  have HB2 := hide (bStep HB1.out hb)
  have HV2 := hide (HV1.out.below hb)
  clear hb HB1 HV1
  obtain ⟨c9, c10, c11⟩ := VL.cells3 (b := w.heap.size) (g := true) (s := sa) (t := ta) HV2.out (by simp)
  obtain ⟨c12, c13, c14⟩ := VL.cells3 (b := w.heap.size + 1) (g := false) (s := sb) (t := tb) HV2.out (by simp)
  go_wp2_with fail
  clear c9 c10 c11 c12 c13 c14
  go_ret
  exact ⟨rfl, HB2.out⟩
set_option maxHeartbeats 4000000 in
set_option maxRecDepth 100000 in
theorem r4_Compare4 (sa ta sb tb : ByteArray) (w : World) (ha : QV false sa ta true) (hb : QV true sb tb true) :
    Calls Tryz.prog 24 #[.agg #[.bool false, .string sa, .string ta], .agg #[.bool true, .string sb, .string tb]] w fun e w' => e = .returned (.int .i64 1) ∧ Below w.heap.size w w' := by
  unfold QV at ha
  have Hha := hide ha
  unfold QV at hb
  have Hhb := hide hb
  have HB0 : Hid (Below w.heap.size w w) := Below.refl _ _
  have HV0 : Hid (VL w []) := VL.nil w
  clear ha hb 
  go_enter Tryz.func24, Tryz.ntmps24
  have HV0_ := hide (HV0.out.pushAt (b := w.heap.size) (by simp) false sa ta 24)
  have HB0_ := hide (bAlloc HB0.out (.cells #[.bool false, .string sa, .string ta] 24))
  clear HB0 HV0
  have HV0__ := hide (HV0_.out.pushAt (b := w.heap.size + 1) (by simp) true sb tb 24)
  have HB0__ := hide (bAlloc HB0_.out (.cells #[.bool true, .string sb, .string tb] 24))
  clear HB0_ HV0_
  obtain ⟨c3, c4, c5⟩ := VL.cells3 (b := w.heap.size) (g := false) (s := sa) (t := ta) HV0__.out (by simp)
  go_wp2_with fail
  clear c3 c4 c5
  refine (Hha.out _).mono ?_
  rintro e w1 ⟨rfl, hb⟩
  have HB1 := hide (bStep HB0__.out hb)
  have HV1 := hide (HV0__.out.below hb)
  clear hb HB0__ HV0__
  obtain ⟨c6, c7, c8⟩ := VL.cells3 (b := w.heap.size + 1) (g := true) (s := sb) (t := tb) HV1.out (by simp)
  go_wp2_with fail
  clear c6 c7 c8
  refine (Hhb.out _).mono ?_
  rintro e w2 ⟨rfl, hb⟩
  have HB2 := hide (bStep HB1.out hb)
  have HV2 := hide (HV1.out.below hb)
  clear hb HB1 HV1
  obtain ⟨c9, c10, c11⟩ := VL.cells3 (b := w.heap.size) (g := false) (s := sa) (t := ta) HV2.out (by simp)
  obtain ⟨c12, c13, c14⟩ := VL.cells3 (b := w.heap.size + 1) (g := true) (s := sb) (t := tb) HV2.out (by simp)
  go_wp2_with fail
  clear c9 c10 c11 c12 c13 c14
  go_ret
  exact ⟨rfl, HB2.out⟩
set_option maxHeartbeats 4000000 in
set_option maxRecDepth 100000 in
theorem r4_Compare5 (sa ta sb tb : ByteArray) (z : Int) (w : World) (ha : QV true sa ta true) (hb : QV true sb tb true) (hc : RC4 sb tb sa ta z) :
    Calls Tryz.prog 24 #[.agg #[.bool true, .string sa, .string ta], .agg #[.bool true, .string sb, .string tb]] w fun e w' => e = .returned (.int .i64 z) ∧ Below w.heap.size w w' := by
  unfold QV at ha
  have Hha := hide ha
  unfold QV at hb
  have Hhb := hide hb
  unfold RC4 at hc
  have Hhc := hide hc
  have HB0 : Hid (Below w.heap.size w w) := Below.refl _ _
  have HV0 : Hid (VL w []) := VL.nil w
  clear ha hb hc 
  go_enter Tryz.func24, Tryz.ntmps24
  have HV0_ := hide (HV0.out.pushAt (b := w.heap.size) (by simp) true sa ta 24)
  have HB0_ := hide (bAlloc HB0.out (.cells #[.bool true, .string sa, .string ta] 24))
  clear HB0 HV0
  have HV0__ := hide (HV0_.out.pushAt (b := w.heap.size + 1) (by simp) true sb tb 24)
  have HB0__ := hide (bAlloc HB0_.out (.cells #[.bool true, .string sb, .string tb] 24))
  clear HB0_ HV0_
  obtain ⟨c3, c4, c5⟩ := VL.cells3 (b := w.heap.size) (g := true) (s := sa) (t := ta) HV0__.out (by simp)
  go_wp2_with fail
  clear c3 c4 c5
  refine (Hha.out _).mono ?_
  rintro e w1 ⟨rfl, hb⟩
  have HB1 := hide (bStep HB0__.out hb)
  have HV1 := hide (HV0__.out.below hb)
  clear hb HB0__ HV0__
  obtain ⟨c6, c7, c8⟩ := VL.cells3 (b := w.heap.size + 1) (g := true) (s := sb) (t := tb) HV1.out (by simp)
  go_wp2_with fail
  clear c6 c7 c8
  refine (Hhb.out _).mono ?_
  rintro e w2 ⟨rfl, hb⟩
  have HB2 := hide (bStep HB1.out hb)
  have HV2 := hide (HV1.out.below hb)
  clear hb HB1 HV1
  obtain ⟨c9, c10, c11⟩ := VL.cells3 (b := w.heap.size) (g := true) (s := sa) (t := ta) HV2.out (by simp)
  obtain ⟨c12, c13, c14⟩ := VL.cells3 (b := w.heap.size + 1) (g := true) (s := sb) (t := tb) HV2.out (by simp)
  go_wp2_with fail
  clear c9 c10 c11 c12 c13 c14
  refine (Hhc.out _).mono ?_
  rintro e w3 ⟨rfl, hb⟩
  have HB3 := hide (bStep HB2.out hb)
  have HV3 := hide (HV2.out.below hb)
  clear hb HB2 HV2
  go_wp2_with fail
  go_ret
  exact ⟨rfl, HB3.out⟩
set_option maxHeartbeats 4000000 in
set_option maxRecDepth 100000 in
theorem r4_Compare6 (sa ta sb tb : ByteArray) (z : Int) (w : World) (ha : QV false sa ta true) (hb : QV false sb tb true) (hc : RC4 sa ta sb tb z) :
    Calls Tryz.prog 24 #[.agg #[.bool false, .string sa, .string ta], .agg #[.bool false, .string sb, .string tb]] w fun e w' => e = .returned (.int .i64 z) ∧ Below w.heap.size w w' := by
  unfold QV at ha
  have Hha := hide ha
  unfold QV at hb
  have Hhb := hide hb
  unfold RC4 at hc
  have Hhc := hide hc
  have HB0 : Hid (Below w.heap.size w w) := Below.refl _ _
  have HV0 : Hid (VL w []) := VL.nil w
  clear ha hb hc 
  go_enter Tryz.func24, Tryz.ntmps24
  have HV0_ := hide (HV0.out.pushAt (b := w.heap.size) (by simp) false sa ta 24)
  have HB0_ := hide (bAlloc HB0.out (.cells #[.bool false, .string sa, .string ta] 24))
  clear HB0 HV0
  have HV0__ := hide (HV0_.out.pushAt (b := w.heap.size + 1) (by simp) false sb tb 24)
  have HB0__ := hide (bAlloc HB0_.out (.cells #[.bool false, .string sb, .string tb] 24))
  clear HB0_ HV0_
  obtain ⟨c3, c4, c5⟩ := VL.cells3 (b := w.heap.size) (g := false) (s := sa) (t := ta) HV0__.out (by simp)
  go_wp2_with fail
  clear c3 c4 c5
  refine (Hha.out _).mono ?_
  rintro e w1 ⟨rfl, hb⟩
  have HB1 := hide (bStep HB0__.out hb)
  have HV1 := hide (HV0__.out.below hb)
  clear hb HB0__ HV0__
  obtain ⟨c6, c7, c8⟩ := VL.cells3 (b := w.heap.size + 1) (g := false) (s := sb) (t := tb) HV1.out (by simp)
  go_wp2_with fail
  clear c6 c7 c8
  refine (Hhb.out _).mono ?_
  rintro e w2 ⟨rfl, hb⟩
  have HB2 := hide (bStep HB1.out hb)
  have HV2 := hide (HV1.out.below hb)
  clear hb HB1 HV1
  obtain ⟨c9, c10, c11⟩ := VL.cells3 (b := w.heap.size) (g := false) (s := sa) (t := ta) HV2.out (by simp)
  obtain ⟨c12, c13, c14⟩ := VL.cells3 (b := w.heap.size + 1) (g := false) (s := sb) (t := tb) HV2.out (by simp)
  go_wp2_with fail
  clear c9 c10 c11 c12 c13 c14
  refine (Hhc.out _).mono ?_
  rintro e w3 ⟨rfl, hb⟩
  have HB3 := hide (bStep HB2.out hb)
  have HV3 := hide (HV2.out.below hb)
  clear hb HB2 HV2
  go_wp2_with fail
  go_ret
  exact ⟨rfl, HB3.out⟩
set_option maxHeartbeats 4000000 in
set_option maxRecDepth 100000 in
theorem r4_Text1 (g : Bool) (s t : ByteArray) (w : World) (h1 : QV g s t false) :
    Calls Tryz.prog 18 #[.agg #[.bool g, .string s, .string t]] w fun e w' => e = .returned (.tuple #[.string ⟨#[]⟩, .int .i64 1]) ∧ Below w.heap.size w w' := by
  unfold QV at h1
  have Hh1 := hide h1
  have HB0 : Hid (Below w.heap.size w w) := Below.refl _ _
  have HV0 : Hid (VL w []) := VL.nil w
  clear h1 
  go_enter Tryz.func18, Tryz.ntmps18
  have HV0_ := hide (HV0.out.pushAt (b := w.heap.size) (by simp) g s t 24)
  have HB0_ := hide (bAlloc HB0.out (.cells #[.bool g, .string s, .string t] 24))
  clear HB0 HV0
  obtain ⟨c3, c4, c5⟩ := VL.cells3 (b := w.heap.size) (g := g) (s := s) (t := t) HV0_.out (by simp)
  go_wp2_with fail
  clear c3 c4 c5
  refine (Hh1.out _).mono ?_
  rintro e w1 ⟨rfl, hb⟩
  have HB1 := hide (bStep HB0_.out hb)
  have HV1 := hide (HV0_.out.below hb)
  clear hb HB0_ HV0_
  go_wp2_with fail
  go_ret2
  exact ⟨rfl, HB1.out⟩
set_option maxHeartbeats 4000000 in
set_option maxRecDepth 100000 in
theorem r4_Text2 (s : ByteArray) (w : World) (h1 : QV false s ⟨#[49]⟩ true) :
    Calls Tryz.prog 18 #[.agg #[.bool false, .string s, .string ⟨#[49]⟩]] w fun e w' => e = .returned (.tuple #[.string s, .int .i64 0]) ∧ Below w.heap.size w w' := by
  unfold QV at h1
  have Hh1 := hide h1
  have HB0 : Hid (Below w.heap.size w w) := Below.refl _ _
  have HV0 : Hid (VL w []) := VL.nil w
  clear h1 
  go_enter Tryz.func18, Tryz.ntmps18
  have HV0_ := hide (HV0.out.pushAt (b := w.heap.size) (by simp) false s ⟨#[49]⟩ 24)
  have HB0_ := hide (bAlloc HB0.out (.cells #[.bool false, .string s, .string ⟨#[49]⟩] 24))
  clear HB0 HV0
  obtain ⟨c3, c4, c5⟩ := VL.cells3 (b := w.heap.size) (g := false) (s := s) (t := ⟨#[49]⟩) HV0_.out (by simp)
  go_wp2_with fail
  clear c3 c4 c5
  refine (Hh1.out _).mono ?_
  rintro e w1 ⟨rfl, hb⟩
  have HB1 := hide (bStep HB0_.out hb)
  have HV1 := hide (HV0_.out.below hb)
  clear hb HB0_ HV0_
  obtain ⟨c6, c7, c8⟩ := VL.cells3 (b := w.heap.size) (g := false) (s := s) (t := ⟨#[49]⟩) HV1.out (by simp)
  go_wp2_with fail
  clear c6 c7 c8
  go_ret2
  exact ⟨rfl, HB1.out⟩
set_option maxHeartbeats 4000000 in
set_option maxRecDepth 100000 in
theorem r4_Text3 (s : ByteArray) (x : ByteArray) (w : World) (h1 : QV true s ⟨#[49]⟩ true) (a3 : ∀ W, (Op.stringOp .add ⟨#[45]⟩ s).run Tryz.prog W = .ok (.string x) W) :
    Calls Tryz.prog 18 #[.agg #[.bool true, .string s, .string ⟨#[49]⟩]] w fun e w' => e = .returned (.tuple #[.string x, .int .i64 0]) ∧ Below w.heap.size w w' := by
  unfold QV at h1
  have Hh1 := hide h1
  have HB0 : Hid (Below w.heap.size w w) := Below.refl _ _
  have HV0 : Hid (VL w []) := VL.nil w
  clear h1 
  go_enter Tryz.func18, Tryz.ntmps18
  have HV0_ := hide (HV0.out.pushAt (b := w.heap.size) (by simp) true s ⟨#[49]⟩ 24)
  have HB0_ := hide (bAlloc HB0.out (.cells #[.bool true, .string s, .string ⟨#[49]⟩] 24))
  clear HB0 HV0
  obtain ⟨c3, c4, c5⟩ := VL.cells3 (b := w.heap.size) (g := true) (s := s) (t := ⟨#[49]⟩) HV0_.out (by simp)
  go_wp2_with fail
  clear c3 c4 c5
  refine (Hh1.out _).mono ?_
  rintro e w1 ⟨rfl, hb⟩
  have HB1 := hide (bStep HB0_.out hb)
  have HV1 := hide (HV0_.out.below hb)
  clear hb HB0_ HV0_
  obtain ⟨c6, c7, c8⟩ := VL.cells3 (b := w.heap.size) (g := true) (s := s) (t := ⟨#[49]⟩) HV1.out (by simp)
  go_wp2_with fail
  clear c6 c7 c8
  go_ret2
  exact ⟨rfl, HB1.out⟩
set_option maxHeartbeats 4000000 in
set_option maxRecDepth 100000 in
theorem r4_Text4 (s t : ByteArray) (u v : ByteArray) (w : World) (h1 : QV false s t true) (f1 : (t.toList == [49]) = false) (a1 : ∀ W, (Op.stringOp .add s ⟨#[47]⟩).run Tryz.prog W = .ok (.string u) W) (a2 : ∀ W, (Op.stringOp .add u t).run Tryz.prog W = .ok (.string v) W) :
    Calls Tryz.prog 18 #[.agg #[.bool false, .string s, .string t]] w fun e w' => e = .returned (.tuple #[.string v, .int .i64 0]) ∧ Below w.heap.size w w' := by
  unfold QV at h1
  have Hh1 := hide h1
  have f1n : (t.toList != [49]) = true := by rw [bne, f1]; rfl
  have HB0 : Hid (Below w.heap.size w w) := Below.refl _ _
  have HV0 : Hid (VL w []) := VL.nil w
  clear h1 
  go_enter Tryz.func18, Tryz.ntmps18
  have HV0_ := hide (HV0.out.pushAt (b := w.heap.size) (by simp) false s t 24)
  have HB0_ := hide (bAlloc HB0.out (.cells #[.bool false, .string s, .string t] 24))
  clear HB0 HV0
  obtain ⟨c3, c4, c5⟩ := VL.cells3 (b := w.heap.size) (g := false) (s := s) (t := t) HV0_.out (by simp)
  go_wp2_with fail
  clear c3 c4 c5
  refine (Hh1.out _).mono ?_
  rintro e w1 ⟨rfl, hb⟩
  have HB1 := hide (bStep HB0_.out hb)
  have HV1 := hide (HV0_.out.below hb)
  clear hb HB0_ HV0_
  obtain ⟨c6, c7, c8⟩ := VL.cells3 (b := w.heap.size) (g := false) (s := s) (t := t) HV1.out (by simp)
  go_wp2_with fail
  clear c6 c7 c8
  go_ret2
  exact ⟨rfl, HB1.out⟩
set_option maxHeartbeats 4000000 in
set_option maxRecDepth 100000 in
theorem r4_Text5 (s t : ByteArray) (u v : ByteArray) (x : ByteArray) (w : World) (h1 : QV true s t true) (f1 : (t.toList == [49]) = false) (a1 : ∀ W, (Op.stringOp .add s ⟨#[47]⟩).run Tryz.prog W = .ok (.string u) W) (a2 : ∀ W, (Op.stringOp .add u t).run Tryz.prog W = .ok (.string v) W) (a3 : ∀ W, (Op.stringOp .add ⟨#[45]⟩ v).run Tryz.prog W = .ok (.string x) W) :
    Calls Tryz.prog 18 #[.agg #[.bool true, .string s, .string t]] w fun e w' => e = .returned (.tuple #[.string x, .int .i64 0]) ∧ Below w.heap.size w w' := by
  unfold QV at h1
  have Hh1 := hide h1
  have f1n : (t.toList != [49]) = true := by rw [bne, f1]; rfl
  have HB0 : Hid (Below w.heap.size w w) := Below.refl _ _
  have HV0 : Hid (VL w []) := VL.nil w
  clear h1 
  go_enter Tryz.func18, Tryz.ntmps18
  have HV0_ := hide (HV0.out.pushAt (b := w.heap.size) (by simp) true s t 24)
  have HB0_ := hide (bAlloc HB0.out (.cells #[.bool true, .string s, .string t] 24))
  clear HB0 HV0
  obtain ⟨c3, c4, c5⟩ := VL.cells3 (b := w.heap.size) (g := true) (s := s) (t := t) HV0_.out (by simp)
  go_wp2_with fail
  clear c3 c4 c5
  refine (Hh1.out _).mono ?_
  rintro e w1 ⟨rfl, hb⟩
  have HB1 := hide (bStep HB0_.out hb)
  have HV1 := hide (HV0_.out.below hb)
  clear hb HB0_ HV0_
  obtain ⟨c6, c7, c8⟩ := VL.cells3 (b := w.heap.size) (g := true) (s := s) (t := t) HV1.out (by simp)
  go_wp2_with fail
  clear c6 c7 c8
  go_ret2
  exact ⟨rfl, HB1.out⟩
end Go.Proofs.YtncocgfgbocnkaaGreatDoor
/- observatoryref04: contracts; Parse. -/
namespace Go.Proofs.YtncocgfgbocnkaaGreatDoor
open Go.RowKit

theorem IsQ.parts {q : Rat} {g : Bool} {s t : ByteArray} (e : IsQ q g s t) : ngQ q = g ∧ natS (nmQ q) = s ∧ natS q.den = t := by
  unfold IsQ rqV at e
  simpa only [Value.agg.injEq, Array.mk.injEq, List.cons.injEq, Value.bool.injEq, Value.string.injEq, and_true] using e
theorem size_999 {n k : Nat} (h : n < capK k) (hk : k ≤ 999) : (natS n).size ≤ 999 := by
  rw [natS_size]; exact (capK_len (by decide)).2 (Nat.lt_of_lt_of_le h (capK_le hk))
theorem qv_of {q : Rat} {g : Bool} {s t : ByteArray} {k : Nat} (h : Sz k q) (hk : k ≤ 999) (e : IsQ q g s t) : QV g s t true := by
  obtain ⟨rfl, rfl, rfl⟩ := e.parts
  have := r4_valid (ngQ q) (natS (nmQ q)) (natS q.den) (size_999 h.1 hk) (size_999 h.2 hk)
  rwa [vldR_q (h.fit (by omega))] at this
theorem r2_mul {x y : Nat} (hx : x < capN) (hy : y < capN) (h : x * y < capN) : R2 57 (natS x) (natS y) (natS (x * y)) := fun W => (ref_Mul x y W hx hy).mono fun _ _ h' => h'.ok h
theorem r2_add {x y : Nat} (hx : x < capN) (hy : y < capN) (h : x + y < capN) : R2 58 (natS x) (natS y) (natS (x + y)) := fun W => (ref_Add x y W hx hy).mono fun _ _ h' => h'.ok h
theorem r2_sub {x y : Nat} (hx : x < capN) (hy : y < capN) (h : y ≤ x) : R2 60 (natS x) (natS y) (natS (x - y)) := fun W => ref_Sub x y W hx hy h
theorem ri_cmp {x y : Nat} (hx : x < capN) (hy : y < capN) : RI (natS x) (natS y) (cmpN x y) := fun W => ref_Compare x y W hx hy
theorem q2_add {p q r : Rat} {g g1 g2 : Bool} {s t s1 t1 s2 t2 : ByteArray} {j k : Nat} (hp : Sz j p) (hq : Sz k q) (hjk : j + k + 1 ≤ 998) (e : p + q = r) (ep : IsQ p g1 s1 t1) (eq : IsQ q g2 s2 t2) (er : IsQ r g s t) : Q2 26 g1 s1 t1 g2 s2 t2 g s t 0 := fun W => by
  subst e
  have va := qv_of hp (by omega) ep
  have vb := qv_of hq (by omega) eq
  obtain ⟨rfl, rfl, rfl⟩ := ep.parts
  obtain ⟨rfl, rfl, rfl⟩ := eq.parts
  obtain ⟨c1, c2, c3, c4⟩ := hp.cross hq
  have f1 := hp.fit (show j ≤ 1000 by omega)
  have f2 := hq.fit (show k ≤ 1000 by omega)
  have k1 : capK (j + k) ≤ capK 999 := capK_le (by omega)
  have k2 : capK (j + k + 1) ≤ capK 999 := capK_le (by omega)
  have b1 : nmQ p * q.den < capN := cap999 (Nat.lt_of_lt_of_le c1 k1)
  have b2 : nmQ q * p.den < capN := cap999 (Nat.lt_of_lt_of_le c2 k1)
  have b3 : p.den * q.den < capN := cap999 (Nat.lt_of_lt_of_le c3 k1)
  have m1 := r2_mul f1.1 f2.2 b1
  have m2 := r2_mul f2.1 f1.2 b2
  have m3 := r2_mul f1.2 f2.2 b3
  have hd0 := Nat.mul_pos (den_pos p) (den_pos q)
  by_cases h : ngQ p = ngQ q
  · have el : IsQ (mkQ (ngQ p) (nmQ p * q.den + nmQ q * p.den) (p.den * q.den)) g s t := by rw [add_same h]; exact er
    exact r4_Add3 _ _ _ _ _ _ _ _ _ _ g s t W va vb m1 m2 m3 (by rw [h]; exact beq_self_eq_true _) (r2_add b1 b2 (cap999 (Nat.lt_of_lt_of_le c4 k2))) (r4_lowest _ (Nat.lt_of_lt_of_le c4 k2) (Nat.lt_of_lt_of_le c3 k1) hd0 el)
  · have hb : (ngQ p == ngQ q) = false := beq_eq_false_iff_ne.2 h
    rcases Nat.lt_or_ge (nmQ p * q.den) (nmQ q * p.den) with hl | hl
    · have el : IsQ (mkQ (ngQ q) (nmQ q * p.den - nmQ p * q.den) (p.den * q.den)) g s t := by rw [add_right h (Nat.le_of_lt hl)]; exact er
      exact r4_Add5 _ _ _ _ _ _ _ _ _ _ g s t _ W va vb m1 m2 m3 hb (ri_cmp b1 b2) (by rw [cmpN_lt hl]; rfl) (r2_sub b2 b1 (Nat.le_of_lt hl)) (r4_lowest _ (Nat.lt_of_le_of_lt (Nat.sub_le _ _) (Nat.lt_of_lt_of_le c2 k1)) (Nat.lt_of_lt_of_le c3 k1) hd0 el)
    · have el : IsQ (mkQ (ngQ p) (nmQ p * q.den - nmQ q * p.den) (p.den * q.den)) g s t := by rw [add_left h hl]; exact er
      have hc : decide (0 ≤ cmpN (nmQ p * q.den) (nmQ q * p.den)) = true := decide_eq_true (by have h := cmpN_neg (x := nmQ p * q.den) (y := nmQ q * p.den); omega)
      exact r4_Add4 _ _ _ _ _ _ _ _ _ _ g s t _ W va vb m1 m2 m3 hb (ri_cmp b1 b2) hc (r2_sub b1 b2 hl) (r4_lowest _ (Nat.lt_of_le_of_lt (Nat.sub_le _ _) (Nat.lt_of_lt_of_le c1 k1)) (Nat.lt_of_lt_of_le c3 k1) hd0 el)
theorem q2_mul {p q r : Rat} {g g1 g2 : Bool} {s t s1 t1 s2 t2 : ByteArray} {j k : Nat} (hp : Sz j p) (hq : Sz k q) (hjk : j + k ≤ 998) (e : p * q = r) (ep : IsQ p g1 s1 t1) (eq : IsQ q g2 s2 t2) (er : IsQ r g s t) : Q2 30 g1 s1 t1 g2 s2 t2 g s t 0 := fun W => by
  subst e
  have va := qv_of hp (by omega) ep
  have vb := qv_of hq (by omega) eq
  obtain ⟨rfl, rfl, rfl⟩ := ep.parts
  obtain ⟨rfl, rfl, rfl⟩ := eq.parts
  have f1 := hp.fit (show j ≤ 1000 by omega)
  have f2 := hq.fit (show k ≤ 1000 by omega)
  have k1 : capK (j + k) ≤ capK 999 := capK_le (by omega)
  have c1 := Nat.lt_of_lt_of_le (mul_capK hp.1 hq.1) k1
  have c2 := Nat.lt_of_lt_of_le (mul_capK hp.2 hq.2) k1
  rw [← mul_mk] at er
  exact r4_Mul3 _ _ _ _ _ _ _ _ g s t W va vb (r2_mul f1.1 f2.1 (cap999 c1)) (r2_mul f1.2 f2.2 (cap999 c2)) (r4_lowest _ c1 c2 (Nat.mul_pos (den_pos p) (den_pos q)) er)
theorem q2_sub {p q r : Rat} {g g1 g2 : Bool} {s t s1 t1 s2 t2 : ByteArray} {j k : Nat} (hp : Sz j p) (hq : Sz k q) (hjk : j + k + 1 ≤ 998) (e : p - q = r) (ep : IsQ p g1 s1 t1) (eq : IsQ q g2 s2 t2) (er : IsQ r g s t) : Q2 28 g1 s1 t1 g2 s2 t2 g s t 0 := fun W => by
  obtain ⟨g3, s3, t3, e3⟩ := IsQ.get (-q)
  exact r4_Sub3 _ _ _ _ _ _ g3 s3 t3 g s t 0 W (qv_of hp (by omega) ep) (qv_of hq (by omega) eq) (r4_minus eq e3) (q2_add hp hq.neg hjk (by rw [← e, Rat.sub_eq_add_neg]) ep e3 er)
theorem q2_div {p q r : Rat} {g g1 g2 : Bool} {s t s1 t1 s2 t2 : ByteArray} {j k : Nat} (hp : Sz j p) (hq : Sz k q) (h0 : q ≠ 0) (hjk : j + k ≤ 998) (e : p / q = r) (ep : IsQ p g1 s1 t1) (eq : IsQ q g2 s2 t2) (er : IsQ r g s t) : Q2 32 g1 s1 t1 g2 s2 t2 g s t 0 := fun W => by
  have ei : IsQ q⁻¹ g2 t2 s2 := by
    obtain ⟨i1, i2, i3⟩ := inv_parts h0
    obtain ⟨f1, f2, f3⟩ := eq.parts
    unfold IsQ rqV
    rw [i1, i2, i3, f1, f2, f3]
  exact r4_Div4 _ _ _ _ _ _ g s t 0 W (qv_of hp (by omega) ep) (qv_of hq (by omega) eq) (q2_mul hp (hq.inv h0) hjk (by rw [← e, Rat.div_def]) ep ei er) (isQ_num eq h0)
theorem q2_divz {p q : Rat} {g1 g2 : Bool} {s1 t1 s2 t2 : ByteArray} {j : Nat} (hp : Sz j p) (hj : j ≤ 998) (h0 : q = 0) (ep : IsQ p g1 s1 t1) (eq : IsQ q g2 s2 t2) : Q2 32 g1 s1 t1 g2 s2 t2 false ⟨#[]⟩ ⟨#[]⟩ 14 := fun W => by
  subst h0
  have vb := qv_of sz_zero (by omega) eq
  obtain ⟨f1, f2, f3⟩ := eq.parts
  rw [nmQ_zero.2 rfl, natS_zero] at f2
  subst f2
  exact r4_Div3 _ _ _ _ _ W (qv_of hp (by omega) ep) vb
def QC (ga : Bool) (sa ta : ByteArray) (gb : Bool) (sb tb : ByteArray) (z : Int) : Prop := ∀ W, Calls Tryz.prog 24 #[.agg #[.bool ga, .string sa, .string ta], .agg #[.bool gb, .string sb, .string tb]] W fun e w' => e = .returned (.int .i64 z) ∧ Below W.heap.size W w'
theorem q_cmp {p q : Rat} {g1 g2 : Bool} {s1 t1 s2 t2 : ByteArray} {j k : Nat} (hp : Sz j p) (hq : Sz k q) (hj : j ≤ 999) (hk : k ≤ 999) (ep : IsQ p g1 s1 t1) (eq : IsQ q g2 s2 t2) : QC g1 s1 t1 g2 s2 t2 (cmpQ p q) := fun W => by
  have va := qv_of hp hj ep
  have vb := qv_of hq hk eq
  have a1 := Nat.lt_of_lt_of_le hp.1 (capK_le hj)
  have a2 := Nat.lt_of_lt_of_le hp.2 (capK_le hj)
  have b1 := Nat.lt_of_lt_of_le hq.1 (capK_le hk)
  have b2 := Nat.lt_of_lt_of_le hq.2 (capK_le hk)
  obtain ⟨hg1, rfl, rfl⟩ := ep.parts
  obtain ⟨hg2, rfl, rfl⟩ := eq.parts
  cases g1 <;> cases g2
  · rw [← cmpX_q hg1 hg2]
    exact r4_Compare6 _ _ _ _ _ W va vb fun X => r4_compare _ _ _ _ X a1 a2 b1 b2 (den_pos p) (den_pos q)
  · rw [cmpQ_gt (cmpQ_np hg2 hg1)]
    exact r4_Compare4 _ _ _ _ W va vb
  · rw [cmpQ_lt (cmpQ_np hg1 hg2)]
    exact r4_Compare3 _ _ _ _ W va vb
  · have e : cmpX (nmQ q) q.den (nmQ p) p.den = cmpQ p q := by
      rw [← cmpQ_neg_neg p q]
      obtain ⟨x1, x2, x3⟩ := neg_parts p
      obtain ⟨y1, y2, y3⟩ := neg_parts q
      have h := cmpX_q (p := -q) (q := -p) (by rw [y1, hg2]; rfl) (by rw [x1, hg1]; rfl)
      rw [x2, x3, y2, y3] at h
      exact h
    rw [← e]
    exact r4_Compare5 _ _ _ _ _ W va vb fun X => r4_compare _ _ _ _ X b1 b2 a1 a2 (den_pos q) (den_pos p)
theorem q_cmp_bad {ga gb : Bool} {sa ta sb tb : ByteArray} (h : QV ga sa ta false ∨ (QV ga sa ta true ∧ QV gb sb tb false)) : QC ga sa ta gb sb tb 0 := fun W => by
  rcases h with h | ⟨h, h'⟩
  · exact r4_Compare1 _ _ _ _ _ _ W h
  · exact r4_Compare2 _ _ _ _ _ _ W h h'
theorem q_text {q : Rat} {g : Bool} {s t : ByteArray} {k : Nat} (h : Sz k q) (hk : k ≤ 999) (e : IsQ q g s t) (W : World) :
    Calls Tryz.prog 18 #[.agg #[.bool g, .string s, .string t]] W fun e w' => e = .returned (.tuple #[.string (bL (txtQ q)), .int .i64 0]) ∧ Below W.heap.size W w' := by
  have va := qv_of h hk e
  have l1 := size_999 h.1 hk
  have l2 := size_999 h.2 hk
  obtain ⟨hg, hs, ht⟩ := e.parts
  rw [hs] at l1
  rw [ht] at l2
  have es : s = bL (Lib.decDigits (nmQ q)) := hs.symm
  have et : t = bL (Lib.decDigits q.den) := ht.symm
  unfold txtQ txtL
  rw [hg]
  rw [es, bL_size] at l1
  rw [et, bL_size] at l2
  by_cases hd : q.den = 1
  · have ht1 : t = ⟨#[49]⟩ := by rw [← ht, hd, natS_one]
    simp only [if_pos hd, List.append_nil]
    subst ht1
    cases g
    · rw [es] at va ⊢
      exact r4_Text2 _ W va
    · have := fun X => add_bL [45] (Lib.decDigits (nmQ q)) (by simp; omega) X
      rw [es] at va ⊢
      exact r4_Text3 _ _ W va this
  · have f1 : (t.toList == [49]) = false := by rw [← ht, is49]; exact decide_eq_false hd
    simp only [if_neg hd]
    have d1 := fun X => add_bL (Lib.decDigits (nmQ q)) [47] (by simp; omega) X
    have d2 := fun X => add_bL (Lib.decDigits (nmQ q) ++ [47]) (Lib.decDigits q.den) (by simp; omega) X
    have d3 := fun X => add_bL [45] (Lib.decDigits (nmQ q) ++ [47] ++ Lib.decDigits q.den) (by simp; omega) X
    have ea : Lib.decDigits (nmQ q) ++ 47 :: Lib.decDigits q.den = Lib.decDigits (nmQ q) ++ [47] ++ Lib.decDigits q.den := by simp
    rw [ea]
    rw [es, et] at va ⊢
    rw [et] at f1
    cases g
    · exact r4_Text4 _ _ _ _ W va f1 d1 d2
    · exact r4_Text5 _ _ _ _ _ W va f1 d1 d2 d3

end Go.Proofs.YtncocgfgbocnkaaGreatDoor
/- observatoryref04: Parse. -/
namespace Go.Proofs.YtncocgfgbocnkaaGreatDoor
open Go.RowKit

/-- What Parse returns. -/
def PPost (ok : Bool) (g : Bool) (N D : ByteArray) (w : World) (e : Ending) (w' : World) : Prop := (if ok then e = .returned (.tuple #[.agg #[.bool g, .string N, .string D], .int .i64 0]) else e = .returned (.tuple #[.agg #[.bool false, .string ⟨#[]⟩, .string ⟨#[]⟩], .int .i64 5])) ∧ Below w.heap.size w w'
theorem VL.put2 {W : World} {b c : Nat} {g : Bool} {s t : ByteArray} {g2 : Bool} {s2 t2 : ByteArray} (h : VL W [(b, g, s, t), (c, g2, s2, t2)]) (hne : c ≠ b) (u v : ByteArray) : VL ((W.setCell ⟨b, 1, none⟩ (.string u)).setCell ⟨b, 2, none⟩ (.string v)) [(b, g, u, v), (c, g2, s2, t2)] := by
  have r1 : RC W b g s t := h (b, g, s, t) (by simp)
  have r2 : RC W c g2 s2 t2 := h (c, g2, s2, t2) (by simp)
  have k1 := r2.only (((Only2.refl W b none).setCell 1 (.string u)).setCell 2 (.string v)) hne
  have k2 : RC ((W.setCell ⟨b, 1, none⟩ (.string u)).setCell ⟨b, 2, none⟩ (.string v)) b g u v := by
    obtain ⟨c0, c1, c2, f0, f1, f2⟩ := r1
    have ne : ∀ x y : Nat, x ≠ y → (⟨b, x, none⟩ : Addr) ≠ ⟨b, y, none⟩ := fun x y h e => h (by injection e)
    refine ⟨?_, ?_, ?_, ?_, ?_, ?_⟩
    · rw [World.cell?_setCell_other _ _ _ _ (ne _ _ (by omega)), World.cell?_setCell_other _ _ _ _ (ne _ _ (by omega))]; exact c0
    · rw [World.cell?_setCell_other _ _ _ _ (ne _ _ (by omega))]; exact World.cell?_setCell_same _ _ _ c1
    · exact World.cell?_setCell_same _ _ _ ((World.cell?_setCell_other _ _ _ _ (ne _ _ (by omega))).trans c2)
    · simp only [World.frozen?_setCell]; exact f0
    · simp only [World.frozen?_setCell]; exact f1
    · simp only [World.frozen?_setCell]; exact f2
  intro x hx
  simp only [List.mem_cons, List.not_mem_nil, or_false] at hx
  rcases hx with rfl | rfl
  · exact k2
  · exact k1

set_option maxHeartbeats 4000000 in
set_option maxRecDepth 100000 in
theorem r4_parse_a (r : ByteArray) (N D : ByteArray) (b ok : Bool) (w : World) (hs : r.size ≤ 1000) (hr : r.size ≤ 1000)
    (h0 : r.size = 0)
    (hn : (∀ j (hj : j < r.size), r[j] ≠ 47) → N = r ∧ D = ⟨#[49]⟩ ∧ ok = b)
    (hsl : ∀ k (hk : k < r.size), r[k] = 47 → (∀ j (hj : j < r.size), j < k → r[j] ≠ 47) → N = r.extract 0 k ∧ D = r.extract (k + 1) r.size ∧ ok = (b && !(D.toList == [49])))
    (hv : QV false N D b) :
    Calls Tryz.prog 20 #[.string r] w (PPost ok false N D w) := by
  have HN := hide hn
  have HS := hide hsl
  unfold QV at hv
  have HV := hide hv
  have HR := hide hr
  clear hn hsl hv hr
  go_enter Tryz.func20, Tryz.ntmps20
  have HB := hide (bAlloc (bAlloc (Below.refl w.heap.size w) (.cells #[.bool false, .string ⟨#[]⟩, .string ⟨#[]⟩] 24)) (.cells #[.bool false, .string r, .string ⟨#[49]⟩] 24))
  have HL := hide ((((VL.nil w).pushAt (b := w.heap.size) (by simp) false ⟨#[]⟩ ⟨#[]⟩ 24)).pushAt (b := w.heap.size + 1) (by simp) false r ⟨#[49]⟩ 24)
  have g1 : decide ((0 : Int) < (r.size : Int)) = false := decide_eq_false (by omega)
  have hz : ¬ 0 < r.size := by omega
  clear h0 hs
  go_wp2_with fail
  go_loopw [5] (fun x wx => ∃ k : Nat, k ≤ r.size ∧ x = .int .i64 (k : Int) ∧ (∀ j (hj : j < r.size), j < k → r[j] ≠ 47) ∧ VL wx [(w.heap.size + 1, false, r, ⟨#[49]⟩), (w.heap.size, false, ⟨#[]⟩, ⟨#[]⟩)] ∧ Below w.heap.size w wx) (fun x _ => r.size - (intOf x).toNat)
  case atStart => exact ⟨0, Nat.zero_le _, rfl, fun j hj h => by omega, HL.out, HB.out⟩
  clear g1
  case round =>
    obtain ⟨k, hk, rfl, hall, hvl, hbel⟩ := hrel
    have HA := hide hall
    have HL2 := hide hvl
    have HB2 := hide hbel
    have hR := HR.out
    clear hall hvl hbel HL HB
    by_cases hkl : k < r.size
    · exfalso; omega
    · have g1 : decide ((k : Int) < (r.size : Int)) = false := decide_eq_false (by omega)
      obtain ⟨e1, e2, e3⟩ := HN.out (fun j hj => HA.out j hj (by omega))
      subst e1 e2 e3
      obtain ⟨c0, c1, c2⟩ := HL2.out.cells3 (b := w.heap.size + 1) (g := false) (s := N) (t := ⟨#[49]⟩) (by simp)
      clear HS HN hk HA
      cases ok
      all_goals
        go_wp2_with fail
        refine (HV.out _).mono ?_
        rintro e w5 ⟨rfl, hb⟩
        have HL3 := hide (HL2.out.below hb)
        have HB3 := hide (bStep HB2.out hb)
        obtain ⟨c3, c4, c5⟩ := HL3.out.cells3 (b := w.heap.size + 1) (g := false) (s := N) (t := ⟨#[49]⟩) (by simp)
        obtain ⟨z0, z1, z2, y0, y1, y2⟩ := HL3.out.get (b := w.heap.size) (g := false) (s := ⟨#[]⟩) (t := ⟨#[]⟩) (by simp)
        clear hb c0 c1 c2
        go_wp2_with fail
        first
        | (obtain ⟨d0, d1, d2, _, _, _⟩ := (HL3.out.get (b := w.heap.size) (g := false) (s := ⟨#[]⟩) (t := ⟨#[]⟩) (by simp)).set3 false ⟨#[]⟩ ⟨#[]⟩
           exact bodyPost_ret (v := .tuple #[.agg #[.bool false, .string ⟨#[]⟩, .string ⟨#[]⟩], .int .i64 5]) (by simp [results, Tryz.results20, go_sem, d0, d1, d2]) rfl ⟨rfl, bset3 HB3.out (Nat.le_refl _) _ _ _⟩)
        | (obtain ⟨d0, d1, d2, _, _, _⟩ := (HL3.out.get (b := w.heap.size) (g := false) (s := ⟨#[]⟩) (t := ⟨#[]⟩) (by simp)).set3 false N ⟨#[49]⟩
           exact bodyPost_ret (v := .tuple #[.agg #[.bool false, .string N, .string ⟨#[49]⟩], .int .i64 0]) (by simp [results, Tryz.results20, go_sem, d0, d1, d2]) rfl ⟨rfl, bset3 HB3.out (Nat.le_refl _) _ _ _⟩)
set_option maxHeartbeats 4000000 in
set_option maxRecDepth 100000 in
theorem r4_parse_b (r : ByteArray) (N D : ByteArray) (b ok : Bool) (w : World) (hs : r.size ≤ 1000) (hr : r.size ≤ 1000)
    (h0 : 0 < r.size) (h1 : r[0] ≠ 45)
    (hn : (∀ j (hj : j < r.size), r[j] ≠ 47) → N = r ∧ D = ⟨#[49]⟩ ∧ ok = b)
    (hsl : ∀ k (hk : k < r.size), r[k] = 47 → (∀ j (hj : j < r.size), j < k → r[j] ≠ 47) → N = r.extract 0 k ∧ D = r.extract (k + 1) r.size ∧ ok = (b && !(D.toList == [49])))
    (hv : QV false N D b) :
    Calls Tryz.prog 20 #[.string r] w (PPost ok false N D w) := by
  have HN := hide hn
  have HS := hide hsl
  unfold QV at hv
  have HV := hide hv
  have HR := hide hr
  clear hn hsl hv hr
  go_enter Tryz.func20, Tryz.ntmps20
  have HB := hide (bAlloc (bAlloc (Below.refl w.heap.size w) (.cells #[.bool false, .string ⟨#[]⟩, .string ⟨#[]⟩] 24)) (.cells #[.bool false, .string r, .string ⟨#[49]⟩] 24))
  have HL := hide ((((VL.nil w).pushAt (b := w.heap.size) (by simp) false ⟨#[]⟩ ⟨#[]⟩ 24)).pushAt (b := w.heap.size + 1) (by simp) false r ⟨#[49]⟩ 24)
  have g1 : decide ((0 : Int) < (r.size : Int)) = true := decide_eq_true (by omega)
  have g0 : (0 : Int) < (r.size : Int) := by omega
  have g2 : ((r[0].toNat : Int) == 45) = false := by
    have : r[0].toNat ≠ 45 := fun e => h1 (UInt8.toNat_inj.1 e)
    simp; omega
  clear h1 hs
  go_wp2_with fail
  go_loopw [5] (fun x wx => ∃ k : Nat, k ≤ r.size ∧ x = .int .i64 (k : Int) ∧ (∀ j (hj : j < r.size), j < k → r[j] ≠ 47) ∧ VL wx [(w.heap.size + 1, false, r, ⟨#[49]⟩), (w.heap.size, false, ⟨#[]⟩, ⟨#[]⟩)] ∧ Below w.heap.size w wx) (fun x _ => r.size - (intOf x).toNat)
  case atStart => exact ⟨0, Nat.zero_le _, rfl, fun j hj h => by omega, HL.out, HB.out⟩
  clear g1 g0 g2
  case round =>
    obtain ⟨k, hk, rfl, hall, hvl, hbel⟩ := hrel
    have HA := hide hall
    have HL2 := hide hvl
    have HB2 := hide hbel
    have hR := HR.out
    clear hall hvl hbel HL HB
    by_cases hkl : k < r.size
    · have g1 : decide ((k : Int) < (r.size : Int)) = true := decide_eq_true (by omega)
      by_cases hd : r[k] = 47
      · have g2 : ((r[k].toNat : Int) == 47) = true := by rw [hd]; rfl
        obtain ⟨e1, e2, e3⟩ := HS.out k hkl hd HA.out
        have q1 : IntKind.i64.wrap ((k : Int) + 1) = (k : Int) + 1 := IntWalk.i64_in _ (by omega)
        have b1 : (0 : Int) ≤ (k : Int) := by omega
        have b2 : (k : Int) + 1 ≤ (r.size : Int) := by omega
        have b3 : (k : Int) ≤ (r.size : Int) := by omega
        obtain ⟨c0, c1, c2, f0, f1, f2⟩ := HL2.out.get (b := w.heap.size + 1) (g := false) (s := r) (t := ⟨#[49]⟩) (by simp)
        obtain ⟨z0, z1, z2, y0, y1, y2⟩ := HL2.out.get (b := w.heap.size) (g := false) (s := ⟨#[]⟩) (t := ⟨#[]⟩) (by simp)
        clear HS HN hd
        have HE1 := hide e1
        have HE2 := hide e2
        have HL4 := hide (HL2.out.put2 (by omega) N D)
        have HB4 : Hid (Below w.heap.size w ((wr.setCell ⟨w.heap.size + 1, 1, none⟩ (.string N)).setCell ⟨w.heap.size + 1, 2, none⟩ (.string D))) := (HB2.out.setCell (p := ⟨w.heap.size + 1, 1, none⟩) (by show _ ≤ w.heap.size + 1; omega) _).setCell (p := ⟨w.heap.size + 1, 2, none⟩) (by show _ ≤ w.heap.size + 1; omega) _
        rw [e1, e2] at HL4 HB4
        rw [e2] at e3
        obtain ⟨d, hd⟩ : ∃ d, ((r.extract (k + 1) r.size).toList == [49]) = d := ⟨_, rfl⟩
        rw [hd] at e3
        subst e3
        rw [HE1.out, HE2.out] at HV ⊢
        clear e1 e2
        obtain ⟨c6, c7, c8⟩ := HL4.out.cells3 (b := w.heap.size + 1) (g := false) (s := r.extract 0 k) (t := r.extract (k + 1) r.size) (by simp)
        obtain ⟨x0, x1, x2, w0, w1, w2⟩ := HL4.out.get (b := w.heap.size) (g := false) (s := ⟨#[]⟩) (t := ⟨#[]⟩) (by simp)
        cases d
        · go_wp2_with fail
          cases b
          all_goals
            refine (HV.out _).mono ?_
            rintro e w5 ⟨rfl, hb⟩
            have HL5 := hide (HL4.out.below hb)
            have HB5 := hide (bStep HB4.out hb)
            clear c0 c1 c2 f0 f1 f2 z0 z1 z2 y0 y1 y2 c6 c7 c8 x0 x1 x2 w0 w1 w2 hb
            obtain ⟨c3, c4, c5⟩ := HL5.out.cells3 (b := w.heap.size + 1) (g := false) (s := r.extract 0 k) (t := r.extract (k + 1) r.size) (by simp)
            obtain ⟨z0, z1, z2, y0, y1, y2⟩ := HL5.out.get (b := w.heap.size) (g := false) (s := ⟨#[]⟩) (t := ⟨#[]⟩) (by simp)
            go_wp2_with fail
            first
            | (obtain ⟨d0, d1, d2, _, _, _⟩ := (HL5.out.get (b := w.heap.size) (g := false) (s := ⟨#[]⟩) (t := ⟨#[]⟩) (by simp)).set3 false ⟨#[]⟩ ⟨#[]⟩
               exact bodyPost_ret (v := .tuple #[.agg #[.bool false, .string ⟨#[]⟩, .string ⟨#[]⟩], .int .i64 5]) (by simp [results, Tryz.results20, go_sem, d0, d1, d2]) rfl ⟨by first | rfl | (rw [HE1.out, HE2.out]; rfl), bset3 HB5.out (Nat.le_refl _) _ _ _⟩)
            | (obtain ⟨d0, d1, d2, _, _, _⟩ := (HL5.out.get (b := w.heap.size) (g := false) (s := ⟨#[]⟩) (t := ⟨#[]⟩) (by simp)).set3 false (r.extract 0 k) (r.extract (k + 1) r.size)
               exact bodyPost_ret (v := .tuple #[.agg #[.bool false, .string (r.extract 0 k), .string (r.extract (k + 1) r.size)], .int .i64 0]) (by simp [results, Tryz.results20, go_sem, d0, d1, d2]) rfl ⟨by first | rfl | (rw [HE1.out, HE2.out]; rfl), bset3 HB5.out (Nat.le_refl _) _ _ _⟩)
        · rw [Bool.not_true, Bool.and_false]
          go_wp2_with fail
          obtain ⟨d0, d1, d2, _, _, _⟩ := (HL4.out.get (b := w.heap.size) (g := false) (s := ⟨#[]⟩) (t := ⟨#[]⟩) (by simp)).set3 false ⟨#[]⟩ ⟨#[]⟩
          exact bodyPost_ret (v := .tuple #[.agg #[.bool false, .string ⟨#[]⟩, .string ⟨#[]⟩], .int .i64 5]) (by simp [results, Tryz.results20, go_sem, d0, d1, d2]) rfl ⟨by first | rfl | (rw [HE1.out, HE2.out]; rfl), bset3 HB4.out (Nat.le_refl _) _ _ _⟩
      · have g2 : ((r[k].toNat : Int) == 47) = false := by
          have : r[k].toNat ≠ 47 := fun e => hd (UInt8.toNat_inj.1 e)
          simp; omega
        have HD := hide hd
        clear hd
        go_wp2_with fail
        go_roundw
        case rel => exact ⟨k + 1, by omega, by go_num, fun j hj hlt => by
          by_cases e : j = k
          · subst e; exact HD.out
          · exact HA.out j hj (by omega), HL2.out, HB2.out⟩
        case measure => (simp [intOf]; try omega)
    · have g1 : decide ((k : Int) < (r.size : Int)) = false := decide_eq_false (by omega)
      obtain ⟨e1, e2, e3⟩ := HN.out (fun j hj => HA.out j hj (by omega))
      subst e1 e2 e3
      obtain ⟨c0, c1, c2⟩ := HL2.out.cells3 (b := w.heap.size + 1) (g := false) (s := N) (t := ⟨#[49]⟩) (by simp)
      clear HS HN hk HA
      cases ok
      all_goals
        go_wp2_with fail
        refine (HV.out _).mono ?_
        rintro e w5 ⟨rfl, hb⟩
        have HL3 := hide (HL2.out.below hb)
        have HB3 := hide (bStep HB2.out hb)
        obtain ⟨c3, c4, c5⟩ := HL3.out.cells3 (b := w.heap.size + 1) (g := false) (s := N) (t := ⟨#[49]⟩) (by simp)
        obtain ⟨z0, z1, z2, y0, y1, y2⟩ := HL3.out.get (b := w.heap.size) (g := false) (s := ⟨#[]⟩) (t := ⟨#[]⟩) (by simp)
        clear hb c0 c1 c2
        go_wp2_with fail
        first
        | (obtain ⟨d0, d1, d2, _, _, _⟩ := (HL3.out.get (b := w.heap.size) (g := false) (s := ⟨#[]⟩) (t := ⟨#[]⟩) (by simp)).set3 false ⟨#[]⟩ ⟨#[]⟩
           exact bodyPost_ret (v := .tuple #[.agg #[.bool false, .string ⟨#[]⟩, .string ⟨#[]⟩], .int .i64 5]) (by simp [results, Tryz.results20, go_sem, d0, d1, d2]) rfl ⟨rfl, bset3 HB3.out (Nat.le_refl _) _ _ _⟩)
        | (obtain ⟨d0, d1, d2, _, _, _⟩ := (HL3.out.get (b := w.heap.size) (g := false) (s := ⟨#[]⟩) (t := ⟨#[]⟩) (by simp)).set3 false N ⟨#[49]⟩
           exact bodyPost_ret (v := .tuple #[.agg #[.bool false, .string N, .string ⟨#[49]⟩], .int .i64 0]) (by simp [results, Tryz.results20, go_sem, d0, d1, d2]) rfl ⟨rfl, bset3 HB3.out (Nat.le_refl _) _ _ _⟩)
set_option maxHeartbeats 4000000 in
set_option maxRecDepth 100000 in
theorem r4_parse_c (s r : ByteArray) (N D : ByteArray) (b ok : Bool) (w : World) (hs : s.size ≤ 1000) (hr : r.size ≤ 1000)
    (h0 : 0 < s.size) (h1 : s[0] = 45) (h2 : s.extract 1 s.size = r)
    (hn : (∀ j (hj : j < r.size), r[j] ≠ 47) → N = r ∧ D = ⟨#[49]⟩ ∧ ok = b)
    (hsl : ∀ k (hk : k < r.size), r[k] = 47 → (∀ j (hj : j < r.size), j < k → r[j] ≠ 47) → N = r.extract 0 k ∧ D = r.extract (k + 1) r.size ∧ ok = (b && !(D.toList == [49])))
    (hv : QV true N D b) :
    Calls Tryz.prog 20 #[.string s] w (PPost ok true N D w) := by
  have HN := hide hn
  have HS := hide hsl
  unfold QV at hv
  have HV := hide hv
  have HR := hide hr
  clear hn hsl hv hr
  go_enter Tryz.func20, Tryz.ntmps20
  have HB := hide (bAlloc (bAlloc (Below.refl w.heap.size w) (.cells #[.bool false, .string ⟨#[]⟩, .string ⟨#[]⟩] 24)) (.cells #[.bool true, .string r, .string ⟨#[49]⟩] 24))
  have HL := hide ((((VL.nil w).pushAt (b := w.heap.size) (by simp) false ⟨#[]⟩ ⟨#[]⟩ 24)).pushAt (b := w.heap.size + 1) (by simp) true r ⟨#[49]⟩ 24)
  have g1 : decide ((0 : Int) < (s.size : Int)) = true := decide_eq_true (by omega)
  have g0 : (0 : Int) < (s.size : Int) := by omega
  have g3 : (1 : Int) ≤ (s.size : Int) := by omega
  have g2 : ((s[0].toNat : Int) == 45) = true := by rw [h1]; rfl
  have HE := hide h2
  clear h1 h2 hs
  go_wp2_with fail
  rw [HE.out]
  go_loopw [5] (fun x wx => ∃ k : Nat, k ≤ r.size ∧ x = .int .i64 (k : Int) ∧ (∀ j (hj : j < r.size), j < k → r[j] ≠ 47) ∧ VL wx [(w.heap.size + 1, true, r, ⟨#[49]⟩), (w.heap.size, false, ⟨#[]⟩, ⟨#[]⟩)] ∧ Below w.heap.size w wx) (fun x _ => r.size - (intOf x).toNat)
  case atStart => exact ⟨0, Nat.zero_le _, rfl, fun j hj h => by omega, HL.out, HB.out⟩
  clear g1 g0 g2 g3
  case round =>
    obtain ⟨k, hk, rfl, hall, hvl, hbel⟩ := hrel
    have HA := hide hall
    have HL2 := hide hvl
    have HB2 := hide hbel
    have hR := HR.out
    clear hall hvl hbel HL HB
    by_cases hkl : k < r.size
    · have g1 : decide ((k : Int) < (r.size : Int)) = true := decide_eq_true (by omega)
      by_cases hd : r[k] = 47
      · have g2 : ((r[k].toNat : Int) == 47) = true := by rw [hd]; rfl
        obtain ⟨e1, e2, e3⟩ := HS.out k hkl hd HA.out
        have q1 : IntKind.i64.wrap ((k : Int) + 1) = (k : Int) + 1 := IntWalk.i64_in _ (by omega)
        have b1 : (0 : Int) ≤ (k : Int) := by omega
        have b2 : (k : Int) + 1 ≤ (r.size : Int) := by omega
        have b3 : (k : Int) ≤ (r.size : Int) := by omega
        obtain ⟨c0, c1, c2, f0, f1, f2⟩ := HL2.out.get (b := w.heap.size + 1) (g := true) (s := r) (t := ⟨#[49]⟩) (by simp)
        obtain ⟨z0, z1, z2, y0, y1, y2⟩ := HL2.out.get (b := w.heap.size) (g := false) (s := ⟨#[]⟩) (t := ⟨#[]⟩) (by simp)
        clear HS HN hd
        have HE1 := hide e1
        have HE2 := hide e2
        have HL4 := hide (HL2.out.put2 (by omega) N D)
        have HB4 : Hid (Below w.heap.size w ((wr.setCell ⟨w.heap.size + 1, 1, none⟩ (.string N)).setCell ⟨w.heap.size + 1, 2, none⟩ (.string D))) := (HB2.out.setCell (p := ⟨w.heap.size + 1, 1, none⟩) (by show _ ≤ w.heap.size + 1; omega) _).setCell (p := ⟨w.heap.size + 1, 2, none⟩) (by show _ ≤ w.heap.size + 1; omega) _
        rw [e1, e2] at HL4 HB4
        rw [e2] at e3
        obtain ⟨d, hd⟩ : ∃ d, ((r.extract (k + 1) r.size).toList == [49]) = d := ⟨_, rfl⟩
        rw [hd] at e3
        subst e3
        rw [HE1.out, HE2.out] at HV ⊢
        clear e1 e2
        obtain ⟨c6, c7, c8⟩ := HL4.out.cells3 (b := w.heap.size + 1) (g := true) (s := r.extract 0 k) (t := r.extract (k + 1) r.size) (by simp)
        obtain ⟨x0, x1, x2, w0, w1, w2⟩ := HL4.out.get (b := w.heap.size) (g := false) (s := ⟨#[]⟩) (t := ⟨#[]⟩) (by simp)
        cases d
        · go_wp2_with fail
          cases b
          all_goals
            refine (HV.out _).mono ?_
            rintro e w5 ⟨rfl, hb⟩
            have HL5 := hide (HL4.out.below hb)
            have HB5 := hide (bStep HB4.out hb)
            clear c0 c1 c2 f0 f1 f2 z0 z1 z2 y0 y1 y2 c6 c7 c8 x0 x1 x2 w0 w1 w2 hb
            obtain ⟨c3, c4, c5⟩ := HL5.out.cells3 (b := w.heap.size + 1) (g := true) (s := r.extract 0 k) (t := r.extract (k + 1) r.size) (by simp)
            obtain ⟨z0, z1, z2, y0, y1, y2⟩ := HL5.out.get (b := w.heap.size) (g := false) (s := ⟨#[]⟩) (t := ⟨#[]⟩) (by simp)
            go_wp2_with fail
            first
            | (obtain ⟨d0, d1, d2, _, _, _⟩ := (HL5.out.get (b := w.heap.size) (g := false) (s := ⟨#[]⟩) (t := ⟨#[]⟩) (by simp)).set3 false ⟨#[]⟩ ⟨#[]⟩
               exact bodyPost_ret (v := .tuple #[.agg #[.bool false, .string ⟨#[]⟩, .string ⟨#[]⟩], .int .i64 5]) (by simp [results, Tryz.results20, go_sem, d0, d1, d2]) rfl ⟨by first | rfl | (rw [HE1.out, HE2.out]; rfl), bset3 HB5.out (Nat.le_refl _) _ _ _⟩)
            | (obtain ⟨d0, d1, d2, _, _, _⟩ := (HL5.out.get (b := w.heap.size) (g := false) (s := ⟨#[]⟩) (t := ⟨#[]⟩) (by simp)).set3 true (r.extract 0 k) (r.extract (k + 1) r.size)
               exact bodyPost_ret (v := .tuple #[.agg #[.bool true, .string (r.extract 0 k), .string (r.extract (k + 1) r.size)], .int .i64 0]) (by simp [results, Tryz.results20, go_sem, d0, d1, d2]) rfl ⟨by first | rfl | (rw [HE1.out, HE2.out]; rfl), bset3 HB5.out (Nat.le_refl _) _ _ _⟩)
        · rw [Bool.not_true, Bool.and_false]
          go_wp2_with fail
          obtain ⟨d0, d1, d2, _, _, _⟩ := (HL4.out.get (b := w.heap.size) (g := false) (s := ⟨#[]⟩) (t := ⟨#[]⟩) (by simp)).set3 false ⟨#[]⟩ ⟨#[]⟩
          exact bodyPost_ret (v := .tuple #[.agg #[.bool false, .string ⟨#[]⟩, .string ⟨#[]⟩], .int .i64 5]) (by simp [results, Tryz.results20, go_sem, d0, d1, d2]) rfl ⟨by first | rfl | (rw [HE1.out, HE2.out]; rfl), bset3 HB4.out (Nat.le_refl _) _ _ _⟩
      · have g2 : ((r[k].toNat : Int) == 47) = false := by
          have : r[k].toNat ≠ 47 := fun e => hd (UInt8.toNat_inj.1 e)
          simp; omega
        have HD := hide hd
        clear hd
        go_wp2_with fail
        go_roundw
        case rel => exact ⟨k + 1, by omega, by go_num, fun j hj hlt => by
          by_cases e : j = k
          · subst e; exact HD.out
          · exact HA.out j hj (by omega), HL2.out, HB2.out⟩
        case measure => (simp [intOf]; try omega)
    · have g1 : decide ((k : Int) < (r.size : Int)) = false := decide_eq_false (by omega)
      obtain ⟨e1, e2, e3⟩ := HN.out (fun j hj => HA.out j hj (by omega))
      subst e1 e2 e3
      obtain ⟨c0, c1, c2⟩ := HL2.out.cells3 (b := w.heap.size + 1) (g := true) (s := N) (t := ⟨#[49]⟩) (by simp)
      clear HS HN hk HA
      cases ok
      all_goals
        go_wp2_with fail
        refine (HV.out _).mono ?_
        rintro e w5 ⟨rfl, hb⟩
        have HL3 := hide (HL2.out.below hb)
        have HB3 := hide (bStep HB2.out hb)
        obtain ⟨c3, c4, c5⟩ := HL3.out.cells3 (b := w.heap.size + 1) (g := true) (s := N) (t := ⟨#[49]⟩) (by simp)
        obtain ⟨z0, z1, z2, y0, y1, y2⟩ := HL3.out.get (b := w.heap.size) (g := false) (s := ⟨#[]⟩) (t := ⟨#[]⟩) (by simp)
        clear hb c0 c1 c2
        go_wp2_with fail
        first
        | (obtain ⟨d0, d1, d2, _, _, _⟩ := (HL3.out.get (b := w.heap.size) (g := false) (s := ⟨#[]⟩) (t := ⟨#[]⟩) (by simp)).set3 false ⟨#[]⟩ ⟨#[]⟩
           exact bodyPost_ret (v := .tuple #[.agg #[.bool false, .string ⟨#[]⟩, .string ⟨#[]⟩], .int .i64 5]) (by simp [results, Tryz.results20, go_sem, d0, d1, d2]) rfl ⟨rfl, bset3 HB3.out (Nat.le_refl _) _ _ _⟩)
        | (obtain ⟨d0, d1, d2, _, _, _⟩ := (HL3.out.get (b := w.heap.size) (g := false) (s := ⟨#[]⟩) (t := ⟨#[]⟩) (by simp)).set3 true N ⟨#[49]⟩
           exact bodyPost_ret (v := .tuple #[.agg #[.bool true, .string N, .string ⟨#[49]⟩], .int .i64 0]) (by simp [results, Tryz.results20, go_sem, d0, d1, d2]) rfl ⟨rfl, bset3 HB3.out (Nat.le_refl _) _ _ _⟩)
end Go.Proofs.YtncocgfgbocnkaaGreatDoor
/- rational and its reference implementation agree, by letters. -/
namespace Go.Proofs.YtncocgfgbocnkaaGreatDoor
open Go.RowKit

def X2 (F : FuncId) (ga : Bool) (sa ta : ByteArray) (gb : Bool) (sb tb : ByteArray) (g : Bool) (s t : ByteArray) (k : Int) : Prop := ∀ W, LawW W → Calls Tryz.prog F #[.agg #[.bool ga, .string sa, .string ta], .agg #[.bool gb, .string sb, .string tb]] W fun e w' => e = .returned (.tuple #[.agg #[.bool g, .string s, .string t], .int .i64 k]) ∧ Below W.heap.size W w'
theorem X2.of (F : FuncId) {ga : Bool} {sa ta : ByteArray} {gb : Bool} {sb tb : ByteArray} {g : Bool} {s t : ByteArray} {k : Int} (h : Q2 F ga sa ta gb sb tb g s t k) : X2 F ga sa ta gb sb tb g s t k := fun W _ => h W
section
variable (ga : Bool) (sa ta : ByteArray) (gb : Bool) (sb tb : ByteArray)

theorem ag_Add (l1 : sa.size ≤ 60) (l2 : ta.size ≤ 60) (l3 : sb.size ≤ 60) (l4 : tb.size ≤ 60) : ∃ g s t k, X2 25 ga sa ta gb sb tb g s t k ∧ X2 26 ga sa ta gb sb tb g s t k := by
  have m1 : sa.size ≤ maxLen := by unfold maxLen; omega
  have m2 : ta.size ≤ maxLen := by unfold maxLen; omega
  have m3 : sb.size ≤ maxLen := by unfold maxLen; omega
  have m4 : tb.size ≤ maxLen := by unfold maxLen; omega
  have va' := r4_valid ga sa ta (by omega) (by omega)
  have vb' := r4_valid gb sb tb (by omega) (by omega)
  rcases Bool.eq_false_or_eq_true (vldR ga sa ta) with va | va
  · rw [va] at va'
    rcases Bool.eq_false_or_eq_true (vldR gb sb tb) with vb | vb
    · obtain ⟨p, ep, hp⟩ := few_q (k := 60) (by omega) l1 l2 va
      obtain ⟨q, eq, hq⟩ := few_q (k := 60) (by omega) l3 l4 vb
      obtain ⟨g, s, t, e⟩ := IsQ.get (p + q)
      exact ⟨g, s, t, 0, fun W hW => add_okq hp hq (by omega) rfl ep eq e W hW, X2.of _ (q2_add hp hq (by omega) rfl ep eq e)⟩
    · rw [vb] at vb'
      exact ⟨_, _, _, _, fun W hW => rat_Add_bad2 ga gb sa ta sb tb W m1 m2 m3 m4 hW va vb, X2.of _ fun W => r4_Add2 _ _ _ _ _ _ W va' vb'⟩
  · rw [va] at va'
    exact ⟨_, _, _, _, fun W hW => rat_Add_bad1 ga gb sa ta sb tb W m1 m2 hW va, X2.of _ fun W => r4_Add1 _ _ _ _ _ _ W va'⟩
theorem ag_Mul (l1 : sa.size ≤ 60) (l2 : ta.size ≤ 60) (l3 : sb.size ≤ 60) (l4 : tb.size ≤ 60) : ∃ g s t k, X2 29 ga sa ta gb sb tb g s t k ∧ X2 30 ga sa ta gb sb tb g s t k := by
  have m1 : sa.size ≤ maxLen := by unfold maxLen; omega
  have m2 : ta.size ≤ maxLen := by unfold maxLen; omega
  have m3 : sb.size ≤ maxLen := by unfold maxLen; omega
  have m4 : tb.size ≤ maxLen := by unfold maxLen; omega
  have va' := r4_valid ga sa ta (by omega) (by omega)
  have vb' := r4_valid gb sb tb (by omega) (by omega)
  rcases Bool.eq_false_or_eq_true (vldR ga sa ta) with va | va
  · rw [va] at va'
    rcases Bool.eq_false_or_eq_true (vldR gb sb tb) with vb | vb
    · obtain ⟨p, ep, hp⟩ := few_q (k := 60) (by omega) l1 l2 va
      obtain ⟨q, eq, hq⟩ := few_q (k := 60) (by omega) l3 l4 vb
      obtain ⟨g, s, t, e⟩ := IsQ.get (p * q)
      exact ⟨g, s, t, 0, fun W hW => mul_okq hp hq (by omega) rfl ep eq e W hW, X2.of _ (q2_mul hp hq (by omega) rfl ep eq e)⟩
    · rw [vb] at vb'
      exact ⟨_, _, _, _, fun W hW => rat_Mul_bad2 ga gb sa ta sb tb W m1 m2 m3 m4 hW va vb, X2.of _ fun W => r4_Mul2 _ _ _ _ _ _ W va' vb'⟩
  · rw [va] at va'
    exact ⟨_, _, _, _, fun W hW => rat_Mul_bad1 ga gb sa ta sb tb W m1 m2 hW va, X2.of _ fun W => r4_Mul1 _ _ _ _ _ _ W va'⟩
theorem ag_Sub (l1 : sa.size ≤ 60) (l2 : ta.size ≤ 60) (l3 : sb.size ≤ 60) (l4 : tb.size ≤ 60) : ∃ g s t k, X2 27 ga sa ta gb sb tb g s t k ∧ X2 28 ga sa ta gb sb tb g s t k := by
  have m1 : sa.size ≤ maxLen := by unfold maxLen; omega
  have m2 : ta.size ≤ maxLen := by unfold maxLen; omega
  have m3 : sb.size ≤ maxLen := by unfold maxLen; omega
  have m4 : tb.size ≤ maxLen := by unfold maxLen; omega
  have va' := r4_valid ga sa ta (by omega) (by omega)
  have vb' := r4_valid gb sb tb (by omega) (by omega)
  rcases Bool.eq_false_or_eq_true (vldR ga sa ta) with va | va
  · rw [va] at va'
    rcases Bool.eq_false_or_eq_true (vldR gb sb tb) with vb | vb
    · obtain ⟨p, ep, hp⟩ := few_q (k := 60) (by omega) l1 l2 va
      obtain ⟨q, eq, hq⟩ := few_q (k := 60) (by omega) l3 l4 vb
      obtain ⟨g, s, t, e⟩ := IsQ.get (p - q)
      exact ⟨g, s, t, 0, fun W hW => sub_okq hp hq (by omega) rfl ep eq e W hW, X2.of _ (q2_sub hp hq (by omega) rfl ep eq e)⟩
    · rw [vb] at vb'
      exact ⟨_, _, _, _, fun W hW => rat_Sub_bad ga gb sa ta sb tb W m3 m4 hW vb, X2.of _ fun W => r4_Sub2 _ _ _ _ _ _ W va' vb'⟩
  · rw [va] at va'
    refine ⟨false, ⟨#[]⟩, ⟨#[]⟩, 1, ?_, X2.of _ fun W => r4_Sub1 _ _ _ _ _ _ W va'⟩
    rcases Bool.eq_false_or_eq_true (vldR gb sb tb) with vb | vb
    · obtain ⟨q, eq, hq⟩ := few_q (k := 60) (by omega) l3 l4 vb
      obtain ⟨g3, s3, t3, e3⟩ := IsQ.get (-q)
      refine fun W hW => rat_Sub_any ga gb sa ta sb tb g3 s3 t3 false ⟨#[]⟩ ⟨#[]⟩ 1 W hW (hide fun X hX => valid_okq hq (by omega) eq X hX) (hide fun X => ?_) (hide fun X hX => rat_Add_bad1 ga g3 sa ta s3 t3 X m1 m2 hX va)
      have h := rat_minus q X
      rw [eq, e3] at h
      exact h
    · exact fun W hW => rat_Sub_bad ga gb sa ta sb tb W m3 m4 hW vb
theorem ag_Div (l1 : sa.size ≤ 60) (l2 : ta.size ≤ 60) (l3 : sb.size ≤ 60) (l4 : tb.size ≤ 60) : ∃ g s t k, X2 31 ga sa ta gb sb tb g s t k ∧ X2 32 ga sa ta gb sb tb g s t k := by
  have m1 : sa.size ≤ maxLen := by unfold maxLen; omega
  have m2 : ta.size ≤ maxLen := by unfold maxLen; omega
  have m3 : sb.size ≤ maxLen := by unfold maxLen; omega
  have m4 : tb.size ≤ maxLen := by unfold maxLen; omega
  have va' := r4_valid ga sa ta (by omega) (by omega)
  have vb' := r4_valid gb sb tb (by omega) (by omega)
  rcases Bool.eq_false_or_eq_true (vldR ga sa ta) with va | va
  · rw [va] at va'
    rcases Bool.eq_false_or_eq_true (vldR gb sb tb) with vb | vb
    · obtain ⟨p, ep, hp⟩ := few_q (k := 60) (by omega) l1 l2 va
      obtain ⟨q, eq, hq⟩ := few_q (k := 60) (by omega) l3 l4 vb
      by_cases h0 : q = 0
      · exact ⟨_, _, _, _, fun W hW => div_zeroq hp (by omega) h0 ep eq W hW, X2.of _ (q2_divz hp (by omega) h0 ep eq)⟩
      · obtain ⟨g, s, t, e⟩ := IsQ.get (p / q)
        exact ⟨g, s, t, 0, fun W hW => div_okq hp hq h0 (by omega) rfl ep eq e W hW, X2.of _ (q2_div hp hq h0 (by omega) rfl ep eq e)⟩
    · rw [vb] at vb'
      exact ⟨_, _, _, _, fun W hW => rat_Div_bad2 ga gb sa ta sb tb W m1 m2 m3 m4 hW va vb, X2.of _ fun W => r4_Div2 _ _ _ _ _ _ W va' vb'⟩
  · rw [va] at va'
    exact ⟨_, _, _, _, fun W hW => rat_Div_bad1 ga gb sa ta sb tb W m1 m2 hW va, X2.of _ fun W => r4_Div1 _ _ _ _ _ _ W va'⟩
theorem ag_Compare (l1 : sa.size ≤ 60) (l2 : ta.size ≤ 60) (l3 : sb.size ≤ 60) (l4 : tb.size ≤ 60) : ∃ z : Int, (∀ W, LawW W → Calls Tryz.prog 23 #[.agg #[.bool ga, .string sa, .string ta], .agg #[.bool gb, .string sb, .string tb]] W fun e w' => e = .returned (.int .i64 z) ∧ Below W.heap.size W w') ∧ (∀ W, LawW W → Calls Tryz.prog 24 #[.agg #[.bool ga, .string sa, .string ta], .agg #[.bool gb, .string sb, .string tb]] W fun e w' => e = .returned (.int .i64 z) ∧ Below W.heap.size W w') := by
  have m1 : sa.size ≤ maxLen := by unfold maxLen; omega
  have m2 : ta.size ≤ maxLen := by unfold maxLen; omega
  have m3 : sb.size ≤ maxLen := by unfold maxLen; omega
  have m4 : tb.size ≤ maxLen := by unfold maxLen; omega
  have va' := r4_valid ga sa ta (by omega) (by omega)
  have vb' := r4_valid gb sb tb (by omega) (by omega)
  rcases Bool.eq_false_or_eq_true (vldR ga sa ta) with va | va
  · rw [va] at va'
    rcases Bool.eq_false_or_eq_true (vldR gb sb tb) with vb | vb
    · obtain ⟨p, ep, hp⟩ := few_q (k := 60) (by omega) l1 l2 va
      obtain ⟨q, eq, hq⟩ := few_q (k := 60) (by omega) l3 l4 vb
      exact ⟨_, fun W hW => cmp_okq hp hq (by omega) (by omega) ep eq W hW, fun W _ => q_cmp hp hq (by omega) (by omega) ep eq W⟩
    · rw [vb] at vb'
      exact ⟨0, fun W hW => rat_Compare_bad ga gb sa ta sb tb W m1 m2 m3 m4 hW (.inr vb), fun W _ => q_cmp_bad (.inr ⟨va', vb'⟩) W⟩
  · rw [va] at va'
    exact ⟨0, fun W hW => rat_Compare_bad ga gb sa ta sb tb W m1 m2 m3 m4 hW (.inl va), fun W _ => q_cmp_bad (.inl va') W⟩
theorem ag_Valid (l1 : sa.size ≤ 60) (l2 : ta.size ≤ 60) : ∃ z : Bool, (∀ W, LawW W → Calls Tryz.prog 21 #[.agg #[.bool ga, .string sa, .string ta]] W fun e w' => e = .returned (.bool z) ∧ Below W.heap.size W w') ∧ (∀ W, LawW W → Calls Tryz.prog 22 #[.agg #[.bool ga, .string sa, .string ta]] W fun e w' => e = .returned (.bool z) ∧ Below W.heap.size W w') := by
  exact ⟨vldR ga sa ta, fun W hW => rat_valid ga sa ta W (by unfold maxLen; omega) (by unfold maxLen; omega) hW, fun W _ => r4_valid ga sa ta (by omega) (by omega) W⟩
theorem ag_Text (l1 : sa.size ≤ 60) (l2 : ta.size ≤ 60) : ∃ (u : ByteArray) (z : Int), (∀ W, LawW W → Calls Tryz.prog 17 #[.agg #[.bool ga, .string sa, .string ta]] W fun e w' => e = .returned (.tuple #[.string u, .int .i64 z]) ∧ Below W.heap.size W w') ∧ (∀ W, LawW W → Calls Tryz.prog 18 #[.agg #[.bool ga, .string sa, .string ta]] W fun e w' => e = .returned (.tuple #[.string u, .int .i64 z]) ∧ Below W.heap.size W w') := by
  rcases Bool.eq_false_or_eq_true (vldR ga sa ta) with va | va
  · obtain ⟨p, ep, hp⟩ := few_q (k := 60) (by omega) l1 l2 va
    refine ⟨bL (txtQ p), 0, fun W hW => ?_, fun W _ => q_text hp (by omega) ep W⟩
    have h := rat_Text_q p W (hp.fit (by omega)) hW
    rw [ep] at h
    exact h
  · have va' := r4_valid ga sa ta (by omega) (by omega)
    rw [va] at va'
    exact ⟨_, _, fun W hW => rat_Text_bad ga sa ta W (by unfold maxLen; omega) (by unfold maxLen; omega) va hW, fun W _ => r4_Text1 _ _ _ W va'⟩
theorem ag_Make (l1 : sa.size ≤ 60) (l2 : ta.size ≤ 60) : ∃ g s t k, (∀ W, LawW W → Calls Tryz.prog 15 #[.bool ga, .string sa, .string ta] W fun e w' => e = .returned (.tuple #[.agg #[.bool g, .string s, .string t], .int .i64 k]) ∧ Below W.heap.size W w') ∧ (∀ W, LawW W → Calls Tryz.prog 16 #[.bool ga, .string sa, .string ta] W fun e w' => e = .returned (.tuple #[.agg #[.bool g, .string s, .string t], .int .i64 k]) ∧ Below W.heap.size W w') := by
  have m1 : sa.size ≤ maxLen := by unfold maxLen; omega
  have m2 : ta.size ≤ maxLen := by unfold maxLen; omega
  rcases Bool.eq_false_or_eq_true (vldN sa) with v1 | v1
  · rcases Bool.eq_false_or_eq_true (vldN ta) with v2 | v2
    · have h1 := rv_t m1 v1
      have h2 := rv_t m2 v2
      obtain ⟨n, hn, rfl⟩ := vldN_obtain v1
      obtain ⟨d, hd, rfl⟩ := vldN_obtain v2
      by_cases hd0 : d = 0
      · subst hd0
        rw [natS_zero] at h2 ⊢
        exact ⟨_, _, _, _, fun W hW => rat_Make_zero ga n W hn, fun W _ => r4_make3 ga _ W h1 h2⟩
      · obtain ⟨g, s, t, e⟩ := IsQ.get (mkQ ga n d)
        refine ⟨g, s, t, 0, fun W hW => ?_, fun W _ => r4_make4 ga _ _ g s t W h1 h2 (r4_lowest ga (size_lt999 (by omega)) (size_lt999 (by omega)) (by omega) e) (is48 (by omega))⟩
        have h := rat_Make ga n d W hn hd (by omega) hW
        unfold RqPost at h
        rw [e] at h
        exact h
    · exact ⟨_, _, _, _, fun W hW => rat_Make_bad ga sa ta W m1 m2 (.inr ⟨v1, v2⟩), fun W _ => r4_make2 ga _ _ W (rv_t m1 v1) (rv_f m2 v2)⟩
  · exact ⟨_, _, _, _, fun W hW => rat_Make_bad ga sa ta W m1 m2 (.inl v1), fun W _ => r4_make1 ga _ _ W (rv_f m1 v1)⟩
end
theorem i64_cap {n : Int} (h0 : -9223372036854775808 ≤ n) (h1 : n ≤ 9223372036854775807) : n.natAbs < capK 999 :=
  Nat.lt_of_lt_of_le (show n.natAbs < capK 20 from Nat.lt_of_le_of_lt (show n.natAbs ≤ 9223372036854775808 by omega) (by unfold capK; decide +kernel)) (capK_le (by decide))
theorem ag_Of (n d : Int) (hn : inI64 n) (hd : inI64 d) : ∃ g s t k, (∀ W, LawW W → Calls Tryz.prog 13 #[.int .i64 n, .int .i64 d] W fun e w' => e = .returned (.tuple #[.agg #[.bool g, .string s, .string t], .int .i64 k]) ∧ Below W.heap.size W w') ∧ (∀ W, LawW W → Calls Tryz.prog 14 #[.int .i64 n, .int .i64 d] W fun e w' => e = .returned (.tuple #[.agg #[.bool g, .string s, .string t], .int .i64 k]) ∧ Below W.heap.size W w') := by
  have bn := int64_bd hn
  have bd := int64_bd hd
  by_cases h0 : d = 0
  · subst h0
    refine ⟨false, ⟨#[]⟩, ⟨#[]⟩, 14, fun W hW => ?_, fun W _ => r4_of0 n W⟩
    have h := rat_Of n 0 W hn hd hW
    unfold OfPost at h
    simp only [if_pos] at h
    exact h
  · obtain ⟨g, s, t, e⟩ := IsQ.get (ofQ n d)
    refine ⟨g, s, t, 0, fun W hW => ?_, fun W _ => ?_⟩
    · have h := rat_Of n d W hn hd hW
      unfold OfPost at h
      simp only [if_neg h0] at h
      unfold RqPost at h
      rw [e] at h
      exact h
    · rw [← mkQ_ofQ n d h0] at e
      have ra : ∀ x : Int, -9223372036854775808 ≤ x → x ≤ 9223372036854775807 → RA x (natS x.natAbs) := fun x h h' W => (ref04_abs x W h h').mono fun _ _ ⟨p, q⟩ => ⟨p, by rw [← q]; exact Below.refl _ _⟩
      exact r4_of1 n d _ _ _ _ g s t W (ra n bn.1 bn.2) (ra d bd.1 bd.2) (r4_lowest _ (i64_cap bn.1 bn.2) (i64_cap bd.1 bd.2) (by omega) e) rfl rfl (by simpa using h0)
theorem cutP_glue (l : List UInt8) : l = (if (cutP l).2 then [45] else []) ++ (cutP l).1 := by
  unfold cutP
  cases l with
  | nil => simp [Lib.hasPrefix]
  | cons c l =>
    by_cases h : c = 45
    · subst h; simp [Lib.hasPrefix]
    · have h' : ¬ 45 = c := fun e => h e.symm
      simp [Lib.hasPrefix, h, h']
theorem cutSl_no {m : List UInt8} (h : ∀ b ∈ m, b ≠ 47) : cutSl m = (m, [], false) := by
  unfold cutSl; rw [indexByte_none _ _ h]; rfl
theorem cutSl_at {a b : List UInt8} (h : ∀ c ∈ a, c ≠ 47) : cutSl (a ++ 47 :: b) = (a, b, true) := by
  unfold cutSl; rw [indexByte_at _ _ _ h]; simp
theorem cutSl_glue (m : List UInt8) : m = (cutSl m).1 ++ (if (cutSl m).2.2 then 47 :: (cutSl m).2.1 else []) := by
  by_cases h : ∃ i, ∃ (hi : i < m.length), m[i] = 47
  · have hm : (47 : UInt8) ∈ m := by obtain ⟨i, hi, e⟩ := h; rw [← e]; exact List.getElem_mem hi
    obtain ⟨a, b, e, hn⟩ := List.append_of_mem hm |> fun _ => (List.eq_append_cons_of_mem hm)
    rw [e, cutSl_at (fun c hc e => hn (by rw [← e]; exact hc))]
    simp
  · rw [cutSl_no]
    · simp
    · intro b hb e
      obtain ⟨i, hi, e'⟩ := List.getElem_of_mem hb
      exact h ⟨i, hi, by rw [e', e]⟩
theorem byte_at {s : ByteArray} {k : Nat} (h : k < s.size) : s[k] = s.data.toList[k]'h := rfl

theorem r4_parse (l : List UInt8) (hl : l.length ≤ 200) (b ok : Bool) (hv : QV (cutP l).2 (bL (parN l)) (bL (parD l)) b)
    (hok : ok = (b && !((cutSl (cutP l).1).2.2 && ((bL (parD l)).toList == [49])))) (W : World) :
    Calls Tryz.prog 20 #[.string (bL l)] W (PPost ok (cutP l).2 (bL (parN l)) (bL (parD l)) W) := by
  have hr : ((bL (cutP l).1)).size ≤ 1000 := by
    rw [bL_size]
    have := congrArg List.length (cutP_glue l)
    rw [List.length_append] at this
    omega
  have hn : ∀ r : ByteArray, r = bL (cutP l).1 → (∀ j (hj : j < r.size), r[j] ≠ 47) → bL (parN l) = r ∧ bL (parD l) = ⟨#[49]⟩ ∧ ok = b := fun r er h => by
    subst er
    have hc := cutSl_no (m := (cutP l).1) (fun c hc e => by
      obtain ⟨i, hi, e'⟩ := List.getElem_of_mem hc
      exact h i hi (e'.trans e))
    unfold parN parD
    rw [hc] at hok ⊢
    refine ⟨rfl, rfl, ?_⟩
    rw [hok]; simp
  have hs : ∀ r : ByteArray, r = bL (cutP l).1 → ∀ k (hk : k < r.size), r[k] = 47 → (∀ j (hj : j < r.size), j < k → r[j] ≠ 47) → bL (parN l) = r.extract 0 k ∧ bL (parD l) = r.extract (k + 1) r.size ∧ ok = (b && !((bL (parD l)).toList == [49])) := fun r er k hk h1 h2 => by
    subst er
    have hk' : k < (cutP l).1.length := hk
    have e : (cutP l).1 = (cutP l).1.take k ++ 47 :: (cutP l).1.drop (k + 1) := by
      have h3 : (cutP l).1[k] = 47 := h1
      rw [← h3, List.getElem_cons_drop hk', List.take_append_drop]
    have hc : cutSl (cutP l).1 = ((cutP l).1.take k, (cutP l).1.drop (k + 1), true) := by
      have := cutSl_at (a := (cutP l).1.take k) (b := (cutP l).1.drop (k + 1)) (fun c hc e' => by
        obtain ⟨i, hi, e2⟩ := List.getElem_of_mem hc
        rw [List.length_take] at hi
        rw [List.getElem_take] at e2
        exact h2 i (by rw [bL_size]; omega) (by omega) (e2.trans e'))
      rwa [← e] at this
    have hN : bL (parN l) = (bL (cutP l).1).extract 0 k := by
      unfold parN
      rw [hc]
      apply ba_eq
      rw [extract_list, bL_list, bL_list, List.drop_zero, Nat.sub_zero]
    have hD : bL (parD l) = (bL (cutP l).1).extract (k + 1) (bL (cutP l).1).size := by
      unfold parD
      rw [hc]
      apply ba_eq
      rw [ext_drop]; rfl
    refine ⟨hN, hD, ?_⟩
    rw [hok, hc]; simp
  by_cases h0 : l = []
  · subst h0
    exact r4_parse_a (bL []) _ _ b ok W (by simp [bL_size]) (by simp [bL_size]) rfl (hn (bL []) rfl) (hs (bL []) rfl) hv
  · obtain ⟨c, m, rfl⟩ := List.exists_cons_of_ne_nil h0
    by_cases hc : c = 45
    · subst hc
      have e1 : cutP (45 :: m) = (m, true) := by unfold cutP; simp [Lib.hasPrefix]
      have e2 : (cutP (45 :: m)).1 = m := by rw [e1]
      have e3 : (cutP (45 :: m)).2 = true := by rw [e1]
      rw [e2] at hn hs hr
      rw [e3] at hv ⊢
      refine r4_parse_c (bL (45 :: m)) (bL m) _ _ b ok W (by rw [bL_size]; omega) hr (by rw [bL_size]; simp) rfl ?_ (hn _ rfl) (hs _ rfl) hv
      apply ba_eq
      rw [ext_drop]; rfl
    · have e1 : cutP (c :: m) = (c :: m, false) := by
        have h' : ¬ 45 = c := fun e => hc e.symm
        unfold cutP; simp [Lib.hasPrefix, hc, h']
      have e2 : (cutP (c :: m)).1 = c :: m := by rw [e1]
      have e3 : (cutP (c :: m)).2 = false := by rw [e1]
      rw [e2] at hn hs hr
      rw [e3] at hv ⊢
      exact r4_parse_b (bL (c :: m)) _ _ b ok W (by rw [bL_size]; omega) hr (by rw [bL_size]; simp) hc (hn _ rfl) (hs _ rfl) hv
/-- Parse of both. -/
theorem ag_Parse (x : ByteArray) (hx : x.size ≤ 90) : ∃ g s t k, (∀ W, LawW W → Calls Tryz.prog 19 #[.string x] W fun e w' => e = .returned (.tuple #[.agg #[.bool g, .string s, .string t], .int .i64 k]) ∧ Below W.heap.size W w') ∧ (∀ W, LawW W → Calls Tryz.prog 20 #[.string x] W fun e w' => e = .returned (.tuple #[.agg #[.bool g, .string s, .string t], .int .i64 k]) ∧ Below W.heap.size W w') := by
  obtain ⟨l, rfl⟩ : ∃ l, x = bL l := ⟨x.data.toList, (bL_of x).symm⟩
  rw [bL_size] at hx
  have hlen := parts_len l
  have hv := r4_valid (cutP l).2 (bL (parN l)) (bL (parD l)) (by rw [bL_size]; omega) (by rw [bL_size]; omega)
  have hg := cutP_glue l
  have hm := cutSl_glue (cutP l).1
  rcases Bool.eq_false_or_eq_true (vldR (cutP l).2 (bL (parN l)) (bL (parD l))) with v | v
  · rw [v] at hv
    obtain ⟨q, e1, e2, e3, hf1, hf2⟩ := vldR_iff.1 v
    have hf : FitQ q := ⟨hf1, hf2⟩
    have n1 : parN l = Lib.decDigits (nmQ q) := congrArg (fun b : ByteArray => b.data.toList) e2
    have n2 : parD l = Lib.decDigits q.den := congrArg (fun b : ByteArray => b.data.toList) e3
    have f1 : ((bL (parD l)).toList == [49]) = decide (q.den = 1) := by rw [e3]; exact is49 _
    by_cases hbad : (cutSl (cutP l).1).2.2 = true ∧ q.den = 1
    · have hno : ∀ p, FitQ p → txtQ p ≠ l := fun p _ ht => by
        obtain ⟨a1, a2, a3⟩ := par_q p
        have h1 := cutP_txt (ngQ p) (nmQ p) p.den
        have h2 := cutS_txt (nmQ p) p.den
        have ht' : txtL (ngQ p) (nmQ p) p.den = l := ht
        rw [ht'] at h1
        rw [ht, n2] at a3
        have hd := dec_inj a3
        have h3 : (cutSl (cutP l).1).2.2 = decide (p.den ≠ 1) := by
          rw [h1]
          show (cutSl _).2.2 = _
          rw [h2]
        rw [h3] at hbad
        exact (of_decide_eq_true hbad.1) (hd.symm.trans hbad.2)
      refine ⟨false, ⟨#[]⟩, ⟨#[]⟩, 5, fun W hW => rat_Parse_no l W (by omega) hno hW, fun W _ => ?_⟩
      refine (r4_parse l (by omega) true false hv ?_ W).mono fun _ _ ⟨a, b⟩ => ⟨by simpa using a, b⟩
      rw [f1, hbad.1, hbad.2]; rfl
    · have ht : txtQ q = l := by
        rw [hg, hm]
        unfold txtQ txtL
        rw [← e1, ← n1]
        unfold parN
        congr 2
        rcases Bool.eq_false_or_eq_true (cutSl (cutP l).1).2.2 with hc | hc
        · have hd : q.den ≠ 1 := fun h => hbad ⟨hc, h⟩
          rw [if_neg hd, ← n2]
          unfold parD
          rw [hc]; rfl
        · have hd : q.den = 1 := by
            unfold parD at n2
            rw [hc] at n2
            have : Lib.decDigits q.den = Lib.decDigits 1 := by rw [← n2, dec_small (by omega)]; rfl
            exact dec_inj this
          rw [if_pos hd, hc]; rfl
      obtain ⟨g, s, t, e⟩ := IsQ.get q
      refine ⟨g, s, t, 0, fun W hW => ?_, fun W _ => ?_⟩
      · have h := rat_Parse_q q W hf hW
        unfold RqPost at h
        rw [e, ht] at h
        exact h
      · refine (r4_parse l (by omega) true true hv ?_ W).mono fun _ _ ⟨a, b⟩ => ⟨?_, b⟩
        · rw [f1]
          rcases Bool.eq_false_or_eq_true (cutSl (cutP l).1).2.2 with hc | hc
          · have hd : q.den ≠ 1 := fun h => hbad ⟨hc, h⟩
            rw [hc, decide_eq_false hd]; rfl
          · rw [hc]; rfl
        · rw [if_pos rfl, e1, e2, e3] at a
          have e' : rqV q = .agg #[.bool g, .string s, .string t] := e
          unfold rqV at e'
          rw [e'] at a
          exact a
  · rw [v] at hv
    have hno : ∀ p, FitQ p → txtQ p ≠ l := fun p hp ht => by
      obtain ⟨a1, a2, a3⟩ := par_q p
      rw [ht] at a1 a2 a3
      rw [a1, a2, a3] at v
      have h := vldR_q hp
      have en : natS (nmQ p) = bL (Lib.decDigits (nmQ p)) := rfl
      have ed : natS p.den = bL (Lib.decDigits p.den) := rfl
      rw [en, ed, v] at h
      cases h
    refine ⟨false, ⟨#[]⟩, ⟨#[]⟩, 5, fun W hW => rat_Parse_no l W (by omega) hno hW, fun W _ => ?_⟩
    exact (r4_parse l (by omega) false false hv rfl W).mono fun _ _ ⟨a, b⟩ => ⟨by simpa using a, b⟩
end Go.Proofs.YtncocgfgbocnkaaGreatDoor
