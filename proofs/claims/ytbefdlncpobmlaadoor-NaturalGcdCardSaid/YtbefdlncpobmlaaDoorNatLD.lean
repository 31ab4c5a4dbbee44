/- NaturalGcd: the walk. -/
import Derived.Test.YtbefdlncpobmlaaDoorNatK
namespace Go.Proofs.YtbefdlncpobmlaaDoor
open Go.RowKit

set_option maxHeartbeats 4000000 in
set_option maxRecDepth 100000 in
theorem gcd_out0 (d x y : ByteArray) (w : World) (hw : LawW w) (hf : fewB [d, x, y] = false) :
    Calls Tryd.prog 6 #[.string d, .string x, .string y] w fun e w' => e = .returned (.bool true) ∧ Below w.heap.size w w' := by
  have HF := hide hf
  clear hf
  have HB0 : Hid (Below w.heap.size w w) := Below.refl _ _
  have HW := hide hw
  clear hw
  go_enter Tryd.func6, Tryd.ntmps6
  go_wp2_with fail
  refine (law03_head _ (HW.out.below HB0.out)).mono ?_
  rintro e w1 ⟨rfl, hb⟩
  have HB1 := hide (bStep HB0.out hb)
  clear hb
  go_wp2_with fail
  refine (law03_few [d, x, y] _ _ (few3_slice _ d x y _) (by simp)).mono ?_
  rintro e w2 ⟨rfl, rfl⟩
  rw [HF.out]
  have HB2 := hide (bAlloc HB1.out (.cells #[.string d, .string x, .string y] 22))
  go_wp2_with fail
  go_ret
  exact ⟨rfl, HB2.out⟩
set_option maxHeartbeats 4000000 in
set_option maxRecDepth 100000 in
theorem gcd_long0 (d x y : ByteArray) (w : World) (hw : LawW w) (hf : fewB [d, x, y] = true) (l0 : 40 < d.size) :
    Calls Tryd.prog 6 #[.string d, .string x, .string y] w fun e w' => e = .returned (.bool true) ∧ Below w.heap.size w w' := by
  have HF := hide hf
  clear hf
  have I0 : (40 : Int) < (d.size : Int) := by omega
  have HB0 : Hid (Below w.heap.size w w) := Below.refl _ _
  have HW := hide hw
  clear hw
  go_enter Tryd.func6, Tryd.ntmps6
  go_wp2_with fail
  refine (law03_head _ (HW.out.below HB0.out)).mono ?_
  rintro e w1 ⟨rfl, hb⟩
  have HB1 := hide (bStep HB0.out hb)
  clear hb
  go_wp2_with fail
  refine (law03_few [d, x, y] _ _ (few3_slice _ d x y _) (by simp)).mono ?_
  rintro e w2 ⟨rfl, rfl⟩
  rw [HF.out]
  have HB2 := hide (bAlloc HB1.out (.cells #[.string d, .string x, .string y] 22))
  go_wp2_with fail
  go_ret
  exact ⟨rfl, HB2.out⟩
set_option maxHeartbeats 4000000 in
set_option maxRecDepth 100000 in
theorem gcd_long1 (d x y : ByteArray) (w : World) (hw : LawW w) (hf : fewB [d, x, y] = true) (l0 : d.size ≤ 40) (l1 : 40 < x.size) :
    Calls Tryd.prog 6 #[.string d, .string x, .string y] w fun e w' => e = .returned (.bool true) ∧ Below w.heap.size w w' := by
  have HF := hide hf
  clear hf
  have I0 : (d.size : Int) ≤ 40 := by omega
  have I1 : (40 : Int) < (x.size : Int) := by omega
  have HB0 : Hid (Below w.heap.size w w) := Below.refl _ _
  have HW := hide hw
  clear hw
  go_enter Tryd.func6, Tryd.ntmps6
  go_wp2_with fail
  refine (law03_head _ (HW.out.below HB0.out)).mono ?_
  rintro e w1 ⟨rfl, hb⟩
  have HB1 := hide (bStep HB0.out hb)
  clear hb
  go_wp2_with fail
  refine (law03_few [d, x, y] _ _ (few3_slice _ d x y _) (by simp)).mono ?_
  rintro e w2 ⟨rfl, rfl⟩
  rw [HF.out]
  have HB2 := hide (bAlloc HB1.out (.cells #[.string d, .string x, .string y] 22))
  go_wp2_with fail
  go_ret
  exact ⟨rfl, HB2.out⟩
set_option maxHeartbeats 4000000 in
set_option maxRecDepth 100000 in
theorem gcd_long2 (d x y : ByteArray) (w : World) (hw : LawW w) (hf : fewB [d, x, y] = true) (l0 : d.size ≤ 40) (l1 : x.size ≤ 40) (l2 : 40 < y.size) :
    Calls Tryd.prog 6 #[.string d, .string x, .string y] w fun e w' => e = .returned (.bool true) ∧ Below w.heap.size w w' := by
  have HF := hide hf
  clear hf
  have I0 : (d.size : Int) ≤ 40 := by omega
  have I1 : (x.size : Int) ≤ 40 := by omega
  have I2 : (40 : Int) < (y.size : Int) := by omega
  have HB0 : Hid (Below w.heap.size w w) := Below.refl _ _
  have HW := hide hw
  clear hw
  go_enter Tryd.func6, Tryd.ntmps6
  go_wp2_with fail
  refine (law03_head _ (HW.out.below HB0.out)).mono ?_
  rintro e w1 ⟨rfl, hb⟩
  have HB1 := hide (bStep HB0.out hb)
  clear hb
  go_wp2_with fail
  refine (law03_few [d, x, y] _ _ (few3_slice _ d x y _) (by simp)).mono ?_
  rintro e w2 ⟨rfl, rfl⟩
  rw [HF.out]
  have HB2 := hide (bAlloc HB1.out (.cells #[.string d, .string x, .string y] 22))
  go_wp2_with fail
  go_ret
  exact ⟨rfl, HB2.out⟩
set_option maxHeartbeats 4000000 in
set_option maxRecDepth 100000 in
theorem gcd_bad0 (d x y : ByteArray) (w : World) (hw : LawW w) (hf : fewB [d, x, y] = true) (l0 : d.size ≤ 40) (l1 : x.size ≤ 40) (l2 : y.size ≤ 40) (h0 : vldN d = false) (m0 : d.size ≤ maxLen) :
    Calls Tryd.prog 6 #[.string d, .string x, .string y] w fun e w' => e = .returned (.bool true) ∧ Below w.heap.size w w' := by
  have HF := hide hf
  clear hf
  have H0 := hide h0
  clear h0
  have I0 : (d.size : Int) ≤ 40 := by omega
  have I1 : (x.size : Int) ≤ 40 := by omega
  have I2 : (y.size : Int) ≤ 40 := by omega
  have HB0 : Hid (Below w.heap.size w w) := Below.refl _ _
  have HW := hide hw
  clear hw
  go_enter Tryd.func6, Tryd.ntmps6
  go_wp2_with fail
  refine (law03_head _ (HW.out.below HB0.out)).mono ?_
  rintro e w1 ⟨rfl, hb⟩
  have HB1 := hide (bStep HB0.out hb)
  clear hb
  go_wp2_with fail
  refine (law03_few [d, x, y] _ _ (few3_slice _ d x y _) (by simp)).mono ?_
  rintro e w2 ⟨rfl, rfl⟩
  rw [HF.out]
  have HB2 := hide (bAlloc HB1.out (.cells #[.string d, .string x, .string y] 22))
  go_wp2_with fail
  refine (valid_any d _ m0).mono ?_
  rintro e w3 ⟨rfl, hb⟩
  rw [H0.out]
  have HB3 := hide (bStep HB2.out hb)
  clear hb
  go_wp2_with fail
  go_ret
  exact ⟨rfl, HB3.out⟩
set_option maxHeartbeats 4000000 in
set_option maxRecDepth 100000 in
theorem gcd_bad1 (d x y : ByteArray) (w : World) (hw : LawW w) (hf : fewB [d, x, y] = true) (l0 : d.size ≤ 40) (l1 : x.size ≤ 40) (l2 : y.size ≤ 40) (h0 : vldN d = true) (m0 : d.size ≤ maxLen) (h1 : vldN x = false) (m1 : x.size ≤ maxLen) :
    Calls Tryd.prog 6 #[.string d, .string x, .string y] w fun e w' => e = .returned (.bool true) ∧ Below w.heap.size w w' := by
  have HF := hide hf
  clear hf
  have H0 := hide h0
  clear h0
  have H1 := hide h1
  clear h1
  have I0 : (d.size : Int) ≤ 40 := by omega
  have I1 : (x.size : Int) ≤ 40 := by omega
  have I2 : (y.size : Int) ≤ 40 := by omega
  have HB0 : Hid (Below w.heap.size w w) := Below.refl _ _
  have HW := hide hw
  clear hw
  go_enter Tryd.func6, Tryd.ntmps6
  go_wp2_with fail
  refine (law03_head _ (HW.out.below HB0.out)).mono ?_
  rintro e w1 ⟨rfl, hb⟩
  have HB1 := hide (bStep HB0.out hb)
  clear hb
  go_wp2_with fail
  refine (law03_few [d, x, y] _ _ (few3_slice _ d x y _) (by simp)).mono ?_
  rintro e w2 ⟨rfl, rfl⟩
  rw [HF.out]
  have HB2 := hide (bAlloc HB1.out (.cells #[.string d, .string x, .string y] 22))
  go_wp2_with fail
  refine (valid_any d _ m0).mono ?_
  rintro e w3 ⟨rfl, hb⟩
  rw [H0.out]
  have HB3 := hide (bStep HB2.out hb)
  clear hb
  go_wp2_with fail
  refine (valid_any x _ m1).mono ?_
  rintro e w4 ⟨rfl, hb⟩
  rw [H1.out]
  have HB4 := hide (bStep HB3.out hb)
  clear hb
  go_wp2_with fail
  go_ret
  exact ⟨rfl, HB4.out⟩
set_option maxHeartbeats 4000000 in
set_option maxRecDepth 100000 in
theorem gcd_bad2 (d x y : ByteArray) (w : World) (hw : LawW w) (hf : fewB [d, x, y] = true) (l0 : d.size ≤ 40) (l1 : x.size ≤ 40) (l2 : y.size ≤ 40) (h0 : vldN d = true) (m0 : d.size ≤ maxLen) (h1 : vldN x = true) (m1 : x.size ≤ maxLen) (h2 : vldN y = false) (m2 : y.size ≤ maxLen) :
    Calls Tryd.prog 6 #[.string d, .string x, .string y] w fun e w' => e = .returned (.bool true) ∧ Below w.heap.size w w' := by
  have HF := hide hf
  clear hf
  have H0 := hide h0
  clear h0
  have H1 := hide h1
  clear h1
  have H2 := hide h2
  clear h2
  have I0 : (d.size : Int) ≤ 40 := by omega
  have I1 : (x.size : Int) ≤ 40 := by omega
  have I2 : (y.size : Int) ≤ 40 := by omega
  have HB0 : Hid (Below w.heap.size w w) := Below.refl _ _
  have HW := hide hw
  clear hw
  go_enter Tryd.func6, Tryd.ntmps6
  go_wp2_with fail
  refine (law03_head _ (HW.out.below HB0.out)).mono ?_
  rintro e w1 ⟨rfl, hb⟩
  have HB1 := hide (bStep HB0.out hb)
  clear hb
  go_wp2_with fail
  refine (law03_few [d, x, y] _ _ (few3_slice _ d x y _) (by simp)).mono ?_
  rintro e w2 ⟨rfl, rfl⟩
  rw [HF.out]
  have HB2 := hide (bAlloc HB1.out (.cells #[.string d, .string x, .string y] 22))
  go_wp2_with fail
  refine (valid_any d _ m0).mono ?_
  rintro e w3 ⟨rfl, hb⟩
  rw [H0.out]
  have HB3 := hide (bStep HB2.out hb)
  clear hb
  go_wp2_with fail
  refine (valid_any x _ m1).mono ?_
  rintro e w4 ⟨rfl, hb⟩
  rw [H1.out]
  have HB4 := hide (bStep HB3.out hb)
  clear hb
  go_wp2_with fail
  refine (valid_any y _ m2).mono ?_
  rintro e w5 ⟨rfl, hb⟩
  rw [H2.out]
  have HB5 := hide (bStep HB4.out hb)
  clear hb
  go_wp2_with fail
  go_ret
  exact ⟨rfl, HB5.out⟩
set_option maxHeartbeats 4000000 in
set_option maxRecDepth 100000 in
theorem gcd_core1 (d x y g dx dy dg X Y : ByteArray) (w : World) (hw : LawW w) (hf : fewB [d, x, y] = true) (l0 : d.size ≤ 40) (l1 : x.size ≤ 40) (l2 : y.size ≤ 40) (va : OkValid d true) (vb : OkValid x true) (vc : OkValid y true)
    (k1 : OkCall 17 x y g) (k2 : OkCall 13 d x dx) (k3 : OkCall 13 d y dy) (k4 : OkCall 13 d g dg) (k5 : OkCall 17 dx dy dg) (k7 : OkDiv x g X ⟨#[48]⟩) (k8 : OkDiv y g Y ⟨#[48]⟩) (hg : (g.toList == [48]) = false) :
    Calls Tryd.prog 6 #[.string d, .string x, .string y] w fun e w' => e = .returned (.bool true) ∧ Below w.heap.size w w' := by
  have I0 : (d.size : Int) ≤ 40 := by omega
  have I1 : (x.size : Int) ≤ 40 := by omega
  have I2 : (y.size : Int) ≤ 40 := by omega
  have H_hf := hide hf
  clear hf
  have H_va := hide va
  clear va
  have H_vb := hide vb
  clear vb
  have H_vc := hide vc
  clear vc
  have H_k1 := hide k1
  clear k1
  have H_k2 := hide k2
  clear k2
  have H_k3 := hide k3
  clear k3
  have H_k4 := hide k4
  clear k4
  have H_k5 := hide k5
  clear k5
  have H_k7 := hide k7
  clear k7
  have H_k8 := hide k8
  clear k8
  have HB0 : Hid (Below w.heap.size w w) := Below.refl _ _
  have HW := hide hw
  clear hw
  go_enter Tryd.func6, Tryd.ntmps6
  go_wp2_with fail
  refine (law03_head _ (HW.out.below HB0.out)).mono ?_
  rintro e w1 ⟨rfl, hb⟩
  have HB1 := hide (bStep HB0.out hb)
  clear hb
  go_wp2_with fail
  refine (law03_few [d, x, y] _ _ (few3_slice _ d x y _) (by simp)).mono ?_
  rintro e w2 ⟨rfl, rfl⟩
  rw [H_hf.out]
  have HB2 := hide (bAlloc HB1.out (.cells #[.string d, .string x, .string y] 22))
  go_wp2_with fail
  refine (H_va.out _).mono ?_
  rintro e w3 ⟨rfl, hb⟩
  have HB3 := hide (bStep HB2.out hb)
  clear hb
  go_wp2_with fail
  refine (H_vb.out _).mono ?_
  rintro e w4 ⟨rfl, hb⟩
  have HB4 := hide (bStep HB3.out hb)
  clear hb
  go_wp2_with fail
  refine (H_vc.out _).mono ?_
  rintro e w5 ⟨rfl, hb⟩
  have HB5 := hide (bStep HB4.out hb)
  clear hb
  go_wp2_with fail
  refine (H_k1.out _ (HW.out.below HB5.out)).mono ?_
  rintro e w6 ⟨rfl, hb⟩
  have HB6 := hide (bStep HB5.out hb)
  clear hb
  go_wp2_with fail
  refine (H_k2.out _ (HW.out.below HB6.out)).mono ?_
  rintro e w7 ⟨rfl, hb⟩
  have HB7 := hide (bStep HB6.out hb)
  clear hb
  go_wp2_with fail
  refine (H_k3.out _ (HW.out.below HB7.out)).mono ?_
  rintro e w8 ⟨rfl, hb⟩
  have HB8 := hide (bStep HB7.out hb)
  clear hb
  go_wp2_with fail
  refine (H_k4.out _ (HW.out.below HB8.out)).mono ?_
  rintro e w9 ⟨rfl, hb⟩
  have HB9 := hide (bStep HB8.out hb)
  clear hb
  go_wp2_with fail
  refine (H_k5.out _ (HW.out.below HB9.out)).mono ?_
  rintro e w10 ⟨rfl, hb⟩
  have HB10 := hide (bStep HB9.out hb)
  clear hb
  go_wp2_with fail
  refine (H_k7.out _ (HW.out.below HB10.out)).mono ?_
  rintro e w11 ⟨rfl, hb⟩
  have HB11 := hide (bStep HB10.out hb)
  clear hb
  go_wp2_with fail
  refine (H_k8.out _ (HW.out.below HB11.out)).mono ?_
  rintro e w12 ⟨rfl, hb⟩
  have HB12 := hide (bStep HB11.out hb)
  clear hb
  go_wp2_with fail
  go_ret
  exact ⟨rfl, HB12.out⟩
set_option maxHeartbeats 4000000 in
set_option maxRecDepth 100000 in
theorem gcd_core0 (d : ByteArray) (w : World) (hw : LawW w) (hf : fewB [d, ⟨#[48]⟩, ⟨#[48]⟩] = true) (l0 : d.size ≤ 40) (va : OkValid d true) (vb : OkValid ⟨#[48]⟩ true) (vc : OkValid ⟨#[48]⟩ true)
    (k1 : OkCall 17 ⟨#[48]⟩ ⟨#[48]⟩ ⟨#[48]⟩) (k2 : OkCall 13 d ⟨#[48]⟩ ⟨#[48]⟩) (k3 : OkCall 13 d ⟨#[48]⟩ ⟨#[48]⟩) (k4 : OkCall 13 d ⟨#[48]⟩ ⟨#[48]⟩) (k5 : OkCall 17 ⟨#[48]⟩ ⟨#[48]⟩ ⟨#[48]⟩)  :
    Calls Tryd.prog 6 #[.string d, .string ⟨#[48]⟩, .string ⟨#[48]⟩] w fun e w' => e = .returned (.bool true) ∧ Below w.heap.size w w' := by
  have I0 : (d.size : Int) ≤ 40 := by omega
  have H_hf := hide hf
  clear hf
  have H_va := hide va
  clear va
  have H_vb := hide vb
  clear vb
  have H_vc := hide vc
  clear vc
  have H_k1 := hide k1
  clear k1
  have H_k2 := hide k2
  clear k2
  have H_k3 := hide k3
  clear k3
  have H_k4 := hide k4
  clear k4
  have H_k5 := hide k5
  clear k5
  have HB0 : Hid (Below w.heap.size w w) := Below.refl _ _
  have HW := hide hw
  clear hw
  go_enter Tryd.func6, Tryd.ntmps6
  go_wp2_with fail
  refine (law03_head _ (HW.out.below HB0.out)).mono ?_
  rintro e w1 ⟨rfl, hb⟩
  have HB1 := hide (bStep HB0.out hb)
  clear hb
  go_wp2_with fail
  refine (law03_few [d, ⟨#[48]⟩, ⟨#[48]⟩] _ _ (few3_slice _ d ⟨#[48]⟩ ⟨#[48]⟩ _) (by simp)).mono ?_
  rintro e w2 ⟨rfl, rfl⟩
  rw [H_hf.out]
  have HB2 := hide (bAlloc HB1.out (.cells #[.string d, .string ⟨#[48]⟩, .string ⟨#[48]⟩] 22))
  go_wp2_with fail
  refine (H_va.out _).mono ?_
  rintro e w3 ⟨rfl, hb⟩
  have HB3 := hide (bStep HB2.out hb)
  clear hb
  go_wp2_with fail
  refine (H_vb.out _).mono ?_
  rintro e w4 ⟨rfl, hb⟩
  have HB4 := hide (bStep HB3.out hb)
  clear hb
  go_wp2_with fail
  refine (H_vc.out _).mono ?_
  rintro e w5 ⟨rfl, hb⟩
  have HB5 := hide (bStep HB4.out hb)
  clear hb
  go_wp2_with fail
  refine (H_k1.out _ (HW.out.below HB5.out)).mono ?_
  rintro e w6 ⟨rfl, hb⟩
  have HB6 := hide (bStep HB5.out hb)
  clear hb
  go_wp2_with fail
  refine (H_k2.out _ (HW.out.below HB6.out)).mono ?_
  rintro e w7 ⟨rfl, hb⟩
  have HB7 := hide (bStep HB6.out hb)
  clear hb
  go_wp2_with fail
  refine (H_k3.out _ (HW.out.below HB7.out)).mono ?_
  rintro e w8 ⟨rfl, hb⟩
  have HB8 := hide (bStep HB7.out hb)
  clear hb
  go_wp2_with fail
  refine (H_k4.out _ (HW.out.below HB8.out)).mono ?_
  rintro e w9 ⟨rfl, hb⟩
  have HB9 := hide (bStep HB8.out hb)
  clear hb
  go_wp2_with fail
  refine (H_k5.out _ (HW.out.below HB9.out)).mono ?_
  rintro e w10 ⟨rfl, hb⟩
  have HB10 := hide (bStep HB9.out hb)
  clear hb
  go_wp2_with fail
  go_ret
  exact ⟨rfl, HB10.out⟩
theorem naturalGcd_walk (d x y : ByteArray) (w : World) (md : d.size ≤ maxLen) (mx : x.size ≤ maxLen) (my : y.size ≤ maxLen) (hw : LawW w) :
    Calls Tryd.prog 6 #[.string d, .string x, .string y] w fun e w' => e = .returned (.bool true) ∧ Below w.heap.size w w' := by
  cases hf : fewB [d, x, y] with
  | false => exact gcd_out0 d x y w hw hf
  | true =>
    by_cases l0 : d.size ≤ 40
    case neg => exact gcd_long0 d x y w hw hf (by omega)
    by_cases l1 : x.size ≤ 40
    case neg => exact gcd_long1 d x y w hw hf l0 (by omega)
    by_cases l2 : y.size ≤ 40
    case neg => exact gcd_long2 d x y w hw hf l0 l1 (by omega)
    cases ha : vldN d with
    | false => exact gcd_bad0 d x y w hw hf l0 l1 l2 ha md
    | true =>
      cases hb : vldN x with
      | false => exact gcd_bad1 d x y w hw hf l0 l1 l2 ha md hb mx
      | true =>
        cases hc : vldN y with
        | false => exact gcd_bad2 d x y w hw hf l0 l1 l2 ha md hb mx hc my
        | true =>
          obtain ⟨p, q, r, rfl, rfl, rfl, _, _, _⟩ := few3_nat hf ha hb hc
          have hp : p < capK 40 := (capK_len (by decide)).1 (by rw [← natS_size]; exact l0)
          have hq : q < capK 40 := (capK_len (by decide)).1 (by rw [← natS_size]; exact l1)
          have hr : r < capK 40 := (capK_len (by decide)).1 (by rw [← natS_size]; exact l2)
          have cp := to_capN hp (by decide)
          have cq := to_capN hq (by decide)
          have cr := to_capN hr (by decide)
          have cpq := to_capN (mul_capK hp hq) (by decide)
          have cpr := to_capN (mul_capK hp hr) (by decide)
          have cg := gcd_cap cq cr
          by_cases h0 : 0 < Nat.gcd q r
          · have cpg : p * Nat.gcd q r < capN := by
              rcases Nat.eq_zero_or_pos q with h | h
              · subst h; rw [Nat.gcd_zero_left]; exact cpr
              · exact Nat.lt_of_le_of_lt (Nat.mul_le_mul_left p (Nat.gcd_le_left r h)) cpq
            exact gcd_core1 (natS p) (natS q) (natS r) (natS (Nat.gcd q r)) (natS (p * q)) (natS (p * r)) (natS (p * Nat.gcd q r)) (natS (q / Nat.gcd q r)) (natS (r / Nat.gcd q r)) w hw hf l0 l1 l2 (ok_valid cp) (ok_valid cq) (ok_valid cr)
              (ok_gcd cq cr rfl) (ok_mul cp cq rfl cpq) (ok_mul cp cr rfl cpr) (ok_mul cp cg rfl cpg) (ok_gcd cpq cpr (Nat.gcd_mul_left p q r))
              (by rw [zero_lit]; exact ok_div cq cg h0 rfl (Nat.mod_eq_zero_of_dvd (Nat.gcd_dvd_left q r))) (by rw [zero_lit]; exact ok_div cr cg h0 rfl (Nat.mod_eq_zero_of_dvd (Nat.gcd_dvd_right q r))) (str_ne (natS_ne_zero h0) (by rfl))
          · have hg : Nat.gcd q r = 0 := by omega
            obtain rfl : q = 0 := Nat.eq_zero_of_gcd_eq_zero_left hg
            obtain rfl : r = 0 := by rw [Nat.gcd_zero_left] at hg; exact hg
            rw [natS_zero] at hf ⊢
            have z := ok_valid cq
            have m0 := ok_mul cp cq (Nat.mul_zero p) cq
            have g0 := ok_gcd cq cq (Nat.gcd_zero_left 0)
            rw [natS_zero] at z m0 g0
            exact gcd_core0 (natS p) w hw hf l0 (ok_valid cp) z z g0 m0 m0 m0 g0
end Go.Proofs.YtbefdlncpobmlaaDoor
