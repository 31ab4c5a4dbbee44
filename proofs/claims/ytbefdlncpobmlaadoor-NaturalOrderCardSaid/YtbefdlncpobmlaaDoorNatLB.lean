/- NaturalOrder: the walk. -/
import Derived.Test.YtbefdlncpobmlaaDoorNatK
namespace Go.Proofs.YtbefdlncpobmlaaDoor
open Go.RowKit

set_option maxHeartbeats 4000000 in
set_option maxRecDepth 100000 in
theorem order_out0 (a b c : ByteArray) (w : World) (hw : LawW w) (hf : fewB [a, b, c] = false) :
    Calls Tryd.prog 4 #[.string a, .string b, .string c] w fun e w' => e = .returned (.bool true) ∧ Below w.heap.size w w' := by
  have HF := hide hf
  clear hf
  have HB0 : Hid (Below w.heap.size w w) := Below.refl _ _
  have HW := hide hw
  clear hw
  go_enter Tryd.func4, Tryd.ntmps4
  go_wp2_with fail
  refine (law03_head _ (HW.out.below HB0.out)).mono ?_
  rintro e w1 ⟨rfl, hb⟩
  have HB1 := hide (bStep HB0.out hb)
  clear hb
  go_wp2_with fail
  refine (law03_few [a, b, c] _ _ (few3_slice _ a b c _) (by simp)).mono ?_
  rintro e w2 ⟨rfl, rfl⟩
  rw [HF.out]
  have HB2 := hide (bAlloc HB1.out (.cells #[.string a, .string b, .string c] 22))
  go_wp2_with fail
  go_ret
  exact ⟨rfl, HB2.out⟩
set_option maxHeartbeats 4000000 in
set_option maxRecDepth 100000 in
theorem order_out1 (a b c : ByteArray) (w : World) (hw : LawW w) (hf : fewB [a, b, c] = true) (h0 : vldN a = false) (m0 : a.size ≤ maxLen) :
    Calls Tryd.prog 4 #[.string a, .string b, .string c] w fun e w' => e = .returned (.bool true) ∧ Below w.heap.size w w' := by
  have HF := hide hf
  clear hf
  have H0 := hide h0
  clear h0
  have HB0 : Hid (Below w.heap.size w w) := Below.refl _ _
  have HW := hide hw
  clear hw
  go_enter Tryd.func4, Tryd.ntmps4
  go_wp2_with fail
  refine (law03_head _ (HW.out.below HB0.out)).mono ?_
  rintro e w1 ⟨rfl, hb⟩
  have HB1 := hide (bStep HB0.out hb)
  clear hb
  go_wp2_with fail
  refine (law03_few [a, b, c] _ _ (few3_slice _ a b c _) (by simp)).mono ?_
  rintro e w2 ⟨rfl, rfl⟩
  rw [HF.out]
  have HB2 := hide (bAlloc HB1.out (.cells #[.string a, .string b, .string c] 22))
  go_wp2_with fail
  refine (valid_any a _ m0).mono ?_
  rintro e w3 ⟨rfl, hb⟩
  rw [H0.out]
  have HB3 := hide (bStep HB2.out hb)
  clear hb
  go_wp2_with fail
  go_ret
  exact ⟨rfl, HB3.out⟩
set_option maxHeartbeats 4000000 in
set_option maxRecDepth 100000 in
theorem order_out2 (a b c : ByteArray) (w : World) (hw : LawW w) (hf : fewB [a, b, c] = true) (h0 : vldN a = true) (m0 : a.size ≤ maxLen) (h1 : vldN b = false) (m1 : b.size ≤ maxLen) :
    Calls Tryd.prog 4 #[.string a, .string b, .string c] w fun e w' => e = .returned (.bool true) ∧ Below w.heap.size w w' := by
  have HF := hide hf
  clear hf
  have H0 := hide h0
  clear h0
  have H1 := hide h1
  clear h1
  have HB0 : Hid (Below w.heap.size w w) := Below.refl _ _
  have HW := hide hw
  clear hw
  go_enter Tryd.func4, Tryd.ntmps4
  go_wp2_with fail
  refine (law03_head _ (HW.out.below HB0.out)).mono ?_
  rintro e w1 ⟨rfl, hb⟩
  have HB1 := hide (bStep HB0.out hb)
  clear hb
  go_wp2_with fail
  refine (law03_few [a, b, c] _ _ (few3_slice _ a b c _) (by simp)).mono ?_
  rintro e w2 ⟨rfl, rfl⟩
  rw [HF.out]
  have HB2 := hide (bAlloc HB1.out (.cells #[.string a, .string b, .string c] 22))
  go_wp2_with fail
  refine (valid_any a _ m0).mono ?_
  rintro e w3 ⟨rfl, hb⟩
  rw [H0.out]
  have HB3 := hide (bStep HB2.out hb)
  clear hb
  go_wp2_with fail
  refine (valid_any b _ m1).mono ?_
  rintro e w4 ⟨rfl, hb⟩
  rw [H1.out]
  have HB4 := hide (bStep HB3.out hb)
  clear hb
  go_wp2_with fail
  go_ret
  exact ⟨rfl, HB4.out⟩
set_option maxHeartbeats 4000000 in
set_option maxRecDepth 100000 in
theorem order_out3 (a b c : ByteArray) (w : World) (hw : LawW w) (hf : fewB [a, b, c] = true) (h0 : vldN a = true) (m0 : a.size ≤ maxLen) (h1 : vldN b = true) (m1 : b.size ≤ maxLen) (h2 : vldN c = false) (m2 : c.size ≤ maxLen) :
    Calls Tryd.prog 4 #[.string a, .string b, .string c] w fun e w' => e = .returned (.bool true) ∧ Below w.heap.size w w' := by
  have HF := hide hf
  clear hf
  have H0 := hide h0
  clear h0
  have H1 := hide h1
  clear h1
  have H2 := hide h2
  clear h2
  have HB0 : Hid (Below w.heap.size w w) := Below.refl _ _
  have HW := hide hw
  clear hw
  go_enter Tryd.func4, Tryd.ntmps4
  go_wp2_with fail
  refine (law03_head _ (HW.out.below HB0.out)).mono ?_
  rintro e w1 ⟨rfl, hb⟩
  have HB1 := hide (bStep HB0.out hb)
  clear hb
  go_wp2_with fail
  refine (law03_few [a, b, c] _ _ (few3_slice _ a b c _) (by simp)).mono ?_
  rintro e w2 ⟨rfl, rfl⟩
  rw [HF.out]
  have HB2 := hide (bAlloc HB1.out (.cells #[.string a, .string b, .string c] 22))
  go_wp2_with fail
  refine (valid_any a _ m0).mono ?_
  rintro e w3 ⟨rfl, hb⟩
  rw [H0.out]
  have HB3 := hide (bStep HB2.out hb)
  clear hb
  go_wp2_with fail
  refine (valid_any b _ m1).mono ?_
  rintro e w4 ⟨rfl, hb⟩
  rw [H1.out]
  have HB4 := hide (bStep HB3.out hb)
  clear hb
  go_wp2_with fail
  refine (valid_any c _ m2).mono ?_
  rintro e w5 ⟨rfl, hb⟩
  rw [H2.out]
  have HB5 := hide (bStep HB4.out hb)
  clear hb
  go_wp2_with fail
  go_ret
  exact ⟨rfl, HB5.out⟩
set_option maxHeartbeats 4000000 in
set_option maxRecDepth 100000 in
theorem order_core (a b c p q : ByteArray) (X Y Z NX : Int) (w : World) (hw : LawW w) (hf : fewB [a, b, c] = true) (va : OkValid a true) (vb : OkValid b true) (vc : OkValid c true)
    (kxy : OkComp a b X) (kyz : OkComp b c Y) (kxz : OkComp a c Z) (kyx : OkComp b a NX) (hN : NX = -X) (hX : X = -1 ∨ X = 0 ∨ X = 1) (hY : Y = -1 ∨ Y = 0 ∨ Y = 1) (hZ : Z = -1 ∨ Z = 0 ∨ Z = 1)
    (h1 : X ≤ 0 → Y ≤ 0 → Z ≤ 0) (h2 : X < 0 → Y ≤ 0 → Z < 0) (e0 : X = 0 → (a.toList == b.toList) = true) (e1 : X ≠ 0 → (a.toList == b.toList) = false)
    (k1 : OkCall 12 a c p) (k2 : OkCall 12 b c q) (k3 : OkCall 15 p c a) (k4 : OkComp p q X) :
    Calls Tryd.prog 4 #[.string a, .string b, .string c] w fun e w' => e = .returned (.bool true) ∧ Below w.heap.size w w' := by
  have H_hf := hide hf
  clear hf
  have H_va := hide va
  clear va
  have H_vb := hide vb
  clear vb
  have H_vc := hide vc
  clear vc
  have H_kxy := hide kxy
  clear kxy
  have H_kyz := hide kyz
  clear kyz
  have H_kxz := hide kxz
  clear kxz
  have H_kyx := hide kyx
  clear kyx
  have H_hN := hide hN
  clear hN
  have H_hX := hide hX
  clear hX
  have H_hY := hide hY
  clear hY
  have H_hZ := hide hZ
  clear hZ
  have H_h1 := hide h1
  clear h1
  have H_h2 := hide h2
  clear h2
  have H_e0 := hide e0
  clear e0
  have H_e1 := hide e1
  clear e1
  have H_k1 := hide k1
  clear k1
  have H_k2 := hide k2
  clear k2
  have H_k3 := hide k3
  clear k3
  have H_k4 := hide k4
  clear k4
  have HB0 : Hid (Below w.heap.size w w) := Below.refl _ _
  have HW := hide hw
  clear hw
  go_enter Tryd.func4, Tryd.ntmps4
  go_wp2_with fail
  refine (law03_head _ (HW.out.below HB0.out)).mono ?_
  rintro e w1 ⟨rfl, hb⟩
  have HB1 := hide (bStep HB0.out hb)
  clear hb
  go_wp2_with fail
  refine (law03_few [a, b, c] _ _ (few3_slice _ a b c _) (by simp)).mono ?_
  rintro e w2 ⟨rfl, rfl⟩
  rw [H_hf.out]
  have HB2 := hide (bAlloc HB1.out (.cells #[.string a, .string b, .string c] 22))
  go_wp2_with fail
  refine (H_va.out _).mono ?_
  rintro e w3 ⟨rfl, hb⟩
  have HB3 := hide (bStep HB2.out hb)
  clear hb
  go_wp2_with fail
  refine (H_vb.out _).mono ?_
  rintro e w4 ⟨rfl, hb⟩
  have HB4 := hide (bStep HB3.out hb)
  clear hb
  go_wp2_with fail
  refine (H_vc.out _).mono ?_
  rintro e w5 ⟨rfl, hb⟩
  have HB5 := hide (bStep HB4.out hb)
  clear hb
  go_wp2_with fail
  refine (H_kxy.out _).mono ?_
  rintro e w6 ⟨rfl, hb⟩
  have HB6 := hide (bStep HB5.out hb)
  clear hb
  go_wp2_with fail
  refine (H_kyz.out _).mono ?_
  rintro e w7 ⟨rfl, hb⟩
  have HB7 := hide (bStep HB6.out hb)
  clear hb
  go_wp2_with fail
  refine (H_kxz.out _).mono ?_
  rintro e w8 ⟨rfl, hb⟩
  have HB8 := hide (bStep HB7.out hb)
  clear hb
  go_wp2_with fail
  refine (H_kyx.out _).mono ?_
  rintro e w9 ⟨rfl, hb⟩
  have HB9 := hide (bStep HB8.out hb)
  clear hb
  have HALL : Hid ((X = -1 ∧ Y = -1 ∧ Z = -1) ∨ (X = -1 ∧ Y = 0 ∧ Z = -1) ∨ (X = -1 ∧ Y = 1 ∧ Z = -1) ∨ (X = -1 ∧ Y = 1 ∧ Z = 0) ∨ (X = -1 ∧ Y = 1 ∧ Z = 1) ∨ (X = 0 ∧ Y = -1 ∧ Z = -1) ∨ (X = 0 ∧ Y = -1 ∧ Z = 0) ∨ (X = 0 ∧ Y = 0 ∧ Z = -1) ∨ (X = 0 ∧ Y = 0 ∧ Z = 0) ∨ (X = 0 ∧ Y = 1 ∧ Z = -1) ∨ (X = 0 ∧ Y = 1 ∧ Z = 0) ∨ (X = 0 ∧ Y = 1 ∧ Z = 1) ∨ (X = 1 ∧ Y = -1 ∧ Z = -1) ∨ (X = 1 ∧ Y = -1 ∧ Z = 0) ∨ (X = 1 ∧ Y = -1 ∧ Z = 1) ∨ (X = 1 ∧ Y = 0 ∧ Z = -1) ∨ (X = 1 ∧ Y = 0 ∧ Z = 0) ∨ (X = 1 ∧ Y = 0 ∧ Z = 1) ∨ (X = 1 ∧ Y = 1 ∧ Z = -1) ∨ (X = 1 ∧ Y = 1 ∧ Z = 0) ∨ (X = 1 ∧ Y = 1 ∧ Z = 1)) := by
    have a4 := H_h1.out
    have a5 := H_h2.out
    rcases H_hX.out with rfl | rfl | rfl <;> rcases H_hY.out with rfl | rfl | rfl <;> rcases H_hZ.out with rfl | rfl | rfl <;> first
      | exact absurd (a4 (by decide) (by decide)) (by decide)
      | exact absurd (a5 (by decide) (by decide)) (by decide)
      | exact hide (by decide)
  have HEQ : Hid (∀ t : Bool, t = decide (X = 0) → (a.toList == b.toList) = t) := fun t ht => by
    by_cases h : X = 0
    · rw [ht, H_e0.out h]; simp [h]
    · rw [ht, H_e1.out h]; simp [h]
  clear H_e0 H_e1 H_h1 H_h2 H_hX H_hY H_hZ
  rcases HALL.out with ⟨rfl, rfl, rfl⟩ | ⟨rfl, rfl, rfl⟩ | ⟨rfl, rfl, rfl⟩ | ⟨rfl, rfl, rfl⟩ | ⟨rfl, rfl, rfl⟩ | ⟨rfl, rfl, rfl⟩ | ⟨rfl, rfl, rfl⟩ | ⟨rfl, rfl, rfl⟩ | ⟨rfl, rfl, rfl⟩ | ⟨rfl, rfl, rfl⟩ | ⟨rfl, rfl, rfl⟩ | ⟨rfl, rfl, rfl⟩ | ⟨rfl, rfl, rfl⟩ | ⟨rfl, rfl, rfl⟩ | ⟨rfl, rfl, rfl⟩ | ⟨rfl, rfl, rfl⟩ | ⟨rfl, rfl, rfl⟩ | ⟨rfl, rfl, rfl⟩ | ⟨rfl, rfl, rfl⟩ | ⟨rfl, rfl, rfl⟩ | ⟨rfl, rfl, rfl⟩
  · obtain rfl : NX = 1 := by have := H_hN.out; omega
    have hq : (a.toList == b.toList) = false := HEQ.out _ (by simp)
    clear HALL HEQ
    go_wp2_with fail
    refine (H_k1.out _ (HW.out.below HB9.out)).mono ?_
    rintro e w10 ⟨rfl, hb⟩
    have HB10 := hide (bStep HB9.out hb)
    clear hb
    go_wp2_with fail
    refine (H_k2.out _ (HW.out.below HB10.out)).mono ?_
    rintro e w11 ⟨rfl, hb⟩
    have HB11 := hide (bStep HB10.out hb)
    clear hb
    go_wp2_with fail
    refine (H_k3.out _ (HW.out.below HB11.out)).mono ?_
    rintro e w12 ⟨rfl, hb⟩
    have HB12 := hide (bStep HB11.out hb)
    clear hb
    go_wp2_with fail
    refine (H_k4.out _).mono ?_
    rintro e w13 ⟨rfl, hb⟩
    have HB13 := hide (bStep HB12.out hb)
    clear hb
    go_wp2_with fail
    go_ret
    exact ⟨rfl, HB13.out⟩
  · obtain rfl : NX = 1 := by have := H_hN.out; omega
    have hq : (a.toList == b.toList) = false := HEQ.out _ (by simp)
    clear HALL HEQ
    go_wp2_with fail
    refine (H_k1.out _ (HW.out.below HB9.out)).mono ?_
    rintro e w10 ⟨rfl, hb⟩
    have HB10 := hide (bStep HB9.out hb)
    clear hb
    go_wp2_with fail
    refine (H_k2.out _ (HW.out.below HB10.out)).mono ?_
    rintro e w11 ⟨rfl, hb⟩
    have HB11 := hide (bStep HB10.out hb)
    clear hb
    go_wp2_with fail
    refine (H_k3.out _ (HW.out.below HB11.out)).mono ?_
    rintro e w12 ⟨rfl, hb⟩
    have HB12 := hide (bStep HB11.out hb)
    clear hb
    go_wp2_with fail
    refine (H_k4.out _).mono ?_
    rintro e w13 ⟨rfl, hb⟩
    have HB13 := hide (bStep HB12.out hb)
    clear hb
    go_wp2_with fail
    go_ret
    exact ⟨rfl, HB13.out⟩
  · obtain rfl : NX = 1 := by have := H_hN.out; omega
    have hq : (a.toList == b.toList) = false := HEQ.out _ (by simp)
    clear HALL HEQ
    go_wp2_with fail
    refine (H_k1.out _ (HW.out.below HB9.out)).mono ?_
    rintro e w10 ⟨rfl, hb⟩
    have HB10 := hide (bStep HB9.out hb)
    clear hb
    go_wp2_with fail
    refine (H_k2.out _ (HW.out.below HB10.out)).mono ?_
    rintro e w11 ⟨rfl, hb⟩
    have HB11 := hide (bStep HB10.out hb)
    clear hb
    go_wp2_with fail
    refine (H_k3.out _ (HW.out.below HB11.out)).mono ?_
    rintro e w12 ⟨rfl, hb⟩
    have HB12 := hide (bStep HB11.out hb)
    clear hb
    go_wp2_with fail
    refine (H_k4.out _).mono ?_
    rintro e w13 ⟨rfl, hb⟩
    have HB13 := hide (bStep HB12.out hb)
    clear hb
    go_wp2_with fail
    go_ret
    exact ⟨rfl, HB13.out⟩
  · obtain rfl : NX = 1 := by have := H_hN.out; omega
    have hq : (a.toList == b.toList) = false := HEQ.out _ (by simp)
    clear HALL HEQ
    go_wp2_with fail
    refine (H_k1.out _ (HW.out.below HB9.out)).mono ?_
    rintro e w10 ⟨rfl, hb⟩
    have HB10 := hide (bStep HB9.out hb)
    clear hb
    go_wp2_with fail
    refine (H_k2.out _ (HW.out.below HB10.out)).mono ?_
    rintro e w11 ⟨rfl, hb⟩
    have HB11 := hide (bStep HB10.out hb)
    clear hb
    go_wp2_with fail
    refine (H_k3.out _ (HW.out.below HB11.out)).mono ?_
    rintro e w12 ⟨rfl, hb⟩
    have HB12 := hide (bStep HB11.out hb)
    clear hb
    go_wp2_with fail
    refine (H_k4.out _).mono ?_
    rintro e w13 ⟨rfl, hb⟩
    have HB13 := hide (bStep HB12.out hb)
    clear hb
    go_wp2_with fail
    go_ret
    exact ⟨rfl, HB13.out⟩
  · obtain rfl : NX = 1 := by have := H_hN.out; omega
    have hq : (a.toList == b.toList) = false := HEQ.out _ (by simp)
    clear HALL HEQ
    go_wp2_with fail
    refine (H_k1.out _ (HW.out.below HB9.out)).mono ?_
    rintro e w10 ⟨rfl, hb⟩
    have HB10 := hide (bStep HB9.out hb)
    clear hb
    go_wp2_with fail
    refine (H_k2.out _ (HW.out.below HB10.out)).mono ?_
    rintro e w11 ⟨rfl, hb⟩
    have HB11 := hide (bStep HB10.out hb)
    clear hb
    go_wp2_with fail
    refine (H_k3.out _ (HW.out.below HB11.out)).mono ?_
    rintro e w12 ⟨rfl, hb⟩
    have HB12 := hide (bStep HB11.out hb)
    clear hb
    go_wp2_with fail
    refine (H_k4.out _).mono ?_
    rintro e w13 ⟨rfl, hb⟩
    have HB13 := hide (bStep HB12.out hb)
    clear hb
    go_wp2_with fail
    go_ret
    exact ⟨rfl, HB13.out⟩
  · obtain rfl : NX = 0 := by have := H_hN.out; omega
    have hq : (a.toList == b.toList) = true := HEQ.out _ (by simp)
    clear HALL HEQ
    go_wp2_with fail
    refine (H_k1.out _ (HW.out.below HB9.out)).mono ?_
    rintro e w10 ⟨rfl, hb⟩
    have HB10 := hide (bStep HB9.out hb)
    clear hb
    go_wp2_with fail
    refine (H_k2.out _ (HW.out.below HB10.out)).mono ?_
    rintro e w11 ⟨rfl, hb⟩
    have HB11 := hide (bStep HB10.out hb)
    clear hb
    go_wp2_with fail
    refine (H_k3.out _ (HW.out.below HB11.out)).mono ?_
    rintro e w12 ⟨rfl, hb⟩
    have HB12 := hide (bStep HB11.out hb)
    clear hb
    go_wp2_with fail
    refine (H_k4.out _).mono ?_
    rintro e w13 ⟨rfl, hb⟩
    have HB13 := hide (bStep HB12.out hb)
    clear hb
    go_wp2_with fail
    go_ret
    exact ⟨rfl, HB13.out⟩
  · obtain rfl : NX = 0 := by have := H_hN.out; omega
    have hq : (a.toList == b.toList) = true := HEQ.out _ (by simp)
    clear HALL HEQ
    go_wp2_with fail
    refine (H_k1.out _ (HW.out.below HB9.out)).mono ?_
    rintro e w10 ⟨rfl, hb⟩
    have HB10 := hide (bStep HB9.out hb)
    clear hb
    go_wp2_with fail
    refine (H_k2.out _ (HW.out.below HB10.out)).mono ?_
    rintro e w11 ⟨rfl, hb⟩
    have HB11 := hide (bStep HB10.out hb)
    clear hb
    go_wp2_with fail
    refine (H_k3.out _ (HW.out.below HB11.out)).mono ?_
    rintro e w12 ⟨rfl, hb⟩
    have HB12 := hide (bStep HB11.out hb)
    clear hb
    go_wp2_with fail
    refine (H_k4.out _).mono ?_
    rintro e w13 ⟨rfl, hb⟩
    have HB13 := hide (bStep HB12.out hb)
    clear hb
    go_wp2_with fail
    go_ret
    exact ⟨rfl, HB13.out⟩
  · obtain rfl : NX = 0 := by have := H_hN.out; omega
    have hq : (a.toList == b.toList) = true := HEQ.out _ (by simp)
    clear HALL HEQ
    go_wp2_with fail
    refine (H_k1.out _ (HW.out.below HB9.out)).mono ?_
    rintro e w10 ⟨rfl, hb⟩
    have HB10 := hide (bStep HB9.out hb)
    clear hb
    go_wp2_with fail
    refine (H_k2.out _ (HW.out.below HB10.out)).mono ?_
    rintro e w11 ⟨rfl, hb⟩
    have HB11 := hide (bStep HB10.out hb)
    clear hb
    go_wp2_with fail
    refine (H_k3.out _ (HW.out.below HB11.out)).mono ?_
    rintro e w12 ⟨rfl, hb⟩
    have HB12 := hide (bStep HB11.out hb)
    clear hb
    go_wp2_with fail
    refine (H_k4.out _).mono ?_
    rintro e w13 ⟨rfl, hb⟩
    have HB13 := hide (bStep HB12.out hb)
    clear hb
    go_wp2_with fail
    go_ret
    exact ⟨rfl, HB13.out⟩
  · obtain rfl : NX = 0 := by have := H_hN.out; omega
    have hq : (a.toList == b.toList) = true := HEQ.out _ (by simp)
    clear HALL HEQ
    go_wp2_with fail
    refine (H_k1.out _ (HW.out.below HB9.out)).mono ?_
    rintro e w10 ⟨rfl, hb⟩
    have HB10 := hide (bStep HB9.out hb)
    clear hb
    go_wp2_with fail
    refine (H_k2.out _ (HW.out.below HB10.out)).mono ?_
    rintro e w11 ⟨rfl, hb⟩
    have HB11 := hide (bStep HB10.out hb)
    clear hb
    go_wp2_with fail
    refine (H_k3.out _ (HW.out.below HB11.out)).mono ?_
    rintro e w12 ⟨rfl, hb⟩
    have HB12 := hide (bStep HB11.out hb)
    clear hb
    go_wp2_with fail
    refine (H_k4.out _).mono ?_
    rintro e w13 ⟨rfl, hb⟩
    have HB13 := hide (bStep HB12.out hb)
    clear hb
    go_wp2_with fail
    go_ret
    exact ⟨rfl, HB13.out⟩
  · obtain rfl : NX = 0 := by have := H_hN.out; omega
    have hq : (a.toList == b.toList) = true := HEQ.out _ (by simp)
    clear HALL HEQ
    go_wp2_with fail
    refine (H_k1.out _ (HW.out.below HB9.out)).mono ?_
    rintro e w10 ⟨rfl, hb⟩
    have HB10 := hide (bStep HB9.out hb)
    clear hb
    go_wp2_with fail
    refine (H_k2.out _ (HW.out.below HB10.out)).mono ?_
    rintro e w11 ⟨rfl, hb⟩
    have HB11 := hide (bStep HB10.out hb)
    clear hb
    go_wp2_with fail
    refine (H_k3.out _ (HW.out.below HB11.out)).mono ?_
    rintro e w12 ⟨rfl, hb⟩
    have HB12 := hide (bStep HB11.out hb)
    clear hb
    go_wp2_with fail
    refine (H_k4.out _).mono ?_
    rintro e w13 ⟨rfl, hb⟩
    have HB13 := hide (bStep HB12.out hb)
    clear hb
    go_wp2_with fail
    go_ret
    exact ⟨rfl, HB13.out⟩
  · obtain rfl : NX = 0 := by have := H_hN.out; omega
    have hq : (a.toList == b.toList) = true := HEQ.out _ (by simp)
    clear HALL HEQ
    go_wp2_with fail
    refine (H_k1.out _ (HW.out.below HB9.out)).mono ?_
    rintro e w10 ⟨rfl, hb⟩
    have HB10 := hide (bStep HB9.out hb)
    clear hb
    go_wp2_with fail
    refine (H_k2.out _ (HW.out.below HB10.out)).mono ?_
    rintro e w11 ⟨rfl, hb⟩
    have HB11 := hide (bStep HB10.out hb)
    clear hb
    go_wp2_with fail
    refine (H_k3.out _ (HW.out.below HB11.out)).mono ?_
    rintro e w12 ⟨rfl, hb⟩
    have HB12 := hide (bStep HB11.out hb)
    clear hb
    go_wp2_with fail
    refine (H_k4.out _).mono ?_
    rintro e w13 ⟨rfl, hb⟩
    have HB13 := hide (bStep HB12.out hb)
    clear hb
    go_wp2_with fail
    go_ret
    exact ⟨rfl, HB13.out⟩
  · obtain rfl : NX = 0 := by have := H_hN.out; omega
    have hq : (a.toList == b.toList) = true := HEQ.out _ (by simp)
    clear HALL HEQ
    go_wp2_with fail
    refine (H_k1.out _ (HW.out.below HB9.out)).mono ?_
    rintro e w10 ⟨rfl, hb⟩
    have HB10 := hide (bStep HB9.out hb)
    clear hb
    go_wp2_with fail
    refine (H_k2.out _ (HW.out.below HB10.out)).mono ?_
    rintro e w11 ⟨rfl, hb⟩
    have HB11 := hide (bStep HB10.out hb)
    clear hb
    go_wp2_with fail
    refine (H_k3.out _ (HW.out.below HB11.out)).mono ?_
    rintro e w12 ⟨rfl, hb⟩
    have HB12 := hide (bStep HB11.out hb)
    clear hb
    go_wp2_with fail
    refine (H_k4.out _).mono ?_
    rintro e w13 ⟨rfl, hb⟩
    have HB13 := hide (bStep HB12.out hb)
    clear hb
    go_wp2_with fail
    go_ret
    exact ⟨rfl, HB13.out⟩
  · obtain rfl : NX = -1 := by have := H_hN.out; omega
    have hq : (a.toList == b.toList) = false := HEQ.out _ (by simp)
    clear HALL HEQ
    go_wp2_with fail
    refine (H_k1.out _ (HW.out.below HB9.out)).mono ?_
    rintro e w10 ⟨rfl, hb⟩
    have HB10 := hide (bStep HB9.out hb)
    clear hb
    go_wp2_with fail
    refine (H_k2.out _ (HW.out.below HB10.out)).mono ?_
    rintro e w11 ⟨rfl, hb⟩
    have HB11 := hide (bStep HB10.out hb)
    clear hb
    go_wp2_with fail
    refine (H_k3.out _ (HW.out.below HB11.out)).mono ?_
    rintro e w12 ⟨rfl, hb⟩
    have HB12 := hide (bStep HB11.out hb)
    clear hb
    go_wp2_with fail
    refine (H_k4.out _).mono ?_
    rintro e w13 ⟨rfl, hb⟩
    have HB13 := hide (bStep HB12.out hb)
    clear hb
    go_wp2_with fail
    go_ret
    exact ⟨rfl, HB13.out⟩
  · obtain rfl : NX = -1 := by have := H_hN.out; omega
    have hq : (a.toList == b.toList) = false := HEQ.out _ (by simp)
    clear HALL HEQ
    go_wp2_with fail
    refine (H_k1.out _ (HW.out.below HB9.out)).mono ?_
    rintro e w10 ⟨rfl, hb⟩
    have HB10 := hide (bStep HB9.out hb)
    clear hb
    go_wp2_with fail
    refine (H_k2.out _ (HW.out.below HB10.out)).mono ?_
    rintro e w11 ⟨rfl, hb⟩
    have HB11 := hide (bStep HB10.out hb)
    clear hb
    go_wp2_with fail
    refine (H_k3.out _ (HW.out.below HB11.out)).mono ?_
    rintro e w12 ⟨rfl, hb⟩
    have HB12 := hide (bStep HB11.out hb)
    clear hb
    go_wp2_with fail
    refine (H_k4.out _).mono ?_
    rintro e w13 ⟨rfl, hb⟩
    have HB13 := hide (bStep HB12.out hb)
    clear hb
    go_wp2_with fail
    go_ret
    exact ⟨rfl, HB13.out⟩
  · obtain rfl : NX = -1 := by have := H_hN.out; omega
    have hq : (a.toList == b.toList) = false := HEQ.out _ (by simp)
    clear HALL HEQ
    go_wp2_with fail
    refine (H_k1.out _ (HW.out.below HB9.out)).mono ?_
    rintro e w10 ⟨rfl, hb⟩
    have HB10 := hide (bStep HB9.out hb)
    clear hb
    go_wp2_with fail
    refine (H_k2.out _ (HW.out.below HB10.out)).mono ?_
    rintro e w11 ⟨rfl, hb⟩
    have HB11 := hide (bStep HB10.out hb)
    clear hb
    go_wp2_with fail
    refine (H_k3.out _ (HW.out.below HB11.out)).mono ?_
    rintro e w12 ⟨rfl, hb⟩
    have HB12 := hide (bStep HB11.out hb)
    clear hb
    go_wp2_with fail
    refine (H_k4.out _).mono ?_
    rintro e w13 ⟨rfl, hb⟩
    have HB13 := hide (bStep HB12.out hb)
    clear hb
    go_wp2_with fail
    go_ret
    exact ⟨rfl, HB13.out⟩
  · obtain rfl : NX = -1 := by have := H_hN.out; omega
    have hq : (a.toList == b.toList) = false := HEQ.out _ (by simp)
    clear HALL HEQ
    go_wp2_with fail
    refine (H_k1.out _ (HW.out.below HB9.out)).mono ?_
    rintro e w10 ⟨rfl, hb⟩
    have HB10 := hide (bStep HB9.out hb)
    clear hb
    go_wp2_with fail
    refine (H_k2.out _ (HW.out.below HB10.out)).mono ?_
    rintro e w11 ⟨rfl, hb⟩
    have HB11 := hide (bStep HB10.out hb)
    clear hb
    go_wp2_with fail
    refine (H_k3.out _ (HW.out.below HB11.out)).mono ?_
    rintro e w12 ⟨rfl, hb⟩
    have HB12 := hide (bStep HB11.out hb)
    clear hb
    go_wp2_with fail
    refine (H_k4.out _).mono ?_
    rintro e w13 ⟨rfl, hb⟩
    have HB13 := hide (bStep HB12.out hb)
    clear hb
    go_wp2_with fail
    go_ret
    exact ⟨rfl, HB13.out⟩
  · obtain rfl : NX = -1 := by have := H_hN.out; omega
    have hq : (a.toList == b.toList) = false := HEQ.out _ (by simp)
    clear HALL HEQ
    go_wp2_with fail
    refine (H_k1.out _ (HW.out.below HB9.out)).mono ?_
    rintro e w10 ⟨rfl, hb⟩
    have HB10 := hide (bStep HB9.out hb)
    clear hb
    go_wp2_with fail
    refine (H_k2.out _ (HW.out.below HB10.out)).mono ?_
    rintro e w11 ⟨rfl, hb⟩
    have HB11 := hide (bStep HB10.out hb)
    clear hb
    go_wp2_with fail
    refine (H_k3.out _ (HW.out.below HB11.out)).mono ?_
    rintro e w12 ⟨rfl, hb⟩
    have HB12 := hide (bStep HB11.out hb)
    clear hb
    go_wp2_with fail
    refine (H_k4.out _).mono ?_
    rintro e w13 ⟨rfl, hb⟩
    have HB13 := hide (bStep HB12.out hb)
    clear hb
    go_wp2_with fail
    go_ret
    exact ⟨rfl, HB13.out⟩
  · obtain rfl : NX = -1 := by have := H_hN.out; omega
    have hq : (a.toList == b.toList) = false := HEQ.out _ (by simp)
    clear HALL HEQ
    go_wp2_with fail
    refine (H_k1.out _ (HW.out.below HB9.out)).mono ?_
    rintro e w10 ⟨rfl, hb⟩
    have HB10 := hide (bStep HB9.out hb)
    clear hb
    go_wp2_with fail
    refine (H_k2.out _ (HW.out.below HB10.out)).mono ?_
    rintro e w11 ⟨rfl, hb⟩
    have HB11 := hide (bStep HB10.out hb)
    clear hb
    go_wp2_with fail
    refine (H_k3.out _ (HW.out.below HB11.out)).mono ?_
    rintro e w12 ⟨rfl, hb⟩
    have HB12 := hide (bStep HB11.out hb)
    clear hb
    go_wp2_with fail
    refine (H_k4.out _).mono ?_
    rintro e w13 ⟨rfl, hb⟩
    have HB13 := hide (bStep HB12.out hb)
    clear hb
    go_wp2_with fail
    go_ret
    exact ⟨rfl, HB13.out⟩
  · obtain rfl : NX = -1 := by have := H_hN.out; omega
    have hq : (a.toList == b.toList) = false := HEQ.out _ (by simp)
    clear HALL HEQ
    go_wp2_with fail
    refine (H_k1.out _ (HW.out.below HB9.out)).mono ?_
    rintro e w10 ⟨rfl, hb⟩
    have HB10 := hide (bStep HB9.out hb)
    clear hb
    go_wp2_with fail
    refine (H_k2.out _ (HW.out.below HB10.out)).mono ?_
    rintro e w11 ⟨rfl, hb⟩
    have HB11 := hide (bStep HB10.out hb)
    clear hb
    go_wp2_with fail
    refine (H_k3.out _ (HW.out.below HB11.out)).mono ?_
    rintro e w12 ⟨rfl, hb⟩
    have HB12 := hide (bStep HB11.out hb)
    clear hb
    go_wp2_with fail
    refine (H_k4.out _).mono ?_
    rintro e w13 ⟨rfl, hb⟩
    have HB13 := hide (bStep HB12.out hb)
    clear hb
    go_wp2_with fail
    go_ret
    exact ⟨rfl, HB13.out⟩
  · obtain rfl : NX = -1 := by have := H_hN.out; omega
    have hq : (a.toList == b.toList) = false := HEQ.out _ (by simp)
    clear HALL HEQ
    go_wp2_with fail
    refine (H_k1.out _ (HW.out.below HB9.out)).mono ?_
    rintro e w10 ⟨rfl, hb⟩
    have HB10 := hide (bStep HB9.out hb)
    clear hb
    go_wp2_with fail
    refine (H_k2.out _ (HW.out.below HB10.out)).mono ?_
    rintro e w11 ⟨rfl, hb⟩
    have HB11 := hide (bStep HB10.out hb)
    clear hb
    go_wp2_with fail
    refine (H_k3.out _ (HW.out.below HB11.out)).mono ?_
    rintro e w12 ⟨rfl, hb⟩
    have HB12 := hide (bStep HB11.out hb)
    clear hb
    go_wp2_with fail
    refine (H_k4.out _).mono ?_
    rintro e w13 ⟨rfl, hb⟩
    have HB13 := hide (bStep HB12.out hb)
    clear hb
    go_wp2_with fail
    go_ret
    exact ⟨rfl, HB13.out⟩
  · obtain rfl : NX = -1 := by have := H_hN.out; omega
    have hq : (a.toList == b.toList) = false := HEQ.out _ (by simp)
    clear HALL HEQ
    go_wp2_with fail
    refine (H_k1.out _ (HW.out.below HB9.out)).mono ?_
    rintro e w10 ⟨rfl, hb⟩
    have HB10 := hide (bStep HB9.out hb)
    clear hb
    go_wp2_with fail
    refine (H_k2.out _ (HW.out.below HB10.out)).mono ?_
    rintro e w11 ⟨rfl, hb⟩
    have HB11 := hide (bStep HB10.out hb)
    clear hb
    go_wp2_with fail
    refine (H_k3.out _ (HW.out.below HB11.out)).mono ?_
    rintro e w12 ⟨rfl, hb⟩
    have HB12 := hide (bStep HB11.out hb)
    clear hb
    go_wp2_with fail
    refine (H_k4.out _).mono ?_
    rintro e w13 ⟨rfl, hb⟩
    have HB13 := hide (bStep HB12.out hb)
    clear hb
    go_wp2_with fail
    go_ret
    exact ⟨rfl, HB13.out⟩
theorem cmpN_cases (x y : Nat) : cmpN x y = -1 ∨ cmpN x y = 0 ∨ cmpN x y = 1 := by
  rcases Nat.lt_trichotomy x y with h | h | h
  · exact .inl (cmpN_lt h)
  · subst h; exact .inr (.inl (cmpN_eq x))
  · exact .inr (.inr (cmpN_gt h))
theorem cmpN_zero {x y : Nat} : cmpN x y = 0 ↔ x = y := by
  rcases Nat.lt_trichotomy x y with h | h | h
  · rw [cmpN_lt h]; omega
  · subst h; rw [cmpN_eq]; simp
  · rw [cmpN_gt h]; omega
theorem cmpN_swap (x y : Nat) : cmpN y x = - cmpN x y := by
  rcases Nat.lt_trichotomy x y with h | h | h
  · rw [cmpN_lt h, cmpN_gt h]; rfl
  · subst h; rw [cmpN_eq]; rfl
  · rw [cmpN_gt h, cmpN_lt h]
theorem cmpN_add (x y z : Nat) : cmpN (x + z) (y + z) = cmpN x y := by
  rcases Nat.lt_trichotomy x y with h | h | h
  · rw [cmpN_lt h, cmpN_lt (by omega)]
  · subst h; rw [cmpN_eq, cmpN_eq]
  · rw [cmpN_gt h, cmpN_gt (by omega)]
theorem naturalOrder_walk (a b c : ByteArray) (w : World) (ma : a.size ≤ maxLen) (mb : b.size ≤ maxLen) (mc : c.size ≤ maxLen) (hw : LawW w) :
    Calls Tryd.prog 4 #[.string a, .string b, .string c] w fun e w' => e = .returned (.bool true) ∧ Below w.heap.size w w' := by
  cases hf : fewB [a, b, c] with
  | false => exact order_out0 a b c w hw hf
  | true =>
    cases ha : vldN a with
    | false => exact order_out1 a b c w hw hf ha ma
    | true =>
      cases hb : vldN b with
      | false => exact order_out2 a b c w hw hf ha ma hb mb
      | true =>
        cases hc : vldN c with
        | false => exact order_out3 a b c w hw hf ha ma hb mb hc mc
        | true =>
          obtain ⟨x, y, z, rfl, rfl, rfl, hx, hy, hz⟩ := few3_nat hf ha hb hc
          have cx := to_capN hx (by decide)
          have cy := to_capN hy (by decide)
          have cz := to_capN hz (by decide)
          have cxz := to_capN (add_capK hx hz) (by decide)
          have cyz := to_capN (add_capK hy hz) (by decide)
          have hc4 := ok_comp cxz cyz
          rw [cmpN_add] at hc4
          refine order_core (natS x) (natS y) (natS z) (natS (x + z)) (natS (y + z)) (cmpN x y) (cmpN y z) (cmpN x z) (cmpN y x) w hw hf (ok_valid cx) (ok_valid cy) (ok_valid cz)
            (ok_comp cx cy) (ok_comp cy cz) (ok_comp cx cz) (ok_comp cy cx) (cmpN_swap x y) (cmpN_cases x y) (cmpN_cases y z) (cmpN_cases x z) ?_ ?_ ?_ ?_
            (ok_add cx cz rfl cxz) (ok_add cy cz rfl cyz) (ok_sub cxz cz rfl) hc4
          · intro h1 h2; have := cmpN_le.1 h1; have := cmpN_le.1 h2; exact cmpN_le.2 (by omega)
          · intro h1 h2; have := cmpN_neg.1 h1; have := cmpN_le.1 h2; exact cmpN_neg.2 (by omega)
          · intro h; have := cmpN_zero.1 h; subst this; simp
          · intro h; exact str_ne (t := natS y) (fun e => h (cmpN_zero.2 (natS_inj e))) (ByteArray.toList_eq _).symm
end Go.Proofs.YtbefdlncpobmlaaDoor
