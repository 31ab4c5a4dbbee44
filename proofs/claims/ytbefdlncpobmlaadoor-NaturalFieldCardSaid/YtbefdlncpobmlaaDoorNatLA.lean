/- NaturalField: the walk. -/
import Derived.Test.YtbefdlncpobmlaaDoorNatK
namespace Go.Proofs.YtbefdlncpobmlaaDoor
open Go.RowKit

set_option maxHeartbeats 4000000 in
set_option maxRecDepth 100000 in
theorem field_out0 (a b c : ByteArray) (w : World) (hw : LawW w) (hf : fewB [a, b, c] = false) :
    Calls Tryd.prog 3 #[.string a, .string b, .string c] w fun e w' => e = .returned (.bool true) ∧ Below w.heap.size w w' := by
  have HF := hide hf
  clear hf
  have HB0 : Hid (Below w.heap.size w w) := Below.refl _ _
  have HW := hide hw
  clear hw
  go_enter Tryd.func3, Tryd.ntmps3
  go_wp2_with fail
  refine (law03_head _ (HW.out.below HB0.out)).mono ?_
  rintro e w1 ⟨rfl, hb⟩
  have HB1 := hide (bStep HB0.out hb)
  clear hb
  go_wp2_with fail
  refine (law03_few [a, b, c] _ _ (few3_slice _ a b c _) (by simp)).mono ?_
  rintro e w2 ⟨rfl, rfl⟩
  rw [HF.out]
  have HB2 := hide (bAlloc HB1.out (.cells #[.string a, .string b, .string c] 22))
  go_wp2_with fail
  go_ret
  exact ⟨rfl, HB2.out⟩
set_option maxHeartbeats 4000000 in
set_option maxRecDepth 100000 in
theorem field_out1 (a b c : ByteArray) (w : World) (hw : LawW w) (hf : fewB [a, b, c] = true) (h0 : vldN a = false) (m0 : a.size ≤ maxLen) :
    Calls Tryd.prog 3 #[.string a, .string b, .string c] w fun e w' => e = .returned (.bool true) ∧ Below w.heap.size w w' := by
  have HF := hide hf
  clear hf
  have H0 := hide h0
  clear h0
  have HB0 : Hid (Below w.heap.size w w) := Below.refl _ _
  have HW := hide hw
  clear hw
  go_enter Tryd.func3, Tryd.ntmps3
  go_wp2_with fail
  refine (law03_head _ (HW.out.below HB0.out)).mono ?_
  rintro e w1 ⟨rfl, hb⟩
  have HB1 := hide (bStep HB0.out hb)
  clear hb
  go_wp2_with fail
  refine (law03_few [a, b, c] _ _ (few3_slice _ a b c _) (by simp)).mono ?_
  rintro e w2 ⟨rfl, rfl⟩
  rw [HF.out]
  have HB2 := hide (bAlloc HB1.out (.cells #[.string a, .string b, .string c] 22))
  go_wp2_with fail
  refine (valid_any a _ m0).mono ?_
  rintro e w3 ⟨rfl, hb⟩
  rw [H0.out]
  have HB3 := hide (bStep HB2.out hb)
  clear hb
  go_wp2_with fail
  go_ret
  exact ⟨rfl, HB3.out⟩
set_option maxHeartbeats 4000000 in
set_option maxRecDepth 100000 in
theorem field_out2 (a b c : ByteArray) (w : World) (hw : LawW w) (hf : fewB [a, b, c] = true) (h0 : vldN a = true) (m0 : a.size ≤ maxLen) (h1 : vldN b = false) (m1 : b.size ≤ maxLen) :
    Calls Tryd.prog 3 #[.string a, .string b, .string c] w fun e w' => e = .returned (.bool true) ∧ Below w.heap.size w w' := by
  have HF := hide hf
  clear hf
  have H0 := hide h0
  clear h0
  have H1 := hide h1
  clear h1
  have HB0 : Hid (Below w.heap.size w w) := Below.refl _ _
  have HW := hide hw
  clear hw
  go_enter Tryd.func3, Tryd.ntmps3
  go_wp2_with fail
  refine (law03_head _ (HW.out.below HB0.out)).mono ?_
  rintro e w1 ⟨rfl, hb⟩
  have HB1 := hide (bStep HB0.out hb)
  clear hb
  go_wp2_with fail
  refine (law03_few [a, b, c] _ _ (few3_slice _ a b c _) (by simp)).mono ?_
  rintro e w2 ⟨rfl, rfl⟩
  rw [HF.out]
  have HB2 := hide (bAlloc HB1.out (.cells #[.string a, .string b, .string c] 22))
  go_wp2_with fail
  refine (valid_any a _ m0).mono ?_
  rintro e w3 ⟨rfl, hb⟩
  rw [H0.out]
  have HB3 := hide (bStep HB2.out hb)
  clear hb
  go_wp2_with fail
  refine (valid_any b _ m1).mono ?_
  rintro e w4 ⟨rfl, hb⟩
  rw [H1.out]
  have HB4 := hide (bStep HB3.out hb)
  clear hb
  go_wp2_with fail
  go_ret
  exact ⟨rfl, HB4.out⟩
set_option maxHeartbeats 4000000 in
set_option maxRecDepth 100000 in
theorem field_out3 (a b c : ByteArray) (w : World) (hw : LawW w) (hf : fewB [a, b, c] = true) (h0 : vldN a = true) (m0 : a.size ≤ maxLen) (h1 : vldN b = true) (m1 : b.size ≤ maxLen) (h2 : vldN c = false) (m2 : c.size ≤ maxLen) :
    Calls Tryd.prog 3 #[.string a, .string b, .string c] w fun e w' => e = .returned (.bool true) ∧ Below w.heap.size w w' := by
  have HF := hide hf
  clear hf
  have H0 := hide h0
  clear h0
  have H1 := hide h1
  clear h1
  have H2 := hide h2
  clear h2
  have HB0 : Hid (Below w.heap.size w w) := Below.refl _ _
  have HW := hide hw
  clear hw
  go_enter Tryd.func3, Tryd.ntmps3
  go_wp2_with fail
  refine (law03_head _ (HW.out.below HB0.out)).mono ?_
  rintro e w1 ⟨rfl, hb⟩
  have HB1 := hide (bStep HB0.out hb)
  clear hb
  go_wp2_with fail
  refine (law03_few [a, b, c] _ _ (few3_slice _ a b c _) (by simp)).mono ?_
  rintro e w2 ⟨rfl, rfl⟩
  rw [HF.out]
  have HB2 := hide (bAlloc HB1.out (.cells #[.string a, .string b, .string c] 22))
  go_wp2_with fail
  refine (valid_any a _ m0).mono ?_
  rintro e w3 ⟨rfl, hb⟩
  rw [H0.out]
  have HB3 := hide (bStep HB2.out hb)
  clear hb
  go_wp2_with fail
  refine (valid_any b _ m1).mono ?_
  rintro e w4 ⟨rfl, hb⟩
  rw [H1.out]
  have HB4 := hide (bStep HB3.out hb)
  clear hb
  go_wp2_with fail
  refine (valid_any c _ m2).mono ?_
  rintro e w5 ⟨rfl, hb⟩
  rw [H2.out]
  have HB5 := hide (bStep HB4.out hb)
  clear hb
  go_wp2_with fail
  go_ret
  exact ⟨rfl, HB5.out⟩
set_option maxHeartbeats 4000000 in
set_option maxRecDepth 100000 in
theorem field_core (a b ab c bc s p r t ac u : ByteArray) (w : World) (hw : LawW w) (hf : fewB [a, b, c] = true) (va : OkValid a true) (vb : OkValid b true) (vc : OkValid c true) (k0 : OkCall 12 a b ab) (k1 : OkCall 12 b a ab) (k2 : OkCall 12 b c bc) (k3 : OkCall 12 ab c s) (k4 : OkCall 12 a bc s) (k5 : OkCall 13 a b p) (k6 : OkCall 13 b a p) (k7 : OkCall 13 b c r) (k8 : OkCall 13 p c t) (k9 : OkCall 13 a r t) (k10 : OkCall 13 a c ac) (k11 : OkCall 13 a bc u) (k12 : OkCall 12 p ac u) (k13 : OkCall 12 a ⟨#[48]⟩ a) (k14 : OkCall 13 a ⟨#[49]⟩ a) :
    Calls Tryd.prog 3 #[.string a, .string b, .string c] w fun e w' => e = .returned (.bool true) ∧ Below w.heap.size w w' := by
  have HF := hide hf
  have HVA := hide va
  have HVB := hide vb
  have HVC := hide vc
  clear hf va vb vc
  have K0 := hide k0
  clear k0
  have K1 := hide k1
  clear k1
  have K2 := hide k2
  clear k2
  have K3 := hide k3
  clear k3
  have K4 := hide k4
  clear k4
  have K5 := hide k5
  clear k5
  have K6 := hide k6
  clear k6
  have K7 := hide k7
  clear k7
  have K8 := hide k8
  clear k8
  have K9 := hide k9
  clear k9
  have K10 := hide k10
  clear k10
  have K11 := hide k11
  clear k11
  have K12 := hide k12
  clear k12
  have K13 := hide k13
  clear k13
  have K14 := hide k14
  clear k14
  have HB0 : Hid (Below w.heap.size w w) := Below.refl _ _
  have HW := hide hw
  clear hw
  go_enter Tryd.func3, Tryd.ntmps3
  go_wp2_with fail
  refine (law03_head _ (HW.out.below HB0.out)).mono ?_
  rintro e w1 ⟨rfl, hb⟩
  have HB1 := hide (bStep HB0.out hb)
  clear hb
  go_wp2_with fail
  refine (law03_few [a, b, c] _ _ (few3_slice _ a b c _) (by simp)).mono ?_
  rintro e w2 ⟨rfl, rfl⟩
  rw [HF.out]
  have HB2 := hide (bAlloc HB1.out (.cells #[.string a, .string b, .string c] 22))
  go_wp2_with fail
  refine (HVA.out _).mono ?_
  rintro e w3 ⟨rfl, hb⟩
  have HB3 := hide (bStep HB2.out hb)
  clear hb
  go_wp2_with fail
  refine (HVB.out _).mono ?_
  rintro e w4 ⟨rfl, hb⟩
  have HB4 := hide (bStep HB3.out hb)
  clear hb
  go_wp2_with fail
  refine (HVC.out _).mono ?_
  rintro e w5 ⟨rfl, hb⟩
  have HB5 := hide (bStep HB4.out hb)
  clear hb
  go_wp2_with fail
  refine (K0.out _ (HW.out.below HB5.out)).mono ?_
  rintro e w6 ⟨rfl, hb⟩
  have HB6 := hide (bStep HB5.out hb)
  clear hb
  go_wp2_with fail
  refine (K1.out _ (HW.out.below HB6.out)).mono ?_
  rintro e w7 ⟨rfl, hb⟩
  have HB7 := hide (bStep HB6.out hb)
  clear hb
  go_wp2_with fail
  refine (K2.out _ (HW.out.below HB7.out)).mono ?_
  rintro e w8 ⟨rfl, hb⟩
  have HB8 := hide (bStep HB7.out hb)
  clear hb
  go_wp2_with fail
  refine (K3.out _ (HW.out.below HB8.out)).mono ?_
  rintro e w9 ⟨rfl, hb⟩
  have HB9 := hide (bStep HB8.out hb)
  clear hb
  go_wp2_with fail
  refine (K4.out _ (HW.out.below HB9.out)).mono ?_
  rintro e w10 ⟨rfl, hb⟩
  have HB10 := hide (bStep HB9.out hb)
  clear hb
  go_wp2_with fail
  refine (K5.out _ (HW.out.below HB10.out)).mono ?_
  rintro e w11 ⟨rfl, hb⟩
  have HB11 := hide (bStep HB10.out hb)
  clear hb
  go_wp2_with fail
  refine (K6.out _ (HW.out.below HB11.out)).mono ?_
  rintro e w12 ⟨rfl, hb⟩
  have HB12 := hide (bStep HB11.out hb)
  clear hb
  go_wp2_with fail
  refine (K7.out _ (HW.out.below HB12.out)).mono ?_
  rintro e w13 ⟨rfl, hb⟩
  have HB13 := hide (bStep HB12.out hb)
  clear hb
  go_wp2_with fail
  refine (K8.out _ (HW.out.below HB13.out)).mono ?_
  rintro e w14 ⟨rfl, hb⟩
  have HB14 := hide (bStep HB13.out hb)
  clear hb
  go_wp2_with fail
  refine (K9.out _ (HW.out.below HB14.out)).mono ?_
  rintro e w15 ⟨rfl, hb⟩
  have HB15 := hide (bStep HB14.out hb)
  clear hb
  go_wp2_with fail
  refine (K10.out _ (HW.out.below HB15.out)).mono ?_
  rintro e w16 ⟨rfl, hb⟩
  have HB16 := hide (bStep HB15.out hb)
  clear hb
  go_wp2_with fail
  refine (K11.out _ (HW.out.below HB16.out)).mono ?_
  rintro e w17 ⟨rfl, hb⟩
  have HB17 := hide (bStep HB16.out hb)
  clear hb
  go_wp2_with fail
  refine (K12.out _ (HW.out.below HB17.out)).mono ?_
  rintro e w18 ⟨rfl, hb⟩
  have HB18 := hide (bStep HB17.out hb)
  clear hb
  go_wp2_with fail
  refine (K13.out _ (HW.out.below HB18.out)).mono ?_
  rintro e w19 ⟨rfl, hb⟩
  have HB19 := hide (bStep HB18.out hb)
  clear hb
  go_wp2_with fail
  refine (K14.out _ (HW.out.below HB19.out)).mono ?_
  rintro e w20 ⟨rfl, hb⟩
  have HB20 := hide (bStep HB19.out hb)
  clear hb
  go_wp2_with fail
  go_ret
  exact ⟨rfl, HB20.out⟩
theorem naturalField_walk (a b c : ByteArray) (w : World) (ma : a.size ≤ maxLen) (mb : b.size ≤ maxLen) (mc : c.size ≤ maxLen) (hw : LawW w) :
    Calls Tryd.prog 3 #[.string a, .string b, .string c] w fun e w' => e = .returned (.bool true) ∧ Below w.heap.size w w' := by
  cases hf : fewB [a, b, c] with
  | false => exact field_out0 a b c w hw hf
  | true =>
    cases ha : vldN a with
    | false => exact field_out1 a b c w hw hf ha ma
    | true =>
      cases hb : vldN b with
      | false => exact field_out2 a b c w hw hf ha ma hb mb
      | true =>
        cases hc : vldN c with
        | false => exact field_out3 a b c w hw hf ha ma hb mb hc mc
        | true =>
          obtain ⟨x, y, z, rfl, rfl, rfl, hx, hy, hz⟩ := few3_nat hf ha hb hc
          have cx := to_capN hx (by decide)
          have cy := to_capN hy (by decide)
          have cz := to_capN hz (by decide)
          have hxy := add_capK hx hy
          have hyz := add_capK hy hz
          have cxy := to_capN hxy (by decide)
          have cyz := to_capN hyz (by decide)
          have csum : x + (y + z) < capN := to_capN (add_capK (Nat.lt_of_lt_of_le hx (capK_le (by decide))) hyz) (by decide)
          have pxy := mul_capK hx hy
          have pyz := mul_capK hy hz
          have pxz := mul_capK hx hz
          have cp1 := to_capN pxy (by decide)
          have cp2 := to_capN pyz (by decide)
          have cp3 := to_capN pxz (by decide)
          have cp4 : x * (y * z) < capN := to_capN (mul_capK hx pyz) (by decide)
          have cp5 : x * (y + z) < capN := to_capN (mul_capK hx hyz) (by decide)
          have c0 : 0 < capN := capN_pos
          have c1 : 1 < capN := lit_cap (b := ⟨#[49]⟩) (by decide +kernel) (by decide +kernel)
          exact field_core (natS x) (natS y) (natS (x + y)) (natS z) (natS (y + z)) (natS (x + (y + z))) (natS (x * y)) (natS (y * z)) (natS (x * (y * z))) (natS (x * z)) (natS (x * (y + z))) w hw hf (ok_valid cx) (ok_valid cy) (ok_valid cz)
            (ok_add cx cy rfl cxy) (ok_add cy cx (Nat.add_comm y x) cxy) (ok_add cy cz rfl cyz) (ok_add cxy cz (Nat.add_assoc x y z) csum) (ok_add cx cyz rfl csum)
            (ok_mul cx cy rfl cp1) (ok_mul cy cx (Nat.mul_comm y x) cp1) (ok_mul cy cz rfl cp2) (ok_mul cp1 cz (Nat.mul_assoc x y z) cp4) (ok_mul cx cp2 rfl cp4) (ok_mul cx cz rfl cp3) (ok_mul cx cyz rfl cp5) (ok_add cp1 cp3 (Nat.mul_add x y z).symm cp5)
            (by rw [zero_lit]; exact ok_add cx c0 (Nat.add_zero x) cx) (by rw [one_lit]; exact ok_mul cx c1 (Nat.mul_one x) cx)
end Go.Proofs.YtbefdlncpobmlaaDoor
