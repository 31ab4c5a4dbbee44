/- NaturalDivides: the walk. -/
import Derived.Test.YtbefdlncpobmlaaDoorNatK
namespace Go.Proofs.YtbefdlncpobmlaaDoor
open Go.RowKit

set_option maxHeartbeats 4000000 in
set_option maxRecDepth 100000 in
theorem divides_out0 (q b r : ByteArray) (w : World) (hw : LawW w) (hf : fewB [q, b, r] = false) :
    Calls Tryd.prog 5 #[.string q, .string b, .string r] w fun e w' => e = .returned (.bool true) ∧ Below w.heap.size w w' := by
  have HF := hide hf
  clear hf
  have HB0 : Hid (Below w.heap.size w w) := Below.refl _ _
  have HW := hide hw
  clear hw
  go_enter Tryd.func5, Tryd.ntmps5
  go_wp2_with fail
  refine (law03_head _ (HW.out.below HB0.out)).mono ?_
  rintro e w1 ⟨rfl, hb⟩
  have HB1 := hide (bStep HB0.out hb)
  clear hb
  go_wp2_with fail
  refine (law03_few [q, b, r] _ _ (few3_slice _ q b r _) (by simp)).mono ?_
  rintro e w2 ⟨rfl, rfl⟩
  rw [HF.out]
  have HB2 := hide (bAlloc HB1.out (.cells #[.string q, .string b, .string r] 22))
  go_wp2_with fail
  go_ret
  exact ⟨rfl, HB2.out⟩
set_option maxHeartbeats 4000000 in
set_option maxRecDepth 100000 in
theorem divides_out1 (q b r : ByteArray) (w : World) (hw : LawW w) (hf : fewB [q, b, r] = true) (h0 : vldN q = false) (m0 : q.size ≤ maxLen) :
    Calls Tryd.prog 5 #[.string q, .string b, .string r] w fun e w' => e = .returned (.bool true) ∧ Below w.heap.size w w' := by
  have HF := hide hf
  clear hf
  have H0 := hide h0
  clear h0
  have HB0 : Hid (Below w.heap.size w w) := Below.refl _ _
  have HW := hide hw
  clear hw
  go_enter Tryd.func5, Tryd.ntmps5
  go_wp2_with fail
  refine (law03_head _ (HW.out.below HB0.out)).mono ?_
  rintro e w1 ⟨rfl, hb⟩
  have HB1 := hide (bStep HB0.out hb)
  clear hb
  go_wp2_with fail
  refine (law03_few [q, b, r] _ _ (few3_slice _ q b r _) (by simp)).mono ?_
  rintro e w2 ⟨rfl, rfl⟩
  rw [HF.out]
  have HB2 := hide (bAlloc HB1.out (.cells #[.string q, .string b, .string r] 22))
  go_wp2_with fail
  refine (valid_any q _ m0).mono ?_
  rintro e w3 ⟨rfl, hb⟩
  rw [H0.out]
  have HB3 := hide (bStep HB2.out hb)
  clear hb
  go_wp2_with fail
  go_ret
  exact ⟨rfl, HB3.out⟩
set_option maxHeartbeats 4000000 in
set_option maxRecDepth 100000 in
theorem divides_out2 (q b r : ByteArray) (w : World) (hw : LawW w) (hf : fewB [q, b, r] = true) (h0 : vldN q = true) (m0 : q.size ≤ maxLen) (h1 : vldN b = false) (m1 : b.size ≤ maxLen) :
    Calls Tryd.prog 5 #[.string q, .string b, .string r] w fun e w' => e = .returned (.bool true) ∧ Below w.heap.size w w' := by
  have HF := hide hf
  clear hf
  have H0 := hide h0
  clear h0
  have H1 := hide h1
  clear h1
  have HB0 : Hid (Below w.heap.size w w) := Below.refl _ _
  have HW := hide hw
  clear hw
  go_enter Tryd.func5, Tryd.ntmps5
  go_wp2_with fail
  refine (law03_head _ (HW.out.below HB0.out)).mono ?_
  rintro e w1 ⟨rfl, hb⟩
  have HB1 := hide (bStep HB0.out hb)
  clear hb
  go_wp2_with fail
  refine (law03_few [q, b, r] _ _ (few3_slice _ q b r _) (by simp)).mono ?_
  rintro e w2 ⟨rfl, rfl⟩
  rw [HF.out]
  have HB2 := hide (bAlloc HB1.out (.cells #[.string q, .string b, .string r] 22))
  go_wp2_with fail
  refine (valid_any q _ m0).mono ?_
  rintro e w3 ⟨rfl, hb⟩
  rw [H0.out]
  have HB3 := hide (bStep HB2.out hb)
  clear hb
  go_wp2_with fail
  refine (valid_any b _ m1).mono ?_
  rintro e w4 ⟨rfl, hb⟩
  rw [H1.out]
  have HB4 := hide (bStep HB3.out hb)
  clear hb
  go_wp2_with fail
  go_ret
  exact ⟨rfl, HB4.out⟩
set_option maxHeartbeats 4000000 in
set_option maxRecDepth 100000 in
theorem divides_out3 (q b r : ByteArray) (w : World) (hw : LawW w) (hf : fewB [q, b, r] = true) (h0 : vldN q = true) (m0 : q.size ≤ maxLen) (h1 : vldN b = true) (m1 : b.size ≤ maxLen) (h2 : vldN r = false) (m2 : r.size ≤ maxLen) :
    Calls Tryd.prog 5 #[.string q, .string b, .string r] w fun e w' => e = .returned (.bool true) ∧ Below w.heap.size w w' := by
  have HF := hide hf
  clear hf
  have H0 := hide h0
  clear h0
  have H1 := hide h1
  clear h1
  have H2 := hide h2
  clear h2
  have HB0 : Hid (Below w.heap.size w w) := Below.refl _ _
  have HW := hide hw
  clear hw
  go_enter Tryd.func5, Tryd.ntmps5
  go_wp2_with fail
  refine (law03_head _ (HW.out.below HB0.out)).mono ?_
  rintro e w1 ⟨rfl, hb⟩
  have HB1 := hide (bStep HB0.out hb)
  clear hb
  go_wp2_with fail
  refine (law03_few [q, b, r] _ _ (few3_slice _ q b r _) (by simp)).mono ?_
  rintro e w2 ⟨rfl, rfl⟩
  rw [HF.out]
  have HB2 := hide (bAlloc HB1.out (.cells #[.string q, .string b, .string r] 22))
  go_wp2_with fail
  refine (valid_any q _ m0).mono ?_
  rintro e w3 ⟨rfl, hb⟩
  rw [H0.out]
  have HB3 := hide (bStep HB2.out hb)
  clear hb
  go_wp2_with fail
  refine (valid_any b _ m1).mono ?_
  rintro e w4 ⟨rfl, hb⟩
  rw [H1.out]
  have HB4 := hide (bStep HB3.out hb)
  clear hb
  go_wp2_with fail
  refine (valid_any r _ m2).mono ?_
  rintro e w5 ⟨rfl, hb⟩
  rw [H2.out]
  have HB5 := hide (bStep HB4.out hb)
  clear hb
  go_wp2_with fail
  go_ret
  exact ⟨rfl, HB5.out⟩
set_option maxHeartbeats 4000000 in
set_option maxRecDepth 100000 in
theorem divides_out4 (q r : ByteArray) (w : World) (hw : LawW w) (hf : fewB [q, ⟨#[48]⟩, r] = true) (va : OkValid q true) (vb : OkValid ⟨#[48]⟩ true) (vc : OkValid r true) :
    Calls Tryd.prog 5 #[.string q, .string ⟨#[48]⟩, .string r] w fun e w' => e = .returned (.bool true) ∧ Below w.heap.size w w' := by
  have H_hf := hide hf
  clear hf
  have H_va := hide va
  clear va
  have H_vb := hide vb
  clear vb
  have H_vc := hide vc
  clear vc
  have HB0 : Hid (Below w.heap.size w w) := Below.refl _ _
  have HW := hide hw
  clear hw
  go_enter Tryd.func5, Tryd.ntmps5
  go_wp2_with fail
  refine (law03_head _ (HW.out.below HB0.out)).mono ?_
  rintro e w1 ⟨rfl, hb⟩
  have HB1 := hide (bStep HB0.out hb)
  clear hb
  go_wp2_with fail
  refine (law03_few [q, ⟨#[48]⟩, r] _ _ (few3_slice _ q ⟨#[48]⟩ r _) (by simp)).mono ?_
  rintro e w2 ⟨rfl, rfl⟩
  rw [H_hf.out]
  have HB2 := hide (bAlloc HB1.out (.cells #[.string q, .string ⟨#[48]⟩, .string r] 22))
  go_wp2_with fail
  refine (H_va.out _).mono ?_
  rintro e w3 ⟨rfl, hb⟩
  have HB3 := hide (bStep HB2.out hb)
  clear hb
  go_wp2_with fail
  refine (H_vb.out _).mono ?_
  rintro e w4 ⟨rfl, hb⟩
  have HB4 := hide (bStep HB3.out hb)
  clear hb
  go_wp2_with fail
  refine (H_vc.out _).mono ?_
  rintro e w5 ⟨rfl, hb⟩
  have HB5 := hide (bStep HB4.out hb)
  clear hb
  go_wp2_with fail
  go_ret
  exact ⟨rfl, HB5.out⟩
set_option maxHeartbeats 4000000 in
set_option maxRecDepth 100000 in
theorem divides_core1 (q b r p a bk X Y : ByteArray) (C : Int) (hC : 0 ≤ C) (w : World) (hw : LawW w) (hf : fewB [q, b, r] = true) (va : OkValid q true) (vb : OkValid b true) (vc : OkValid r true) (hb : (b.toList == [48]) = false)
    (k1 : OkCall 13 q b p) (k2 : OkCall 12 p r a) (k3 : OkDiv a b X Y) (k4 : OkCall 13 X b bk) (k5 : OkCall 12 bk Y a) (k6 : OkComp Y b (-1)) (k7 : OkComp r b C) :
    Calls Tryd.prog 5 #[.string q, .string b, .string r] w fun e w' => e = .returned (.bool true) ∧ Below w.heap.size w w' := by
  have H_hf := hide hf
  clear hf
  have H_va := hide va
  clear va
  have H_vb := hide vb
  clear vb
  have H_vc := hide vc
  clear vc
  have H_k1 := hide k1
  clear k1
  have H_k2 := hide k2
  clear k2
  have H_k3 := hide k3
  clear k3
  have H_k4 := hide k4
  clear k4
  have H_k5 := hide k5
  clear k5
  have H_k6 := hide k6
  clear k6
  have H_k7 := hide k7
  clear k7
  have HB0 : Hid (Below w.heap.size w w) := Below.refl _ _
  have HW := hide hw
  clear hw
  go_enter Tryd.func5, Tryd.ntmps5
  go_wp2_with fail
  refine (law03_head _ (HW.out.below HB0.out)).mono ?_
  rintro e w1 ⟨rfl, hb⟩
  have HB1 := hide (bStep HB0.out hb)
  clear hb
  go_wp2_with fail
  refine (law03_few [q, b, r] _ _ (few3_slice _ q b r _) (by simp)).mono ?_
  rintro e w2 ⟨rfl, rfl⟩
  rw [H_hf.out]
  have HB2 := hide (bAlloc HB1.out (.cells #[.string q, .string b, .string r] 22))
  go_wp2_with fail
  refine (H_va.out _).mono ?_
  rintro e w3 ⟨rfl, hb⟩
  have HB3 := hide (bStep HB2.out hb)
  clear hb
  go_wp2_with fail
  refine (H_vb.out _).mono ?_
  rintro e w4 ⟨rfl, hb⟩
  have HB4 := hide (bStep HB3.out hb)
  clear hb
  go_wp2_with fail
  refine (H_vc.out _).mono ?_
  rintro e w5 ⟨rfl, hb⟩
  have HB5 := hide (bStep HB4.out hb)
  clear hb
  go_wp2_with fail
  refine (H_k1.out _ (HW.out.below HB5.out)).mono ?_
  rintro e w6 ⟨rfl, hb⟩
  have HB6 := hide (bStep HB5.out hb)
  clear hb
  go_wp2_with fail
  refine (H_k2.out _ (HW.out.below HB6.out)).mono ?_
  rintro e w7 ⟨rfl, hb⟩
  have HB7 := hide (bStep HB6.out hb)
  clear hb
  go_wp2_with fail
  refine (H_k3.out _ (HW.out.below HB7.out)).mono ?_
  rintro e w8 ⟨rfl, hb⟩
  have HB8 := hide (bStep HB7.out hb)
  clear hb
  go_wp2_with fail
  refine (H_k4.out _ (HW.out.below HB8.out)).mono ?_
  rintro e w9 ⟨rfl, hb⟩
  have HB9 := hide (bStep HB8.out hb)
  clear hb
  go_wp2_with fail
  refine (H_k5.out _ (HW.out.below HB9.out)).mono ?_
  rintro e w10 ⟨rfl, hb⟩
  have HB10 := hide (bStep HB9.out hb)
  clear hb
  go_wp2_with fail
  refine (H_k6.out _).mono ?_
  rintro e w11 ⟨rfl, hb⟩
  have HB11 := hide (bStep HB10.out hb)
  clear hb
  go_wp2_with fail
  refine (H_k7.out _).mono ?_
  rintro e w12 ⟨rfl, hb⟩
  have HB12 := hide (bStep HB11.out hb)
  clear hb
  go_wp2_with fail
  go_ret
  exact ⟨rfl, HB12.out⟩
set_option maxHeartbeats 4000000 in
set_option maxRecDepth 100000 in
theorem divides_core2 (q b r p a bk : ByteArray) (w : World) (hw : LawW w) (hf : fewB [q, b, r] = true) (va : OkValid q true) (vb : OkValid b true) (vc : OkValid r true) (hb : (b.toList == [48]) = false)
    (k1 : OkCall 13 q b p) (k2 : OkCall 12 p r a) (k3 : OkDiv a b q r) (k4 : OkCall 13 q b bk) (k5 : OkCall 12 bk r a) (k6 : OkComp r b (-1)) (k7 : OkComp r b (-1)) :
    Calls Tryd.prog 5 #[.string q, .string b, .string r] w fun e w' => e = .returned (.bool true) ∧ Below w.heap.size w w' := by
  have H_hf := hide hf
  clear hf
  have H_va := hide va
  clear va
  have H_vb := hide vb
  clear vb
  have H_vc := hide vc
  clear vc
  have H_k1 := hide k1
  clear k1
  have H_k2 := hide k2
  clear k2
  have H_k3 := hide k3
  clear k3
  have H_k4 := hide k4
  clear k4
  have H_k5 := hide k5
  clear k5
  have H_k6 := hide k6
  clear k6
  have H_k7 := hide k7
  clear k7
  have HB0 : Hid (Below w.heap.size w w) := Below.refl _ _
  have HW := hide hw
  clear hw
  go_enter Tryd.func5, Tryd.ntmps5
  go_wp2_with fail
  refine (law03_head _ (HW.out.below HB0.out)).mono ?_
  rintro e w1 ⟨rfl, hb⟩
  have HB1 := hide (bStep HB0.out hb)
  clear hb
  go_wp2_with fail
  refine (law03_few [q, b, r] _ _ (few3_slice _ q b r _) (by simp)).mono ?_
  rintro e w2 ⟨rfl, rfl⟩
  rw [H_hf.out]
  have HB2 := hide (bAlloc HB1.out (.cells #[.string q, .string b, .string r] 22))
  go_wp2_with fail
  refine (H_va.out _).mono ?_
  rintro e w3 ⟨rfl, hb⟩
  have HB3 := hide (bStep HB2.out hb)
  clear hb
  go_wp2_with fail
  refine (H_vb.out _).mono ?_
  rintro e w4 ⟨rfl, hb⟩
  have HB4 := hide (bStep HB3.out hb)
  clear hb
  go_wp2_with fail
  refine (H_vc.out _).mono ?_
  rintro e w5 ⟨rfl, hb⟩
  have HB5 := hide (bStep HB4.out hb)
  clear hb
  go_wp2_with fail
  refine (H_k1.out _ (HW.out.below HB5.out)).mono ?_
  rintro e w6 ⟨rfl, hb⟩
  have HB6 := hide (bStep HB5.out hb)
  clear hb
  go_wp2_with fail
  refine (H_k2.out _ (HW.out.below HB6.out)).mono ?_
  rintro e w7 ⟨rfl, hb⟩
  have HB7 := hide (bStep HB6.out hb)
  clear hb
  go_wp2_with fail
  refine (H_k3.out _ (HW.out.below HB7.out)).mono ?_
  rintro e w8 ⟨rfl, hb⟩
  have HB8 := hide (bStep HB7.out hb)
  clear hb
  go_wp2_with fail
  refine (H_k4.out _ (HW.out.below HB8.out)).mono ?_
  rintro e w9 ⟨rfl, hb⟩
  have HB9 := hide (bStep HB8.out hb)
  clear hb
  go_wp2_with fail
  refine (H_k5.out _ (HW.out.below HB9.out)).mono ?_
  rintro e w10 ⟨rfl, hb⟩
  have HB10 := hide (bStep HB9.out hb)
  clear hb
  go_wp2_with fail
  refine (H_k6.out _).mono ?_
  rintro e w11 ⟨rfl, hb⟩
  have HB11 := hide (bStep HB10.out hb)
  clear hb
  go_wp2_with fail
  refine (H_k7.out _).mono ?_
  rintro e w12 ⟨rfl, hb⟩
  have HB12 := hide (bStep HB11.out hb)
  clear hb
  go_wp2_with fail
  go_ret
  exact ⟨rfl, HB12.out⟩
theorem naturalDivides_walk (q b r : ByteArray) (w : World) (mq : q.size ≤ maxLen) (mb : b.size ≤ maxLen) (mr : r.size ≤ maxLen) (hw : LawW w) :
    Calls Tryd.prog 5 #[.string q, .string b, .string r] w fun e w' => e = .returned (.bool true) ∧ Below w.heap.size w w' := by
  cases hf : fewB [q, b, r] with
  | false => exact divides_out0 q b r w hw hf
  | true =>
    cases ha : vldN q with
    | false => exact divides_out1 q b r w hw hf ha mq
    | true =>
      cases hb : vldN b with
      | false => exact divides_out2 q b r w hw hf ha mq hb mb
      | true =>
        cases hc : vldN r with
        | false => exact divides_out3 q b r w hw hf ha mq hb mb hc mr
        | true =>
          obtain ⟨x, y, z, rfl, rfl, rfl, hx, hy, hz⟩ := few3_nat hf ha hb hc
          have cx := to_capN hx (by decide)
          have cy := to_capN hy (by decide)
          have cz := to_capN hz (by decide)
          by_cases h0 : 0 < y
          · have hp := mul_capK hx hy
            have cp := to_capN hp (by decide)
            have cs : x * y + z < capN := to_capN (add_capK hp (Nat.lt_of_lt_of_le hz (capK_le (by decide)))) (by decide)
            have hdm := Nat.div_add_mod (x * y + z) y
            have hml := Nat.mod_lt (x * y + z) h0
            have e5 : (x * y + z) / y * y + (x * y + z) % y = x * y + z := by rw [Nat.mul_comm]; exact hdm
            have cq : (x * y + z) / y < capN := Nat.lt_of_le_of_lt (Nat.div_le_self _ _) cs
            have cm : (x * y + z) % y < capN := Nat.lt_trans hml cy
            have cqy : (x * y + z) / y * y < capN := Nat.lt_of_le_of_lt (by omega) cs
            have hne : ((natS y).toList == [48]) = false := str_ne (natS_ne_zero h0) (by rfl)
            have k6 := ok_comp cm cy
            rw [cmpN_lt hml] at k6
            by_cases hrb : z < y
            · have eq : (x * y + z) / y = x := by rw [Nat.add_comm, Nat.mul_comm, Nat.add_mul_div_left _ _ h0, Nat.div_eq_of_lt hrb, Nat.zero_add]
              have em : (x * y + z) % y = z := by rw [Nat.add_comm, Nat.mul_comm, Nat.add_mul_mod_self_left, Nat.mod_eq_of_lt hrb]
              have k7 := ok_comp cz cy
              rw [cmpN_lt hrb] at k7
              rw [em] at k6
              exact divides_core2 (natS x) (natS y) (natS z) (natS (x * y)) (natS (x * y + z)) (natS (x * y)) w hw hf (ok_valid cx) (ok_valid cy) (ok_valid cz) hne (ok_mul cx cy rfl cp) (ok_add cp cz rfl cs) (ok_div cs cy h0 eq em) (ok_mul cx cy rfl cp) (ok_add cp cz rfl cs) k6 k7
            · exact divides_core1 (natS x) (natS y) (natS z) (natS (x * y)) (natS (x * y + z)) (natS ((x * y + z) / y * y)) (natS ((x * y + z) / y)) (natS ((x * y + z) % y)) (cmpN z y) (by have := cmpN_neg (x := z) (y := y); omega) w hw hf (ok_valid cx) (ok_valid cy) (ok_valid cz) hne (ok_mul cx cy rfl cp) (ok_add cp cz rfl cs) (ok_div cs cy h0 rfl rfl) (ok_mul cq cy rfl cqy) (ok_add cqy cm e5 cs) k6 (ok_comp cz cy)
          · obtain rfl : y = 0 := by omega
            rw [natS_zero] at hf ⊢
            exact divides_out4 (natS x) (natS z) w hw hf (ok_valid cx) (by rw [zero_lit]; exact ok_valid cy) (ok_valid cz)
end Go.Proofs.YtbefdlncpobmlaaDoor
