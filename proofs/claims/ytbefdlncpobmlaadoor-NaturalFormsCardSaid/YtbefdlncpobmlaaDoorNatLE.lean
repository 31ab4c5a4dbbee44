/- NaturalForms: the walk. -/
import Derived.Test.YtbefdlncpobmlaaDoorNatK
import Derived.BigGuard
namespace Go.Proofs.YtbefdlncpobmlaaDoor
open Go.RowKit

set_option maxHeartbeats 4000000 in
set_option maxRecDepth 100000 in
theorem undef_bool {b : Bool} (h : some undef = some (Value.bool b)) : False := by
  unfold undef at h; cases h
set_option maxHeartbeats 4000000 in
set_option maxRecDepth 100000 in
theorem forms_out0 (a b : ByteArray) (w : World) (hw : LawW w) (hf : fewB [a, b] = false) :
    Calls Tryd.prog 8 #[.string a, .string b] w fun e w' => e = .returned (.bool true) ∧ Below w.heap.size w w' := by
  have HF := hide hf
  clear hf
  have HB0 : Hid (Below w.heap.size w w) := Below.refl _ _
  have HW := hide hw
  clear hw
  go_enter Tryd.func8, Tryd.ntmps8
  go_wp2_with fail
  all_goals (try exact (undef_bool ‹some undef = some (Value.bool _)›).elim)
  refine (law03_head _ (HW.out.below HB0.out)).mono ?_
  rintro e w1 ⟨rfl, hb⟩
  have HB1 := hide (bStep HB0.out hb)
  clear hb
  go_wp2_with fail
  all_goals (try exact (undef_bool ‹some undef = some (Value.bool _)›).elim)
  refine (law03_few [a, b] _ _ (few2_slice _ a b _) (by simp)).mono ?_
  rintro e w2 ⟨rfl, rfl⟩
  rw [HF.out]
  have HB2 := hide (bAlloc HB1.out (.cells #[.string a, .string b] 22))
  go_wp2_with fail
  all_goals (try exact (undef_bool ‹some undef = some (Value.bool _)›).elim)
  go_ret
  exact ⟨rfl, HB2.out⟩
set_option maxHeartbeats 4000000 in
set_option maxRecDepth 100000 in
theorem forms_bad (a b : ByteArray) (va : Bool) (vb : Bool) (hv : va = false ∨ (va = true ∧ vb = false)) (w : World) (hw : LawW w) (hf : fewB [a, b] = true) (ma : a.size ≤ maxLen) (mb : b.size ≤ maxLen) (hb : bad2 a b) (ha : vldN a = va) (hbb : vldN b = vb) :
    Calls Tryd.prog 8 #[.string a, .string b] w fun e w' => e = .returned (.bool true) ∧ Below w.heap.size w w' := by
  have H_hf := hide hf
  clear hf
  have H_hb := hide hb
  clear hb
  have H_ha := hide ha
  clear ha
  have H_hbb := hide hbb
  clear hbb
  have HB0 : Hid (Below w.heap.size w w) := Below.refl _ _
  have HW := hide hw
  clear hw
  go_enter Tryd.func8, Tryd.ntmps8
  go_wp2_with fail
  all_goals (try exact (undef_bool ‹some undef = some (Value.bool _)›).elim)
  refine (law03_head _ (HW.out.below HB0.out)).mono ?_
  rintro e w1 ⟨rfl, hb⟩
  have HB1 := hide (bStep HB0.out hb)
  clear hb
  go_wp2_with fail
  all_goals (try exact (undef_bool ‹some undef = some (Value.bool _)›).elim)
  refine (law03_few [a, b] _ _ (few2_slice _ a b _) (by simp)).mono ?_
  rintro e w2 ⟨rfl, rfl⟩
  rw [H_hf.out]
  have HB2 := hide (bAlloc HB1.out (.cells #[.string a, .string b] 22))
  go_wp2_with fail
  all_goals (try exact (undef_bool ‹some undef = some (Value.bool _)›).elim)
  refine (nat_add_bad a b _ ma mb H_hb.out).mono ?_
  rintro e w3 ⟨rfl, hb⟩
  have HB3 := hide (bStep HB2.out hb)
  clear hb
  go_wp2_with fail
  all_goals (try exact (undef_bool ‹some undef = some (Value.bool _)›).elim)
  refine (nat_sub_bad a b _ ma mb H_hb.out).mono ?_
  rintro e w4 ⟨rfl, hb⟩
  have HB4 := hide (bStep HB3.out hb)
  clear hb
  go_wp2_with fail
  all_goals (try exact (undef_bool ‹some undef = some (Value.bool _)›).elim)
  refine (nat_mul_bad a b _ ma mb H_hb.out).mono ?_
  rintro e w5 ⟨rfl, hb⟩
  have HB5 := hide (bStep HB4.out hb)
  clear hb
  go_wp2_with fail
  all_goals (try exact (undef_bool ‹some undef = some (Value.bool _)›).elim)
  refine (nat_div_bad a b _ ma mb H_hb.out).mono ?_
  rintro e w6 ⟨rfl, hb⟩
  have HB6 := hide (bStep HB5.out hb)
  clear hb
  go_wp2_with fail
  all_goals (try exact (undef_bool ‹some undef = some (Value.bool _)›).elim)
  refine (nat_gcd_bad a b _ ma mb H_hb.out).mono ?_
  rintro e w7 ⟨rfl, hb⟩
  have HB7 := hide (bStep HB6.out hb)
  clear hb
  go_wp2_with fail
  all_goals (try exact (undef_bool ‹some undef = some (Value.bool _)›).elim)
  refine (valid_any a _ ma).mono ?_
  rintro e w8 ⟨rfl, hb⟩
  rw [H_ha.out]
  have HB8 := hide (bStep HB7.out hb)
  clear hb
  rcases hv with rfl | ⟨rfl, rfl⟩
  · go_wp2_with fail
    all_goals (try exact (undef_bool ‹some undef = some (Value.bool _)›).elim)
    go_ret
    exact ⟨rfl, HB8.out⟩
  · go_wp2_with fail
    all_goals (try exact (undef_bool ‹some undef = some (Value.bool _)›).elim)
    refine (valid_any b _ mb).mono ?_
    rintro e w9 ⟨rfl, hb⟩
    rw [H_hbb.out]
    have HB9 := hide (bStep HB8.out hb)
    clear hb
    go_wp2_with fail
    all_goals (try exact (undef_bool ‹some undef = some (Value.bool _)›).elim)
    go_ret
    exact ⟨rfl, HB9.out⟩
set_option maxHeartbeats 4000000 in
set_option maxRecDepth 100000 in
theorem forms_ge_pos_lenA (a b s p c d q r : ByteArray) (hf : fewB [a, b] = true) (va : OkValid a true) (vb : OkValid b true) (k1 : OkCall 12 a b s) (k3 : OkCall 13 a b p) (k5 : OkCall 17 a b c) (vs : OkValid s true) (vp : OkValid p true) (vg : OkValid c true) (k2 : OkCall 15 a b d) (vd : OkValid d true) (k4 : OkDiv a b q r) (vq : OkValid q true) (vr : OkValid r true) (na : (a.toList == [48]) = false) (nb : (b.toList == [48]) = false) (la : a.size ≤ 80) (lb : b.size ≤ 80) (lp : p.size  = a.size + b.size) (w : World) (hw : LawW w) :
    Calls Tryd.prog 8 #[.string a, .string b] w fun e w' => e = .returned (.bool true) ∧ Below w.heap.size w w' := by
  have q1 : IntKind.i64.wrap ((a.size : Int) + (b.size : Int)) = (a.size : Int) + (b.size : Int) := IntWalk.i64_in _ (by omega)
  have q2 : IntKind.i64.wrap ((a.size : Int) + (b.size : Int) - 1) = (a.size : Int) + (b.size : Int) - 1 := IntWalk.i64_in _ (by omega)
  have q3 : ((p.size : Int) == (a.size : Int) + (b.size : Int)) = true := by simp; omega
  clear lp
  have H_hf := hide hf
  clear hf
  have H_va := hide va
  clear va
  have H_vb := hide vb
  clear vb
  have H_k1 := hide k1
  clear k1
  have H_k3 := hide k3
  clear k3
  have H_k5 := hide k5
  clear k5
  have H_vs := hide vs
  clear vs
  have H_vp := hide vp
  clear vp
  have H_vg := hide vg
  clear vg
  have H_k2 := hide k2
  clear k2
  have H_vd := hide vd
  clear vd
  have H_k4 := hide k4
  clear k4
  have H_vq := hide vq
  clear vq
  have H_vr := hide vr
  clear vr
  have HB0 : Hid (Below w.heap.size w w) := Below.refl _ _
  have HW := hide hw
  clear hw
  go_enter Tryd.func8, Tryd.ntmps8
  go_wp2_with fail
  all_goals (try exact (undef_bool ‹some undef = some (Value.bool _)›).elim)
  refine (law03_head _ (HW.out.below HB0.out)).mono ?_
  rintro e w1 ⟨rfl, hb⟩
  have HB1 := hide (bStep HB0.out hb)
  clear hb
  go_wp2_with fail
  all_goals (try exact (undef_bool ‹some undef = some (Value.bool _)›).elim)
  refine (law03_few [a, b] _ _ (few2_slice _ a b _) (by simp)).mono ?_
  rintro e w2 ⟨rfl, rfl⟩
  rw [H_hf.out]
  have HB2 := hide (bAlloc HB1.out (.cells #[.string a, .string b] 22))
  go_wp2_with fail
  all_goals (try exact (undef_bool ‹some undef = some (Value.bool _)›).elim)
  refine (H_k1.out _ (HW.out.below HB2.out)).mono ?_
  rintro e w3 ⟨rfl, hb⟩
  have HB3 := hide (bStep HB2.out hb)
  clear hb
  go_wp2_with fail
  all_goals (try exact (undef_bool ‹some undef = some (Value.bool _)›).elim)
  refine (H_k2.out _ (HW.out.below HB3.out)).mono ?_
  rintro e w4 ⟨rfl, hb⟩
  have HB4 := hide (bStep HB3.out hb)
  clear hb
  go_wp2_with fail
  all_goals (try exact (undef_bool ‹some undef = some (Value.bool _)›).elim)
  refine (H_k3.out _ (HW.out.below HB4.out)).mono ?_
  rintro e w5 ⟨rfl, hb⟩
  have HB5 := hide (bStep HB4.out hb)
  clear hb
  go_wp2_with fail
  all_goals (try exact (undef_bool ‹some undef = some (Value.bool _)›).elim)
  refine (H_k4.out _ (HW.out.below HB5.out)).mono ?_
  rintro e w6 ⟨rfl, hb⟩
  have HB6 := hide (bStep HB5.out hb)
  clear hb
  go_wp2_with fail
  all_goals (try exact (undef_bool ‹some undef = some (Value.bool _)›).elim)
  refine (H_k5.out _ (HW.out.below HB6.out)).mono ?_
  rintro e w7 ⟨rfl, hb⟩
  have HB7 := hide (bStep HB6.out hb)
  clear hb
  go_wp2_with fail
  all_goals (try exact (undef_bool ‹some undef = some (Value.bool _)›).elim)
  refine (H_va.out _).mono ?_
  rintro e w8 ⟨rfl, hb⟩
  have HB8 := hide (bStep HB7.out hb)
  clear hb
  go_wp2_with fail
  all_goals (try exact (undef_bool ‹some undef = some (Value.bool _)›).elim)
  refine (H_vb.out _).mono ?_
  rintro e w9 ⟨rfl, hb⟩
  have HB9 := hide (bStep HB8.out hb)
  clear hb
  go_wp2_with fail
  all_goals (try exact (undef_bool ‹some undef = some (Value.bool _)›).elim)
  refine (H_vs.out _).mono ?_
  rintro e w10 ⟨rfl, hb⟩
  have HB10 := hide (bStep HB9.out hb)
  clear hb
  go_wp2_with fail
  all_goals (try exact (undef_bool ‹some undef = some (Value.bool _)›).elim)
  refine (H_vd.out _).mono ?_
  rintro e w11 ⟨rfl, hb⟩
  have HB11 := hide (bStep HB10.out hb)
  clear hb
  go_wp2_with fail
  all_goals (try exact (undef_bool ‹some undef = some (Value.bool _)›).elim)
  refine (H_vp.out _).mono ?_
  rintro e w12 ⟨rfl, hb⟩
  have HB12 := hide (bStep HB11.out hb)
  clear hb
  go_wp2_with fail
  all_goals (try exact (undef_bool ‹some undef = some (Value.bool _)›).elim)
  refine (H_vq.out _).mono ?_
  rintro e w13 ⟨rfl, hb⟩
  have HB13 := hide (bStep HB12.out hb)
  clear hb
  go_wp2_with fail
  all_goals (try exact (undef_bool ‹some undef = some (Value.bool _)›).elim)
  refine (H_vr.out _).mono ?_
  rintro e w14 ⟨rfl, hb⟩
  have HB14 := hide (bStep HB13.out hb)
  clear hb
  go_wp2_with fail
  all_goals (try exact (undef_bool ‹some undef = some (Value.bool _)›).elim)
  refine (H_vg.out _).mono ?_
  rintro e w15 ⟨rfl, hb⟩
  have HB15 := hide (bStep HB14.out hb)
  clear hb
  go_wp2_with fail
  all_goals (try exact (undef_bool ‹some undef = some (Value.bool _)›).elim)
  go_ret
  exact ⟨rfl, HB15.out⟩
set_option maxHeartbeats 4000000 in
set_option maxRecDepth 100000 in
theorem forms_ge_pos_lenB (a b s p c d q r : ByteArray) (hf : fewB [a, b] = true) (va : OkValid a true) (vb : OkValid b true) (k1 : OkCall 12 a b s) (k3 : OkCall 13 a b p) (k5 : OkCall 17 a b c) (vs : OkValid s true) (vp : OkValid p true) (vg : OkValid c true) (k2 : OkCall 15 a b d) (vd : OkValid d true) (k4 : OkDiv a b q r) (vq : OkValid q true) (vr : OkValid r true) (na : (a.toList == [48]) = false) (nb : (b.toList == [48]) = false) (la : a.size ≤ 80) (lb : b.size ≤ 80) (lp : p.size + 1 = a.size + b.size) (w : World) (hw : LawW w) :
    Calls Tryd.prog 8 #[.string a, .string b] w fun e w' => e = .returned (.bool true) ∧ Below w.heap.size w w' := by
  have q1 : IntKind.i64.wrap ((a.size : Int) + (b.size : Int)) = (a.size : Int) + (b.size : Int) := IntWalk.i64_in _ (by omega)
  have q2 : IntKind.i64.wrap ((a.size : Int) + (b.size : Int) - 1) = (a.size : Int) + (b.size : Int) - 1 := IntWalk.i64_in _ (by omega)
  have q3 : ((p.size : Int) == (a.size : Int) + (b.size : Int)) = false := by simp; omega
  have q4 : ((p.size : Int) == (a.size : Int) + (b.size : Int) - 1) = true := by simp; omega
  clear lp
  have H_hf := hide hf
  clear hf
  have H_va := hide va
  clear va
  have H_vb := hide vb
  clear vb
  have H_k1 := hide k1
  clear k1
  have H_k3 := hide k3
  clear k3
  have H_k5 := hide k5
  clear k5
  have H_vs := hide vs
  clear vs
  have H_vp := hide vp
  clear vp
  have H_vg := hide vg
  clear vg
  have H_k2 := hide k2
  clear k2
  have H_vd := hide vd
  clear vd
  have H_k4 := hide k4
  clear k4
  have H_vq := hide vq
  clear vq
  have H_vr := hide vr
  clear vr
  have HB0 : Hid (Below w.heap.size w w) := Below.refl _ _
  have HW := hide hw
  clear hw
  go_enter Tryd.func8, Tryd.ntmps8
  go_wp2_with fail
  all_goals (try exact (undef_bool ‹some undef = some (Value.bool _)›).elim)
  refine (law03_head _ (HW.out.below HB0.out)).mono ?_
  rintro e w1 ⟨rfl, hb⟩
  have HB1 := hide (bStep HB0.out hb)
  clear hb
  go_wp2_with fail
  all_goals (try exact (undef_bool ‹some undef = some (Value.bool _)›).elim)
  refine (law03_few [a, b] _ _ (few2_slice _ a b _) (by simp)).mono ?_
  rintro e w2 ⟨rfl, rfl⟩
  rw [H_hf.out]
  have HB2 := hide (bAlloc HB1.out (.cells #[.string a, .string b] 22))
  go_wp2_with fail
  all_goals (try exact (undef_bool ‹some undef = some (Value.bool _)›).elim)
  refine (H_k1.out _ (HW.out.below HB2.out)).mono ?_
  rintro e w3 ⟨rfl, hb⟩
  have HB3 := hide (bStep HB2.out hb)
  clear hb
  go_wp2_with fail
  all_goals (try exact (undef_bool ‹some undef = some (Value.bool _)›).elim)
  refine (H_k2.out _ (HW.out.below HB3.out)).mono ?_
  rintro e w4 ⟨rfl, hb⟩
  have HB4 := hide (bStep HB3.out hb)
  clear hb
  go_wp2_with fail
  all_goals (try exact (undef_bool ‹some undef = some (Value.bool _)›).elim)
  refine (H_k3.out _ (HW.out.below HB4.out)).mono ?_
  rintro e w5 ⟨rfl, hb⟩
  have HB5 := hide (bStep HB4.out hb)
  clear hb
  go_wp2_with fail
  all_goals (try exact (undef_bool ‹some undef = some (Value.bool _)›).elim)
  refine (H_k4.out _ (HW.out.below HB5.out)).mono ?_
  rintro e w6 ⟨rfl, hb⟩
  have HB6 := hide (bStep HB5.out hb)
  clear hb
  go_wp2_with fail
  all_goals (try exact (undef_bool ‹some undef = some (Value.bool _)›).elim)
  refine (H_k5.out _ (HW.out.below HB6.out)).mono ?_
  rintro e w7 ⟨rfl, hb⟩
  have HB7 := hide (bStep HB6.out hb)
  clear hb
  go_wp2_with fail
  all_goals (try exact (undef_bool ‹some undef = some (Value.bool _)›).elim)
  refine (H_va.out _).mono ?_
  rintro e w8 ⟨rfl, hb⟩
  have HB8 := hide (bStep HB7.out hb)
  clear hb
  go_wp2_with fail
  all_goals (try exact (undef_bool ‹some undef = some (Value.bool _)›).elim)
  refine (H_vb.out _).mono ?_
  rintro e w9 ⟨rfl, hb⟩
  have HB9 := hide (bStep HB8.out hb)
  clear hb
  go_wp2_with fail
  all_goals (try exact (undef_bool ‹some undef = some (Value.bool _)›).elim)
  refine (H_vs.out _).mono ?_
  rintro e w10 ⟨rfl, hb⟩
  have HB10 := hide (bStep HB9.out hb)
  clear hb
  go_wp2_with fail
  all_goals (try exact (undef_bool ‹some undef = some (Value.bool _)›).elim)
  refine (H_vd.out _).mono ?_
  rintro e w11 ⟨rfl, hb⟩
  have HB11 := hide (bStep HB10.out hb)
  clear hb
  go_wp2_with fail
  all_goals (try exact (undef_bool ‹some undef = some (Value.bool _)›).elim)
  refine (H_vp.out _).mono ?_
  rintro e w12 ⟨rfl, hb⟩
  have HB12 := hide (bStep HB11.out hb)
  clear hb
  go_wp2_with fail
  all_goals (try exact (undef_bool ‹some undef = some (Value.bool _)›).elim)
  refine (H_vq.out _).mono ?_
  rintro e w13 ⟨rfl, hb⟩
  have HB13 := hide (bStep HB12.out hb)
  clear hb
  go_wp2_with fail
  all_goals (try exact (undef_bool ‹some undef = some (Value.bool _)›).elim)
  refine (H_vr.out _).mono ?_
  rintro e w14 ⟨rfl, hb⟩
  have HB14 := hide (bStep HB13.out hb)
  clear hb
  go_wp2_with fail
  all_goals (try exact (undef_bool ‹some undef = some (Value.bool _)›).elim)
  refine (H_vg.out _).mono ?_
  rintro e w15 ⟨rfl, hb⟩
  have HB15 := hide (bStep HB14.out hb)
  clear hb
  go_wp2_with fail
  all_goals (try exact (undef_bool ‹some undef = some (Value.bool _)›).elim)
  go_ret
  exact ⟨rfl, HB15.out⟩
set_option maxHeartbeats 4000000 in
set_option maxRecDepth 100000 in
theorem forms_ge_zero_zb (a s p c d : ByteArray) (na0 : Bool) (hf : fewB [a, ⟨#[48]⟩] = true) (va : OkValid a true) (vb : OkValid ⟨#[48]⟩ true) (k1 : OkCall 12 a ⟨#[48]⟩ s) (k3 : OkCall 13 a ⟨#[48]⟩ p) (k5 : OkCall 17 a ⟨#[48]⟩ c) (vs : OkValid s true) (vp : OkValid p true) (vg : OkValid c true) (k2 : OkCall 15 a ⟨#[48]⟩ d) (vd : OkValid d true) (k4 : ∀ W, Calls Tryd.prog 16 #[.string a, .string ⟨#[48]⟩] W (Err3Post W 14)) (na : (a.toList == [48]) = na0) (w : World) (hw : LawW w) :
    Calls Tryd.prog 8 #[.string a, .string ⟨#[48]⟩] w fun e w' => e = .returned (.bool true) ∧ Below w.heap.size w w' := by
  cases na0
  all_goals
    have H_hf := hide hf
    clear hf
    have H_va := hide va
    clear va
    have H_vb := hide vb
    clear vb
    have H_k1 := hide k1
    clear k1
    have H_k3 := hide k3
    clear k3
    have H_k5 := hide k5
    clear k5
    have H_vs := hide vs
    clear vs
    have H_vp := hide vp
    clear vp
    have H_vg := hide vg
    clear vg
    have H_k2 := hide k2
    clear k2
    have H_vd := hide vd
    clear vd
    have H_k4 := hide k4
    clear k4
    have HB0 : Hid (Below w.heap.size w w) := Below.refl _ _
    have HW := hide hw
    clear hw
    go_enter Tryd.func8, Tryd.ntmps8
    go_wp2_with fail
    all_goals (try exact (undef_bool ‹some undef = some (Value.bool _)›).elim)
    refine (law03_head _ (HW.out.below HB0.out)).mono ?_
    rintro e w1 ⟨rfl, hb⟩
    have HB1 := hide (bStep HB0.out hb)
    clear hb
    go_wp2_with fail
    all_goals (try exact (undef_bool ‹some undef = some (Value.bool _)›).elim)
    refine (law03_few [a, ⟨#[48]⟩] _ _ (few2_slice _ a ⟨#[48]⟩ _) (by simp)).mono ?_
    rintro e w2 ⟨rfl, rfl⟩
    rw [H_hf.out]
    have HB2 := hide (bAlloc HB1.out (.cells #[.string a, .string ⟨#[48]⟩] 22))
    go_wp2_with fail
    all_goals (try exact (undef_bool ‹some undef = some (Value.bool _)›).elim)
    refine (H_k1.out _ (HW.out.below HB2.out)).mono ?_
    rintro e w3 ⟨rfl, hb⟩
    have HB3 := hide (bStep HB2.out hb)
    clear hb
    go_wp2_with fail
    all_goals (try exact (undef_bool ‹some undef = some (Value.bool _)›).elim)
    refine (H_k2.out _ (HW.out.below HB3.out)).mono ?_
    rintro e w4 ⟨rfl, hb⟩
    have HB4 := hide (bStep HB3.out hb)
    clear hb
    go_wp2_with fail
    all_goals (try exact (undef_bool ‹some undef = some (Value.bool _)›).elim)
    refine (H_k3.out _ (HW.out.below HB4.out)).mono ?_
    rintro e w5 ⟨rfl, hb⟩
    have HB5 := hide (bStep HB4.out hb)
    clear hb
    go_wp2_with fail
    all_goals (try exact (undef_bool ‹some undef = some (Value.bool _)›).elim)
    refine (H_k4.out _).mono ?_
    rintro e w6 ⟨rfl, hb⟩
    have HB6 := hide (bStep HB5.out hb)
    clear hb
    go_wp2_with fail
    all_goals (try exact (undef_bool ‹some undef = some (Value.bool _)›).elim)
    refine (H_k5.out _ (HW.out.below HB6.out)).mono ?_
    rintro e w7 ⟨rfl, hb⟩
    have HB7 := hide (bStep HB6.out hb)
    clear hb
    go_wp2_with fail
    all_goals (try exact (undef_bool ‹some undef = some (Value.bool _)›).elim)
    refine (H_va.out _).mono ?_
    rintro e w8 ⟨rfl, hb⟩
    have HB8 := hide (bStep HB7.out hb)
    clear hb
    go_wp2_with fail
    all_goals (try exact (undef_bool ‹some undef = some (Value.bool _)›).elim)
    refine (H_vb.out _).mono ?_
    rintro e w9 ⟨rfl, hb⟩
    have HB9 := hide (bStep HB8.out hb)
    clear hb
    go_wp2_with fail
    all_goals (try exact (undef_bool ‹some undef = some (Value.bool _)›).elim)
    refine (H_vs.out _).mono ?_
    rintro e w10 ⟨rfl, hb⟩
    have HB10 := hide (bStep HB9.out hb)
    clear hb
    go_wp2_with fail
    all_goals (try exact (undef_bool ‹some undef = some (Value.bool _)›).elim)
    refine (H_vd.out _).mono ?_
    rintro e w11 ⟨rfl, hb⟩
    have HB11 := hide (bStep HB10.out hb)
    clear hb
    go_wp2_with fail
    all_goals (try exact (undef_bool ‹some undef = some (Value.bool _)›).elim)
    refine (H_vp.out _).mono ?_
    rintro e w12 ⟨rfl, hb⟩
    have HB12 := hide (bStep HB11.out hb)
    clear hb
    go_wp2_with fail
    all_goals (try exact (undef_bool ‹some undef = some (Value.bool _)›).elim)
    refine (H_vg.out _).mono ?_
    rintro e w13 ⟨rfl, hb⟩
    have HB13 := hide (bStep HB12.out hb)
    clear hb
    go_wp2_with fail
    all_goals (try exact (undef_bool ‹some undef = some (Value.bool _)›).elim)
    go_ret
    exact ⟨rfl, HB13.out⟩
set_option maxHeartbeats 4000000 in
set_option maxRecDepth 100000 in
theorem forms_lt_pos_lenA (a b s p c q r : ByteArray) (hf : fewB [a, b] = true) (va : OkValid a true) (vb : OkValid b true) (k1 : OkCall 12 a b s) (k3 : OkCall 13 a b p) (k5 : OkCall 17 a b c) (vs : OkValid s true) (vp : OkValid p true) (vg : OkValid c true) (k2 : ∀ W, Calls Tryd.prog 15 #[.string a, .string b] W (RangePost W)) (k4 : OkDiv a b q r) (vq : OkValid q true) (vr : OkValid r true) (na : (a.toList == [48]) = false) (nb : (b.toList == [48]) = false) (la : a.size ≤ 80) (lb : b.size ≤ 80) (lp : p.size  = a.size + b.size) (w : World) (hw : LawW w) :
    Calls Tryd.prog 8 #[.string a, .string b] w fun e w' => e = .returned (.bool true) ∧ Below w.heap.size w w' := by
  have q1 : IntKind.i64.wrap ((a.size : Int) + (b.size : Int)) = (a.size : Int) + (b.size : Int) := IntWalk.i64_in _ (by omega)
  have q2 : IntKind.i64.wrap ((a.size : Int) + (b.size : Int) - 1) = (a.size : Int) + (b.size : Int) - 1 := IntWalk.i64_in _ (by omega)
  have q3 : ((p.size : Int) == (a.size : Int) + (b.size : Int)) = true := by simp; omega
  clear lp
  have H_hf := hide hf
  clear hf
  have H_va := hide va
  clear va
  have H_vb := hide vb
  clear vb
  have H_k1 := hide k1
  clear k1
  have H_k3 := hide k3
  clear k3
  have H_k5 := hide k5
  clear k5
  have H_vs := hide vs
  clear vs
  have H_vp := hide vp
  clear vp
  have H_vg := hide vg
  clear vg
  have H_k2 := hide k2
  clear k2
  have H_k4 := hide k4
  clear k4
  have H_vq := hide vq
  clear vq
  have H_vr := hide vr
  clear vr
  have HB0 : Hid (Below w.heap.size w w) := Below.refl _ _
  have HW := hide hw
  clear hw
  go_enter Tryd.func8, Tryd.ntmps8
  go_wp2_with fail
  all_goals (try exact (undef_bool ‹some undef = some (Value.bool _)›).elim)
  refine (law03_head _ (HW.out.below HB0.out)).mono ?_
  rintro e w1 ⟨rfl, hb⟩
  have HB1 := hide (bStep HB0.out hb)
  clear hb
  go_wp2_with fail
  all_goals (try exact (undef_bool ‹some undef = some (Value.bool _)›).elim)
  refine (law03_few [a, b] _ _ (few2_slice _ a b _) (by simp)).mono ?_
  rintro e w2 ⟨rfl, rfl⟩
  rw [H_hf.out]
  have HB2 := hide (bAlloc HB1.out (.cells #[.string a, .string b] 22))
  go_wp2_with fail
  all_goals (try exact (undef_bool ‹some undef = some (Value.bool _)›).elim)
  refine (H_k1.out _ (HW.out.below HB2.out)).mono ?_
  rintro e w3 ⟨rfl, hb⟩
  have HB3 := hide (bStep HB2.out hb)
  clear hb
  go_wp2_with fail
  all_goals (try exact (undef_bool ‹some undef = some (Value.bool _)›).elim)
  refine (H_k2.out _).mono ?_
  rintro e w4 ⟨rfl, hb⟩
  have HB4 := hide (bStep HB3.out hb)
  clear hb
  go_wp2_with fail
  all_goals (try exact (undef_bool ‹some undef = some (Value.bool _)›).elim)
  refine (H_k3.out _ (HW.out.below HB4.out)).mono ?_
  rintro e w5 ⟨rfl, hb⟩
  have HB5 := hide (bStep HB4.out hb)
  clear hb
  go_wp2_with fail
  all_goals (try exact (undef_bool ‹some undef = some (Value.bool _)›).elim)
  refine (H_k4.out _ (HW.out.below HB5.out)).mono ?_
  rintro e w6 ⟨rfl, hb⟩
  have HB6 := hide (bStep HB5.out hb)
  clear hb
  go_wp2_with fail
  all_goals (try exact (undef_bool ‹some undef = some (Value.bool _)›).elim)
  refine (H_k5.out _ (HW.out.below HB6.out)).mono ?_
  rintro e w7 ⟨rfl, hb⟩
  have HB7 := hide (bStep HB6.out hb)
  clear hb
  go_wp2_with fail
  all_goals (try exact (undef_bool ‹some undef = some (Value.bool _)›).elim)
  refine (H_va.out _).mono ?_
  rintro e w8 ⟨rfl, hb⟩
  have HB8 := hide (bStep HB7.out hb)
  clear hb
  go_wp2_with fail
  all_goals (try exact (undef_bool ‹some undef = some (Value.bool _)›).elim)
  refine (H_vb.out _).mono ?_
  rintro e w9 ⟨rfl, hb⟩
  have HB9 := hide (bStep HB8.out hb)
  clear hb
  go_wp2_with fail
  all_goals (try exact (undef_bool ‹some undef = some (Value.bool _)›).elim)
  refine (H_vs.out _).mono ?_
  rintro e w10 ⟨rfl, hb⟩
  have HB10 := hide (bStep HB9.out hb)
  clear hb
  go_wp2_with fail
  all_goals (try exact (undef_bool ‹some undef = some (Value.bool _)›).elim)
  refine (H_vp.out _).mono ?_
  rintro e w11 ⟨rfl, hb⟩
  have HB11 := hide (bStep HB10.out hb)
  clear hb
  go_wp2_with fail
  all_goals (try exact (undef_bool ‹some undef = some (Value.bool _)›).elim)
  refine (H_vq.out _).mono ?_
  rintro e w12 ⟨rfl, hb⟩
  have HB12 := hide (bStep HB11.out hb)
  clear hb
  go_wp2_with fail
  all_goals (try exact (undef_bool ‹some undef = some (Value.bool _)›).elim)
  refine (H_vr.out _).mono ?_
  rintro e w13 ⟨rfl, hb⟩
  have HB13 := hide (bStep HB12.out hb)
  clear hb
  go_wp2_with fail
  all_goals (try exact (undef_bool ‹some undef = some (Value.bool _)›).elim)
  refine (H_vg.out _).mono ?_
  rintro e w14 ⟨rfl, hb⟩
  have HB14 := hide (bStep HB13.out hb)
  clear hb
  go_wp2_with fail
  all_goals (try exact (undef_bool ‹some undef = some (Value.bool _)›).elim)
  go_ret
  exact ⟨rfl, HB14.out⟩
set_option maxHeartbeats 4000000 in
set_option maxRecDepth 100000 in
theorem forms_lt_pos_lenB (a b s p c q r : ByteArray) (hf : fewB [a, b] = true) (va : OkValid a true) (vb : OkValid b true) (k1 : OkCall 12 a b s) (k3 : OkCall 13 a b p) (k5 : OkCall 17 a b c) (vs : OkValid s true) (vp : OkValid p true) (vg : OkValid c true) (k2 : ∀ W, Calls Tryd.prog 15 #[.string a, .string b] W (RangePost W)) (k4 : OkDiv a b q r) (vq : OkValid q true) (vr : OkValid r true) (na : (a.toList == [48]) = false) (nb : (b.toList == [48]) = false) (la : a.size ≤ 80) (lb : b.size ≤ 80) (lp : p.size + 1 = a.size + b.size) (w : World) (hw : LawW w) :
    Calls Tryd.prog 8 #[.string a, .string b] w fun e w' => e = .returned (.bool true) ∧ Below w.heap.size w w' := by
  have q1 : IntKind.i64.wrap ((a.size : Int) + (b.size : Int)) = (a.size : Int) + (b.size : Int) := IntWalk.i64_in _ (by omega)
  have q2 : IntKind.i64.wrap ((a.size : Int) + (b.size : Int) - 1) = (a.size : Int) + (b.size : Int) - 1 := IntWalk.i64_in _ (by omega)
  have q3 : ((p.size : Int) == (a.size : Int) + (b.size : Int)) = false := by simp; omega
  have q4 : ((p.size : Int) == (a.size : Int) + (b.size : Int) - 1) = true := by simp; omega
  clear lp
  have H_hf := hide hf
  clear hf
  have H_va := hide va
  clear va
  have H_vb := hide vb
  clear vb
  have H_k1 := hide k1
  clear k1
  have H_k3 := hide k3
  clear k3
  have H_k5 := hide k5
  clear k5
  have H_vs := hide vs
  clear vs
  have H_vp := hide vp
  clear vp
  have H_vg := hide vg
  clear vg
  have H_k2 := hide k2
  clear k2
  have H_k4 := hide k4
  clear k4
  have H_vq := hide vq
  clear vq
  have H_vr := hide vr
  clear vr
  have HB0 : Hid (Below w.heap.size w w) := Below.refl _ _
  have HW := hide hw
  clear hw
  go_enter Tryd.func8, Tryd.ntmps8
  go_wp2_with fail
  all_goals (try exact (undef_bool ‹some undef = some (Value.bool _)›).elim)
  refine (law03_head _ (HW.out.below HB0.out)).mono ?_
  rintro e w1 ⟨rfl, hb⟩
  have HB1 := hide (bStep HB0.out hb)
  clear hb
  go_wp2_with fail
  all_goals (try exact (undef_bool ‹some undef = some (Value.bool _)›).elim)
  refine (law03_few [a, b] _ _ (few2_slice _ a b _) (by simp)).mono ?_
  rintro e w2 ⟨rfl, rfl⟩
  rw [H_hf.out]
  have HB2 := hide (bAlloc HB1.out (.cells #[.string a, .string b] 22))
  go_wp2_with fail
  all_goals (try exact (undef_bool ‹some undef = some (Value.bool _)›).elim)
  refine (H_k1.out _ (HW.out.below HB2.out)).mono ?_
  rintro e w3 ⟨rfl, hb⟩
  have HB3 := hide (bStep HB2.out hb)
  clear hb
  go_wp2_with fail
  all_goals (try exact (undef_bool ‹some undef = some (Value.bool _)›).elim)
  refine (H_k2.out _).mono ?_
  rintro e w4 ⟨rfl, hb⟩
  have HB4 := hide (bStep HB3.out hb)
  clear hb
  go_wp2_with fail
  all_goals (try exact (undef_bool ‹some undef = some (Value.bool _)›).elim)
  refine (H_k3.out _ (HW.out.below HB4.out)).mono ?_
  rintro e w5 ⟨rfl, hb⟩
  have HB5 := hide (bStep HB4.out hb)
  clear hb
  go_wp2_with fail
  all_goals (try exact (undef_bool ‹some undef = some (Value.bool _)›).elim)
  refine (H_k4.out _ (HW.out.below HB5.out)).mono ?_
  rintro e w6 ⟨rfl, hb⟩
  have HB6 := hide (bStep HB5.out hb)
  clear hb
  go_wp2_with fail
  all_goals (try exact (undef_bool ‹some undef = some (Value.bool _)›).elim)
  refine (H_k5.out _ (HW.out.below HB6.out)).mono ?_
  rintro e w7 ⟨rfl, hb⟩
  have HB7 := hide (bStep HB6.out hb)
  clear hb
  go_wp2_with fail
  all_goals (try exact (undef_bool ‹some undef = some (Value.bool _)›).elim)
  refine (H_va.out _).mono ?_
  rintro e w8 ⟨rfl, hb⟩
  have HB8 := hide (bStep HB7.out hb)
  clear hb
  go_wp2_with fail
  all_goals (try exact (undef_bool ‹some undef = some (Value.bool _)›).elim)
  refine (H_vb.out _).mono ?_
  rintro e w9 ⟨rfl, hb⟩
  have HB9 := hide (bStep HB8.out hb)
  clear hb
  go_wp2_with fail
  all_goals (try exact (undef_bool ‹some undef = some (Value.bool _)›).elim)
  refine (H_vs.out _).mono ?_
  rintro e w10 ⟨rfl, hb⟩
  have HB10 := hide (bStep HB9.out hb)
  clear hb
  go_wp2_with fail
  all_goals (try exact (undef_bool ‹some undef = some (Value.bool _)›).elim)
  refine (H_vp.out _).mono ?_
  rintro e w11 ⟨rfl, hb⟩
  have HB11 := hide (bStep HB10.out hb)
  clear hb
  go_wp2_with fail
  all_goals (try exact (undef_bool ‹some undef = some (Value.bool _)›).elim)
  refine (H_vq.out _).mono ?_
  rintro e w12 ⟨rfl, hb⟩
  have HB12 := hide (bStep HB11.out hb)
  clear hb
  go_wp2_with fail
  all_goals (try exact (undef_bool ‹some undef = some (Value.bool _)›).elim)
  refine (H_vr.out _).mono ?_
  rintro e w13 ⟨rfl, hb⟩
  have HB13 := hide (bStep HB12.out hb)
  clear hb
  go_wp2_with fail
  all_goals (try exact (undef_bool ‹some undef = some (Value.bool _)›).elim)
  refine (H_vg.out _).mono ?_
  rintro e w14 ⟨rfl, hb⟩
  have HB14 := hide (bStep HB13.out hb)
  clear hb
  go_wp2_with fail
  all_goals (try exact (undef_bool ‹some undef = some (Value.bool _)›).elim)
  go_ret
  exact ⟨rfl, HB14.out⟩
set_option maxHeartbeats 4000000 in
set_option maxRecDepth 100000 in
theorem forms_lt_pos_za (b s p c q r : ByteArray) (hf : fewB [⟨#[48]⟩, b] = true) (va : OkValid ⟨#[48]⟩ true) (vb : OkValid b true) (k1 : OkCall 12 ⟨#[48]⟩ b s) (k3 : OkCall 13 ⟨#[48]⟩ b p) (k5 : OkCall 17 ⟨#[48]⟩ b c) (vs : OkValid s true) (vp : OkValid p true) (vg : OkValid c true) (k2 : ∀ W, Calls Tryd.prog 15 #[.string ⟨#[48]⟩, .string b] W (RangePost W)) (k4 : OkDiv ⟨#[48]⟩ b q r) (vq : OkValid q true) (vr : OkValid r true) (w : World) (hw : LawW w) :
    Calls Tryd.prog 8 #[.string ⟨#[48]⟩, .string b] w fun e w' => e = .returned (.bool true) ∧ Below w.heap.size w w' := by
  have H_hf := hide hf
  clear hf
  have H_va := hide va
  clear va
  have H_vb := hide vb
  clear vb
  have H_k1 := hide k1
  clear k1
  have H_k3 := hide k3
  clear k3
  have H_k5 := hide k5
  clear k5
  have H_vs := hide vs
  clear vs
  have H_vp := hide vp
  clear vp
  have H_vg := hide vg
  clear vg
  have H_k2 := hide k2
  clear k2
  have H_k4 := hide k4
  clear k4
  have H_vq := hide vq
  clear vq
  have H_vr := hide vr
  clear vr
  have HB0 : Hid (Below w.heap.size w w) := Below.refl _ _
  have HW := hide hw
  clear hw
  go_enter Tryd.func8, Tryd.ntmps8
  go_wp2_with fail
  all_goals (try exact (undef_bool ‹some undef = some (Value.bool _)›).elim)
  refine (law03_head _ (HW.out.below HB0.out)).mono ?_
  rintro e w1 ⟨rfl, hb⟩
  have HB1 := hide (bStep HB0.out hb)
  clear hb
  go_wp2_with fail
  all_goals (try exact (undef_bool ‹some undef = some (Value.bool _)›).elim)
  refine (law03_few [⟨#[48]⟩, b] _ _ (few2_slice _ ⟨#[48]⟩ b _) (by simp)).mono ?_
  rintro e w2 ⟨rfl, rfl⟩
  rw [H_hf.out]
  have HB2 := hide (bAlloc HB1.out (.cells #[.string ⟨#[48]⟩, .string b] 22))
  go_wp2_with fail
  all_goals (try exact (undef_bool ‹some undef = some (Value.bool _)›).elim)
  refine (H_k1.out _ (HW.out.below HB2.out)).mono ?_
  rintro e w3 ⟨rfl, hb⟩
  have HB3 := hide (bStep HB2.out hb)
  clear hb
  go_wp2_with fail
  all_goals (try exact (undef_bool ‹some undef = some (Value.bool _)›).elim)
  refine (H_k2.out _).mono ?_
  rintro e w4 ⟨rfl, hb⟩
  have HB4 := hide (bStep HB3.out hb)
  clear hb
  go_wp2_with fail
  all_goals (try exact (undef_bool ‹some undef = some (Value.bool _)›).elim)
  refine (H_k3.out _ (HW.out.below HB4.out)).mono ?_
  rintro e w5 ⟨rfl, hb⟩
  have HB5 := hide (bStep HB4.out hb)
  clear hb
  go_wp2_with fail
  all_goals (try exact (undef_bool ‹some undef = some (Value.bool _)›).elim)
  refine (H_k4.out _ (HW.out.below HB5.out)).mono ?_
  rintro e w6 ⟨rfl, hb⟩
  have HB6 := hide (bStep HB5.out hb)
  clear hb
  go_wp2_with fail
  all_goals (try exact (undef_bool ‹some undef = some (Value.bool _)›).elim)
  refine (H_k5.out _ (HW.out.below HB6.out)).mono ?_
  rintro e w7 ⟨rfl, hb⟩
  have HB7 := hide (bStep HB6.out hb)
  clear hb
  go_wp2_with fail
  all_goals (try exact (undef_bool ‹some undef = some (Value.bool _)›).elim)
  refine (H_va.out _).mono ?_
  rintro e w8 ⟨rfl, hb⟩
  have HB8 := hide (bStep HB7.out hb)
  clear hb
  go_wp2_with fail
  all_goals (try exact (undef_bool ‹some undef = some (Value.bool _)›).elim)
  refine (H_vb.out _).mono ?_
  rintro e w9 ⟨rfl, hb⟩
  have HB9 := hide (bStep HB8.out hb)
  clear hb
  go_wp2_with fail
  all_goals (try exact (undef_bool ‹some undef = some (Value.bool _)›).elim)
  refine (H_vs.out _).mono ?_
  rintro e w10 ⟨rfl, hb⟩
  have HB10 := hide (bStep HB9.out hb)
  clear hb
  go_wp2_with fail
  all_goals (try exact (undef_bool ‹some undef = some (Value.bool _)›).elim)
  refine (H_vp.out _).mono ?_
  rintro e w11 ⟨rfl, hb⟩
  have HB11 := hide (bStep HB10.out hb)
  clear hb
  go_wp2_with fail
  all_goals (try exact (undef_bool ‹some undef = some (Value.bool _)›).elim)
  refine (H_vq.out _).mono ?_
  rintro e w12 ⟨rfl, hb⟩
  have HB12 := hide (bStep HB11.out hb)
  clear hb
  go_wp2_with fail
  all_goals (try exact (undef_bool ‹some undef = some (Value.bool _)›).elim)
  refine (H_vr.out _).mono ?_
  rintro e w13 ⟨rfl, hb⟩
  have HB13 := hide (bStep HB12.out hb)
  clear hb
  go_wp2_with fail
  all_goals (try exact (undef_bool ‹some undef = some (Value.bool _)›).elim)
  refine (H_vg.out _).mono ?_
  rintro e w14 ⟨rfl, hb⟩
  have HB14 := hide (bStep HB13.out hb)
  clear hb
  go_wp2_with fail
  all_goals (try exact (undef_bool ‹some undef = some (Value.bool _)›).elim)
  go_ret
  exact ⟨rfl, HB14.out⟩
theorem mul_len {x y : Nat} (hx : 0 < x) (hy : 0 < y) : (natS (x * y)).size = (natS x).size + (natS y).size ∨ (natS (x * y)).size + 1 = (natS x).size + (natS y).size := by
  rw [natS_size, natS_size, natS_size]
  have a1 := dec_len_low (n := x) (by omega)
  have a2 := dec_len_low (n := y) (by omega)
  have p1 := dec_len_pos x
  have p2 := dec_len_pos y
  have u : (Lib.decDigits (x * y)).length ≤ (Lib.decDigits x).length + (Lib.decDigits y).length := by
    rw [dec_len_le (by omega), Nat.pow_add]
    have b1 := (dec_len_le (n := x) p1).1 (Nat.le_refl _)
    have b2 := (dec_len_le (n := y) p2).1 (Nat.le_refl _)
    exact Nat.mul_lt_mul_of_le_of_lt (Nat.le_of_lt b1) b2 (Nat.pow_pos (by omega))
  have l : ¬ (Lib.decDigits (x * y)).length ≤ (Lib.decDigits x).length + (Lib.decDigits y).length - 2 := by
    intro h
    by_cases h0 : 1 ≤ (Lib.decDigits x).length + (Lib.decDigits y).length - 2
    · rw [dec_len_le h0] at h
      have : 10 ^ ((Lib.decDigits x).length - 1) * 10 ^ ((Lib.decDigits y).length - 1) ≤ x * y := Nat.mul_le_mul a1 a2
      rw [← Nat.pow_add, show (Lib.decDigits x).length - 1 + ((Lib.decDigits y).length - 1) = (Lib.decDigits x).length + (Lib.decDigits y).length - 2 by omega] at this
      omega
    · have := dec_len_pos (x * y)
      omega
  omega
theorem few2_nat {a b : ByteArray} (h : fewB [a, b] = true) : a.size ≤ 80 ∧ b.size ≤ 80 := by
  simpa [fewB] using h
theorem naturalForms_walk (a b : ByteArray) (w : World) (ma : a.size ≤ maxLen) (mb : b.size ≤ maxLen) (hw : LawW w) :
    Calls Tryd.prog 8 #[.string a, .string b] w fun e w' => e = .returned (.bool true) ∧ Below w.heap.size w w' := by
  cases hf : fewB [a, b] with
  | false => exact forms_out0 a b w hw hf
  | true =>
    obtain ⟨l0, l1⟩ := few2_nat hf
    rcases good_or_bad a b with ⟨x, y, cx, cy, rfl, rfl⟩ | hbad
    case inr =>
      refine forms_bad a b (vldN a) (vldN b) hbad w hw hf ma mb hbad rfl rfl
    have hx : x < capK 80 := (capK_len (by decide)).1 (by rw [← natS_size]; exact l0)
    have hy : y < capK 80 := (capK_len (by decide)).1 (by rw [← natS_size]; exact l1)
    have cs := to_capN (add_capK hx hy) (by decide)
    have cp := to_capN (mul_capK hx hy) (by decide)
    have cg := gcd_cap cx cy
    by_cases h0 : 0 < y
    · have cq : x / y < capN := Nat.lt_of_le_of_lt (Nat.div_le_self x y) cx
      have cr : x % y < capN := Nat.lt_trans (Nat.mod_lt _ h0) cy
      have nb : ((natS y).toList == [48]) = false := str_ne (natS_ne_zero h0) (by rfl)
      by_cases hle : y ≤ x
      · have na : ((natS x).toList == [48]) = false := str_ne (natS_ne_zero (by omega)) (by rfl)
        rcases mul_len (x := x) (y := y) (by omega) h0 with hl | hl
        · exact forms_ge_pos_lenA (natS x) (natS y) (natS (x + y)) (natS (x * y)) (natS (Nat.gcd x y)) (natS (x - y)) (natS (x / y)) (natS (x % y)) hf (ok_valid cx) (ok_valid cy) (ok_add cx cy rfl cs) (ok_mul cx cy rfl cp) (ok_gcd cx cy rfl) (ok_valid cs) (ok_valid cp) (ok_valid cg) (ok_sub cx cy (by omega)) (ok_valid (by omega)) (ok_div cx cy h0 rfl rfl) (ok_valid cq) (ok_valid cr) na nb l0 l1 hl w hw
        · exact forms_ge_pos_lenB (natS x) (natS y) (natS (x + y)) (natS (x * y)) (natS (Nat.gcd x y)) (natS (x - y)) (natS (x / y)) (natS (x % y)) hf (ok_valid cx) (ok_valid cy) (ok_add cx cy rfl cs) (ok_mul cx cy rfl cp) (ok_gcd cx cy rfl) (ok_valid cs) (ok_valid cp) (ok_valid cg) (ok_sub cx cy (by omega)) (ok_valid (by omega)) (ok_div cx cy h0 rfl rfl) (ok_valid cq) (ok_valid cr) na nb l0 l1 hl w hw
      · by_cases hx0 : 0 < x
        · have na : ((natS x).toList == [48]) = false := str_ne (natS_ne_zero hx0) (by rfl)
          rcases mul_len (x := x) (y := y) hx0 h0 with hl | hl
          · exact forms_lt_pos_lenA (natS x) (natS y) (natS (x + y)) (natS (x * y)) (natS (Nat.gcd x y)) (natS (x / y)) (natS (x % y)) hf (ok_valid cx) (ok_valid cy) (ok_add cx cy rfl cs) (ok_mul cx cy rfl cp) (ok_gcd cx cy rfl) (ok_valid cs) (ok_valid cp) (ok_valid cg) (fun W => nat_sub_less x y W cx cy (by omega)) (ok_div cx cy h0 rfl rfl) (ok_valid cq) (ok_valid cr) na nb l0 l1 hl w hw
          · exact forms_lt_pos_lenB (natS x) (natS y) (natS (x + y)) (natS (x * y)) (natS (Nat.gcd x y)) (natS (x / y)) (natS (x % y)) hf (ok_valid cx) (ok_valid cy) (ok_add cx cy rfl cs) (ok_mul cx cy rfl cp) (ok_gcd cx cy rfl) (ok_valid cs) (ok_valid cp) (ok_valid cg) (fun W => nat_sub_less x y W cx cy (by omega)) (ok_div cx cy h0 rfl rfl) (ok_valid cq) (ok_valid cr) na nb l0 l1 hl w hw
        · obtain rfl : x = 0 := by omega
          have e := natS_zero
          have v0 := ok_valid cx
          have k1 := ok_add cx cy rfl cs
          have k3 := ok_mul cx cy rfl cp
          have k5 := ok_gcd cx cy rfl
          have k2 := fun W => nat_sub_less 0 y W cx cy (by omega)
          have k4 := ok_div cx cy h0 rfl rfl
          rw [e] at hf v0 k1 k3 k5 k2 k4
          rw [e]
          exact forms_lt_pos_za (natS y) (natS (0 + y)) (natS (0 * y)) (natS (Nat.gcd 0 y)) (natS (0 / y)) (natS (0 % y)) hf v0 (ok_valid cy) k1 k3 k5 (ok_valid cs) (ok_valid cp) (ok_valid cg) k2 k4 (ok_valid cq) (ok_valid cr) w hw
    · obtain rfl : y = 0 := by omega
      have v0 := ok_valid cy
      have k1 := ok_add cx cy rfl cs
      have k3 := ok_mul cx cy rfl cp
      have k5 := ok_gcd cx cy rfl
      have k2 := ok_sub (n := x) cx cy rfl
      rw [natS_zero] at hf v0 k1 k3 k5 k2 ⊢
      exact forms_ge_zero_zb (natS x) (natS (x + 0)) (natS (x * 0)) (natS (Nat.gcd x 0)) (natS x) _ hf (ok_valid cx) v0 k1 k3 k5 (ok_valid cs) (ok_valid cp) (ok_valid cg) k2 (ok_valid cx) (fun W => nat_div_zero x W cx) rfl w hw
end Go.Proofs.YtbefdlncpobmlaaDoor
