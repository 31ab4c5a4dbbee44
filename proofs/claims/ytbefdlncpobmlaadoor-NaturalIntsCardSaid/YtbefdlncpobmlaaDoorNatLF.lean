/- NaturalInts: the walk. -/
import Derived.Test.YtbefdlncpobmlaaDoorNatK
import Derived.BigGuard
namespace Go.Proofs.YtbefdlncpobmlaaDoor
open Go.RowKit

def OkOf (n : Int) (x : ByteArray) : Prop := ∀ W, LawW W → Calls Tryd.prog 18 #[.int .i64 n] W fun e w' => e = .returned (.tuple #[.string x, .int .i64 0]) ∧ Below W.heap.size W w'
def OkInt (x : ByteArray) (n c : Int) : Prop := ∀ W, LawW W → Calls Tryd.prog 19 #[.string x] W fun e w' => e = .returned (.tuple #[.int .i64 n, .int .i64 c]) ∧ Below W.heap.size W w'
theorem ok_of (n : Nat) (h : n ≤ 9223372036854775807) : OkOf (n : Int) (natS n) := fun W hW => nat_of (n : Int) W (by omega) (by omega) hW
theorem ok_int {n : Nat} (hn : n < capN) (h : n ≤ 1000000000000) : OkInt (natS n) (n : Int) 0 := fun W hW => by
  have := nat_int n W hn hW
  rw [if_pos h, if_pos h] at this
  exact this
theorem ok_int_big {n : Nat} (hn : n < capN) (h : ¬ n ≤ 1000000000000) : OkInt (natS n) 0 9 := fun W hW => by
  have := nat_int n W hn hW
  rw [if_neg h, if_neg h] at this
  exact this
theorem ok_int_empty : OkInt ⟨#[]⟩ 0 1 := fun W _ => nat_int_bad ⟨#[]⟩ W (by decide) (by decide +kernel)
set_option maxHeartbeats 4000000 in
set_option maxRecDepth 100000 in
theorem ints_outA0 (A B : Int) (h : A < 0) (w : World) (hw : LawW w) :
    Calls Tryd.prog 7 #[.int .i64 A, .int .i64 B] w fun e w' => e = .returned (.bool true) ∧ Below w.heap.size w w' := by
  have f0 : decide (A < 0) = true := by simp; omega
  clear h
  have HB0 : Hid (Below w.heap.size w w) := Below.refl _ _
  have HW := hide hw
  clear hw
  go_enter Tryd.func7, Tryd.ntmps7
  go_wp2_with fail
  refine (law03_head _ (HW.out.below HB0.out)).mono ?_
  rintro e w1 ⟨rfl, hb⟩
  have HB1 := hide (bStep HB0.out hb)
  clear hb
  go_wp2_with fail
  go_ret
  exact ⟨rfl, HB1.out⟩
set_option maxHeartbeats 4000000 in
set_option maxRecDepth 100000 in
theorem ints_outA1 (A B : Int) (h : 1000000000000 < A) (w : World) (hw : LawW w) :
    Calls Tryd.prog 7 #[.int .i64 A, .int .i64 B] w fun e w' => e = .returned (.bool true) ∧ Below w.heap.size w w' := by
  have f0 : decide (A < 0) = false := by simp; omega
  have f1 : decide (1000000000000 < A) = true := by simp; omega
  clear h
  have HB0 : Hid (Below w.heap.size w w) := Below.refl _ _
  have HW := hide hw
  clear hw
  go_enter Tryd.func7, Tryd.ntmps7
  go_wp2_with fail
  refine (law03_head _ (HW.out.below HB0.out)).mono ?_
  rintro e w1 ⟨rfl, hb⟩
  have HB1 := hide (bStep HB0.out hb)
  clear hb
  go_wp2_with fail
  go_ret
  exact ⟨rfl, HB1.out⟩
set_option maxHeartbeats 4000000 in
set_option maxRecDepth 100000 in
theorem ints_outB0 (A B : Int) (h : 0 ≤ A ∧ A ≤ 1000000000000 ∧ B < 0) (w : World) (hw : LawW w) :
    Calls Tryd.prog 7 #[.int .i64 A, .int .i64 B] w fun e w' => e = .returned (.bool true) ∧ Below w.heap.size w w' := by
  have f0 : decide (A < 0) = false := by simp; omega
  have f1 : decide (1000000000000 < A) = false := by simp; omega
  have f2 : decide (B < 0) = true := by simp; omega
  clear h
  have HB0 : Hid (Below w.heap.size w w) := Below.refl _ _
  have HW := hide hw
  clear hw
  go_enter Tryd.func7, Tryd.ntmps7
  go_wp2_with fail
  refine (law03_head _ (HW.out.below HB0.out)).mono ?_
  rintro e w1 ⟨rfl, hb⟩
  have HB1 := hide (bStep HB0.out hb)
  clear hb
  go_wp2_with fail
  go_ret
  exact ⟨rfl, HB1.out⟩
set_option maxHeartbeats 4000000 in
set_option maxRecDepth 100000 in
theorem ints_outB1 (A B : Int) (h : 0 ≤ A ∧ A ≤ 1000000000000 ∧ 1000000000000 < B) (w : World) (hw : LawW w) :
    Calls Tryd.prog 7 #[.int .i64 A, .int .i64 B] w fun e w' => e = .returned (.bool true) ∧ Below w.heap.size w w' := by
  have f0 : decide (A < 0) = false := by simp; omega
  have f1 : decide (1000000000000 < A) = false := by simp; omega
  have f2 : decide (B < 0) = false := by simp; omega
  have f3 : decide (1000000000000 < B) = true := by simp; omega
  clear h
  have HB0 : Hid (Below w.heap.size w w) := Below.refl _ _
  have HW := hide hw
  clear hw
  go_enter Tryd.func7, Tryd.ntmps7
  go_wp2_with fail
  refine (law03_head _ (HW.out.below HB0.out)).mono ?_
  rintro e w1 ⟨rfl, hb⟩
  have HB1 := hide (bStep HB0.out hb)
  clear hb
  go_wp2_with fail
  go_ret
  exact ⟨rfl, HB1.out⟩
set_option maxHeartbeats 4000000 in
set_option maxRecDepth 100000 in
theorem ints_lt_pos_small_no1 (A B : Int) (x y s q r : ByteArray) (h1 : 0 ≤ A) (h2 : A ≤ 1000000000000) (h3 : 0 ≤ B) (h4 : B ≤ 1000000000000) (h5 : A < B) (h6 : 0 < B) (h7 : A + B ≤ 1000000000000) (h8 : 1000000 ≤ A) (kA : OkOf A x) (kB : OkOf B y) (iA : OkInt x A 0) (kc : OkComp x y (-1)) (ks : OkCall 12 x y s) (is : OkInt s (A + B) 0) (kd : ∀ W, Calls Tryd.prog 15 #[.string x, .string y] W (RangePost W)) (kq : OkDiv x y q r) (iq : OkInt q (A.tdiv B) 0) (ir : OkInt r (A.tmod B) 0) (w1 : IntKind.i64.wrap (A + B) = A + B) (w2 : IntKind.i64.wrap (A - B) = A - B) (w3 : IntKind.i64.wrap (A.tdiv B) = A.tdiv B) (w4 : IntKind.i64.wrap (A.tmod B) = A.tmod B) (w : World) (hw : LawW w) :
    Calls Tryd.prog 7 #[.int .i64 A, .int .i64 B] w fun e w' => e = .returned (.bool true) ∧ Below w.heap.size w w' := by
  have f0 : decide (A < 0) = false := by simp; omega
  have f1 : decide (1000000000000 < A) = false := by simp; omega
  have f2 : decide (B < 0) = false := by simp; omega
  have f3 : decide (1000000000000 < B) = false := by simp; omega
  have f4 : decide (A < B) = true := by simp; omega
  have f5 : decide (B < A) = false := by simp; omega
  have f6 : decide (B ≤ A) = false := by simp; omega
  have f7 : decide (A + B ≤ 1000000000000) = true := by simp; omega
  have f8 : decide (1000000000000 < A + B) = false := by simp; omega
  have f9 : decide (0 < B) = true := by simp; omega
  have f10 : decide (1000000 ≤ A) = true := by simp; omega
  have g : (B == 0) = false := by simp; omega
  have g2 : B ≠ 0 := by omega
  clear h1 h2 h3 h4 h5 h6 h7 h8
  have H_kA := hide kA
  clear kA
  have H_kB := hide kB
  clear kB
  have H_iA := hide iA
  clear iA
  have H_kc := hide kc
  clear kc
  have H_ks := hide ks
  clear ks
  have H_is := hide is
  clear is
  have H_kd := hide kd
  clear kd
  have H_kq := hide kq
  clear kq
  have H_iq := hide iq
  clear iq
  have H_ir := hide ir
  clear ir
  have HB0 : Hid (Below w.heap.size w w) := Below.refl _ _
  have HW := hide hw
  clear hw
  go_enter Tryd.func7, Tryd.ntmps7
  go_wp2_with fail
  refine (law03_head _ (HW.out.below HB0.out)).mono ?_
  rintro e w1 ⟨rfl, hb⟩
  have HB1 := hide (bStep HB0.out hb)
  clear hb
  go_wp2_with fail
  refine (H_kA.out _ (HW.out.below HB1.out)).mono ?_
  rintro e w2 ⟨rfl, hb⟩
  have HB2 := hide (bStep HB1.out hb)
  clear hb
  go_wp2_with fail
  refine (H_kB.out _ (HW.out.below HB2.out)).mono ?_
  rintro e w3 ⟨rfl, hb⟩
  have HB3 := hide (bStep HB2.out hb)
  clear hb
  go_wp2_with fail
  refine (H_iA.out _ (HW.out.below HB3.out)).mono ?_
  rintro e w4 ⟨rfl, hb⟩
  have HB4 := hide (bStep HB3.out hb)
  clear hb
  go_wp2_with fail
  refine (H_kc.out _).mono ?_
  rintro e w5 ⟨rfl, hb⟩
  have HB5 := hide (bStep HB4.out hb)
  clear hb
  go_wp2_with fail
  refine (H_ks.out _ (HW.out.below HB5.out)).mono ?_
  rintro e w6 ⟨rfl, hb⟩
  have HB6 := hide (bStep HB5.out hb)
  clear hb
  go_wp2_with fail
  refine (H_is.out _ (HW.out.below HB6.out)).mono ?_
  rintro e w7 ⟨rfl, hb⟩
  have HB7 := hide (bStep HB6.out hb)
  clear hb
  go_wp2_with fail
  refine (H_kd.out _).mono ?_
  rintro e w8 ⟨rfl, hb⟩
  have HB8 := hide (bStep HB7.out hb)
  clear hb
  go_wp2_with fail
  refine (ok_int_empty _ (HW.out.below HB8.out)).mono ?_
  rintro e w9 ⟨rfl, hb⟩
  have HB9 := hide (bStep HB8.out hb)
  clear hb
  go_wp2_with fail
  refine (H_kq.out _ (HW.out.below HB9.out)).mono ?_
  rintro e w10 ⟨rfl, hb⟩
  have HB10 := hide (bStep HB9.out hb)
  clear hb
  go_wp2_with fail
  refine (H_iq.out _ (HW.out.below HB10.out)).mono ?_
  rintro e w11 ⟨rfl, hb⟩
  have HB11 := hide (bStep HB10.out hb)
  clear hb
  go_wp2_with fail
  refine (H_ir.out _ (HW.out.below HB11.out)).mono ?_
  rintro e w12 ⟨rfl, hb⟩
  have HB12 := hide (bStep HB11.out hb)
  clear hb
  go_wp2_with fail
  go_ret
  exact ⟨rfl, HB12.out⟩
set_option maxHeartbeats 4000000 in
set_option maxRecDepth 100000 in
theorem ints_lt_pos_small_no2 (A B : Int) (x y s q r : ByteArray) (h1 : 0 ≤ A) (h2 : A ≤ 1000000000000) (h3 : 0 ≤ B) (h4 : B ≤ 1000000000000) (h5 : A < B) (h6 : 0 < B) (h7 : A + B ≤ 1000000000000) (h8 : A < 1000000 ∧ 1000000 ≤ B) (kA : OkOf A x) (kB : OkOf B y) (iA : OkInt x A 0) (kc : OkComp x y (-1)) (ks : OkCall 12 x y s) (is : OkInt s (A + B) 0) (kd : ∀ W, Calls Tryd.prog 15 #[.string x, .string y] W (RangePost W)) (kq : OkDiv x y q r) (iq : OkInt q (A.tdiv B) 0) (ir : OkInt r (A.tmod B) 0) (w1 : IntKind.i64.wrap (A + B) = A + B) (w2 : IntKind.i64.wrap (A - B) = A - B) (w3 : IntKind.i64.wrap (A.tdiv B) = A.tdiv B) (w4 : IntKind.i64.wrap (A.tmod B) = A.tmod B) (w : World) (hw : LawW w) :
    Calls Tryd.prog 7 #[.int .i64 A, .int .i64 B] w fun e w' => e = .returned (.bool true) ∧ Below w.heap.size w w' := by
  have f0 : decide (A < 0) = false := by simp; omega
  have f1 : decide (1000000000000 < A) = false := by simp; omega
  have f2 : decide (B < 0) = false := by simp; omega
  have f3 : decide (1000000000000 < B) = false := by simp; omega
  have f4 : decide (A < B) = true := by simp; omega
  have f5 : decide (B < A) = false := by simp; omega
  have f6 : decide (B ≤ A) = false := by simp; omega
  have f7 : decide (A + B ≤ 1000000000000) = true := by simp; omega
  have f8 : decide (1000000000000 < A + B) = false := by simp; omega
  have f9 : decide (0 < B) = true := by simp; omega
  have f10 : decide (1000000 ≤ A) = false := by simp; omega
  have f11 : decide (1000000 ≤ B) = true := by simp; omega
  have g : (B == 0) = false := by simp; omega
  have g2 : B ≠ 0 := by omega
  clear h1 h2 h3 h4 h5 h6 h7 h8
  have H_kA := hide kA
  clear kA
  have H_kB := hide kB
  clear kB
  have H_iA := hide iA
  clear iA
  have H_kc := hide kc
  clear kc
  have H_ks := hide ks
  clear ks
  have H_is := hide is
  clear is
  have H_kd := hide kd
  clear kd
  have H_kq := hide kq
  clear kq
  have H_iq := hide iq
  clear iq
  have H_ir := hide ir
  clear ir
  have HB0 : Hid (Below w.heap.size w w) := Below.refl _ _
  have HW := hide hw
  clear hw
  go_enter Tryd.func7, Tryd.ntmps7
  go_wp2_with fail
  refine (law03_head _ (HW.out.below HB0.out)).mono ?_
  rintro e w1 ⟨rfl, hb⟩
  have HB1 := hide (bStep HB0.out hb)
  clear hb
  go_wp2_with fail
  refine (H_kA.out _ (HW.out.below HB1.out)).mono ?_
  rintro e w2 ⟨rfl, hb⟩
  have HB2 := hide (bStep HB1.out hb)
  clear hb
  go_wp2_with fail
  refine (H_kB.out _ (HW.out.below HB2.out)).mono ?_
  rintro e w3 ⟨rfl, hb⟩
  have HB3 := hide (bStep HB2.out hb)
  clear hb
  go_wp2_with fail
  refine (H_iA.out _ (HW.out.below HB3.out)).mono ?_
  rintro e w4 ⟨rfl, hb⟩
  have HB4 := hide (bStep HB3.out hb)
  clear hb
  go_wp2_with fail
  refine (H_kc.out _).mono ?_
  rintro e w5 ⟨rfl, hb⟩
  have HB5 := hide (bStep HB4.out hb)
  clear hb
  go_wp2_with fail
  refine (H_ks.out _ (HW.out.below HB5.out)).mono ?_
  rintro e w6 ⟨rfl, hb⟩
  have HB6 := hide (bStep HB5.out hb)
  clear hb
  go_wp2_with fail
  refine (H_is.out _ (HW.out.below HB6.out)).mono ?_
  rintro e w7 ⟨rfl, hb⟩
  have HB7 := hide (bStep HB6.out hb)
  clear hb
  go_wp2_with fail
  refine (H_kd.out _).mono ?_
  rintro e w8 ⟨rfl, hb⟩
  have HB8 := hide (bStep HB7.out hb)
  clear hb
  go_wp2_with fail
  refine (ok_int_empty _ (HW.out.below HB8.out)).mono ?_
  rintro e w9 ⟨rfl, hb⟩
  have HB9 := hide (bStep HB8.out hb)
  clear hb
  go_wp2_with fail
  refine (H_kq.out _ (HW.out.below HB9.out)).mono ?_
  rintro e w10 ⟨rfl, hb⟩
  have HB10 := hide (bStep HB9.out hb)
  clear hb
  go_wp2_with fail
  refine (H_iq.out _ (HW.out.below HB10.out)).mono ?_
  rintro e w11 ⟨rfl, hb⟩
  have HB11 := hide (bStep HB10.out hb)
  clear hb
  go_wp2_with fail
  refine (H_ir.out _ (HW.out.below HB11.out)).mono ?_
  rintro e w12 ⟨rfl, hb⟩
  have HB12 := hide (bStep HB11.out hb)
  clear hb
  go_wp2_with fail
  go_ret
  exact ⟨rfl, HB12.out⟩
set_option maxHeartbeats 4000000 in
set_option maxRecDepth 100000 in
theorem ints_lt_pos_small_yes (A B : Int) (x y s q r p : ByteArray) (h1 : 0 ≤ A) (h2 : A ≤ 1000000000000) (h3 : 0 ≤ B) (h4 : B ≤ 1000000000000) (h5 : A < B) (h6 : 0 < B) (h7 : A + B ≤ 1000000000000) (h8 : A < 1000000 ∧ B < 1000000) (kA : OkOf A x) (kB : OkOf B y) (iA : OkInt x A 0) (kc : OkComp x y (-1)) (ks : OkCall 12 x y s) (is : OkInt s (A + B) 0) (kd : ∀ W, Calls Tryd.prog 15 #[.string x, .string y] W (RangePost W)) (kq : OkDiv x y q r) (iq : OkInt q (A.tdiv B) 0) (ir : OkInt r (A.tmod B) 0) (kp : OkCall 13 x y p) (ip : OkInt p (A * B) 0) (w1 : IntKind.i64.wrap (A + B) = A + B) (w2 : IntKind.i64.wrap (A - B) = A - B) (w3 : IntKind.i64.wrap (A.tdiv B) = A.tdiv B) (w4 : IntKind.i64.wrap (A.tmod B) = A.tmod B) (w5 : IntKind.i64.wrap (A * B) = A * B) (w : World) (hw : LawW w) :
    Calls Tryd.prog 7 #[.int .i64 A, .int .i64 B] w fun e w' => e = .returned (.bool true) ∧ Below w.heap.size w w' := by
  have f0 : decide (A < 0) = false := by simp; omega
  have f1 : decide (1000000000000 < A) = false := by simp; omega
  have f2 : decide (B < 0) = false := by simp; omega
  have f3 : decide (1000000000000 < B) = false := by simp; omega
  have f4 : decide (A < B) = true := by simp; omega
  have f5 : decide (B < A) = false := by simp; omega
  have f6 : decide (B ≤ A) = false := by simp; omega
  have f7 : decide (A + B ≤ 1000000000000) = true := by simp; omega
  have f8 : decide (1000000000000 < A + B) = false := by simp; omega
  have f9 : decide (0 < B) = true := by simp; omega
  have f10 : decide (1000000 ≤ A) = false := by simp; omega
  have f11 : decide (1000000 ≤ B) = false := by simp; omega
  have g : (B == 0) = false := by simp; omega
  have g2 : B ≠ 0 := by omega
  clear h1 h2 h3 h4 h5 h6 h7 h8
  have H_kA := hide kA
  clear kA
  have H_kB := hide kB
  clear kB
  have H_iA := hide iA
  clear iA
  have H_kc := hide kc
  clear kc
  have H_ks := hide ks
  clear ks
  have H_is := hide is
  clear is
  have H_kd := hide kd
  clear kd
  have H_kq := hide kq
  clear kq
  have H_iq := hide iq
  clear iq
  have H_ir := hide ir
  clear ir
  have H_kp := hide kp
  clear kp
  have H_ip := hide ip
  clear ip
  have HB0 : Hid (Below w.heap.size w w) := Below.refl _ _
  have HW := hide hw
  clear hw
  go_enter Tryd.func7, Tryd.ntmps7
  go_wp2_with fail
  refine (law03_head _ (HW.out.below HB0.out)).mono ?_
  rintro e w1 ⟨rfl, hb⟩
  have HB1 := hide (bStep HB0.out hb)
  clear hb
  go_wp2_with fail
  refine (H_kA.out _ (HW.out.below HB1.out)).mono ?_
  rintro e w2 ⟨rfl, hb⟩
  have HB2 := hide (bStep HB1.out hb)
  clear hb
  go_wp2_with fail
  refine (H_kB.out _ (HW.out.below HB2.out)).mono ?_
  rintro e w3 ⟨rfl, hb⟩
  have HB3 := hide (bStep HB2.out hb)
  clear hb
  go_wp2_with fail
  refine (H_iA.out _ (HW.out.below HB3.out)).mono ?_
  rintro e w4 ⟨rfl, hb⟩
  have HB4 := hide (bStep HB3.out hb)
  clear hb
  go_wp2_with fail
  refine (H_kc.out _).mono ?_
  rintro e w5 ⟨rfl, hb⟩
  have HB5 := hide (bStep HB4.out hb)
  clear hb
  go_wp2_with fail
  refine (H_ks.out _ (HW.out.below HB5.out)).mono ?_
  rintro e w6 ⟨rfl, hb⟩
  have HB6 := hide (bStep HB5.out hb)
  clear hb
  go_wp2_with fail
  refine (H_is.out _ (HW.out.below HB6.out)).mono ?_
  rintro e w7 ⟨rfl, hb⟩
  have HB7 := hide (bStep HB6.out hb)
  clear hb
  go_wp2_with fail
  refine (H_kd.out _).mono ?_
  rintro e w8 ⟨rfl, hb⟩
  have HB8 := hide (bStep HB7.out hb)
  clear hb
  go_wp2_with fail
  refine (ok_int_empty _ (HW.out.below HB8.out)).mono ?_
  rintro e w9 ⟨rfl, hb⟩
  have HB9 := hide (bStep HB8.out hb)
  clear hb
  go_wp2_with fail
  refine (H_kq.out _ (HW.out.below HB9.out)).mono ?_
  rintro e w10 ⟨rfl, hb⟩
  have HB10 := hide (bStep HB9.out hb)
  clear hb
  go_wp2_with fail
  refine (H_iq.out _ (HW.out.below HB10.out)).mono ?_
  rintro e w11 ⟨rfl, hb⟩
  have HB11 := hide (bStep HB10.out hb)
  clear hb
  go_wp2_with fail
  refine (H_ir.out _ (HW.out.below HB11.out)).mono ?_
  rintro e w12 ⟨rfl, hb⟩
  have HB12 := hide (bStep HB11.out hb)
  clear hb
  go_wp2_with fail
  refine (H_kp.out _ (HW.out.below HB12.out)).mono ?_
  rintro e w13 ⟨rfl, hb⟩
  have HB13 := hide (bStep HB12.out hb)
  clear hb
  go_wp2_with fail
  refine (H_ip.out _ (HW.out.below HB13.out)).mono ?_
  rintro e w14 ⟨rfl, hb⟩
  have HB14 := hide (bStep HB13.out hb)
  clear hb
  go_wp2_with fail
  go_ret
  exact ⟨rfl, HB14.out⟩
set_option maxHeartbeats 4000000 in
set_option maxRecDepth 100000 in
theorem ints_lt_pos_big_no1 (A B : Int) (x y s q r : ByteArray) (h1 : 0 ≤ A) (h2 : A ≤ 1000000000000) (h3 : 0 ≤ B) (h4 : B ≤ 1000000000000) (h5 : A < B) (h6 : 0 < B) (h7 : 1000000000000 < A + B) (h8 : 1000000 ≤ A) (kA : OkOf A x) (kB : OkOf B y) (iA : OkInt x A 0) (kc : OkComp x y (-1)) (ks : OkCall 12 x y s) (is : OkInt s 0 9) (kd : ∀ W, Calls Tryd.prog 15 #[.string x, .string y] W (RangePost W)) (kq : OkDiv x y q r) (iq : OkInt q (A.tdiv B) 0) (ir : OkInt r (A.tmod B) 0) (w1 : IntKind.i64.wrap (A + B) = A + B) (w2 : IntKind.i64.wrap (A - B) = A - B) (w3 : IntKind.i64.wrap (A.tdiv B) = A.tdiv B) (w4 : IntKind.i64.wrap (A.tmod B) = A.tmod B) (w : World) (hw : LawW w) :
    Calls Tryd.prog 7 #[.int .i64 A, .int .i64 B] w fun e w' => e = .returned (.bool true) ∧ Below w.heap.size w w' := by
  have f0 : decide (A < 0) = false := by simp; omega
  have f1 : decide (1000000000000 < A) = false := by simp; omega
  have f2 : decide (B < 0) = false := by simp; omega
  have f3 : decide (1000000000000 < B) = false := by simp; omega
  have f4 : decide (A < B) = true := by simp; omega
  have f5 : decide (B < A) = false := by simp; omega
  have f6 : decide (B ≤ A) = false := by simp; omega
  have f7 : decide (A + B ≤ 1000000000000) = false := by simp; omega
  have f8 : decide (1000000000000 < A + B) = true := by simp; omega
  have f9 : decide (0 < B) = true := by simp; omega
  have f10 : decide (1000000 ≤ A) = true := by simp; omega
  have g : (B == 0) = false := by simp; omega
  have g2 : B ≠ 0 := by omega
  clear h1 h2 h3 h4 h5 h6 h7 h8
  have H_kA := hide kA
  clear kA
  have H_kB := hide kB
  clear kB
  have H_iA := hide iA
  clear iA
  have H_kc := hide kc
  clear kc
  have H_ks := hide ks
  clear ks
  have H_is := hide is
  clear is
  have H_kd := hide kd
  clear kd
  have H_kq := hide kq
  clear kq
  have H_iq := hide iq
  clear iq
  have H_ir := hide ir
  clear ir
  have HB0 : Hid (Below w.heap.size w w) := Below.refl _ _
  have HW := hide hw
  clear hw
  go_enter Tryd.func7, Tryd.ntmps7
  go_wp2_with fail
  refine (law03_head _ (HW.out.below HB0.out)).mono ?_
  rintro e w1 ⟨rfl, hb⟩
  have HB1 := hide (bStep HB0.out hb)
  clear hb
  go_wp2_with fail
  refine (H_kA.out _ (HW.out.below HB1.out)).mono ?_
  rintro e w2 ⟨rfl, hb⟩
  have HB2 := hide (bStep HB1.out hb)
  clear hb
  go_wp2_with fail
  refine (H_kB.out _ (HW.out.below HB2.out)).mono ?_
  rintro e w3 ⟨rfl, hb⟩
  have HB3 := hide (bStep HB2.out hb)
  clear hb
  go_wp2_with fail
  refine (H_iA.out _ (HW.out.below HB3.out)).mono ?_
  rintro e w4 ⟨rfl, hb⟩
  have HB4 := hide (bStep HB3.out hb)
  clear hb
  go_wp2_with fail
  refine (H_kc.out _).mono ?_
  rintro e w5 ⟨rfl, hb⟩
  have HB5 := hide (bStep HB4.out hb)
  clear hb
  go_wp2_with fail
  refine (H_ks.out _ (HW.out.below HB5.out)).mono ?_
  rintro e w6 ⟨rfl, hb⟩
  have HB6 := hide (bStep HB5.out hb)
  clear hb
  go_wp2_with fail
  refine (H_is.out _ (HW.out.below HB6.out)).mono ?_
  rintro e w7 ⟨rfl, hb⟩
  have HB7 := hide (bStep HB6.out hb)
  clear hb
  go_wp2_with fail
  refine (H_kd.out _).mono ?_
  rintro e w8 ⟨rfl, hb⟩
  have HB8 := hide (bStep HB7.out hb)
  clear hb
  go_wp2_with fail
  refine (ok_int_empty _ (HW.out.below HB8.out)).mono ?_
  rintro e w9 ⟨rfl, hb⟩
  have HB9 := hide (bStep HB8.out hb)
  clear hb
  go_wp2_with fail
  refine (H_kq.out _ (HW.out.below HB9.out)).mono ?_
  rintro e w10 ⟨rfl, hb⟩
  have HB10 := hide (bStep HB9.out hb)
  clear hb
  go_wp2_with fail
  refine (H_iq.out _ (HW.out.below HB10.out)).mono ?_
  rintro e w11 ⟨rfl, hb⟩
  have HB11 := hide (bStep HB10.out hb)
  clear hb
  go_wp2_with fail
  refine (H_ir.out _ (HW.out.below HB11.out)).mono ?_
  rintro e w12 ⟨rfl, hb⟩
  have HB12 := hide (bStep HB11.out hb)
  clear hb
  go_wp2_with fail
  go_ret
  exact ⟨rfl, HB12.out⟩
set_option maxHeartbeats 4000000 in
set_option maxRecDepth 100000 in
theorem ints_lt_pos_big_no2 (A B : Int) (x y s q r : ByteArray) (h1 : 0 ≤ A) (h2 : A ≤ 1000000000000) (h3 : 0 ≤ B) (h4 : B ≤ 1000000000000) (h5 : A < B) (h6 : 0 < B) (h7 : 1000000000000 < A + B) (h8 : A < 1000000 ∧ 1000000 ≤ B) (kA : OkOf A x) (kB : OkOf B y) (iA : OkInt x A 0) (kc : OkComp x y (-1)) (ks : OkCall 12 x y s) (is : OkInt s 0 9) (kd : ∀ W, Calls Tryd.prog 15 #[.string x, .string y] W (RangePost W)) (kq : OkDiv x y q r) (iq : OkInt q (A.tdiv B) 0) (ir : OkInt r (A.tmod B) 0) (w1 : IntKind.i64.wrap (A + B) = A + B) (w2 : IntKind.i64.wrap (A - B) = A - B) (w3 : IntKind.i64.wrap (A.tdiv B) = A.tdiv B) (w4 : IntKind.i64.wrap (A.tmod B) = A.tmod B) (w : World) (hw : LawW w) :
    Calls Tryd.prog 7 #[.int .i64 A, .int .i64 B] w fun e w' => e = .returned (.bool true) ∧ Below w.heap.size w w' := by
  have f0 : decide (A < 0) = false := by simp; omega
  have f1 : decide (1000000000000 < A) = false := by simp; omega
  have f2 : decide (B < 0) = false := by simp; omega
  have f3 : decide (1000000000000 < B) = false := by simp; omega
  have f4 : decide (A < B) = true := by simp; omega
  have f5 : decide (B < A) = false := by simp; omega
  have f6 : decide (B ≤ A) = false := by simp; omega
  have f7 : decide (A + B ≤ 1000000000000) = false := by simp; omega
  have f8 : decide (1000000000000 < A + B) = true := by simp; omega
  have f9 : decide (0 < B) = true := by simp; omega
  have f10 : decide (1000000 ≤ A) = false := by simp; omega
  have f11 : decide (1000000 ≤ B) = true := by simp; omega
  have g : (B == 0) = false := by simp; omega
  have g2 : B ≠ 0 := by omega
  clear h1 h2 h3 h4 h5 h6 h7 h8
  have H_kA := hide kA
  clear kA
  have H_kB := hide kB
  clear kB
  have H_iA := hide iA
  clear iA
  have H_kc := hide kc
  clear kc
  have H_ks := hide ks
  clear ks
  have H_is := hide is
  clear is
  have H_kd := hide kd
  clear kd
  have H_kq := hide kq
  clear kq
  have H_iq := hide iq
  clear iq
  have H_ir := hide ir
  clear ir
  have HB0 : Hid (Below w.heap.size w w) := Below.refl _ _
  have HW := hide hw
  clear hw
  go_enter Tryd.func7, Tryd.ntmps7
  go_wp2_with fail
  refine (law03_head _ (HW.out.below HB0.out)).mono ?_
  rintro e w1 ⟨rfl, hb⟩
  have HB1 := hide (bStep HB0.out hb)
  clear hb
  go_wp2_with fail
  refine (H_kA.out _ (HW.out.below HB1.out)).mono ?_
  rintro e w2 ⟨rfl, hb⟩
  have HB2 := hide (bStep HB1.out hb)
  clear hb
  go_wp2_with fail
  refine (H_kB.out _ (HW.out.below HB2.out)).mono ?_
  rintro e w3 ⟨rfl, hb⟩
  have HB3 := hide (bStep HB2.out hb)
  clear hb
  go_wp2_with fail
  refine (H_iA.out _ (HW.out.below HB3.out)).mono ?_
  rintro e w4 ⟨rfl, hb⟩
  have HB4 := hide (bStep HB3.out hb)
  clear hb
  go_wp2_with fail
  refine (H_kc.out _).mono ?_
  rintro e w5 ⟨rfl, hb⟩
  have HB5 := hide (bStep HB4.out hb)
  clear hb
  go_wp2_with fail
  refine (H_ks.out _ (HW.out.below HB5.out)).mono ?_
  rintro e w6 ⟨rfl, hb⟩
  have HB6 := hide (bStep HB5.out hb)
  clear hb
  go_wp2_with fail
  refine (H_is.out _ (HW.out.below HB6.out)).mono ?_
  rintro e w7 ⟨rfl, hb⟩
  have HB7 := hide (bStep HB6.out hb)
  clear hb
  go_wp2_with fail
  refine (H_kd.out _).mono ?_
  rintro e w8 ⟨rfl, hb⟩
  have HB8 := hide (bStep HB7.out hb)
  clear hb
  go_wp2_with fail
  refine (ok_int_empty _ (HW.out.below HB8.out)).mono ?_
  rintro e w9 ⟨rfl, hb⟩
  have HB9 := hide (bStep HB8.out hb)
  clear hb
  go_wp2_with fail
  refine (H_kq.out _ (HW.out.below HB9.out)).mono ?_
  rintro e w10 ⟨rfl, hb⟩
  have HB10 := hide (bStep HB9.out hb)
  clear hb
  go_wp2_with fail
  refine (H_iq.out _ (HW.out.below HB10.out)).mono ?_
  rintro e w11 ⟨rfl, hb⟩
  have HB11 := hide (bStep HB10.out hb)
  clear hb
  go_wp2_with fail
  refine (H_ir.out _ (HW.out.below HB11.out)).mono ?_
  rintro e w12 ⟨rfl, hb⟩
  have HB12 := hide (bStep HB11.out hb)
  clear hb
  go_wp2_with fail
  go_ret
  exact ⟨rfl, HB12.out⟩
set_option maxHeartbeats 4000000 in
set_option maxRecDepth 100000 in
theorem ints_eq_pos_small_no1 (A B : Int) (x y s d q r : ByteArray) (h1 : 0 ≤ A) (h2 : A ≤ 1000000000000) (h3 : 0 ≤ B) (h4 : B ≤ 1000000000000) (h5 : A = B) (h6 : 0 < B) (h7 : A + B ≤ 1000000000000) (h8 : 1000000 ≤ A) (kA : OkOf A x) (kB : OkOf B y) (iA : OkInt x A 0) (kc : OkComp x y 0) (ks : OkCall 12 x y s) (is : OkInt s (A + B) 0) (kd : OkCall 15 x y d) (id : OkInt d (A - B) 0) (kq : OkDiv x y q r) (iq : OkInt q (A.tdiv B) 0) (ir : OkInt r (A.tmod B) 0) (w1 : IntKind.i64.wrap (A + B) = A + B) (w2 : IntKind.i64.wrap (A - B) = A - B) (w3 : IntKind.i64.wrap (A.tdiv B) = A.tdiv B) (w4 : IntKind.i64.wrap (A.tmod B) = A.tmod B) (w : World) (hw : LawW w) :
    Calls Tryd.prog 7 #[.int .i64 A, .int .i64 B] w fun e w' => e = .returned (.bool true) ∧ Below w.heap.size w w' := by
  have f0 : decide (A < 0) = false := by simp; omega
  have f1 : decide (1000000000000 < A) = false := by simp; omega
  have f2 : decide (B < 0) = false := by simp; omega
  have f3 : decide (1000000000000 < B) = false := by simp; omega
  have f4 : decide (A < B) = false := by simp; omega
  have f5 : decide (B < A) = false := by simp; omega
  have f6 : decide (B ≤ A) = true := by simp; omega
  have f7 : decide (A + B ≤ 1000000000000) = true := by simp; omega
  have f8 : decide (1000000000000 < A + B) = false := by simp; omega
  have f9 : decide (0 < B) = true := by simp; omega
  have f10 : decide (1000000 ≤ A) = true := by simp; omega
  have g : (B == 0) = false := by simp; omega
  have g2 : B ≠ 0 := by omega
  clear h1 h2 h3 h4 h5 h6 h7 h8
  have H_kA := hide kA
  clear kA
  have H_kB := hide kB
  clear kB
  have H_iA := hide iA
  clear iA
  have H_kc := hide kc
  clear kc
  have H_ks := hide ks
  clear ks
  have H_is := hide is
  clear is
  have H_kd := hide kd
  clear kd
  have H_id := hide id
  clear id
  have H_kq := hide kq
  clear kq
  have H_iq := hide iq
  clear iq
  have H_ir := hide ir
  clear ir
  have HB0 : Hid (Below w.heap.size w w) := Below.refl _ _
  have HW := hide hw
  clear hw
  go_enter Tryd.func7, Tryd.ntmps7
  go_wp2_with fail
  refine (law03_head _ (HW.out.below HB0.out)).mono ?_
  rintro e w1 ⟨rfl, hb⟩
  have HB1 := hide (bStep HB0.out hb)
  clear hb
  go_wp2_with fail
  refine (H_kA.out _ (HW.out.below HB1.out)).mono ?_
  rintro e w2 ⟨rfl, hb⟩
  have HB2 := hide (bStep HB1.out hb)
  clear hb
  go_wp2_with fail
  refine (H_kB.out _ (HW.out.below HB2.out)).mono ?_
  rintro e w3 ⟨rfl, hb⟩
  have HB3 := hide (bStep HB2.out hb)
  clear hb
  go_wp2_with fail
  refine (H_iA.out _ (HW.out.below HB3.out)).mono ?_
  rintro e w4 ⟨rfl, hb⟩
  have HB4 := hide (bStep HB3.out hb)
  clear hb
  go_wp2_with fail
  refine (H_kc.out _).mono ?_
  rintro e w5 ⟨rfl, hb⟩
  have HB5 := hide (bStep HB4.out hb)
  clear hb
  go_wp2_with fail
  refine (H_ks.out _ (HW.out.below HB5.out)).mono ?_
  rintro e w6 ⟨rfl, hb⟩
  have HB6 := hide (bStep HB5.out hb)
  clear hb
  go_wp2_with fail
  refine (H_is.out _ (HW.out.below HB6.out)).mono ?_
  rintro e w7 ⟨rfl, hb⟩
  have HB7 := hide (bStep HB6.out hb)
  clear hb
  go_wp2_with fail
  refine (H_kd.out _ (HW.out.below HB7.out)).mono ?_
  rintro e w8 ⟨rfl, hb⟩
  have HB8 := hide (bStep HB7.out hb)
  clear hb
  go_wp2_with fail
  refine (H_id.out _ (HW.out.below HB8.out)).mono ?_
  rintro e w9 ⟨rfl, hb⟩
  have HB9 := hide (bStep HB8.out hb)
  clear hb
  go_wp2_with fail
  refine (H_kq.out _ (HW.out.below HB9.out)).mono ?_
  rintro e w10 ⟨rfl, hb⟩
  have HB10 := hide (bStep HB9.out hb)
  clear hb
  go_wp2_with fail
  refine (H_iq.out _ (HW.out.below HB10.out)).mono ?_
  rintro e w11 ⟨rfl, hb⟩
  have HB11 := hide (bStep HB10.out hb)
  clear hb
  go_wp2_with fail
  refine (H_ir.out _ (HW.out.below HB11.out)).mono ?_
  rintro e w12 ⟨rfl, hb⟩
  have HB12 := hide (bStep HB11.out hb)
  clear hb
  go_wp2_with fail
  go_ret
  exact ⟨rfl, HB12.out⟩
set_option maxHeartbeats 4000000 in
set_option maxRecDepth 100000 in
theorem ints_eq_pos_small_yes (A B : Int) (x y s d q r p : ByteArray) (h1 : 0 ≤ A) (h2 : A ≤ 1000000000000) (h3 : 0 ≤ B) (h4 : B ≤ 1000000000000) (h5 : A = B) (h6 : 0 < B) (h7 : A + B ≤ 1000000000000) (h8 : A < 1000000 ∧ B < 1000000) (kA : OkOf A x) (kB : OkOf B y) (iA : OkInt x A 0) (kc : OkComp x y 0) (ks : OkCall 12 x y s) (is : OkInt s (A + B) 0) (kd : OkCall 15 x y d) (id : OkInt d (A - B) 0) (kq : OkDiv x y q r) (iq : OkInt q (A.tdiv B) 0) (ir : OkInt r (A.tmod B) 0) (kp : OkCall 13 x y p) (ip : OkInt p (A * B) 0) (w1 : IntKind.i64.wrap (A + B) = A + B) (w2 : IntKind.i64.wrap (A - B) = A - B) (w3 : IntKind.i64.wrap (A.tdiv B) = A.tdiv B) (w4 : IntKind.i64.wrap (A.tmod B) = A.tmod B) (w5 : IntKind.i64.wrap (A * B) = A * B) (w : World) (hw : LawW w) :
    Calls Tryd.prog 7 #[.int .i64 A, .int .i64 B] w fun e w' => e = .returned (.bool true) ∧ Below w.heap.size w w' := by
  have f0 : decide (A < 0) = false := by simp; omega
  have f1 : decide (1000000000000 < A) = false := by simp; omega
  have f2 : decide (B < 0) = false := by simp; omega
  have f3 : decide (1000000000000 < B) = false := by simp; omega
  have f4 : decide (A < B) = false := by simp; omega
  have f5 : decide (B < A) = false := by simp; omega
  have f6 : decide (B ≤ A) = true := by simp; omega
  have f7 : decide (A + B ≤ 1000000000000) = true := by simp; omega
  have f8 : decide (1000000000000 < A + B) = false := by simp; omega
  have f9 : decide (0 < B) = true := by simp; omega
  have f10 : decide (1000000 ≤ A) = false := by simp; omega
  have f11 : decide (1000000 ≤ B) = false := by simp; omega
  have g : (B == 0) = false := by simp; omega
  have g2 : B ≠ 0 := by omega
  clear h1 h2 h3 h4 h5 h6 h7 h8
  have H_kA := hide kA
  clear kA
  have H_kB := hide kB
  clear kB
  have H_iA := hide iA
  clear iA
  have H_kc := hide kc
  clear kc
  have H_ks := hide ks
  clear ks
  have H_is := hide is
  clear is
  have H_kd := hide kd
  clear kd
  have H_id := hide id
  clear id
  have H_kq := hide kq
  clear kq
  have H_iq := hide iq
  clear iq
  have H_ir := hide ir
  clear ir
  have H_kp := hide kp
  clear kp
  have H_ip := hide ip
  clear ip
  have HB0 : Hid (Below w.heap.size w w) := Below.refl _ _
  have HW := hide hw
  clear hw
  go_enter Tryd.func7, Tryd.ntmps7
  go_wp2_with fail
  refine (law03_head _ (HW.out.below HB0.out)).mono ?_
  rintro e w1 ⟨rfl, hb⟩
  have HB1 := hide (bStep HB0.out hb)
  clear hb
  go_wp2_with fail
  refine (H_kA.out _ (HW.out.below HB1.out)).mono ?_
  rintro e w2 ⟨rfl, hb⟩
  have HB2 := hide (bStep HB1.out hb)
  clear hb
  go_wp2_with fail
  refine (H_kB.out _ (HW.out.below HB2.out)).mono ?_
  rintro e w3 ⟨rfl, hb⟩
  have HB3 := hide (bStep HB2.out hb)
  clear hb
  go_wp2_with fail
  refine (H_iA.out _ (HW.out.below HB3.out)).mono ?_
  rintro e w4 ⟨rfl, hb⟩
  have HB4 := hide (bStep HB3.out hb)
  clear hb
  go_wp2_with fail
  refine (H_kc.out _).mono ?_
  rintro e w5 ⟨rfl, hb⟩
  have HB5 := hide (bStep HB4.out hb)
  clear hb
  go_wp2_with fail
  refine (H_ks.out _ (HW.out.below HB5.out)).mono ?_
  rintro e w6 ⟨rfl, hb⟩
  have HB6 := hide (bStep HB5.out hb)
  clear hb
  go_wp2_with fail
  refine (H_is.out _ (HW.out.below HB6.out)).mono ?_
  rintro e w7 ⟨rfl, hb⟩
  have HB7 := hide (bStep HB6.out hb)
  clear hb
  go_wp2_with fail
  refine (H_kd.out _ (HW.out.below HB7.out)).mono ?_
  rintro e w8 ⟨rfl, hb⟩
  have HB8 := hide (bStep HB7.out hb)
  clear hb
  go_wp2_with fail
  refine (H_id.out _ (HW.out.below HB8.out)).mono ?_
  rintro e w9 ⟨rfl, hb⟩
  have HB9 := hide (bStep HB8.out hb)
  clear hb
  go_wp2_with fail
  refine (H_kq.out _ (HW.out.below HB9.out)).mono ?_
  rintro e w10 ⟨rfl, hb⟩
  have HB10 := hide (bStep HB9.out hb)
  clear hb
  go_wp2_with fail
  refine (H_iq.out _ (HW.out.below HB10.out)).mono ?_
  rintro e w11 ⟨rfl, hb⟩
  have HB11 := hide (bStep HB10.out hb)
  clear hb
  go_wp2_with fail
  refine (H_ir.out _ (HW.out.below HB11.out)).mono ?_
  rintro e w12 ⟨rfl, hb⟩
  have HB12 := hide (bStep HB11.out hb)
  clear hb
  go_wp2_with fail
  refine (H_kp.out _ (HW.out.below HB12.out)).mono ?_
  rintro e w13 ⟨rfl, hb⟩
  have HB13 := hide (bStep HB12.out hb)
  clear hb
  go_wp2_with fail
  refine (H_ip.out _ (HW.out.below HB13.out)).mono ?_
  rintro e w14 ⟨rfl, hb⟩
  have HB14 := hide (bStep HB13.out hb)
  clear hb
  go_wp2_with fail
  go_ret
  exact ⟨rfl, HB14.out⟩
set_option maxHeartbeats 4000000 in
set_option maxRecDepth 100000 in
theorem ints_eq_pos_big_no1 (A B : Int) (x y s d q r : ByteArray) (h1 : 0 ≤ A) (h2 : A ≤ 1000000000000) (h3 : 0 ≤ B) (h4 : B ≤ 1000000000000) (h5 : A = B) (h6 : 0 < B) (h7 : 1000000000000 < A + B) (h8 : 1000000 ≤ A) (kA : OkOf A x) (kB : OkOf B y) (iA : OkInt x A 0) (kc : OkComp x y 0) (ks : OkCall 12 x y s) (is : OkInt s 0 9) (kd : OkCall 15 x y d) (id : OkInt d (A - B) 0) (kq : OkDiv x y q r) (iq : OkInt q (A.tdiv B) 0) (ir : OkInt r (A.tmod B) 0) (w1 : IntKind.i64.wrap (A + B) = A + B) (w2 : IntKind.i64.wrap (A - B) = A - B) (w3 : IntKind.i64.wrap (A.tdiv B) = A.tdiv B) (w4 : IntKind.i64.wrap (A.tmod B) = A.tmod B) (w : World) (hw : LawW w) :
    Calls Tryd.prog 7 #[.int .i64 A, .int .i64 B] w fun e w' => e = .returned (.bool true) ∧ Below w.heap.size w w' := by
  have f0 : decide (A < 0) = false := by simp; omega
  have f1 : decide (1000000000000 < A) = false := by simp; omega
  have f2 : decide (B < 0) = false := by simp; omega
  have f3 : decide (1000000000000 < B) = false := by simp; omega
  have f4 : decide (A < B) = false := by simp; omega
  have f5 : decide (B < A) = false := by simp; omega
  have f6 : decide (B ≤ A) = true := by simp; omega
  have f7 : decide (A + B ≤ 1000000000000) = false := by simp; omega
  have f8 : decide (1000000000000 < A + B) = true := by simp; omega
  have f9 : decide (0 < B) = true := by simp; omega
  have f10 : decide (1000000 ≤ A) = true := by simp; omega
  have g : (B == 0) = false := by simp; omega
  have g2 : B ≠ 0 := by omega
  clear h1 h2 h3 h4 h5 h6 h7 h8
  have H_kA := hide kA
  clear kA
  have H_kB := hide kB
  clear kB
  have H_iA := hide iA
  clear iA
  have H_kc := hide kc
  clear kc
  have H_ks := hide ks
  clear ks
  have H_is := hide is
  clear is
  have H_kd := hide kd
  clear kd
  have H_id := hide id
  clear id
  have H_kq := hide kq
  clear kq
  have H_iq := hide iq
  clear iq
  have H_ir := hide ir
  clear ir
  have HB0 : Hid (Below w.heap.size w w) := Below.refl _ _
  have HW := hide hw
  clear hw
  go_enter Tryd.func7, Tryd.ntmps7
  go_wp2_with fail
  refine (law03_head _ (HW.out.below HB0.out)).mono ?_
  rintro e w1 ⟨rfl, hb⟩
  have HB1 := hide (bStep HB0.out hb)
  clear hb
  go_wp2_with fail
  refine (H_kA.out _ (HW.out.below HB1.out)).mono ?_
  rintro e w2 ⟨rfl, hb⟩
  have HB2 := hide (bStep HB1.out hb)
  clear hb
  go_wp2_with fail
  refine (H_kB.out _ (HW.out.below HB2.out)).mono ?_
  rintro e w3 ⟨rfl, hb⟩
  have HB3 := hide (bStep HB2.out hb)
  clear hb
  go_wp2_with fail
  refine (H_iA.out _ (HW.out.below HB3.out)).mono ?_
  rintro e w4 ⟨rfl, hb⟩
  have HB4 := hide (bStep HB3.out hb)
  clear hb
  go_wp2_with fail
  refine (H_kc.out _).mono ?_
  rintro e w5 ⟨rfl, hb⟩
  have HB5 := hide (bStep HB4.out hb)
  clear hb
  go_wp2_with fail
  refine (H_ks.out _ (HW.out.below HB5.out)).mono ?_
  rintro e w6 ⟨rfl, hb⟩
  have HB6 := hide (bStep HB5.out hb)
  clear hb
  go_wp2_with fail
  refine (H_is.out _ (HW.out.below HB6.out)).mono ?_
  rintro e w7 ⟨rfl, hb⟩
  have HB7 := hide (bStep HB6.out hb)
  clear hb
  go_wp2_with fail
  refine (H_kd.out _ (HW.out.below HB7.out)).mono ?_
  rintro e w8 ⟨rfl, hb⟩
  have HB8 := hide (bStep HB7.out hb)
  clear hb
  go_wp2_with fail
  refine (H_id.out _ (HW.out.below HB8.out)).mono ?_
  rintro e w9 ⟨rfl, hb⟩
  have HB9 := hide (bStep HB8.out hb)
  clear hb
  go_wp2_with fail
  refine (H_kq.out _ (HW.out.below HB9.out)).mono ?_
  rintro e w10 ⟨rfl, hb⟩
  have HB10 := hide (bStep HB9.out hb)
  clear hb
  go_wp2_with fail
  refine (H_iq.out _ (HW.out.below HB10.out)).mono ?_
  rintro e w11 ⟨rfl, hb⟩
  have HB11 := hide (bStep HB10.out hb)
  clear hb
  go_wp2_with fail
  refine (H_ir.out _ (HW.out.below HB11.out)).mono ?_
  rintro e w12 ⟨rfl, hb⟩
  have HB12 := hide (bStep HB11.out hb)
  clear hb
  go_wp2_with fail
  go_ret
  exact ⟨rfl, HB12.out⟩
set_option maxHeartbeats 4000000 in
set_option maxRecDepth 100000 in
theorem ints_eq_zero_small_yes (A B : Int) (x y s d p : ByteArray) (h1 : 0 ≤ A) (h2 : A ≤ 1000000000000) (h3 : 0 ≤ B) (h4 : B ≤ 1000000000000) (h5 : A = B) (h6 : B = 0) (h7 : A + B ≤ 1000000000000) (h8 : A < 1000000 ∧ B < 1000000) (kA : OkOf A x) (kB : OkOf B y) (iA : OkInt x A 0) (kc : OkComp x y 0) (ks : OkCall 12 x y s) (is : OkInt s (A + B) 0) (kd : OkCall 15 x y d) (id : OkInt d (A - B) 0) (kp : OkCall 13 x y p) (ip : OkInt p (A * B) 0) (w1 : IntKind.i64.wrap (A + B) = A + B) (w2 : IntKind.i64.wrap (A - B) = A - B) (w5 : IntKind.i64.wrap (A * B) = A * B) (w : World) (hw : LawW w) :
    Calls Tryd.prog 7 #[.int .i64 A, .int .i64 B] w fun e w' => e = .returned (.bool true) ∧ Below w.heap.size w w' := by
  have f0 : decide (A < 0) = false := by simp; omega
  have f1 : decide (1000000000000 < A) = false := by simp; omega
  have f2 : decide (B < 0) = false := by simp; omega
  have f3 : decide (1000000000000 < B) = false := by simp; omega
  have f4 : decide (A < B) = false := by simp; omega
  have f5 : decide (B < A) = false := by simp; omega
  have f6 : decide (B ≤ A) = true := by simp; omega
  have f7 : decide (A + B ≤ 1000000000000) = true := by simp; omega
  have f8 : decide (1000000000000 < A + B) = false := by simp; omega
  have f9 : decide (0 < B) = false := by simp; omega
  have f10 : decide (1000000 ≤ A) = false := by simp; omega
  have f11 : decide (1000000 ≤ B) = false := by simp; omega
  clear h1 h2 h3 h4 h5 h6 h7 h8
  have H_kA := hide kA
  clear kA
  have H_kB := hide kB
  clear kB
  have H_iA := hide iA
  clear iA
  have H_kc := hide kc
  clear kc
  have H_ks := hide ks
  clear ks
  have H_is := hide is
  clear is
  have H_kd := hide kd
  clear kd
  have H_id := hide id
  clear id
  have H_kp := hide kp
  clear kp
  have H_ip := hide ip
  clear ip
  have HB0 : Hid (Below w.heap.size w w) := Below.refl _ _
  have HW := hide hw
  clear hw
  go_enter Tryd.func7, Tryd.ntmps7
  go_wp2_with fail
  refine (law03_head _ (HW.out.below HB0.out)).mono ?_
  rintro e w1 ⟨rfl, hb⟩
  have HB1 := hide (bStep HB0.out hb)
  clear hb
  go_wp2_with fail
  refine (H_kA.out _ (HW.out.below HB1.out)).mono ?_
  rintro e w2 ⟨rfl, hb⟩
  have HB2 := hide (bStep HB1.out hb)
  clear hb
  go_wp2_with fail
  refine (H_kB.out _ (HW.out.below HB2.out)).mono ?_
  rintro e w3 ⟨rfl, hb⟩
  have HB3 := hide (bStep HB2.out hb)
  clear hb
  go_wp2_with fail
  refine (H_iA.out _ (HW.out.below HB3.out)).mono ?_
  rintro e w4 ⟨rfl, hb⟩
  have HB4 := hide (bStep HB3.out hb)
  clear hb
  go_wp2_with fail
  refine (H_kc.out _).mono ?_
  rintro e w5 ⟨rfl, hb⟩
  have HB5 := hide (bStep HB4.out hb)
  clear hb
  go_wp2_with fail
  refine (H_ks.out _ (HW.out.below HB5.out)).mono ?_
  rintro e w6 ⟨rfl, hb⟩
  have HB6 := hide (bStep HB5.out hb)
  clear hb
  go_wp2_with fail
  refine (H_is.out _ (HW.out.below HB6.out)).mono ?_
  rintro e w7 ⟨rfl, hb⟩
  have HB7 := hide (bStep HB6.out hb)
  clear hb
  go_wp2_with fail
  refine (H_kd.out _ (HW.out.below HB7.out)).mono ?_
  rintro e w8 ⟨rfl, hb⟩
  have HB8 := hide (bStep HB7.out hb)
  clear hb
  go_wp2_with fail
  refine (H_id.out _ (HW.out.below HB8.out)).mono ?_
  rintro e w9 ⟨rfl, hb⟩
  have HB9 := hide (bStep HB8.out hb)
  clear hb
  go_wp2_with fail
  refine (H_kp.out _ (HW.out.below HB9.out)).mono ?_
  rintro e w10 ⟨rfl, hb⟩
  have HB10 := hide (bStep HB9.out hb)
  clear hb
  go_wp2_with fail
  refine (H_ip.out _ (HW.out.below HB10.out)).mono ?_
  rintro e w11 ⟨rfl, hb⟩
  have HB11 := hide (bStep HB10.out hb)
  clear hb
  go_wp2_with fail
  go_ret
  exact ⟨rfl, HB11.out⟩
set_option maxHeartbeats 4000000 in
set_option maxRecDepth 100000 in
theorem ints_gt_pos_small_no1 (A B : Int) (x y s d q r : ByteArray) (h1 : 0 ≤ A) (h2 : A ≤ 1000000000000) (h3 : 0 ≤ B) (h4 : B ≤ 1000000000000) (h5 : B < A) (h6 : 0 < B) (h7 : A + B ≤ 1000000000000) (h8 : 1000000 ≤ A) (kA : OkOf A x) (kB : OkOf B y) (iA : OkInt x A 0) (kc : OkComp x y 1) (ks : OkCall 12 x y s) (is : OkInt s (A + B) 0) (kd : OkCall 15 x y d) (id : OkInt d (A - B) 0) (kq : OkDiv x y q r) (iq : OkInt q (A.tdiv B) 0) (ir : OkInt r (A.tmod B) 0) (w1 : IntKind.i64.wrap (A + B) = A + B) (w2 : IntKind.i64.wrap (A - B) = A - B) (w3 : IntKind.i64.wrap (A.tdiv B) = A.tdiv B) (w4 : IntKind.i64.wrap (A.tmod B) = A.tmod B) (w : World) (hw : LawW w) :
    Calls Tryd.prog 7 #[.int .i64 A, .int .i64 B] w fun e w' => e = .returned (.bool true) ∧ Below w.heap.size w w' := by
  have f0 : decide (A < 0) = false := by simp; omega
  have f1 : decide (1000000000000 < A) = false := by simp; omega
  have f2 : decide (B < 0) = false := by simp; omega
  have f3 : decide (1000000000000 < B) = false := by simp; omega
  have f4 : decide (A < B) = false := by simp; omega
  have f5 : decide (B < A) = true := by simp; omega
  have f6 : decide (B ≤ A) = true := by simp; omega
  have f7 : decide (A + B ≤ 1000000000000) = true := by simp; omega
  have f8 : decide (1000000000000 < A + B) = false := by simp; omega
  have f9 : decide (0 < B) = true := by simp; omega
  have f10 : decide (1000000 ≤ A) = true := by simp; omega
  have g : (B == 0) = false := by simp; omega
  have g2 : B ≠ 0 := by omega
  clear h1 h2 h3 h4 h5 h6 h7 h8
  have H_kA := hide kA
  clear kA
  have H_kB := hide kB
  clear kB
  have H_iA := hide iA
  clear iA
  have H_kc := hide kc
  clear kc
  have H_ks := hide ks
  clear ks
  have H_is := hide is
  clear is
  have H_kd := hide kd
  clear kd
  have H_id := hide id
  clear id
  have H_kq := hide kq
  clear kq
  have H_iq := hide iq
  clear iq
  have H_ir := hide ir
  clear ir
  have HB0 : Hid (Below w.heap.size w w) := Below.refl _ _
  have HW := hide hw
  clear hw
  go_enter Tryd.func7, Tryd.ntmps7
  go_wp2_with fail
  refine (law03_head _ (HW.out.below HB0.out)).mono ?_
  rintro e w1 ⟨rfl, hb⟩
  have HB1 := hide (bStep HB0.out hb)
  clear hb
  go_wp2_with fail
  refine (H_kA.out _ (HW.out.below HB1.out)).mono ?_
  rintro e w2 ⟨rfl, hb⟩
  have HB2 := hide (bStep HB1.out hb)
  clear hb
  go_wp2_with fail
  refine (H_kB.out _ (HW.out.below HB2.out)).mono ?_
  rintro e w3 ⟨rfl, hb⟩
  have HB3 := hide (bStep HB2.out hb)
  clear hb
  go_wp2_with fail
  refine (H_iA.out _ (HW.out.below HB3.out)).mono ?_
  rintro e w4 ⟨rfl, hb⟩
  have HB4 := hide (bStep HB3.out hb)
  clear hb
  go_wp2_with fail
  refine (H_kc.out _).mono ?_
  rintro e w5 ⟨rfl, hb⟩
  have HB5 := hide (bStep HB4.out hb)
  clear hb
  go_wp2_with fail
  refine (H_ks.out _ (HW.out.below HB5.out)).mono ?_
  rintro e w6 ⟨rfl, hb⟩
  have HB6 := hide (bStep HB5.out hb)
  clear hb
  go_wp2_with fail
  refine (H_is.out _ (HW.out.below HB6.out)).mono ?_
  rintro e w7 ⟨rfl, hb⟩
  have HB7 := hide (bStep HB6.out hb)
  clear hb
  go_wp2_with fail
  refine (H_kd.out _ (HW.out.below HB7.out)).mono ?_
  rintro e w8 ⟨rfl, hb⟩
  have HB8 := hide (bStep HB7.out hb)
  clear hb
  go_wp2_with fail
  refine (H_id.out _ (HW.out.below HB8.out)).mono ?_
  rintro e w9 ⟨rfl, hb⟩
  have HB9 := hide (bStep HB8.out hb)
  clear hb
  go_wp2_with fail
  refine (H_kq.out _ (HW.out.below HB9.out)).mono ?_
  rintro e w10 ⟨rfl, hb⟩
  have HB10 := hide (bStep HB9.out hb)
  clear hb
  go_wp2_with fail
  refine (H_iq.out _ (HW.out.below HB10.out)).mono ?_
  rintro e w11 ⟨rfl, hb⟩
  have HB11 := hide (bStep HB10.out hb)
  clear hb
  go_wp2_with fail
  refine (H_ir.out _ (HW.out.below HB11.out)).mono ?_
  rintro e w12 ⟨rfl, hb⟩
  have HB12 := hide (bStep HB11.out hb)
  clear hb
  go_wp2_with fail
  go_ret
  exact ⟨rfl, HB12.out⟩
set_option maxHeartbeats 4000000 in
set_option maxRecDepth 100000 in
theorem ints_gt_pos_small_yes (A B : Int) (x y s d q r p : ByteArray) (h1 : 0 ≤ A) (h2 : A ≤ 1000000000000) (h3 : 0 ≤ B) (h4 : B ≤ 1000000000000) (h5 : B < A) (h6 : 0 < B) (h7 : A + B ≤ 1000000000000) (h8 : A < 1000000 ∧ B < 1000000) (kA : OkOf A x) (kB : OkOf B y) (iA : OkInt x A 0) (kc : OkComp x y 1) (ks : OkCall 12 x y s) (is : OkInt s (A + B) 0) (kd : OkCall 15 x y d) (id : OkInt d (A - B) 0) (kq : OkDiv x y q r) (iq : OkInt q (A.tdiv B) 0) (ir : OkInt r (A.tmod B) 0) (kp : OkCall 13 x y p) (ip : OkInt p (A * B) 0) (w1 : IntKind.i64.wrap (A + B) = A + B) (w2 : IntKind.i64.wrap (A - B) = A - B) (w3 : IntKind.i64.wrap (A.tdiv B) = A.tdiv B) (w4 : IntKind.i64.wrap (A.tmod B) = A.tmod B) (w5 : IntKind.i64.wrap (A * B) = A * B) (w : World) (hw : LawW w) :
    Calls Tryd.prog 7 #[.int .i64 A, .int .i64 B] w fun e w' => e = .returned (.bool true) ∧ Below w.heap.size w w' := by
  have f0 : decide (A < 0) = false := by simp; omega
  have f1 : decide (1000000000000 < A) = false := by simp; omega
  have f2 : decide (B < 0) = false := by simp; omega
  have f3 : decide (1000000000000 < B) = false := by simp; omega
  have f4 : decide (A < B) = false := by simp; omega
  have f5 : decide (B < A) = true := by simp; omega
  have f6 : decide (B ≤ A) = true := by simp; omega
  have f7 : decide (A + B ≤ 1000000000000) = true := by simp; omega
  have f8 : decide (1000000000000 < A + B) = false := by simp; omega
  have f9 : decide (0 < B) = true := by simp; omega
  have f10 : decide (1000000 ≤ A) = false := by simp; omega
  have f11 : decide (1000000 ≤ B) = false := by simp; omega
  have g : (B == 0) = false := by simp; omega
  have g2 : B ≠ 0 := by omega
  clear h1 h2 h3 h4 h5 h6 h7 h8
  have H_kA := hide kA
  clear kA
  have H_kB := hide kB
  clear kB
  have H_iA := hide iA
  clear iA
  have H_kc := hide kc
  clear kc
  have H_ks := hide ks
  clear ks
  have H_is := hide is
  clear is
  have H_kd := hide kd
  clear kd
  have H_id := hide id
  clear id
  have H_kq := hide kq
  clear kq
  have H_iq := hide iq
  clear iq
  have H_ir := hide ir
  clear ir
  have H_kp := hide kp
  clear kp
  have H_ip := hide ip
  clear ip
  have HB0 : Hid (Below w.heap.size w w) := Below.refl _ _
  have HW := hide hw
  clear hw
  go_enter Tryd.func7, Tryd.ntmps7
  go_wp2_with fail
  refine (law03_head _ (HW.out.below HB0.out)).mono ?_
  rintro e w1 ⟨rfl, hb⟩
  have HB1 := hide (bStep HB0.out hb)
  clear hb
  go_wp2_with fail
  refine (H_kA.out _ (HW.out.below HB1.out)).mono ?_
  rintro e w2 ⟨rfl, hb⟩
  have HB2 := hide (bStep HB1.out hb)
  clear hb
  go_wp2_with fail
  refine (H_kB.out _ (HW.out.below HB2.out)).mono ?_
  rintro e w3 ⟨rfl, hb⟩
  have HB3 := hide (bStep HB2.out hb)
  clear hb
  go_wp2_with fail
  refine (H_iA.out _ (HW.out.below HB3.out)).mono ?_
  rintro e w4 ⟨rfl, hb⟩
  have HB4 := hide (bStep HB3.out hb)
  clear hb
  go_wp2_with fail
  refine (H_kc.out _).mono ?_
  rintro e w5 ⟨rfl, hb⟩
  have HB5 := hide (bStep HB4.out hb)
  clear hb
  go_wp2_with fail
  refine (H_ks.out _ (HW.out.below HB5.out)).mono ?_
  rintro e w6 ⟨rfl, hb⟩
  have HB6 := hide (bStep HB5.out hb)
  clear hb
  go_wp2_with fail
  refine (H_is.out _ (HW.out.below HB6.out)).mono ?_
  rintro e w7 ⟨rfl, hb⟩
  have HB7 := hide (bStep HB6.out hb)
  clear hb
  go_wp2_with fail
  refine (H_kd.out _ (HW.out.below HB7.out)).mono ?_
  rintro e w8 ⟨rfl, hb⟩
  have HB8 := hide (bStep HB7.out hb)
  clear hb
  go_wp2_with fail
  refine (H_id.out _ (HW.out.below HB8.out)).mono ?_
  rintro e w9 ⟨rfl, hb⟩
  have HB9 := hide (bStep HB8.out hb)
  clear hb
  go_wp2_with fail
  refine (H_kq.out _ (HW.out.below HB9.out)).mono ?_
  rintro e w10 ⟨rfl, hb⟩
  have HB10 := hide (bStep HB9.out hb)
  clear hb
  go_wp2_with fail
  refine (H_iq.out _ (HW.out.below HB10.out)).mono ?_
  rintro e w11 ⟨rfl, hb⟩
  have HB11 := hide (bStep HB10.out hb)
  clear hb
  go_wp2_with fail
  refine (H_ir.out _ (HW.out.below HB11.out)).mono ?_
  rintro e w12 ⟨rfl, hb⟩
  have HB12 := hide (bStep HB11.out hb)
  clear hb
  go_wp2_with fail
  refine (H_kp.out _ (HW.out.below HB12.out)).mono ?_
  rintro e w13 ⟨rfl, hb⟩
  have HB13 := hide (bStep HB12.out hb)
  clear hb
  go_wp2_with fail
  refine (H_ip.out _ (HW.out.below HB13.out)).mono ?_
  rintro e w14 ⟨rfl, hb⟩
  have HB14 := hide (bStep HB13.out hb)
  clear hb
  go_wp2_with fail
  go_ret
  exact ⟨rfl, HB14.out⟩
set_option maxHeartbeats 4000000 in
set_option maxRecDepth 100000 in
theorem ints_gt_pos_big_no1 (A B : Int) (x y s d q r : ByteArray) (h1 : 0 ≤ A) (h2 : A ≤ 1000000000000) (h3 : 0 ≤ B) (h4 : B ≤ 1000000000000) (h5 : B < A) (h6 : 0 < B) (h7 : 1000000000000 < A + B) (h8 : 1000000 ≤ A) (kA : OkOf A x) (kB : OkOf B y) (iA : OkInt x A 0) (kc : OkComp x y 1) (ks : OkCall 12 x y s) (is : OkInt s 0 9) (kd : OkCall 15 x y d) (id : OkInt d (A - B) 0) (kq : OkDiv x y q r) (iq : OkInt q (A.tdiv B) 0) (ir : OkInt r (A.tmod B) 0) (w1 : IntKind.i64.wrap (A + B) = A + B) (w2 : IntKind.i64.wrap (A - B) = A - B) (w3 : IntKind.i64.wrap (A.tdiv B) = A.tdiv B) (w4 : IntKind.i64.wrap (A.tmod B) = A.tmod B) (w : World) (hw : LawW w) :
    Calls Tryd.prog 7 #[.int .i64 A, .int .i64 B] w fun e w' => e = .returned (.bool true) ∧ Below w.heap.size w w' := by
  have f0 : decide (A < 0) = false := by simp; omega
  have f1 : decide (1000000000000 < A) = false := by simp; omega
  have f2 : decide (B < 0) = false := by simp; omega
  have f3 : decide (1000000000000 < B) = false := by simp; omega
  have f4 : decide (A < B) = false := by simp; omega
  have f5 : decide (B < A) = true := by simp; omega
  have f6 : decide (B ≤ A) = true := by simp; omega
  have f7 : decide (A + B ≤ 1000000000000) = false := by simp; omega
  have f8 : decide (1000000000000 < A + B) = true := by simp; omega
  have f9 : decide (0 < B) = true := by simp; omega
  have f10 : decide (1000000 ≤ A) = true := by simp; omega
  have g : (B == 0) = false := by simp; omega
  have g2 : B ≠ 0 := by omega
  clear h1 h2 h3 h4 h5 h6 h7 h8
  have H_kA := hide kA
  clear kA
  have H_kB := hide kB
  clear kB
  have H_iA := hide iA
  clear iA
  have H_kc := hide kc
  clear kc
  have H_ks := hide ks
  clear ks
  have H_is := hide is
  clear is
  have H_kd := hide kd
  clear kd
  have H_id := hide id
  clear id
  have H_kq := hide kq
  clear kq
  have H_iq := hide iq
  clear iq
  have H_ir := hide ir
  clear ir
  have HB0 : Hid (Below w.heap.size w w) := Below.refl _ _
  have HW := hide hw
  clear hw
  go_enter Tryd.func7, Tryd.ntmps7
  go_wp2_with fail
  refine (law03_head _ (HW.out.below HB0.out)).mono ?_
  rintro e w1 ⟨rfl, hb⟩
  have HB1 := hide (bStep HB0.out hb)
  clear hb
  go_wp2_with fail
  refine (H_kA.out _ (HW.out.below HB1.out)).mono ?_
  rintro e w2 ⟨rfl, hb⟩
  have HB2 := hide (bStep HB1.out hb)
  clear hb
  go_wp2_with fail
  refine (H_kB.out _ (HW.out.below HB2.out)).mono ?_
  rintro e w3 ⟨rfl, hb⟩
  have HB3 := hide (bStep HB2.out hb)
  clear hb
  go_wp2_with fail
  refine (H_iA.out _ (HW.out.below HB3.out)).mono ?_
  rintro e w4 ⟨rfl, hb⟩
  have HB4 := hide (bStep HB3.out hb)
  clear hb
  go_wp2_with fail
  refine (H_kc.out _).mono ?_
  rintro e w5 ⟨rfl, hb⟩
  have HB5 := hide (bStep HB4.out hb)
  clear hb
  go_wp2_with fail
  refine (H_ks.out _ (HW.out.below HB5.out)).mono ?_
  rintro e w6 ⟨rfl, hb⟩
  have HB6 := hide (bStep HB5.out hb)
  clear hb
  go_wp2_with fail
  refine (H_is.out _ (HW.out.below HB6.out)).mono ?_
  rintro e w7 ⟨rfl, hb⟩
  have HB7 := hide (bStep HB6.out hb)
  clear hb
  go_wp2_with fail
  refine (H_kd.out _ (HW.out.below HB7.out)).mono ?_
  rintro e w8 ⟨rfl, hb⟩
  have HB8 := hide (bStep HB7.out hb)
  clear hb
  go_wp2_with fail
  refine (H_id.out _ (HW.out.below HB8.out)).mono ?_
  rintro e w9 ⟨rfl, hb⟩
  have HB9 := hide (bStep HB8.out hb)
  clear hb
  go_wp2_with fail
  refine (H_kq.out _ (HW.out.below HB9.out)).mono ?_
  rintro e w10 ⟨rfl, hb⟩
  have HB10 := hide (bStep HB9.out hb)
  clear hb
  go_wp2_with fail
  refine (H_iq.out _ (HW.out.below HB10.out)).mono ?_
  rintro e w11 ⟨rfl, hb⟩
  have HB11 := hide (bStep HB10.out hb)
  clear hb
  go_wp2_with fail
  refine (H_ir.out _ (HW.out.below HB11.out)).mono ?_
  rintro e w12 ⟨rfl, hb⟩
  have HB12 := hide (bStep HB11.out hb)
  clear hb
  go_wp2_with fail
  go_ret
  exact ⟨rfl, HB12.out⟩
set_option maxHeartbeats 4000000 in
set_option maxRecDepth 100000 in
theorem ints_gt_zero_small_no1 (A B : Int) (x y s d : ByteArray) (h1 : 0 ≤ A) (h2 : A ≤ 1000000000000) (h3 : 0 ≤ B) (h4 : B ≤ 1000000000000) (h5 : B < A) (h6 : B = 0) (h7 : A + B ≤ 1000000000000) (h8 : 1000000 ≤ A) (kA : OkOf A x) (kB : OkOf B y) (iA : OkInt x A 0) (kc : OkComp x y 1) (ks : OkCall 12 x y s) (is : OkInt s (A + B) 0) (kd : OkCall 15 x y d) (id : OkInt d (A - B) 0) (w1 : IntKind.i64.wrap (A + B) = A + B) (w2 : IntKind.i64.wrap (A - B) = A - B) (w : World) (hw : LawW w) :
    Calls Tryd.prog 7 #[.int .i64 A, .int .i64 B] w fun e w' => e = .returned (.bool true) ∧ Below w.heap.size w w' := by
  have f0 : decide (A < 0) = false := by simp; omega
  have f1 : decide (1000000000000 < A) = false := by simp; omega
  have f2 : decide (B < 0) = false := by simp; omega
  have f3 : decide (1000000000000 < B) = false := by simp; omega
  have f4 : decide (A < B) = false := by simp; omega
  have f5 : decide (B < A) = true := by simp; omega
  have f6 : decide (B ≤ A) = true := by simp; omega
  have f7 : decide (A + B ≤ 1000000000000) = true := by simp; omega
  have f8 : decide (1000000000000 < A + B) = false := by simp; omega
  have f9 : decide (0 < B) = false := by simp; omega
  have f10 : decide (1000000 ≤ A) = true := by simp; omega
  clear h1 h2 h3 h4 h5 h6 h7 h8
  have H_kA := hide kA
  clear kA
  have H_kB := hide kB
  clear kB
  have H_iA := hide iA
  clear iA
  have H_kc := hide kc
  clear kc
  have H_ks := hide ks
  clear ks
  have H_is := hide is
  clear is
  have H_kd := hide kd
  clear kd
  have H_id := hide id
  clear id
  have HB0 : Hid (Below w.heap.size w w) := Below.refl _ _
  have HW := hide hw
  clear hw
  go_enter Tryd.func7, Tryd.ntmps7
  go_wp2_with fail
  refine (law03_head _ (HW.out.below HB0.out)).mono ?_
  rintro e w1 ⟨rfl, hb⟩
  have HB1 := hide (bStep HB0.out hb)
  clear hb
  go_wp2_with fail
  refine (H_kA.out _ (HW.out.below HB1.out)).mono ?_
  rintro e w2 ⟨rfl, hb⟩
  have HB2 := hide (bStep HB1.out hb)
  clear hb
  go_wp2_with fail
  refine (H_kB.out _ (HW.out.below HB2.out)).mono ?_
  rintro e w3 ⟨rfl, hb⟩
  have HB3 := hide (bStep HB2.out hb)
  clear hb
  go_wp2_with fail
  refine (H_iA.out _ (HW.out.below HB3.out)).mono ?_
  rintro e w4 ⟨rfl, hb⟩
  have HB4 := hide (bStep HB3.out hb)
  clear hb
  go_wp2_with fail
  refine (H_kc.out _).mono ?_
  rintro e w5 ⟨rfl, hb⟩
  have HB5 := hide (bStep HB4.out hb)
  clear hb
  go_wp2_with fail
  refine (H_ks.out _ (HW.out.below HB5.out)).mono ?_
  rintro e w6 ⟨rfl, hb⟩
  have HB6 := hide (bStep HB5.out hb)
  clear hb
  go_wp2_with fail
  refine (H_is.out _ (HW.out.below HB6.out)).mono ?_
  rintro e w7 ⟨rfl, hb⟩
  have HB7 := hide (bStep HB6.out hb)
  clear hb
  go_wp2_with fail
  refine (H_kd.out _ (HW.out.below HB7.out)).mono ?_
  rintro e w8 ⟨rfl, hb⟩
  have HB8 := hide (bStep HB7.out hb)
  clear hb
  go_wp2_with fail
  refine (H_id.out _ (HW.out.below HB8.out)).mono ?_
  rintro e w9 ⟨rfl, hb⟩
  have HB9 := hide (bStep HB8.out hb)
  clear hb
  go_wp2_with fail
  go_ret
  exact ⟨rfl, HB9.out⟩
set_option maxHeartbeats 4000000 in
set_option maxRecDepth 100000 in
theorem ints_gt_zero_small_yes (A B : Int) (x y s d p : ByteArray) (h1 : 0 ≤ A) (h2 : A ≤ 1000000000000) (h3 : 0 ≤ B) (h4 : B ≤ 1000000000000) (h5 : B < A) (h6 : B = 0) (h7 : A + B ≤ 1000000000000) (h8 : A < 1000000 ∧ B < 1000000) (kA : OkOf A x) (kB : OkOf B y) (iA : OkInt x A 0) (kc : OkComp x y 1) (ks : OkCall 12 x y s) (is : OkInt s (A + B) 0) (kd : OkCall 15 x y d) (id : OkInt d (A - B) 0) (kp : OkCall 13 x y p) (ip : OkInt p (A * B) 0) (w1 : IntKind.i64.wrap (A + B) = A + B) (w2 : IntKind.i64.wrap (A - B) = A - B) (w5 : IntKind.i64.wrap (A * B) = A * B) (w : World) (hw : LawW w) :
    Calls Tryd.prog 7 #[.int .i64 A, .int .i64 B] w fun e w' => e = .returned (.bool true) ∧ Below w.heap.size w w' := by
  have f0 : decide (A < 0) = false := by simp; omega
  have f1 : decide (1000000000000 < A) = false := by simp; omega
  have f2 : decide (B < 0) = false := by simp; omega
  have f3 : decide (1000000000000 < B) = false := by simp; omega
  have f4 : decide (A < B) = false := by simp; omega
  have f5 : decide (B < A) = true := by simp; omega
  have f6 : decide (B ≤ A) = true := by simp; omega
  have f7 : decide (A + B ≤ 1000000000000) = true := by simp; omega
  have f8 : decide (1000000000000 < A + B) = false := by simp; omega
  have f9 : decide (0 < B) = false := by simp; omega
  have f10 : decide (1000000 ≤ A) = false := by simp; omega
  have f11 : decide (1000000 ≤ B) = false := by simp; omega
  clear h1 h2 h3 h4 h5 h6 h7 h8
  have H_kA := hide kA
  clear kA
  have H_kB := hide kB
  clear kB
  have H_iA := hide iA
  clear iA
  have H_kc := hide kc
  clear kc
  have H_ks := hide ks
  clear ks
  have H_is := hide is
  clear is
  have H_kd := hide kd
  clear kd
  have H_id := hide id
  clear id
  have H_kp := hide kp
  clear kp
  have H_ip := hide ip
  clear ip
  have HB0 : Hid (Below w.heap.size w w) := Below.refl _ _
  have HW := hide hw
  clear hw
  go_enter Tryd.func7, Tryd.ntmps7
  go_wp2_with fail
  refine (law03_head _ (HW.out.below HB0.out)).mono ?_
  rintro e w1 ⟨rfl, hb⟩
  have HB1 := hide (bStep HB0.out hb)
  clear hb
  go_wp2_with fail
  refine (H_kA.out _ (HW.out.below HB1.out)).mono ?_
  rintro e w2 ⟨rfl, hb⟩
  have HB2 := hide (bStep HB1.out hb)
  clear hb
  go_wp2_with fail
  refine (H_kB.out _ (HW.out.below HB2.out)).mono ?_
  rintro e w3 ⟨rfl, hb⟩
  have HB3 := hide (bStep HB2.out hb)
  clear hb
  go_wp2_with fail
  refine (H_iA.out _ (HW.out.below HB3.out)).mono ?_
  rintro e w4 ⟨rfl, hb⟩
  have HB4 := hide (bStep HB3.out hb)
  clear hb
  go_wp2_with fail
  refine (H_kc.out _).mono ?_
  rintro e w5 ⟨rfl, hb⟩
  have HB5 := hide (bStep HB4.out hb)
  clear hb
  go_wp2_with fail
  refine (H_ks.out _ (HW.out.below HB5.out)).mono ?_
  rintro e w6 ⟨rfl, hb⟩
  have HB6 := hide (bStep HB5.out hb)
  clear hb
  go_wp2_with fail
  refine (H_is.out _ (HW.out.below HB6.out)).mono ?_
  rintro e w7 ⟨rfl, hb⟩
  have HB7 := hide (bStep HB6.out hb)
  clear hb
  go_wp2_with fail
  refine (H_kd.out _ (HW.out.below HB7.out)).mono ?_
  rintro e w8 ⟨rfl, hb⟩
  have HB8 := hide (bStep HB7.out hb)
  clear hb
  go_wp2_with fail
  refine (H_id.out _ (HW.out.below HB8.out)).mono ?_
  rintro e w9 ⟨rfl, hb⟩
  have HB9 := hide (bStep HB8.out hb)
  clear hb
  go_wp2_with fail
  refine (H_kp.out _ (HW.out.below HB9.out)).mono ?_
  rintro e w10 ⟨rfl, hb⟩
  have HB10 := hide (bStep HB9.out hb)
  clear hb
  go_wp2_with fail
  refine (H_ip.out _ (HW.out.below HB10.out)).mono ?_
  rintro e w11 ⟨rfl, hb⟩
  have HB11 := hide (bStep HB10.out hb)
  clear hb
  go_wp2_with fail
  go_ret
  exact ⟨rfl, HB11.out⟩
theorem wr_nat {k : Nat} (h : k ≤ 1000000000000) : IntKind.i64.wrap (k : Int) = (k : Int) := IntWalk.i64_in _ (by omega)
theorem cmpN_same {x y : Nat} (h : x = y) : cmpN x y = 0 := by rw [h]; exact cmpN_eq y
theorem int_cap {n : Nat} (h : n ≤ 1000000000000) : n < capN := to_capN (k := 13) (by unfold capK; omega) (by decide)
theorem naturalInts_walk (A B : Int) (w : World) (hw : LawW w) :
    Calls Tryd.prog 7 #[.int .i64 A, .int .i64 B] w fun e w' => e = .returned (.bool true) ∧ Below w.heap.size w w' := by
  by_cases a0 : A < 0
  · exact ints_outA0 A B a0 w hw
  by_cases a1 : 1000000000000 < A
  · exact ints_outA1 A B a1 w hw
  by_cases b0 : B < 0
  · exact ints_outB0 A B ⟨by omega, by omega, b0⟩ w hw
  by_cases b1 : 1000000000000 < B
  · exact ints_outB1 A B ⟨by omega, by omega, b1⟩ w hw
  obtain ⟨n, rfl⟩ : ∃ n : Nat, A = (n : Int) := ⟨A.toNat, by omega⟩
  obtain ⟨m, rfl⟩ : ∃ m : Nat, B = (m : Int) := ⟨B.toNat, by omega⟩
  have cn : n < capN := int_cap (by omega)
  have cm : m < capN := int_cap (by omega)
  have cs : n + m < capN := to_capN (k := 13) (by unfold capK; omega) (by decide)
  have hp : n < 1000000 → m < 1000000 → n * m < 1000000000000 := fun h1 h2 => Nat.lt_of_le_of_lt (Nat.mul_le_mul (Nat.le_of_lt_succ h1) (Nat.le_of_lt_succ h2)) (by omega)
  have hq : n / m ≤ n := Nat.div_le_self n m
  have hr : n % m ≤ n := Nat.mod_le n m
  have cq : n / m < capN := Nat.lt_of_le_of_lt hq cn
  have cr : n % m < capN := Nat.lt_of_le_of_lt hr cn
  have kA := ok_of n (by omega)
  have kB := ok_of m (by omega)
  have iA := ok_int cn (by omega)
  rcases Nat.lt_trichotomy n m with hlt | heq | hgt
  · by_cases big : n + m ≤ 1000000000000
    · by_cases m1 : 1000000 ≤ n
      · exact ints_lt_pos_small_no1 (n : Int) (m : Int) (natS n) (natS m) (natS (n + m)) (natS (n / m)) (natS (n % m)) (by omega) (by omega) (by omega) (by omega) (by omega) (by omega) (by omega) (by omega) kA kB iA (by rw [show (-1 : Int) = cmpN n m from (cmpN_lt (by omega)).symm]; exact ok_comp cn cm) (ok_add cn cm rfl cs) (by rw [← Int.natCast_add]; exact ok_int cs (by omega)) (fun W => nat_sub_less n m W cn cm (by omega)) (ok_div cn cm (by omega) rfl rfl) (by rw [← Int.ofNat_tdiv]; exact ok_int cq (by omega)) (by rw [← Int.ofNat_tmod]; exact ok_int cr (by omega)) (IntWalk.i64_in _ (by omega)) (IntWalk.i64_in _ (by omega)) (by rw [← Int.ofNat_tdiv]; exact wr_nat (by omega)) (by rw [← Int.ofNat_tmod]; exact wr_nat (by omega)) w hw
      by_cases m2 : 1000000 ≤ m
      · exact ints_lt_pos_small_no2 (n : Int) (m : Int) (natS n) (natS m) (natS (n + m)) (natS (n / m)) (natS (n % m)) (by omega) (by omega) (by omega) (by omega) (by omega) (by omega) (by omega) (by omega) kA kB iA (by rw [show (-1 : Int) = cmpN n m from (cmpN_lt (by omega)).symm]; exact ok_comp cn cm) (ok_add cn cm rfl cs) (by rw [← Int.natCast_add]; exact ok_int cs (by omega)) (fun W => nat_sub_less n m W cn cm (by omega)) (ok_div cn cm (by omega) rfl rfl) (by rw [← Int.ofNat_tdiv]; exact ok_int cq (by omega)) (by rw [← Int.ofNat_tmod]; exact ok_int cr (by omega)) (IntWalk.i64_in _ (by omega)) (IntWalk.i64_in _ (by omega)) (by rw [← Int.ofNat_tdiv]; exact wr_nat (by omega)) (by rw [← Int.ofNat_tmod]; exact wr_nat (by omega)) w hw
      have cp : n * m < capN := int_cap (Nat.le_of_lt (hp (by omega) (by omega)))
      exact ints_lt_pos_small_yes (n : Int) (m : Int) (natS n) (natS m) (natS (n + m)) (natS (n / m)) (natS (n % m)) (natS (n * m)) (by omega) (by omega) (by omega) (by omega) (by omega) (by omega) (by omega) (by omega) kA kB iA (by rw [show (-1 : Int) = cmpN n m from (cmpN_lt (by omega)).symm]; exact ok_comp cn cm) (ok_add cn cm rfl cs) (by rw [← Int.natCast_add]; exact ok_int cs (by omega)) (fun W => nat_sub_less n m W cn cm (by omega)) (ok_div cn cm (by omega) rfl rfl) (by rw [← Int.ofNat_tdiv]; exact ok_int cq (by omega)) (by rw [← Int.ofNat_tmod]; exact ok_int cr (by omega)) (ok_mul cn cm rfl cp) (by rw [← Int.natCast_mul]; exact ok_int cp (Nat.le_of_lt (hp (by omega) (by omega)))) (IntWalk.i64_in _ (by omega)) (IntWalk.i64_in _ (by omega)) (by rw [← Int.ofNat_tdiv]; exact wr_nat (by omega)) (by rw [← Int.ofNat_tmod]; exact wr_nat (by omega)) (by rw [← Int.natCast_mul]; exact wr_nat (Nat.le_of_lt (hp (by omega) (by omega)))) w hw
    · by_cases m1 : 1000000 ≤ n
      · exact ints_lt_pos_big_no1 (n : Int) (m : Int) (natS n) (natS m) (natS (n + m)) (natS (n / m)) (natS (n % m)) (by omega) (by omega) (by omega) (by omega) (by omega) (by omega) (by omega) (by omega) kA kB iA (by rw [show (-1 : Int) = cmpN n m from (cmpN_lt (by omega)).symm]; exact ok_comp cn cm) (ok_add cn cm rfl cs) (ok_int_big cs (by omega)) (fun W => nat_sub_less n m W cn cm (by omega)) (ok_div cn cm (by omega) rfl rfl) (by rw [← Int.ofNat_tdiv]; exact ok_int cq (by omega)) (by rw [← Int.ofNat_tmod]; exact ok_int cr (by omega)) (IntWalk.i64_in _ (by omega)) (IntWalk.i64_in _ (by omega)) (by rw [← Int.ofNat_tdiv]; exact wr_nat (by omega)) (by rw [← Int.ofNat_tmod]; exact wr_nat (by omega)) w hw
      exact ints_lt_pos_big_no2 (n : Int) (m : Int) (natS n) (natS m) (natS (n + m)) (natS (n / m)) (natS (n % m)) (by omega) (by omega) (by omega) (by omega) (by omega) (by omega) (by omega) (by omega) kA kB iA (by rw [show (-1 : Int) = cmpN n m from (cmpN_lt (by omega)).symm]; exact ok_comp cn cm) (ok_add cn cm rfl cs) (ok_int_big cs (by omega)) (fun W => nat_sub_less n m W cn cm (by omega)) (ok_div cn cm (by omega) rfl rfl) (by rw [← Int.ofNat_tdiv]; exact ok_int cq (by omega)) (by rw [← Int.ofNat_tmod]; exact ok_int cr (by omega)) (IntWalk.i64_in _ (by omega)) (IntWalk.i64_in _ (by omega)) (by rw [← Int.ofNat_tdiv]; exact wr_nat (by omega)) (by rw [← Int.ofNat_tmod]; exact wr_nat (by omega)) w hw
  · by_cases z : 0 < m
    · by_cases big : n + m ≤ 1000000000000
      · by_cases m1 : 1000000 ≤ n
        · exact ints_eq_pos_small_no1 (n : Int) (m : Int) (natS n) (natS m) (natS (n + m)) (natS (n - m)) (natS (n / m)) (natS (n % m)) (by omega) (by omega) (by omega) (by omega) (by omega) (by omega) (by omega) (by omega) kA kB iA (by rw [show (0 : Int) = cmpN n m from (cmpN_same heq).symm]; exact ok_comp cn cm) (ok_add cn cm rfl cs) (by rw [← Int.natCast_add]; exact ok_int cs (by omega)) (ok_sub cn cm (by omega)) (by rw [← Int.ofNat_sub (by omega)]; exact ok_int (by omega) (by omega)) (ok_div cn cm (by omega) rfl rfl) (by rw [← Int.ofNat_tdiv]; exact ok_int cq (by omega)) (by rw [← Int.ofNat_tmod]; exact ok_int cr (by omega)) (IntWalk.i64_in _ (by omega)) (IntWalk.i64_in _ (by omega)) (by rw [← Int.ofNat_tdiv]; exact wr_nat (by omega)) (by rw [← Int.ofNat_tmod]; exact wr_nat (by omega)) w hw
        have cp : n * m < capN := int_cap (Nat.le_of_lt (hp (by omega) (by omega)))
        exact ints_eq_pos_small_yes (n : Int) (m : Int) (natS n) (natS m) (natS (n + m)) (natS (n - m)) (natS (n / m)) (natS (n % m)) (natS (n * m)) (by omega) (by omega) (by omega) (by omega) (by omega) (by omega) (by omega) (by omega) kA kB iA (by rw [show (0 : Int) = cmpN n m from (cmpN_same heq).symm]; exact ok_comp cn cm) (ok_add cn cm rfl cs) (by rw [← Int.natCast_add]; exact ok_int cs (by omega)) (ok_sub cn cm (by omega)) (by rw [← Int.ofNat_sub (by omega)]; exact ok_int (by omega) (by omega)) (ok_div cn cm (by omega) rfl rfl) (by rw [← Int.ofNat_tdiv]; exact ok_int cq (by omega)) (by rw [← Int.ofNat_tmod]; exact ok_int cr (by omega)) (ok_mul cn cm rfl cp) (by rw [← Int.natCast_mul]; exact ok_int cp (Nat.le_of_lt (hp (by omega) (by omega)))) (IntWalk.i64_in _ (by omega)) (IntWalk.i64_in _ (by omega)) (by rw [← Int.ofNat_tdiv]; exact wr_nat (by omega)) (by rw [← Int.ofNat_tmod]; exact wr_nat (by omega)) (by rw [← Int.natCast_mul]; exact wr_nat (Nat.le_of_lt (hp (by omega) (by omega)))) w hw
      · exact ints_eq_pos_big_no1 (n : Int) (m : Int) (natS n) (natS m) (natS (n + m)) (natS (n - m)) (natS (n / m)) (natS (n % m)) (by omega) (by omega) (by omega) (by omega) (by omega) (by omega) (by omega) (by omega) kA kB iA (by rw [show (0 : Int) = cmpN n m from (cmpN_same heq).symm]; exact ok_comp cn cm) (ok_add cn cm rfl cs) (ok_int_big cs (by omega)) (ok_sub cn cm (by omega)) (by rw [← Int.ofNat_sub (by omega)]; exact ok_int (by omega) (by omega)) (ok_div cn cm (by omega) rfl rfl) (by rw [← Int.ofNat_tdiv]; exact ok_int cq (by omega)) (by rw [← Int.ofNat_tmod]; exact ok_int cr (by omega)) (IntWalk.i64_in _ (by omega)) (IntWalk.i64_in _ (by omega)) (by rw [← Int.ofNat_tdiv]; exact wr_nat (by omega)) (by rw [← Int.ofNat_tmod]; exact wr_nat (by omega)) w hw
    · have cp : n * m < capN := int_cap (Nat.le_of_lt (hp (by omega) (by omega)))
      exact ints_eq_zero_small_yes (n : Int) (m : Int) (natS n) (natS m) (natS (n + m)) (natS (n - m)) (natS (n * m)) (by omega) (by omega) (by omega) (by omega) (by omega) (by omega) (by omega) (by omega) kA kB iA (by rw [show (0 : Int) = cmpN n m from (cmpN_same heq).symm]; exact ok_comp cn cm) (ok_add cn cm rfl cs) (by rw [← Int.natCast_add]; exact ok_int cs (by omega)) (ok_sub cn cm (by omega)) (by rw [← Int.ofNat_sub (by omega)]; exact ok_int (by omega) (by omega)) (ok_mul cn cm rfl cp) (by rw [← Int.natCast_mul]; exact ok_int cp (Nat.le_of_lt (hp (by omega) (by omega)))) (IntWalk.i64_in _ (by omega)) (IntWalk.i64_in _ (by omega)) (by rw [← Int.natCast_mul]; exact wr_nat (Nat.le_of_lt (hp (by omega) (by omega)))) w hw
  · by_cases z : 0 < m
    · by_cases big : n + m ≤ 1000000000000
      · by_cases m1 : 1000000 ≤ n
        · exact ints_gt_pos_small_no1 (n : Int) (m : Int) (natS n) (natS m) (natS (n + m)) (natS (n - m)) (natS (n / m)) (natS (n % m)) (by omega) (by omega) (by omega) (by omega) (by omega) (by omega) (by omega) (by omega) kA kB iA (by rw [show (1 : Int) = cmpN n m from (cmpN_gt (by omega)).symm]; exact ok_comp cn cm) (ok_add cn cm rfl cs) (by rw [← Int.natCast_add]; exact ok_int cs (by omega)) (ok_sub cn cm (by omega)) (by rw [← Int.ofNat_sub (by omega)]; exact ok_int (by omega) (by omega)) (ok_div cn cm (by omega) rfl rfl) (by rw [← Int.ofNat_tdiv]; exact ok_int cq (by omega)) (by rw [← Int.ofNat_tmod]; exact ok_int cr (by omega)) (IntWalk.i64_in _ (by omega)) (IntWalk.i64_in _ (by omega)) (by rw [← Int.ofNat_tdiv]; exact wr_nat (by omega)) (by rw [← Int.ofNat_tmod]; exact wr_nat (by omega)) w hw
        have cp : n * m < capN := int_cap (Nat.le_of_lt (hp (by omega) (by omega)))
        exact ints_gt_pos_small_yes (n : Int) (m : Int) (natS n) (natS m) (natS (n + m)) (natS (n - m)) (natS (n / m)) (natS (n % m)) (natS (n * m)) (by omega) (by omega) (by omega) (by omega) (by omega) (by omega) (by omega) (by omega) kA kB iA (by rw [show (1 : Int) = cmpN n m from (cmpN_gt (by omega)).symm]; exact ok_comp cn cm) (ok_add cn cm rfl cs) (by rw [← Int.natCast_add]; exact ok_int cs (by omega)) (ok_sub cn cm (by omega)) (by rw [← Int.ofNat_sub (by omega)]; exact ok_int (by omega) (by omega)) (ok_div cn cm (by omega) rfl rfl) (by rw [← Int.ofNat_tdiv]; exact ok_int cq (by omega)) (by rw [← Int.ofNat_tmod]; exact ok_int cr (by omega)) (ok_mul cn cm rfl cp) (by rw [← Int.natCast_mul]; exact ok_int cp (Nat.le_of_lt (hp (by omega) (by omega)))) (IntWalk.i64_in _ (by omega)) (IntWalk.i64_in _ (by omega)) (by rw [← Int.ofNat_tdiv]; exact wr_nat (by omega)) (by rw [← Int.ofNat_tmod]; exact wr_nat (by omega)) (by rw [← Int.natCast_mul]; exact wr_nat (Nat.le_of_lt (hp (by omega) (by omega)))) w hw
      · exact ints_gt_pos_big_no1 (n : Int) (m : Int) (natS n) (natS m) (natS (n + m)) (natS (n - m)) (natS (n / m)) (natS (n % m)) (by omega) (by omega) (by omega) (by omega) (by omega) (by omega) (by omega) (by omega) kA kB iA (by rw [show (1 : Int) = cmpN n m from (cmpN_gt (by omega)).symm]; exact ok_comp cn cm) (ok_add cn cm rfl cs) (ok_int_big cs (by omega)) (ok_sub cn cm (by omega)) (by rw [← Int.ofNat_sub (by omega)]; exact ok_int (by omega) (by omega)) (ok_div cn cm (by omega) rfl rfl) (by rw [← Int.ofNat_tdiv]; exact ok_int cq (by omega)) (by rw [← Int.ofNat_tmod]; exact ok_int cr (by omega)) (IntWalk.i64_in _ (by omega)) (IntWalk.i64_in _ (by omega)) (by rw [← Int.ofNat_tdiv]; exact wr_nat (by omega)) (by rw [← Int.ofNat_tmod]; exact wr_nat (by omega)) w hw
    · by_cases m1 : 1000000 ≤ n
      · exact ints_gt_zero_small_no1 (n : Int) (m : Int) (natS n) (natS m) (natS (n + m)) (natS (n - m)) (by omega) (by omega) (by omega) (by omega) (by omega) (by omega) (by omega) (by omega) kA kB iA (by rw [show (1 : Int) = cmpN n m from (cmpN_gt (by omega)).symm]; exact ok_comp cn cm) (ok_add cn cm rfl cs) (by rw [← Int.natCast_add]; exact ok_int cs (by omega)) (ok_sub cn cm (by omega)) (by rw [← Int.ofNat_sub (by omega)]; exact ok_int (by omega) (by omega)) (IntWalk.i64_in _ (by omega)) (IntWalk.i64_in _ (by omega)) w hw
      have cp : n * m < capN := int_cap (Nat.le_of_lt (hp (by omega) (by omega)))
      exact ints_gt_zero_small_yes (n : Int) (m : Int) (natS n) (natS m) (natS (n + m)) (natS (n - m)) (natS (n * m)) (by omega) (by omega) (by omega) (by omega) (by omega) (by omega) (by omega) (by omega) kA kB iA (by rw [show (1 : Int) = cmpN n m from (cmpN_gt (by omega)).symm]; exact ok_comp cn cm) (ok_add cn cm rfl cs) (by rw [← Int.natCast_add]; exact ok_int cs (by omega)) (ok_sub cn cm (by omega)) (by rw [← Int.ofNat_sub (by omega)]; exact ok_int (by omega) (by omega)) (ok_mul cn cm rfl cp) (by rw [← Int.natCast_mul]; exact ok_int cp (Nat.le_of_lt (hp (by omega) (by omega)))) (IntWalk.i64_in _ (by omega)) (IntWalk.i64_in _ (by omega)) (by rw [← Int.natCast_mul]; exact wr_nat (Nat.le_of_lt (hp (by omega) (by omega)))) w hw
end Go.Proofs.YtbefdlncpobmlaaDoor
