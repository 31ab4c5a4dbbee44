/- RgA in one text. -/
import Derived.Test.YtcgplokdklomlaaGreatDoorRfW
import Derived.Test.YtcgplokdklomlaaGreatDoorPkJ
import Derived.BigGuard
set_option linter.unusedVariables false
set_option linter.unusedSimpArgs false
/- observatoryref04: Valid, lowest, Of, Make, Minus. -/
namespace Go.Proofs.YtcgplokdklomlaaGreatDoor
open Go.RowKit

def RV (s : ByteArray) (b : Bool) : Prop := ∀ W, Calls Tryz.prog 80 #[.string s] W fun e w' => e = .returned (.bool b) ∧ Below W.heap.size W w'
def R2 (F : FuncId) (a b s : ByteArray) : Prop := ∀ W, Calls Tryz.prog F #[.string a, .string b] W fun e w' => e = .returned (.tuple #[.string s, .int .i64 0]) ∧ Below W.heap.size W w'
def R3 (F : FuncId) (a b s t : ByteArray) : Prop := ∀ W, Calls Tryz.prog F #[.string a, .string b] W fun e w' => e = .returned (.tuple #[.string s, .string t, .int .i64 0]) ∧ Below W.heap.size W w'
def QL (g : Bool) (s t : ByteArray) (g' : Bool) (s' t' : ByteArray) : Prop := ∀ W, Calls Tryz.prog 52 #[.bool g, .string s, .string t] W fun e w' => e = .returned (.agg #[.bool g', .string s', .string t']) ∧ Below W.heap.size W w'
def Q2 (F : FuncId) (ga : Bool) (sa ta : ByteArray) (gb : Bool) (sb tb : ByteArray) (g : Bool) (s t : ByteArray) (k : Int) : Prop := ∀ W, Calls Tryz.prog F #[.agg #[.bool ga, .string sa, .string ta], .agg #[.bool gb, .string sb, .string tb]] W fun e w' => e = .returned (.tuple #[.agg #[.bool g, .string s, .string t], .int .i64 k]) ∧ Below W.heap.size W w'
def RA (n : Int) (s : ByteArray) : Prop := ∀ W, Calls Tryz.prog 53 #[.int .i64 n] W fun e w' => e = .returned (.string s) ∧ Below W.heap.size W w'

theorem r4_zero (w : World) : Calls Tryz.prog 65 #[] w fun e w' => e = .returned (.agg #[.bool false, .string ⟨#[48]⟩, .string ⟨#[49]⟩]) ∧ Below w.heap.size w w' := by
  go_enter Tryz.func65, Tryz.ntmps65
  go_wp2_with fail
  exact bodyPost_ret (v := .agg #[.bool false, .string ⟨#[48]⟩, .string ⟨#[49]⟩]) (by simp [results, Tryz.results65, go_sem]) rfl ⟨rfl, (Below.refl _ _).alloc (Nat.le_refl _) _⟩
set_option maxHeartbeats 4000000 in
set_option maxRecDepth 100000 in
theorem r4_lowest0 (g : Bool) (t : ByteArray) (w : World)  :
    Calls Tryz.prog 52 #[.bool g, .string ⟨#[48]⟩, .string t] w fun e w' => e = .returned (.agg #[.bool false, .string ⟨#[48]⟩, .string ⟨#[49]⟩]) ∧ Below w.heap.size w w' := by
  have HB0 : Hid (Below w.heap.size w w) := Below.refl _ _
  have HV0 : Hid (VL w []) := VL.nil w
  go_enter Tryz.func52, Tryz.ntmps52
  have HV0_ := hide (HV0.out.pushAt (b := w.heap.size) (by simp) false ⟨#[]⟩ ⟨#[]⟩ 32)
  have HB0_ := hide (bAlloc HB0.out (.cells #[.bool false, .string ⟨#[]⟩, .string ⟨#[]⟩] 32))
  clear HB0 HV0
  go_wp2_with fail
  refine (r4_zero _).mono ?_
  rintro e w1 ⟨rfl, hb⟩
  have HB1 := hide (bStep HB0_.out hb)
  have HV1 := hide (HV0_.out.below hb)
  clear hb HB0_ HV0_
  obtain ⟨k1_0, k1_1, k1_2, k1_3, k1_4, k1_5⟩ := VL.get (b := w.heap.size) (g := false) (s := ⟨#[]⟩) (t := ⟨#[]⟩) HV1.out (by simp)
  go_wp2_with fail
  clear k1_0 k1_1 k1_2 k1_3 k1_4 k1_5
  obtain ⟨d0, d1, d2, _, _, _⟩ := (VL.get (b := w.heap.size) (g := false) (s := ⟨#[]⟩) (t := ⟨#[]⟩) HV1.out (by simp)).set3 false ⟨#[48]⟩ ⟨#[49]⟩
  exact bodyPost_ret (v := .agg #[.bool false, .string ⟨#[48]⟩, .string ⟨#[49]⟩]) (by simp [results, Tryz.results52, go_sem, d0, d1, d2]) rfl ⟨rfl, bset3 HB1.out (by omega) _ _ _⟩
set_option maxHeartbeats 4000000 in
set_option maxRecDepth 100000 in
theorem r4_lowest1 (g : Bool) (s t u s1 r1 t1 r2 : ByteArray) (w : World) (h1 : R2 66 s t u) (h2 : R3 67 s u s1 r1) (h3 : R3 67 t u t1 r2) (f1 : (s.toList == [48]) = false) :
    Calls Tryz.prog 52 #[.bool g, .string s, .string t] w fun e w' => e = .returned (.agg #[.bool g, .string s1, .string t1]) ∧ Below w.heap.size w w' := by
  unfold R2 at h1
  have Hh1 := hide h1
  unfold R3 at h2
  have Hh2 := hide h2
  unfold R3 at h3
  have Hh3 := hide h3
  have HB0 : Hid (Below w.heap.size w w) := Below.refl _ _
  have HV0 : Hid (VL w []) := VL.nil w
  clear h1 h2 h3 
  go_enter Tryz.func52, Tryz.ntmps52
  have HV0_ := hide (HV0.out.pushAt (b := w.heap.size) (by simp) false ⟨#[]⟩ ⟨#[]⟩ 32)
  have HB0_ := hide (bAlloc HB0.out (.cells #[.bool false, .string ⟨#[]⟩, .string ⟨#[]⟩] 32))
  clear HB0 HV0
  go_wp2_with fail
  refine (Hh1.out _).mono ?_
  rintro e w1 ⟨rfl, hb⟩
  have HB1 := hide (bStep HB0_.out hb)
  have HV1 := hide (HV0_.out.below hb)
  clear hb HB0_ HV0_
  go_wp2_with fail
  refine (Hh2.out _).mono ?_
  rintro e w2 ⟨rfl, hb⟩
  have HB2 := hide (bStep HB1.out hb)
  have HV2 := hide (HV1.out.below hb)
  clear hb HB1 HV1
  go_wp2_with fail
  refine (Hh3.out _).mono ?_
  rintro e w3 ⟨rfl, hb⟩
  have HB3 := hide (bStep HB2.out hb)
  have HV3 := hide (HV2.out.below hb)
  clear hb HB2 HV2
  obtain ⟨k1_0, k1_1, k1_2, k1_3, k1_4, k1_5⟩ := VL.get (b := w.heap.size) (g := false) (s := ⟨#[]⟩) (t := ⟨#[]⟩) HV3.out (by simp)
  go_wp2_with fail
  clear k1_0 k1_1 k1_2 k1_3 k1_4 k1_5
  obtain ⟨d0, d1, d2, _, _, _⟩ := (VL.get (b := w.heap.size) (g := false) (s := ⟨#[]⟩) (t := ⟨#[]⟩) HV3.out (by simp)).set3 g s1 t1
  exact bodyPost_ret (v := .agg #[.bool g, .string s1, .string t1]) (by simp [results, Tryz.results52, go_sem, d0, d1, d2]) rfl ⟨rfl, bset3 HB3.out (by omega) _ _ _⟩
theorem rv_t {s : ByteArray} (hs : s.size ≤ maxLen) (h : vldN s = true) : RV s true := fun W => (ref_vt s W hs h).mono fun _ _ ⟨a, b⟩ => ⟨a, by rw [← b]; exact Below.refl _ _⟩
theorem rv_f {s : ByteArray} (hs : s.size ≤ maxLen) (h : vldN s = false) : RV s false := fun W => (ref_vf s W hs h).mono fun _ _ ⟨a, b⟩ => ⟨a, by rw [← b]; exact Below.refl _ _⟩
theorem cap999 {n : Nat} (h : n < capK 999) : n < capN := Nat.lt_of_lt_of_le h (capK_le (by decide))
theorem r2_gcd {x y : Nat} (hx : x < capK 999) (hy : y < capK 999) : R2 66 (natS x) (natS y) (natS (Nat.gcd x y)) := fun W => ref_Gcd x y W hx hy
theorem r3_div {x y : Nat} (hx : x < capN) (hy : y < capK 999) (h0 : 0 < y) : R3 67 (natS x) (natS y) (natS (x / y)) (natS (x % y)) := fun W => ref_Div x y W hx hy h0
theorem size_lt999 {n : Nat} (h : (natS n).size ≤ 999) : n < capK 999 := (capK_len (by decide)).1 (by rw [← natS_size]; exact h)
theorem is48 {n : Nat} (h : 0 < n) : ((natS n).toList == [48]) = false := str_ne (t := ⟨#[48]⟩) (natS_ne_zero h) rfl
theorem is49 (n : Nat) : ((natS n).toList == [49]) = decide (n = 1) := by
  by_cases e : n = 1
  · rw [decide_eq_true e]; exact str_eq (by rw [e, natS_one])
  · rw [decide_eq_false e]; exact str_ne (t := ⟨#[49]⟩) (fun h => e (natS_inj (h.trans natS_one.symm))) rfl
theorem r4_lowest (g : Bool) {n d : Nat} (hn : n < capK 999) (hd : d < capK 999) (hd0 : 0 < d) {g' : Bool} {s' t' : ByteArray} (hq : IsQ (mkQ g n d) g' s' t') : QL g (natS n) (natS d) g' s' t' := fun W => by
  by_cases h0 : 0 < n
  · obtain ⟨hl, hv⟩ := lowest_eq (g := g) hd0 h0
    unfold IsQ at hq
    rw [← hv, mkQ_low_eq hl] at hq
    simp only [Value.agg.injEq, Array.mk.injEq, List.cons.injEq, Value.bool.injEq, Value.string.injEq, and_true] at hq
    obtain ⟨rfl, rfl, rfl⟩ := hq
    have hg0 : 0 < Nat.gcd n d := Nat.gcd_pos_of_pos_left _ h0
    have hgk : Nat.gcd n d < capK 999 := Nat.lt_of_le_of_lt (Nat.le_of_dvd h0 (Nat.gcd_dvd_left n d)) hn
    exact r4_lowest1 g _ _ _ _ _ _ _ W (r2_gcd hn hd) (r3_div (cap999 hn) hgk hg0) (r3_div (cap999 hd) hgk hg0) (is48 h0)
  · obtain rfl : n = 0 := by omega
    have e0 : mkQ g 0 d = 0 := by
      unfold mkQ; cases g <;> simp
    rw [e0] at hq
    unfold IsQ at hq
    rw [rqV_zero] at hq
    simp only [Value.agg.injEq, Array.mk.injEq, List.cons.injEq, Value.bool.injEq, Value.string.injEq, and_true] at hq
    obtain ⟨rfl, rfl, rfl⟩ := hq
    rw [natS_zero]
    exact r4_lowest0 g _ W
set_option maxHeartbeats 4000000 in
set_option maxRecDepth 100000 in
theorem r4_of0 (n : Int) (w : World)  :
    Calls Tryz.prog 34 #[.int .i64 n, .int .i64 0] w fun e w' => e = .returned (.tuple #[.agg #[.bool false, .string ⟨#[]⟩, .string ⟨#[]⟩], .int .i64 14]) ∧ Below w.heap.size w w' := by
  have HB0 : Hid (Below w.heap.size w w) := Below.refl _ _
  have HV0 : Hid (VL w []) := VL.nil w
  go_enter Tryz.func34, Tryz.ntmps34
  go_wp2_with fail
  exact bodyPost_ret (v := .tuple #[.agg #[.bool false, .string ⟨#[]⟩, .string ⟨#[]⟩], .int .i64 14]) (by simp [results, Tryz.results34, go_sem]) rfl ⟨rfl, bAlloc (Below.refl _ _) _⟩
set_option maxHeartbeats 4000000 in
set_option maxRecDepth 100000 in
theorem r4_of1 (n d : Int) (b1 b2 : Bool) (u v : ByteArray) (g : Bool) (s t : ByteArray) (w : World) (h1 : RA n u) (h2 : RA d v) (h3 : QL (b1 != b2) u v g s t) (f1 : decide (n < 0) = b1) (f2 : decide (d < 0) = b2) (f3 : (d == 0) = false) :
    Calls Tryz.prog 34 #[.int .i64 n, .int .i64 d] w fun e w' => e = .returned (.tuple #[.agg #[.bool g, .string s, .string t], .int .i64 0]) ∧ Below w.heap.size w w' := by
  unfold RA at h1
  have Hh1 := hide h1
  unfold RA at h2
  have Hh2 := hide h2
  unfold QL at h3
  have Hh3 := hide h3
  have HB0 : Hid (Below w.heap.size w w) := Below.refl _ _
  have HV0 : Hid (VL w []) := VL.nil w
  clear h1 h2 h3 
  go_enter Tryz.func34, Tryz.ntmps34
  have HV0_ := hide (HV0.out.pushAt (b := w.heap.size) (by simp) false ⟨#[]⟩ ⟨#[]⟩ 32)
  have HB0_ := hide (bAlloc HB0.out (.cells #[.bool false, .string ⟨#[]⟩, .string ⟨#[]⟩] 32))
  clear HB0 HV0
  go_wp2_with fail
  refine (Hh1.out _).mono ?_
  rintro e w1 ⟨rfl, hb⟩
  have HB1 := hide (bStep HB0_.out hb)
  have HV1 := hide (HV0_.out.below hb)
  clear hb HB0_ HV0_
  go_wp2_with fail
  refine (Hh2.out _).mono ?_
  rintro e w2 ⟨rfl, hb⟩
  have HB2 := hide (bStep HB1.out hb)
  have HV2 := hide (HV1.out.below hb)
  clear hb HB1 HV1
  go_wp2_with fail
  refine (Hh3.out _).mono ?_
  rintro e w3 ⟨rfl, hb⟩
  have HB3 := hide (bStep HB2.out hb)
  have HV3 := hide (HV2.out.below hb)
  clear hb HB2 HV2
  obtain ⟨k1_0, k1_1, k1_2, k1_3, k1_4, k1_5⟩ := VL.get (b := w.heap.size) (g := false) (s := ⟨#[]⟩) (t := ⟨#[]⟩) HV3.out (by simp)
  go_wp2_with fail
  clear k1_0 k1_1 k1_2 k1_3 k1_4 k1_5
  obtain ⟨d0, d1, d2, _, _, _⟩ := (VL.get (b := w.heap.size) (g := false) (s := ⟨#[]⟩) (t := ⟨#[]⟩) HV3.out (by simp)).set3 g s t
  exact bodyPost_ret (v := .tuple #[.agg #[.bool g, .string s, .string t], .int .i64 0]) (by simp [results, Tryz.results34, go_sem, d0, d1, d2]) rfl ⟨rfl, bset3 HB3.out (by omega) _ _ _⟩
end Go.Proofs.YtcgplokdklomlaaGreatDoor
