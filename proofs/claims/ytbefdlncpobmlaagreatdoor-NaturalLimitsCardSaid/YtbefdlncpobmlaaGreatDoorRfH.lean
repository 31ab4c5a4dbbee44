/- observatoryref03: the exported functions. -/
import Derived.Test.YtbefdlncpobmlaaGreatDoorRfG
namespace Go.Proofs.YtbefdlncpobmlaaGreatDoor
open Go.RowKit

theorem ref_vt (s : ByteArray) (w : World) (hs : s.size ≤ maxLen) (h : vldN s = true) : Calls Tryz.prog 22 #[.string s] w fun e w' => e = .returned (.bool true) ∧ w = w' := by
  have := ref_valid s w hs
  rw [h] at this
  exact this
theorem ref_vf (s : ByteArray) (w : World) (hs : s.size ≤ maxLen) (h : vldN s = false) : Calls Tryz.prog 22 #[.string s] w fun e w' => e = .returned (.bool false) ∧ w = w' := by
  have := ref_valid s w hs
  rw [h] at this
  exact this
theorem natS_max {x : Nat} (h : x < capN) : (natS x).size ≤ maxLen := by
  have := capN_len.2 h
  rw [natS_size]; unfold maxLen; omega
theorem natS_ok {x : Nat} (h : x < capN) : vldN (natS x) = true := natS_vldN.2 h
theorem ref_vn (x : Nat) (w : World) (h : x < capN) : Calls Tryz.prog 22 #[.string (natS x)] w fun e w' => e = .returned (.bool true) ∧ w = w' := ref_vt _ w (natS_max h) (natS_ok h)
set_option maxHeartbeats 1000000 in
set_option maxRecDepth 100000 in
theorem ref_within (n : Nat) (w : World) (h : (natS n).size ≤ 1000000) :
    Calls Tryz.prog 28 #[.string (natS n)] w fun e w' => ((n < capN ∧ e = .returned (.tuple #[.string (natS n), .int .i64 0])) ∨ (¬ n < capN ∧ e = .returned (.tuple #[.string ⟨#[]⟩, .int .i64 2]))) ∧ w = w' := by
  have e := capN_len (n := n)
  rw [← natS_size] at e
  obtain ⟨s, hs⟩ : ∃ s, natS n = s := ⟨_, rfl⟩
  rw [hs] at h e ⊢
  clear hs
  by_cases hc : n < capN
  · have h1 := e.2 hc
    have HC := hide hc
    have f : decide ((1000 : Int) < (s.size : Int)) = false := decide_eq_false (by omega)
    clear e hc
    go_enter Tryz.func28, Tryz.ntmps28
    go_wp2_with fail
    go_ret2
    exact ⟨.inl ⟨HC.out, rfl⟩, rfl⟩
  · have h1 : 1000 < s.size := by
      rcases Nat.lt_or_ge 1000 s.size with h | h
      · exact h
      · exact absurd (e.1 h) hc
    have HC := hide hc
    have f : decide ((1000 : Int) < (s.size : Int)) = true := decide_eq_true (by omega)
    clear e hc
    go_enter Tryz.func28, Tryz.ntmps28
    go_wp2_with fail
    go_ret2
    exact ⟨.inr ⟨HC.out, rfl⟩, rfl⟩
theorem natS_sum {x y : Nat} (hx : x < capN) (hy : y < capN) : (natS (x + y)).size ≤ 1000000 := by
  have := (capK_len (n := x + y) (k := 1001) (by decide)).2 (add_capK (a := 1000) hx hy)
  rw [natS_size]; omega
theorem natS_prod {x y : Nat} (hx : x < capN) (hy : y < capN) : (natS (x * y)).size ≤ 1000000 := by
  have := (capK_len (n := x * y) (k := 2000) (by decide)).2 (mul_capK (a := 1000) (b := 1000) hx hy)
  rw [natS_size]; omega
set_option maxHeartbeats 2000000 in
set_option maxRecDepth 100000 in
theorem ref_Add (x y : Nat) (w : World) (hx : x < capN) (hy : y < capN) :
    Calls Tryz.prog 8 #[.string (natS x), .string (natS y)] w (TextPost w (x + y)) := by
  have HVX : Hid (∀ W, Calls Tryz.prog 22 #[.string (natS x)] W fun e w' => e = .returned (.bool true) ∧ W = w') := fun W => ref_vn x W hx
  have HVY : Hid (∀ W, Calls Tryz.prog 22 #[.string (natS y)] W fun e w' => e = .returned (.bool true) ∧ W = w') := fun W => ref_vn y W hy
  have HF : Hid (∀ W, Calls Tryz.prog 29 #[.string (natS x), .string (natS y)] W fun e w' => e = .returned (.string (natS (x + y))) ∧ Below W.heap.size W w') := fun W => ref_add x y W hx hy
  have HS := hide (natS_sum hx hy)
  obtain ⟨sx, hsx⟩ : ∃ s, natS x = s := ⟨_, rfl⟩
  obtain ⟨sy, hsy⟩ : ∃ s, natS y = s := ⟨_, rfl⟩
  rw [hsx] at HVX HF ⊢
  rw [hsy] at HVY HF ⊢
  clear hsx hsy hx hy
  go_enter Tryz.func8, Tryz.ntmps8
  go_wp2_with fail
  refine (HVX.out _).mono ?_
  rintro e w1 ⟨rfl, rfl⟩
  go_wp2_with fail
  refine (HVY.out _).mono ?_
  rintro e w2 ⟨rfl, rfl⟩
  go_wp2_with fail
  refine (HF.out _).mono ?_
  rintro e w3 ⟨rfl, hb⟩
  have HB := hide hb
  clear hb
  go_wp2_with fail
  refine (ref_within _ _ HS.out).mono ?_
  rintro e w4 ⟨h, rfl⟩
  rcases h with ⟨hc, rfl⟩ | ⟨hc, rfl⟩
  · have HC := hide hc
    clear hc
    go_wp2_with fail
    go_ret2
    exact ⟨HB.out, .inl ⟨HC.out, rfl⟩⟩
  · have HC := hide hc
    clear hc
    go_wp2_with fail
    go_ret2
    exact ⟨HB.out, .inr ⟨HC.out, rfl⟩⟩
set_option maxHeartbeats 2000000 in
set_option maxRecDepth 100000 in
theorem ref_Mul (x y : Nat) (w : World) (hx : x < capN) (hy : y < capN) :
    Calls Tryz.prog 12 #[.string (natS x), .string (natS y)] w (TextPost w (x * y)) := by
  have HVX : Hid (∀ W, Calls Tryz.prog 22 #[.string (natS x)] W fun e w' => e = .returned (.bool true) ∧ W = w') := fun W => ref_vn x W hx
  have HVY : Hid (∀ W, Calls Tryz.prog 22 #[.string (natS y)] W fun e w' => e = .returned (.bool true) ∧ W = w') := fun W => ref_vn y W hy
  have HF : Hid (∀ W, Calls Tryz.prog 34 #[.string (natS x), .string (natS y)] W fun e w' => e = .returned (.string (natS (x * y))) ∧ Below W.heap.size W w') := fun W => ref_mul x y W hx hy
  have HS := hide (natS_prod hx hy)
  obtain ⟨sx, hsx⟩ : ∃ s, natS x = s := ⟨_, rfl⟩
  obtain ⟨sy, hsy⟩ : ∃ s, natS y = s := ⟨_, rfl⟩
  rw [hsx] at HVX HF ⊢
  rw [hsy] at HVY HF ⊢
  clear hsx hsy hx hy
  go_enter Tryz.func12, Tryz.ntmps12
  go_wp2_with fail
  refine (HVX.out _).mono ?_
  rintro e w1 ⟨rfl, rfl⟩
  go_wp2_with fail
  refine (HVY.out _).mono ?_
  rintro e w2 ⟨rfl, rfl⟩
  go_wp2_with fail
  refine (HF.out _).mono ?_
  rintro e w3 ⟨rfl, hb⟩
  have HB := hide hb
  clear hb
  go_wp2_with fail
  refine (ref_within _ _ HS.out).mono ?_
  rintro e w4 ⟨h, rfl⟩
  rcases h with ⟨hc, rfl⟩ | ⟨hc, rfl⟩
  · have HC := hide hc
    clear hc
    go_wp2_with fail
    go_ret2
    exact ⟨HB.out, .inl ⟨HC.out, rfl⟩⟩
  · have HC := hide hc
    clear hc
    go_wp2_with fail
    go_ret2
    exact ⟨HB.out, .inr ⟨HC.out, rfl⟩⟩
set_option maxHeartbeats 2000000 in
set_option maxRecDepth 100000 in
theorem ref_Sub (x y : Nat) (w : World) (hx : x < capN) (hy : y < capN) (hle : y ≤ x) :
    Calls Tryz.prog 10 #[.string (natS x), .string (natS y)] w (OkPost w (x - y)) := by
  have HVX : Hid (∀ W, Calls Tryz.prog 22 #[.string (natS x)] W fun e w' => e = .returned (.bool true) ∧ W = w') := fun W => ref_vn x W hx
  have HVY : Hid (∀ W, Calls Tryz.prog 22 #[.string (natS y)] W fun e w' => e = .returned (.bool true) ∧ W = w') := fun W => ref_vn y W hy
  have HL : Hid (∀ W, Calls Tryz.prog 31 #[.string (natS x), .string (natS y)] W fun e w' => e = .returned (.bool false) ∧ W = w') := fun W => by
    have := ref_less x y W hx hy
    rw [decide_eq_false (by omega)] at this
    exact this
  have HF : Hid (∀ W, Calls Tryz.prog 32 #[.string (natS x), .string (natS y)] W fun e w' => e = .returned (.string (natS (x - y))) ∧ Below W.heap.size W w') := fun W => ref_sub x y W hx hle
  obtain ⟨sx, hsx⟩ : ∃ s, natS x = s := ⟨_, rfl⟩
  obtain ⟨sy, hsy⟩ : ∃ s, natS y = s := ⟨_, rfl⟩
  rw [hsx] at HVX HL HF ⊢
  rw [hsy] at HVY HL HF ⊢
  clear hsx hsy hx hy hle
  go_enter Tryz.func10, Tryz.ntmps10
  go_wp2_with fail
  refine (HVX.out _).mono ?_
  rintro e w1 ⟨rfl, rfl⟩
  go_wp2_with fail
  refine (HVY.out _).mono ?_
  rintro e w2 ⟨rfl, rfl⟩
  go_wp2_with fail
  refine (HL.out _).mono ?_
  rintro e w3 ⟨rfl, rfl⟩
  go_wp2_with fail
  refine (HF.out _).mono ?_
  rintro e w3 ⟨rfl, hb⟩
  have HB := hide hb
  clear hb
  go_wp2_with fail
  go_ret2
  exact ⟨rfl, HB.out⟩
set_option maxHeartbeats 2000000 in
set_option maxRecDepth 100000 in
theorem ref_Sub_less (x y : Nat) (w : World) (hx : x < capN) (hy : y < capN) (hle : x < y) :
    Calls Tryz.prog 10 #[.string (natS x), .string (natS y)] w (RangePost w) := by
  have HVX : Hid (∀ W, Calls Tryz.prog 22 #[.string (natS x)] W fun e w' => e = .returned (.bool true) ∧ W = w') := fun W => ref_vn x W hx
  have HVY : Hid (∀ W, Calls Tryz.prog 22 #[.string (natS y)] W fun e w' => e = .returned (.bool true) ∧ W = w') := fun W => ref_vn y W hy
  have HL : Hid (∀ W, Calls Tryz.prog 31 #[.string (natS x), .string (natS y)] W fun e w' => e = .returned (.bool true) ∧ W = w') := fun W => by
    have := ref_less x y W hx hy
    rw [decide_eq_true (by omega)] at this
    exact this
  obtain ⟨sx, hsx⟩ : ∃ s, natS x = s := ⟨_, rfl⟩
  obtain ⟨sy, hsy⟩ : ∃ s, natS y = s := ⟨_, rfl⟩
  rw [hsx] at HVX HL ⊢
  rw [hsy] at HVY HL ⊢
  clear hsx hsy hx hy hle
  go_enter Tryz.func10, Tryz.ntmps10
  go_wp2_with fail
  refine (HVX.out _).mono ?_
  rintro e w1 ⟨rfl, rfl⟩
  go_wp2_with fail
  refine (HVY.out _).mono ?_
  rintro e w2 ⟨rfl, rfl⟩
  go_wp2_with fail
  refine (HL.out _).mono ?_
  rintro e w3 ⟨rfl, rfl⟩
  go_wp2_with fail
  go_ret2
  exact ⟨rfl, Below.refl _ _⟩
set_option maxHeartbeats 2000000 in
set_option maxRecDepth 100000 in
theorem ref_Div (x y : Nat) (w : World) (hx : x < capN) (hy : y < capK 999) (h0 : 0 < y) :
    Calls Tryz.prog 14 #[.string (natS x), .string (natS y)] w (DivsPost w (x / y) (x % y)) := by
  have hyN : y < capN := to_capN hy (by decide)
  have HVX : Hid (∀ W, Calls Tryz.prog 22 #[.string (natS x)] W fun e w' => e = .returned (.bool true) ∧ W = w') := fun W => ref_vn x W hx
  have HVY : Hid (∀ W, Calls Tryz.prog 22 #[.string (natS y)] W fun e w' => e = .returned (.bool true) ∧ W = w') := fun W => ref_vn y W hyN
  have HF : Hid (∀ W, Calls Tryz.prog 38 #[.string (natS x), .string (natS y)] W fun e w' => e = .returned (.tuple #[.string (natS (x / y)), .string (natS (x % y))]) ∧ Below W.heap.size W w') := fun W => ref_div x y W hx hy h0
  have hne := natS_ne_zero h0
  obtain ⟨sx, hsx⟩ : ∃ s, natS x = s := ⟨_, rfl⟩
  obtain ⟨sy, hsy⟩ : ∃ s, natS y = s := ⟨_, rfl⟩
  rw [hsx] at HVX HF ⊢
  rw [hsy] at HVY HF hne ⊢
  have hne1 : (sy.toList == [48]) = false := str_ne hne (by rfl)
  clear hsx hsy hx hy hyN h0 hne
  go_enter Tryz.func14, Tryz.ntmps14
  go_wp2_with fail
  refine (HVX.out _).mono ?_
  rintro e w1 ⟨rfl, rfl⟩
  go_wp2_with fail
  refine (HVY.out _).mono ?_
  rintro e w2 ⟨rfl, rfl⟩
  go_wp2_with fail
  refine (HF.out _).mono ?_
  rintro e w3 ⟨rfl, hb⟩
  have HB := hide hb
  clear hb
  go_wp2_with fail
  go_ret3
  exact ⟨rfl, HB.out⟩
set_option maxHeartbeats 2000000 in
set_option maxRecDepth 100000 in
theorem ref_Div_zero (x : Nat) (w : World) (hx : x < capN) :
    Calls Tryz.prog 14 #[.string (natS x), .string ⟨#[48]⟩] w (Err3Post w 14) := by
  have HVX : Hid (∀ W, Calls Tryz.prog 22 #[.string (natS x)] W fun e w' => e = .returned (.bool true) ∧ W = w') := fun W => ref_vn x W hx
  have HVY : Hid (∀ W, Calls Tryz.prog 22 #[.string ⟨#[48]⟩] W fun e w' => e = .returned (.bool true) ∧ W = w') := fun W => by
    have := ref_vn 0 W capN_pos
    rw [natS_zero] at this
    exact this
  obtain ⟨sx, hsx⟩ : ∃ s, natS x = s := ⟨_, rfl⟩
  rw [hsx] at HVX ⊢
  clear hsx hx
  go_enter Tryz.func14, Tryz.ntmps14
  go_wp2_with fail
  refine (HVX.out _).mono ?_
  rintro e w1 ⟨rfl, rfl⟩
  go_wp2_with fail
  refine (HVY.out _).mono ?_
  rintro e w2 ⟨rfl, rfl⟩
  go_wp2_with fail
  go_ret3
  exact ⟨rfl, Below.refl _ _⟩
set_option maxHeartbeats 2000000 in
set_option maxRecDepth 100000 in
theorem ref_Compare (x y : Nat) (w : World) (hx : x < capN) (hy : y < capN) :
    Calls Tryz.prog 24 #[.string (natS x), .string (natS y)] w fun e w' => e = .returned (.int .i64 (cmpN x y)) ∧ Below w.heap.size w w' := by
  have HVX : Hid (∀ W, Calls Tryz.prog 22 #[.string (natS x)] W fun e w' => e = .returned (.bool true) ∧ W = w') := fun W => ref_vn x W hx
  have HVY : Hid (∀ W, Calls Tryz.prog 22 #[.string (natS y)] W fun e w' => e = .returned (.bool true) ∧ W = w') := fun W => ref_vn y W hy
  have HL : Hid (∀ W, Calls Tryz.prog 31 #[.string (natS x), .string (natS y)] W fun e w' => e = .returned (.bool (decide (x < y))) ∧ W = w') := fun W => ref_less x y W hx hy
  have HQ : Hid (x ≠ y → ((natS x).toList == (natS y).toList) = false) := fun h => str_ne (fun e => h (natS_inj e)) rfl |> fun h => by rw [ByteArray.toList_eq (natS y)]; exact h
  obtain ⟨sx, hsx⟩ : ∃ s, natS x = s := ⟨_, rfl⟩
  obtain ⟨sy, hsy⟩ : ∃ s, natS y = s := ⟨_, rfl⟩
  rw [hsx] at HVX HL HQ ⊢
  rw [hsy] at HVY HL HQ ⊢
  rcases Nat.lt_trichotomy x y with h | h | h
  · have hd : decide (x < y) = true := decide_eq_true h
    rw [hd] at HL
    have hq := HQ.out (by omega)
    have HR := hide (cmpN_lt h)
    clear hsx hsy hx hy h hd HQ
    go_enter Tryz.func24, Tryz.ntmps24
    go_wp2_with fail
    refine (HVX.out _).mono ?_
    rintro e w1 ⟨rfl, rfl⟩
    go_wp2_with fail
    refine (HVY.out _).mono ?_
    rintro e w2 ⟨rfl, rfl⟩
    go_wp2_with fail
    refine (HL.out _).mono ?_
    rintro e w3 ⟨rfl, rfl⟩
    go_wp2_with fail
    go_ret
    exact ⟨by rw [HR.out]; rfl, Below.refl _ _⟩
  · subst h
    have hss : sx = sy := hsx.symm.trans hsy
    subst hss
    have HR := hide (cmpN_eq x)
    have hq : (sx.toList == sx.toList) = true := by simp
    clear hsx hsy hx hy HQ HL
    go_enter Tryz.func24, Tryz.ntmps24
    go_wp2_with fail
    refine (HVX.out _).mono ?_
    rintro e w1 ⟨rfl, rfl⟩
    go_wp2_with fail
    refine (HVY.out _).mono ?_
    rintro e w2 ⟨rfl, rfl⟩
    go_wp2_with fail
    go_ret
    exact ⟨by rw [HR.out]; rfl, Below.refl _ _⟩
  · have hd : decide (x < y) = false := decide_eq_false (by omega)
    rw [hd] at HL
    have hq := HQ.out (by omega)
    have HR := hide (cmpN_gt h)
    clear hsx hsy hx hy h hd HQ
    go_enter Tryz.func24, Tryz.ntmps24
    go_wp2_with fail
    refine (HVX.out _).mono ?_
    rintro e w1 ⟨rfl, rfl⟩
    go_wp2_with fail
    refine (HVY.out _).mono ?_
    rintro e w2 ⟨rfl, rfl⟩
    go_wp2_with fail
    refine (HL.out _).mono ?_
    rintro e w3 ⟨rfl, rfl⟩
    go_wp2_with fail
    go_ret
    exact ⟨by rw [HR.out]; rfl, Below.refl _ _⟩
set_option maxHeartbeats 2000000 in
set_option maxRecDepth 100000 in
theorem ref_Gcd (x y : Nat) (w : World) (hx : x < capK 999) (hy : y < capK 999) :
    Calls Tryz.prog 16 #[.string (natS x), .string (natS y)] w (OkPost w (Nat.gcd x y)) := by
  have HVX : Hid (∀ W, Calls Tryz.prog 22 #[.string (natS x)] W fun e w' => e = .returned (.bool true) ∧ W = w') := fun W => ref_vn x W (to_capN hx (by decide))
  have HVY : Hid (∀ W, Calls Tryz.prog 22 #[.string (natS y)] W fun e w' => e = .returned (.bool true) ∧ W = w') := fun W => ref_vn y W (to_capN hy (by decide))
  obtain ⟨sx, hsx⟩ : ∃ s, natS x = s := ⟨_, rfl⟩
  obtain ⟨sy, hsy⟩ : ∃ s, natS y = s := ⟨_, rfl⟩
  have HSX := hide hsx.symm
  have HSY := hide hsy.symm
  rw [hsx] at HVX ⊢
  rw [hsy] at HVY ⊢
  have HX := hide hx
  have HY := hide hy
  clear hsx hsy hx hy
  go_enter Tryz.func16, Tryz.ntmps16
  go_wp2_with fail
  refine (HVX.out _).mono ?_
  rintro e w1 ⟨rfl, rfl⟩
  go_wp2_with fail
  refine (HVY.out _).mono ?_
  rintro e w2 ⟨rfl, rfl⟩
  go_wp2_with fail
  go_loopw [6, 7] (fun z1 z2 wx => ∃ (s t : ByteArray) (a b : Nat), z1 = .string s ∧ z2 = .string t ∧ s = natS a ∧ t = natS b ∧ a < capK 999 ∧ b < capK 999 ∧ Nat.gcd a b = Nat.gcd x y ∧ Below w.heap.size w wx) (fun _ z2 _ => (match z2 with | .string t => nval t.data.toList | _ => 0))
  case atStart => exact ⟨_, _, x, y, rfl, rfl, HSX.out, HSY.out, HX.out, HY.out, rfl, Below.refl _ _⟩
  case round =>
    obtain ⟨s, t, a, b, rfl, rfl, hs, ht, ha, hb, hg, hbl⟩ := hrel
    have HA := hide ha
    have HG := hide hg
    have HB := hide hbl
    have HS := hide hs
    by_cases h0 : 0 < b
    · have hne := natS_ne_zero h0
      rw [← ht] at hne
      have hne1 : (t.toList == [48]) = false := str_ne hne (by rfl)
      have hne2 : (t.toList != [48]) = true := by rw [bne, hne1]; rfl
      have HF : Hid (∀ W, Calls Tryz.prog 38 #[.string s, .string t] W fun e w' => e = .returned (.tuple #[.string (natS (a / b)), .string (natS (a % b))]) ∧ Below W.heap.size W w') := fun W => by
        rw [hs, ht]; exact ref_div a b W (to_capN ha (by decide)) hb h0
      have HR := hide (Nat.lt_trans (Nat.mod_lt a h0) hb)
      have HT := hide ht
      have HBB := hide hb
      have HG2 : Hid (Nat.gcd b (a % b) = Nat.gcd x y) := by
        show _ = _
        rw [← HG.out, Nat.gcd_comm a b, Nat.gcd_rec b a, Nat.gcd_comm]
      have HM : Hid (nval (natS (a % b)).data.toList < nval t.data.toList) := by
        show _ < _
        rw [ht, natS_toList, natS_toList, nval_dec, nval_dec]
        exact Nat.mod_lt a h0
      obtain ⟨q, hq⟩ : ∃ q, natS (a / b) = q := ⟨_, rfl⟩
      obtain ⟨m, hm⟩ : ∃ m, natS (a % b) = m := ⟨_, rfl⟩
      rw [hq, hm] at HF
      rw [hm] at HM
      have HMM := hide hm.symm
      clear hs ht ha hb hg hbl hne hq hm h0
      go_wp2_with fail
      refine (HF.out _).mono ?_
      rintro e w3 ⟨rfl, hb⟩
      have HB3 := hide (bStep HB.out hb)
      clear hb
      go_wp2_with fail
      go_roundw
      case rel => exact ⟨_, _, b, a % b, rfl, rfl, HT.out, HMM.out, HBB.out, HR.out, HG2.out, HB3.out⟩
      case measure => exact HM.out
    · obtain rfl : b = 0 := by omega
      have he : (t.toList == [48]) = true := str_eq (by rw [ht, natS_zero])
      have he2 : (t.toList != [48]) = false := by rw [bne, he]; rfl
      have HG2 : Hid (a = Nat.gcd x y) := by
        show _ = _
        rw [← HG.out, Nat.gcd_zero_right]
      clear hs ht ha hb hg hbl h0
      go_wp2_with fail
      go_ret2
      exact ⟨by rw [HS.out, HG2.out]; rfl, HB.out⟩
set_option maxHeartbeats 2000000 in
set_option maxRecDepth 100000 in
theorem ref_Of_neg (n : Int) (w : World) (h0 : n < 0) :
    Calls Tryz.prog 18 #[.int .i64 n] w fun e w' => e = .returned (.tuple #[.string ⟨#[]⟩, .int .i64 9]) ∧ w = w' := by
  have f : decide (n < 0) = true := decide_eq_true h0
  go_enter Tryz.func18, Tryz.ntmps18
  go_wp2_with fail
  go_ret2
  exact ⟨rfl, rfl⟩
structure OfI (w wx : World) (n : Nat) (u : Value) (m k : Nat) (o : List Nat) : Prop where
  bld : Bld vY 1 w wx o u o.length
  len : o.length = k
  dig : D10 o
  sum : le10 o + m * 10 ^ k = n
  low : n < 10 ^ 19
  pos : 0 < k ∨ m = n
theorem OfI.bound {w wx : World} {n m k : Nat} {u : Value} {o : List Nat} (h : OfI w wx n u m k o) (hm : 0 < m) : k ≤ 18 := by
  have h1 := h.sum
  have h2 : 1 * 10 ^ k ≤ m * 10 ^ k := Nat.mul_le_mul_right _ hm
  have h3 : 10 ^ k < 10 ^ 19 := by have := h.low; omega
  have := (Nat.pow_lt_pow_iff_right (a := 10) (by decide)).1 h3
  omega
theorem OfI.next {w wx w4 : World} {n m k : Nat} {u u' : Value} {o : List Nat} (h : OfI w wx n u m k o) (hb : Bld vY 1 w w4 (o ++ [m % 10]) u' (o ++ [m % 10]).length) : OfI w w4 n u' (m / 10) (k + 1) (o ++ [m % 10]) := by
  refine ⟨hb, by simp [h.len], fun d hd => ?_, of_step10 h.len h.sum, h.low, .inl (by omega)⟩
  rcases List.mem_append.1 hd with hd | hd
  · exact h.dig d hd
  · simp at hd; omega
set_option maxHeartbeats 2000000 in
set_option maxRecDepth 100000 in
theorem ref_Of (n : Nat) (w : World) (hn : n ≤ 9223372036854775807) :
    Calls Tryz.prog 18 #[.int .i64 (n : Int)] w (OkPost w n) := by
  have f0 : decide ((n : Int) < 0) = false := decide_eq_false (by omega)
  obtain ⟨i0, hi, hz0, hz1, hz2⟩ := info_parts Tryz.infoU8
  have HN : Hid (n < 10 ^ 19) := Nat.lt_of_le_of_lt hn (by decide)
  go_enter Tryz.func18, Tryz.ntmps18
  go_wp2_with fail
  go_loopw [0, 4, 5] (fun c u i wx => ∃ (k m : Nat) (o : List Nat), k ≤ 19 ∧ m ≤ 9223372036854775807 ∧ c = .int .i64 (m : Int) ∧ i = .int .i64 (k : Int) ∧ OfI w wx n u m k o) (fun _ _ i _ => 19 - (intOf i).toNat)
  case atStart => exact ⟨0, n, [], by omega, hn, rfl, rfl, ⟨Bld.nil _ _ _ _, rfl, by intro d hd; simp at hd, by simp [le10], HN.out, .inr rfl⟩⟩
  case round =>
    obtain ⟨k, m, o, hk, hm, rfl, rfl, ha⟩ := hrel
    by_cases hgo : k = 0 ∨ 0 < m
    · have hk1 : k ≤ 18 := by
        rcases hgo with h | h
        · omega
        · exact ha.bound h
      have q1 : IntKind.i64.wrap ((k : Int) + 1) = (k : Int) + 1 := IntWalk.i64_in _ (by omega)
      have q4 : IntKind.i64.wrap ((m : Int).tmod 10) = ((m % 10 : Nat) : Int) := by
        rw [show ((m : Int).tmod 10) = ((m % 10 : Nat) : Int) from (Int.ofNat_tmod m 10).symm]; exact IntWalk.i64_in _ (by omega)
      have q5 : IntKind.i64.wrap ((m : Int).tdiv 10) = ((m / 10 : Nat) : Int) := by
        rw [show ((m : Int).tdiv 10) = ((m / 10 : Nat) : Int) from (Int.ofNat_tdiv m 10).symm]; exact IntWalk.i64_in _ (by omega)
      have q6 : IntKind.u8.wrap ((m % 10 : Nat) : Int) = ((m % 10 : Nat) : Int) := IntWalk.u8_in _ (by omega)
      have HA := hide ha
      have HGR := hide HA.out.bld
      have HOW := hide HGR.out.own_all
      have HSZ := hide HGR.out.below.size
      have hol := HA.out.len
      have H1c : Hid (∀ u ∈ (#[Value.int .u8 ((m % 10 : Nat) : Int)] : Array Value).toList, u.oneCell' = true) := by
        intro u hu
        simp at hu
        rcases hu with rfl
        rfl
      have hbytes : (o.length + 1) * 1 ≤ 140737488355328 := by omega
      clear ha hol
      by_cases hk0 : k = 0
      · have g1 : ((k : Int) == 0) = true := by simp; omega
        clear hgo
        go_wp2_with (at_builtin; refine wpList_appendS rfl _ _ 54 rfl w.heap.size 5 i0 (.int .u8 0) 1 1 Tryz.underlying54 hi hz0 hz1 hz2 rfl (by decide) _ o.length (flatV vY o) rfl HOW.out #[.int .u8 ((m % 10 : Nat) : Int)] 5 1 rfl rfl H1c.out hbytes (by decide) HSZ.out ?_)
        intro g off' cap' w4 hown4 hg4 hb4 hat4
        have HN := hide (HGR.out.snoc (x := m % 10) rfl hown4 hg4)
        clear hown4 hg4 hb4 hat4
        go_wp2_with fail
        go_roundw
        case rel => exact ⟨k + 1, m / 10, o ++ [m % 10], by omega, by omega, by first | rfl | go_num, by first | rfl | go_num, HA.out.next HN.out⟩
        case measure => (simp [intOf]; try omega)
      · have g1 : ((k : Int) == 0) = false := by simp; omega
        have hm0 : 0 < m := by omega
        have g2 : decide ((0 : Int) < (m : Int)) = true := decide_eq_true (by omega)
        clear hgo
        go_wp2_with (at_builtin; refine wpList_appendS rfl _ _ 54 rfl w.heap.size 5 i0 (.int .u8 0) 1 1 Tryz.underlying54 hi hz0 hz1 hz2 rfl (by decide) _ o.length (flatV vY o) rfl HOW.out #[.int .u8 ((m % 10 : Nat) : Int)] 5 1 rfl rfl H1c.out hbytes (by decide) HSZ.out ?_)
        intro g off' cap' w4 hown4 hg4 hb4 hat4
        have HN := hide (HGR.out.snoc (x := m % 10) rfl hown4 hg4)
        clear hown4 hg4 hb4 hat4
        go_wp2_with fail
        go_roundw
        case rel => exact ⟨k + 1, m / 10, o ++ [m % 10], by omega, by omega, by first | rfl | go_num, by first | rfl | go_num, HA.out.next HN.out⟩
        case measure => (simp [intOf]; try omega)
    · obtain rfl : m = 0 := by omega
      have hk0 : 0 < k := by omega
      have g1 : ((k : Int) == 0) = false := by simp; omega
      have hol := ha.len
      have hv : le10 o = n := by have := ha.sum; omega
      have HV := hide hv
      have HA := hide ha
      have HB := hide ha.bld.below
      have hsl := Bld.to_slice vY_len ha.bld
      have HSL := hide hsl
      have ho0 : 0 < o.length := by omega
      have ho1 : o.length ≤ 100000 := by omega
      clear ha hv hsl hol hgo
      go_wp2_with fail
      refine (ref_text o _ _ HSL.out ho0 ho1 HA.out.dig).mono ?_
      rintro e w1 ⟨rfl, hb⟩
      rw [HV.out]
      have HB1 := hide (bStep HB.out hb)
      clear hb
      go_wp2_with fail
      go_ret2
      exact ⟨rfl, HB1.out⟩
theorem tera : natS 1000000000000 = ⟨#[49, 48, 48, 48, 48, 48, 48, 48, 48, 48, 48, 48, 48]⟩ := lit_nat (by decide +kernel) (by decide +kernel)
theorem tera_cap : 1000000000000 < capN := lit_cap (b := ⟨#[49, 48, 48, 48, 48, 48, 48, 48, 48, 48, 48, 48, 48]⟩) (by decide +kernel) (by decide +kernel)
theorem take_le (x k : Nat) : nval ((Lib.decDigits x).take k) ≤ x := by
  have h : nval ((Lib.decDigits x).take k) * 10 ^ ((Lib.decDigits x).drop k).length + nval ((Lib.decDigits x).drop k) = x := by
    rw [← nval_append, List.take_append_drop, nval_dec]
  have h1 : nval ((Lib.decDigits x).take k) * 1 ≤ nval ((Lib.decDigits x).take k) * 10 ^ ((Lib.decDigits x).drop k).length := Nat.mul_le_mul_left _ (Nat.pow_pos (by decide))
  omega
set_option maxHeartbeats 2000000 in
set_option maxRecDepth 100000 in
theorem ref_Int (n : Nat) (w : World) (hn : n < capN) :
    Calls Tryz.prog 20 #[.string (natS n)] w fun e w' => e = .returned (.tuple #[.int .i64 (if n ≤ 1000000000000 then (n : Int) else 0), .int .i64 (if n ≤ 1000000000000 then 0 else 9)]) ∧ Below w.heap.size w w' := by
  have HVX : Hid (∀ W, Calls Tryz.prog 22 #[.string (natS n)] W fun e w' => e = .returned (.bool true) ∧ W = w') := fun W => ref_vn n W hn
  have HL : Hid (∀ W, Calls Tryz.prog 31 #[.string ⟨#[49, 48, 48, 48, 48, 48, 48, 48, 48, 48, 48, 48, 48]⟩, .string (natS n)] W fun e w' => e = .returned (.bool (decide (1000000000000 < n))) ∧ W = w') := fun W => by
    have := ref_less 1000000000000 n W tera_cap hn
    rw [tera] at this
    exact this
  have hsz : (natS n).size ≤ 1000 := by rw [natS_size]; exact capN_len.2 hn
  by_cases h : 1000000000000 < n
  · rw [decide_eq_true h] at HL
    rw [if_neg (by omega), if_neg (by omega)]
    clear h
    go_enter Tryz.func20, Tryz.ntmps20
    go_wp2_with fail
    refine (HVX.out _).mono ?_
    rintro e w1 ⟨rfl, rfl⟩
    go_wp2_with fail
    refine (HL.out _).mono ?_
    rintro e w2 ⟨rfl, rfl⟩
    go_wp2_with fail
    go_ret2
    exact ⟨rfl, Below.refl _ _⟩
  · rw [decide_eq_false h] at HL
    rw [if_pos (by omega), if_pos (by omega)]
    have HDG : Hid (∀ k (hk : k < (natS n).size), ∃ d, (natS n)[k].toNat = 48 + d ∧ d < 10 ∧ nval ((Lib.decDigits n).take (k + 1)) = nval ((Lib.decDigits n).take k) * 10 + d) := fun k hk => by
      have hk' : k < (Lib.decDigits n).length := by rw [← natS_size]; exact hk
      have h1 := isDg_iff.1 (dec_digit n _ (List.getElem_mem hk'))
      refine ⟨dvN (Lib.decDigits n)[k], ?_, dvN_lt (dec_digit n _ (List.getElem_mem hk')), nval_take_succ hk'⟩
      show ((Lib.decDigits n)[k]).toNat = _
      unfold dvN; omega
    have HLE : Hid (∀ k, nval ((Lib.decDigits n).take k) ≤ 1000000000000) := fun k => by have := take_le n k; omega
    have HALL : Hid (∀ k, k = (natS n).size → nval ((Lib.decDigits n).take k) = n) := fun k hk => by rw [hk, natS_size]; exact nval_take_all n
    obtain ⟨T, hT⟩ : ∃ T : Nat → Nat, (fun k => nval ((Lib.decDigits n).take k)) = T := ⟨_, rfl⟩
    have hT' : ∀ k, nval ((Lib.decDigits n).take k) = T k := fun k => congrFun hT k
    have HT0 : Hid (T 0 = 0) := by show _ = _; rw [← hT']; rfl
    have HDG2 : Hid (∀ k (hk : k < (natS n).size), ∃ d, (natS n)[k].toNat = 48 + d ∧ d < 10 ∧ T (k + 1) = T k * 10 + d) := fun k hk => by
      obtain ⟨d, a, b, c⟩ := HDG.out k hk
      rw [hT', hT'] at c
      exact ⟨d, a, b, c⟩
    have HLE2 : Hid (∀ k, T k ≤ 1000000000000) := fun k => by rw [← hT']; exact HLE.out k
    have HALL2 : Hid (∀ k, k = (natS n).size → T k = n) := fun k hk => by rw [← hT']; exact HALL.out k hk
    clear HDG HLE HALL hT hT' h hn
    obtain ⟨s, hs⟩ : ∃ s, natS n = s := ⟨_, rfl⟩
    rw [hs] at HVX HL hsz HDG2 HALL2 ⊢
    clear hs
    go_enter Tryz.func20, Tryz.ntmps20
    go_wp2_with fail
    refine (HVX.out _).mono ?_
    rintro e w1 ⟨rfl, rfl⟩
    go_wp2_with fail
    refine (HL.out _).mono ?_
    rintro e w2 ⟨rfl, rfl⟩
    go_wp2_with fail
    go_loop [4, 5] (fun z i => ∃ k : Nat, k ≤ s.size ∧ z = .int .i64 ((T k : Nat) : Int) ∧ i = .int .i64 (k : Int)) (fun _ i => s.size - (intOf i).toNat)
    case atStart => exact ⟨0, Nat.zero_le _, by rw [HT0.out]; rfl, rfl⟩
    case round =>
      obtain ⟨k, hk, rfl, rfl⟩ := hrel
      by_cases hkl : k < s.size
      · have g1 : decide ((k : Int) < (s.size : Int)) = true := decide_eq_true (by omega)
        obtain ⟨d, hd, hd10, hstep⟩ := HDG2.out k hkl
        have h1 := HLE2.out k
        have h2 := HLE2.out (k + 1)
        have HST := hide hstep
        obtain ⟨t, ht⟩ : ∃ t, T k = t := ⟨_, rfl⟩
        rw [ht] at h1 hstep ⊢
        rw [hstep] at h2
        have HTK := hide ht
        clear hstep ht
        have q1 : IntKind.i64.wrap (10 * (t : Int)) = 10 * (t : Int) := IntWalk.i64_in _ (by omega)
        have q2 : IntKind.u8.wrap ((s[k].toNat : Int) - 48) = (d : Int) := by rw [hd, show ((48 + d : Nat) : Int) - 48 = (d : Int) by omega]; exact IntWalk.u8_in _ (by omega)
        have q2' : IntKind.u8.wrap (((48 + d : Nat) : Int) - 48) = (d : Int) := by rw [show ((48 + d : Nat) : Int) - 48 = (d : Int) by omega]; exact IntWalk.u8_in _ (by omega)
        have q3 : IntKind.i64.wrap (10 * (t : Int) + (d : Int)) = ((t * 10 + d : Nat) : Int) := by rw [show 10 * (t : Int) + (d : Int) = ((t * 10 + d : Nat) : Int) by omega]; exact IntWalk.i64_in _ (by omega)
        go_wp2_with fail
        go_round
        case rel => exact ⟨k + 1, by omega, by rw [HST.out, HTK.out]; go_num, by go_num⟩
        case measure => (simp [intOf]; try omega)
      · have g1 : decide ((k : Int) < (s.size : Int)) = false := decide_eq_false (by omega)
        have HE := hide (HALL2.out k (by omega))
        go_wp2_with fail
        go_ret2
        exact ⟨by rw [HE.out]; rfl, Below.refl _ _⟩
set_option maxHeartbeats 2000000 in
set_option maxRecDepth 100000 in
theorem ref_Add_bad (a b : ByteArray) (w : World) (ha : a.size ≤ maxLen) (hb : b.size ≤ maxLen) (h : bad2 a b) :
    Calls Tryz.prog 8 #[.string a, .string b] w (ArgPost w) := by
  rcases h with h | ⟨h, h'⟩
  · have HVX : Hid (∀ W, Calls Tryz.prog 22 #[.string a] W fun e w' => e = .returned (.bool false) ∧ W = w') := fun W => ref_vf a W ha h
    clear h
    go_enter Tryz.func8, Tryz.ntmps8
    go_wp2_with fail
    refine (HVX.out _).mono ?_
    rintro e w1 ⟨rfl, rfl⟩
    go_wp2_with fail
    go_ret2
    exact ⟨rfl, Below.refl _ _⟩
  · have HVX : Hid (∀ W, Calls Tryz.prog 22 #[.string a] W fun e w' => e = .returned (.bool true) ∧ W = w') := fun W => ref_vt a W ha h
    have HVY : Hid (∀ W, Calls Tryz.prog 22 #[.string b] W fun e w' => e = .returned (.bool false) ∧ W = w') := fun W => ref_vf b W hb h'
    clear h h'
    go_enter Tryz.func8, Tryz.ntmps8
    go_wp2_with fail
    refine (HVX.out _).mono ?_
    rintro e w1 ⟨rfl, rfl⟩
    go_wp2_with fail
    refine (HVY.out _).mono ?_
    rintro e w2 ⟨rfl, rfl⟩
    go_wp2_with fail
    go_ret2
    exact ⟨rfl, Below.refl _ _⟩
set_option maxHeartbeats 2000000 in
set_option maxRecDepth 100000 in
theorem ref_Sub_bad (a b : ByteArray) (w : World) (ha : a.size ≤ maxLen) (hb : b.size ≤ maxLen) (h : bad2 a b) :
    Calls Tryz.prog 10 #[.string a, .string b] w (ArgPost w) := by
  rcases h with h | ⟨h, h'⟩
  · have HVX : Hid (∀ W, Calls Tryz.prog 22 #[.string a] W fun e w' => e = .returned (.bool false) ∧ W = w') := fun W => ref_vf a W ha h
    clear h
    go_enter Tryz.func10, Tryz.ntmps10
    go_wp2_with fail
    refine (HVX.out _).mono ?_
    rintro e w1 ⟨rfl, rfl⟩
    go_wp2_with fail
    go_ret2
    exact ⟨rfl, Below.refl _ _⟩
  · have HVX : Hid (∀ W, Calls Tryz.prog 22 #[.string a] W fun e w' => e = .returned (.bool true) ∧ W = w') := fun W => ref_vt a W ha h
    have HVY : Hid (∀ W, Calls Tryz.prog 22 #[.string b] W fun e w' => e = .returned (.bool false) ∧ W = w') := fun W => ref_vf b W hb h'
    clear h h'
    go_enter Tryz.func10, Tryz.ntmps10
    go_wp2_with fail
    refine (HVX.out _).mono ?_
    rintro e w1 ⟨rfl, rfl⟩
    go_wp2_with fail
    refine (HVY.out _).mono ?_
    rintro e w2 ⟨rfl, rfl⟩
    go_wp2_with fail
    go_ret2
    exact ⟨rfl, Below.refl _ _⟩
set_option maxHeartbeats 2000000 in
set_option maxRecDepth 100000 in
theorem ref_Mul_bad (a b : ByteArray) (w : World) (ha : a.size ≤ maxLen) (hb : b.size ≤ maxLen) (h : bad2 a b) :
    Calls Tryz.prog 12 #[.string a, .string b] w (ArgPost w) := by
  rcases h with h | ⟨h, h'⟩
  · have HVX : Hid (∀ W, Calls Tryz.prog 22 #[.string a] W fun e w' => e = .returned (.bool false) ∧ W = w') := fun W => ref_vf a W ha h
    clear h
    go_enter Tryz.func12, Tryz.ntmps12
    go_wp2_with fail
    refine (HVX.out _).mono ?_
    rintro e w1 ⟨rfl, rfl⟩
    go_wp2_with fail
    go_ret2
    exact ⟨rfl, Below.refl _ _⟩
  · have HVX : Hid (∀ W, Calls Tryz.prog 22 #[.string a] W fun e w' => e = .returned (.bool true) ∧ W = w') := fun W => ref_vt a W ha h
    have HVY : Hid (∀ W, Calls Tryz.prog 22 #[.string b] W fun e w' => e = .returned (.bool false) ∧ W = w') := fun W => ref_vf b W hb h'
    clear h h'
    go_enter Tryz.func12, Tryz.ntmps12
    go_wp2_with fail
    refine (HVX.out _).mono ?_
    rintro e w1 ⟨rfl, rfl⟩
    go_wp2_with fail
    refine (HVY.out _).mono ?_
    rintro e w2 ⟨rfl, rfl⟩
    go_wp2_with fail
    go_ret2
    exact ⟨rfl, Below.refl _ _⟩
set_option maxHeartbeats 2000000 in
set_option maxRecDepth 100000 in
theorem ref_Gcd_bad (a b : ByteArray) (w : World) (ha : a.size ≤ maxLen) (hb : b.size ≤ maxLen) (h : bad2 a b) :
    Calls Tryz.prog 16 #[.string a, .string b] w (ArgPost w) := by
  rcases h with h | ⟨h, h'⟩
  · have HVX : Hid (∀ W, Calls Tryz.prog 22 #[.string a] W fun e w' => e = .returned (.bool false) ∧ W = w') := fun W => ref_vf a W ha h
    clear h
    go_enter Tryz.func16, Tryz.ntmps16
    go_wp2_with fail
    refine (HVX.out _).mono ?_
    rintro e w1 ⟨rfl, rfl⟩
    go_wp2_with fail
    go_ret2
    exact ⟨rfl, Below.refl _ _⟩
  · have HVX : Hid (∀ W, Calls Tryz.prog 22 #[.string a] W fun e w' => e = .returned (.bool true) ∧ W = w') := fun W => ref_vt a W ha h
    have HVY : Hid (∀ W, Calls Tryz.prog 22 #[.string b] W fun e w' => e = .returned (.bool false) ∧ W = w') := fun W => ref_vf b W hb h'
    clear h h'
    go_enter Tryz.func16, Tryz.ntmps16
    go_wp2_with fail
    refine (HVX.out _).mono ?_
    rintro e w1 ⟨rfl, rfl⟩
    go_wp2_with fail
    refine (HVY.out _).mono ?_
    rintro e w2 ⟨rfl, rfl⟩
    go_wp2_with fail
    go_ret2
    exact ⟨rfl, Below.refl _ _⟩
set_option maxHeartbeats 2000000 in
set_option maxRecDepth 100000 in
theorem ref_Div_bad (a b : ByteArray) (w : World) (ha : a.size ≤ maxLen) (hb : b.size ≤ maxLen) (h : bad2 a b) :
    Calls Tryz.prog 14 #[.string a, .string b] w (Err3Post w 1) := by
  rcases h with h | ⟨h, h'⟩
  · have HVX : Hid (∀ W, Calls Tryz.prog 22 #[.string a] W fun e w' => e = .returned (.bool false) ∧ W = w') := fun W => ref_vf a W ha h
    clear h
    go_enter Tryz.func14, Tryz.ntmps14
    go_wp2_with fail
    refine (HVX.out _).mono ?_
    rintro e w1 ⟨rfl, rfl⟩
    go_wp2_with fail
    go_ret3
    exact ⟨rfl, Below.refl _ _⟩
  · have HVX : Hid (∀ W, Calls Tryz.prog 22 #[.string a] W fun e w' => e = .returned (.bool true) ∧ W = w') := fun W => ref_vt a W ha h
    have HVY : Hid (∀ W, Calls Tryz.prog 22 #[.string b] W fun e w' => e = .returned (.bool false) ∧ W = w') := fun W => ref_vf b W hb h'
    clear h h'
    go_enter Tryz.func14, Tryz.ntmps14
    go_wp2_with fail
    refine (HVX.out _).mono ?_
    rintro e w1 ⟨rfl, rfl⟩
    go_wp2_with fail
    refine (HVY.out _).mono ?_
    rintro e w2 ⟨rfl, rfl⟩
    go_wp2_with fail
    go_ret3
    exact ⟨rfl, Below.refl _ _⟩
set_option maxHeartbeats 2000000 in
set_option maxRecDepth 100000 in
theorem ref_Compare_bad (a b : ByteArray) (w : World) (ha : a.size ≤ maxLen) (hb : b.size ≤ maxLen) (h : bad2 a b) :
    Calls Tryz.prog 24 #[.string a, .string b] w fun e w' => e = .returned (.int .i64 0) ∧ Below w.heap.size w w' := by
  rcases h with h | ⟨h, h'⟩
  · have HVX : Hid (∀ W, Calls Tryz.prog 22 #[.string a] W fun e w' => e = .returned (.bool false) ∧ W = w') := fun W => ref_vf a W ha h
    clear h
    go_enter Tryz.func24, Tryz.ntmps24
    go_wp2_with fail
    refine (HVX.out _).mono ?_
    rintro e w1 ⟨rfl, rfl⟩
    go_wp2_with fail
    go_ret
    exact ⟨rfl, Below.refl _ _⟩
  · have HVX : Hid (∀ W, Calls Tryz.prog 22 #[.string a] W fun e w' => e = .returned (.bool true) ∧ W = w') := fun W => ref_vt a W ha h
    have HVY : Hid (∀ W, Calls Tryz.prog 22 #[.string b] W fun e w' => e = .returned (.bool false) ∧ W = w') := fun W => ref_vf b W hb h'
    clear h h'
    go_enter Tryz.func24, Tryz.ntmps24
    go_wp2_with fail
    refine (HVX.out _).mono ?_
    rintro e w1 ⟨rfl, rfl⟩
    go_wp2_with fail
    refine (HVY.out _).mono ?_
    rintro e w2 ⟨rfl, rfl⟩
    go_wp2_with fail
    go_ret
    exact ⟨rfl, Below.refl _ _⟩
set_option maxHeartbeats 2000000 in
set_option maxRecDepth 100000 in
theorem ref_Int_bad (a : ByteArray) (w : World) (ha : a.size ≤ maxLen) (h : vldN a = false) :
    Calls Tryz.prog 20 #[.string a] w fun e w' => e = .returned (.tuple #[.int .i64 0, .int .i64 1]) ∧ Below w.heap.size w w' := by
  have HVX : Hid (∀ W, Calls Tryz.prog 22 #[.string a] W fun e w' => e = .returned (.bool false) ∧ W = w') := fun W => ref_vf a W ha h
  clear h
  go_enter Tryz.func20, Tryz.ntmps20
  go_wp2_with fail
  refine (HVX.out _).mono ?_
  rintro e w1 ⟨rfl, rfl⟩
  go_wp2_with fail
  go_ret2
  exact ⟨rfl, Below.refl _ _⟩
end Go.Proofs.YtbefdlncpobmlaaGreatDoor
