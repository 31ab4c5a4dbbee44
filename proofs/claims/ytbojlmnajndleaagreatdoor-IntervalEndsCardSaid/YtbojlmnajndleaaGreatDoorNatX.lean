/- natural: Sub, Div, Int: their contracts by numbers. -/
import Derived.Test.YtbojlmnajndleaaGreatDoorNatV
set_option linter.unusedVariables false
set_option linter.unusedSimpArgs false
namespace Go.Proofs.YtbojlmnajndleaaGreatDoor
open Go.RowKit

set_option maxHeartbeats 1000000 in
set_option maxRecDepth 100000 in
theorem nat_sub (x y : Nat) (w : World) (hx : x < capN) (hy : y < capN) (hle : y ≤ x) (hw : LawW w) :
    Calls Tryz.prog 45 #[.string (natS x), .string (natS y)] w (OkPost w (x - y)) := by
  have h1 := lim_cap hx
  have h2 := lim_cap hy
  have hlt : x - y < capN := by omega
  have HV : (lim (x - y)).length ≤ 100000 := by have := lim_cap hlt; omega
  have HC : ∀ W, LawW W → Calls Tryz.prog 67 #[.string (natS x), .string (natS y), .func (.func 68) #[] #[]] W (OkPost W (x - y)) := fun W hW =>
    (both_ok 68 x y (x - y) W hx hy HV hW (enters_of Tryz.func68 (by kernel_rfl) rfl) (fun u v w' hu hv => by
      have := sub_any (lim x) (lim y) u v w' hu hv (by omega) (lim_len_mono hle) (lim_Lm x) (lim_Lm y) (by rw [lval_lim, lval_lim]; exact hle)
      rw [lval_lim, lval_lim] at this
      exact this.mono fun _ _ h => h.post)).mono fun _ _ h => h.ok hlt
  have HHC := hide HC
  have HW := hide hw
  have HVX : Hid (∀ W, Calls Tryz.prog 57 #[.string (natS x)] W fun e w' => e = .returned (.bool true) ∧ Below W.heap.size W w') := fun W => nat_valid x W hx
  have HVY : Hid (∀ W, Calls Tryz.prog 57 #[.string (natS y)] W fun e w' => e = .returned (.bool true) ∧ Below W.heap.size W w') := fun W => nat_valid y W hy
  have HCM : Hid (∀ W, Calls Tryz.prog 43 #[.string (natS x), .string (natS y)] W fun e w' => e = .returned (.int .i64 (cmpN x y)) ∧ Below W.heap.size W w') := fun W => nat_compare x y W hx hy
  have hcm : ¬ cmpN x y < 0 := fun h => by have := cmpN_neg.1 h; omega
  obtain ⟨c, hc⟩ : ∃ c, cmpN x y = c := ⟨_, rfl⟩
  rw [hc] at HCM hcm
  obtain ⟨sx, hsx⟩ : ∃ s, natS x = s := ⟨_, rfl⟩
  obtain ⟨sy, hsy⟩ : ∃ s, natS y = s := ⟨_, rfl⟩
  rw [hsx] at HVX
  rw [hsy] at HVY
  rw [hsx, hsy] at HHC HCM ⊢
  obtain ⟨V, hVe⟩ : ∃ V, x - y = V := ⟨_, rfl⟩
  rw [hVe] at HHC ⊢
  have hc0 : 0 ≤ c := by omega
  clear hx hy hw HV h1 h2 hsx hsy hVe HC hle hlt hc
  go_enter Tryz.func45, Tryz.ntmps45
  go_wp2_with fail
  refine (HVX.out _).mono ?_
  rintro e w1 ⟨rfl, hb1⟩
  have HB1 := hide hb1
  clear hb1
  go_wp2_with fail
  refine (HVY.out _).mono ?_
  rintro e w2 ⟨rfl, hb2⟩
  have HB2 := hide (bStep HB1.out hb2)
  clear hb2 HB1
  go_wp2_with fail
  refine (HCM.out _).mono ?_
  rintro e w3 ⟨rfl, hb3⟩
  have HB3 := hide (bStep HB2.out hb3)
  have HW3 := hide (HW.out.below HB3.out)
  clear hb3 HB2
  go_wp2_with fail
  refine (HHC.out _ HW3.out).mono ?_
  rintro e w4 ⟨rfl, hb4⟩
  have HB4 := hide (bStep HB3.out hb4)
  clear hb4 HB3
  go_wp2_with fail
  go_ret2
  exact ⟨rfl, HB4.out⟩
def RangePost (w : World) (e : Ending) (w' : World) : Prop := e = .returned (.tuple #[.string ⟨#[]⟩, .int .i64 9]) ∧ Below w.heap.size w w'
set_option maxHeartbeats 1000000 in
set_option maxRecDepth 100000 in
theorem nat_sub_less (x y : Nat) (w : World) (hx : x < capN) (hy : y < capN) (hlt : x < y) :
    Calls Tryz.prog 45 #[.string (natS x), .string (natS y)] w (RangePost w) := by
  have HVX : Hid (∀ W, Calls Tryz.prog 57 #[.string (natS x)] W fun e w' => e = .returned (.bool true) ∧ Below W.heap.size W w') := fun W => nat_valid x W hx
  have HVY : Hid (∀ W, Calls Tryz.prog 57 #[.string (natS y)] W fun e w' => e = .returned (.bool true) ∧ Below W.heap.size W w') := fun W => nat_valid y W hy
  have HCM : Hid (∀ W, Calls Tryz.prog 43 #[.string (natS x), .string (natS y)] W fun e w' => e = .returned (.int .i64 (-1)) ∧ Below W.heap.size W w') := fun W => by
    have := nat_compare x y W hx hy
    rw [cmpN_lt hlt] at this
    exact this
  obtain ⟨sx, hsx⟩ : ∃ s, natS x = s := ⟨_, rfl⟩
  obtain ⟨sy, hsy⟩ : ∃ s, natS y = s := ⟨_, rfl⟩
  rw [hsx] at HVX
  rw [hsy] at HVY
  rw [hsx, hsy] at HCM ⊢
  clear hx hy hsx hsy hlt
  go_enter Tryz.func45, Tryz.ntmps45
  go_wp2_with fail
  refine (HVX.out _).mono ?_
  rintro e w1 ⟨rfl, hb1⟩
  have HB1 := hide hb1
  clear hb1
  go_wp2_with fail
  refine (HVY.out _).mono ?_
  rintro e w2 ⟨rfl, hb2⟩
  have HB2 := hide (bStep HB1.out hb2)
  clear hb2 HB1
  go_wp2_with fail
  refine (HCM.out _).mono ?_
  rintro e w3 ⟨rfl, hb3⟩
  have HB3 := hide (bStep HB2.out hb3)
  clear hb3 HB2
  go_wp2_with fail
  go_ret2
  exact ⟨rfl, HB3.out⟩
set_option maxHeartbeats 1000000 in
set_option maxRecDepth 100000 in
theorem nat_sub_bad (a b : ByteArray) (w : World) (ha : a.size ≤ maxLen) (hb : b.size ≤ maxLen) (h : bad2 a b) :
    Calls Tryz.prog 45 #[.string a, .string b] w (ArgPost w) := by
  have HBD := hide h
  rcases h with h | ⟨h, h'⟩
  · have H := hide h
    clear h
    go_enter Tryz.func45, Tryz.ntmps45
    go_wp2_with fail
    refine (bad_valid a _ ha H.out).mono ?_
    rintro e w1 ⟨rfl, hb1⟩
    have HB1 := hide hb1
    clear hb1
    go_wp2_with fail
    refine (both_bad _ a b _ ha hb HBD.out).mono ?_
    rintro e w2 ⟨rfl, hb2⟩
    have HB2 := hide (bStep HB1.out hb2)
    clear hb2
    go_wp2_with fail
    go_ret2
    exact ⟨rfl, HB2.out⟩
  · have H := hide h
    have H' := hide h'
    clear h h'
    go_enter Tryz.func45, Tryz.ntmps45
    go_wp2_with fail
    refine ((valid_any a _ ha)).mono ?_
    rintro e w1 ⟨rfl, hb1⟩
    rw [H.out]
    have HB1 := hide hb1
    clear hb1
    go_wp2_with fail
    refine (bad_valid b _ hb H'.out).mono ?_
    rintro e w2 ⟨rfl, hb2⟩
    have HB2 := hide (bStep HB1.out hb2)
    clear hb2
    go_wp2_with fail
    refine (both_bad _ a b _ ha hb HBD.out).mono ?_
    rintro e w3 ⟨rfl, hb3⟩
    have HB3 := hide (bStep HB2.out hb3)
    clear hb3
    go_wp2_with fail
    go_ret2
    exact ⟨rfl, HB3.out⟩

theorem natS_zero : natS 0 = ⟨#[48]⟩ := by unfold natS; rw [dec_small (by omega)]; rfl
theorem natS_ne_zero {y : Nat} (h : 0 < y) : natS y ≠ ⟨#[48]⟩ := fun e => by
  rw [← natS_zero] at e
  have := natS_inj e
  omega
theorem str_ne {s t : ByteArray} {l : List UInt8} (h : s ≠ t) (ht : t.data.toList = l) : (s.toList == l) = false := by
  rw [beq_eq_false_iff_ne, ByteArray.toList_eq]
  intro e
  exact h (ba_eq (e.trans ht.symm))
theorem str_eq {s : ByteArray} {l : List UInt8} (h : s.data.toList = l) : (s.toList == l) = true := by rw [ByteArray.toList_eq, h]; simp
/-- Results of a division. -/
def DivsPost (w : World) (q r : Nat) (e : Ending) (w' : World) : Prop := e = .returned (.tuple #[.string (natS q), .string (natS r), .int .i64 0]) ∧ Below w.heap.size w w'
set_option maxHeartbeats 2000000 in
set_option maxRecDepth 100000 in
theorem nat_div (x y : Nat) (w : World) (hx : x < capN) (hy : y < capN) (hy0 : 0 < y) (hw : LawW w) :
    Calls Tryz.prog 60 #[.string (natS x), .string (natS y)] w (DivsPost w (x / y) (x % y)) := by
  have h1 := lim_cap hx
  have h2 := lim_cap hy
  have hq : x / y < capN := Nat.lt_of_le_of_lt (Nat.div_le_self x y) hx
  have hr : x % y < capN := Nat.lt_trans (Nat.mod_lt _ hy0) hy
  have HW := hide hw
  have HVX : Hid (∀ W, Calls Tryz.prog 57 #[.string (natS x)] W fun e w' => e = .returned (.bool true) ∧ Below W.heap.size W w') := fun W => nat_valid x W hx
  have HVY : Hid (∀ W, Calls Tryz.prog 57 #[.string (natS y)] W fun e w' => e = .returned (.bool true) ∧ Below W.heap.size W w') := fun W => nat_valid y W hy
  have HRX : Hid (∀ W, Calls Tryz.prog 65 #[.string (natS x)] W (LimPost W x)) := fun W => nat_read x W hx
  have HRY : Hid (∀ W, Calls Tryz.prog 65 #[.string (natS y)] W (LimPost W y)) := fun W => nat_read y W hy
  have HDV : Hid (∀ W u v, SliceOf vN 1 W u (lim x) → SliceOf vN 1 W v (lim y) → Calls Tryz.prog 80 #[u, v] W (DivPost W x y)) := fun W u v hu hv => by
    have := div_any (lim x) y u v W hu hv (by omega) (by omega) (lim_Lm x) hy0
    rw [lval_lim] at this
    exact this
  have HT : ∀ n, n < capN → Hid (∀ W v, SliceOf vN 1 W v (lim n) → LawW W → Calls Tryz.prog 81 #[v] W (OkPost W n)) := fun n hn W v hv hw =>
    (text_any n v W hv (by have := lim_cap hn; omega) hw).mono fun _ _ h => h.ok hn
  have HTQ := HT _ hq
  have HTR := HT _ hr
  have hne := natS_ne_zero hy0
  obtain ⟨sx, hsx⟩ : ∃ s, natS x = s := ⟨_, rfl⟩
  obtain ⟨sy, hsy⟩ : ∃ s, natS y = s := ⟨_, rfl⟩
  rw [hsx] at HVX HRX ⊢
  rw [hsy] at HVY HRY hne ⊢
  have hne1 : (sy.toList == [48]) = false := str_ne hne (by rfl)
  clear hx hy hw h1 h2 hsx hsy hy0 hq hr HT
  go_enter Tryz.func60, Tryz.ntmps60
  go_wp2_with fail
  refine (HVX.out _).mono ?_
  rintro e w1 ⟨rfl, hb1⟩
  have HB1 := hide hb1
  clear hb1
  go_wp2_with fail
  refine (HVY.out _).mono ?_
  rintro e w2 ⟨rfl, hb2⟩
  have HB2 := hide (bStep HB1.out hb2)
  clear hb2 HB1
  go_wp2_with fail
  refine (HRX.out _).mono ?_
  rintro e w3 ⟨v3, rfl, hs3, hb3⟩
  have HS3 := hide hs3
  have HB3 := hide (bStep HB2.out hb3)
  clear hs3 hb3 HB2
  go_wp2_with fail
  refine (HRY.out _).mono ?_
  rintro e w4 ⟨v4, rfl, hs4, hb4⟩
  have HS4 := hide hs4
  have HS34 := hide (HS3.out.below hb4)
  have HB4 := hide (bStep HB3.out hb4)
  clear hs4 hb4 HB3
  go_wp2_with fail
  refine (HDV.out _ _ _ HS34.out HS4.out).mono ?_
  rintro e w5 ⟨qv, rv, rfl, hs5, ht5, hb5⟩
  have HS5 := hide hs5
  have HT5 := hide ht5
  have HB5 := hide (bStep HB4.out hb5)
  have HW5 := hide (HW.out.below HB5.out)
  clear hs5 ht5 hb5 HB4
  go_wp2_with fail
  refine (HTQ.out _ _ HS5.out HW5.out).mono ?_
  rintro e w6 ⟨rfl, hb6⟩
  have HT6 := hide (HT5.out.below hb6)
  have HW6 := hide (HW5.out.below hb6)
  have HB6 := hide (bStep HB5.out hb6)
  clear hb6
  go_wp2_with fail
  refine (HTR.out _ _ HT6.out HW6.out).mono ?_
  rintro e w7 ⟨rfl, hb7⟩
  have HB7 := hide (bStep HB6.out hb7)
  clear hb7
  go_wp2_with fail
  go_ret3
  exact ⟨rfl, HB7.out⟩
def Err3Post (w : World) (k : Int) (e : Ending) (w' : World) : Prop := e = .returned (.tuple #[.string ⟨#[]⟩, .string ⟨#[]⟩, .int .i64 k]) ∧ Below w.heap.size w w'
set_option maxHeartbeats 2000000 in
set_option maxRecDepth 100000 in
theorem nat_div_zero (x : Nat) (w : World) (hx : x < capN) :
    Calls Tryz.prog 60 #[.string (natS x), .string ⟨#[48]⟩] w (Err3Post w 14) := by
  have HVX : Hid (∀ W, Calls Tryz.prog 57 #[.string (natS x)] W fun e w' => e = .returned (.bool true) ∧ Below W.heap.size W w') := fun W => nat_valid x W hx
  have HVY : Hid (∀ W, Calls Tryz.prog 57 #[.string ⟨#[48]⟩] W fun e w' => e = .returned (.bool true) ∧ Below W.heap.size W w') := fun W => by
    have := nat_valid 0 W capN_pos
    rw [natS_zero] at this
    exact this
  obtain ⟨sx, hsx⟩ : ∃ s, natS x = s := ⟨_, rfl⟩
  rw [hsx] at HVX ⊢
  clear hx hsx
  go_enter Tryz.func60, Tryz.ntmps60
  go_wp2_with fail
  refine (HVX.out _).mono ?_
  rintro e w1 ⟨rfl, hb1⟩
  have HB1 := hide hb1
  clear hb1
  go_wp2_with fail
  refine (HVY.out _).mono ?_
  rintro e w2 ⟨rfl, hb2⟩
  have HB2 := hide (bStep HB1.out hb2)
  clear hb2 HB1
  go_wp2_with fail
  go_ret3
  exact ⟨rfl, HB2.out⟩
set_option maxHeartbeats 2000000 in
set_option maxRecDepth 100000 in
theorem nat_div_bad (a b : ByteArray) (w : World) (ha : a.size ≤ maxLen) (hb : b.size ≤ maxLen) (h : bad2 a b) :
    Calls Tryz.prog 60 #[.string a, .string b] w (Err3Post w 1) := by
  rcases h with h | ⟨h, h'⟩
  · have H := hide h
    clear h
    go_enter Tryz.func60, Tryz.ntmps60
    go_wp2_with fail
    refine (bad_valid a _ ha H.out).mono ?_
    rintro e w1 ⟨rfl, hb1⟩
    have HB1 := hide hb1
    clear hb1
    go_wp2_with fail
    go_ret3
    exact ⟨rfl, HB1.out⟩
  · have H := hide h
    have H' := hide h'
    clear h h'
    go_enter Tryz.func60, Tryz.ntmps60
    go_wp2_with fail
    refine ((valid_any a _ ha)).mono ?_
    rintro e w1 ⟨rfl, hb1⟩
    rw [H.out]
    have HB1 := hide hb1
    clear hb1
    go_wp2_with fail
    refine (bad_valid b _ hb H'.out).mono ?_
    rintro e w2 ⟨rfl, hb2⟩
    have HB2 := hide (bStep HB1.out hb2)
    clear hb2
    go_wp2_with fail
    go_ret3
    exact ⟨rfl, HB2.out⟩

/-! ### Int -/
theorem foldl_low : ∀ (l : List UInt8) (acc : Nat), acc ≤ l.foldl (fun a b => a * 10 + dvN b) acc
  | [], acc => Nat.le_refl _
  | b :: l, acc => Nat.le_trans (by omega) (foldl_low l (acc * 10 + dvN b))
theorem parse_digits : ∀ (l : List UInt8) (acc : Nat), (∀ b ∈ l, isDg b = true) → acc < 18446744073709551616 →
    (l.foldl (fun a b => a * 10 + dvN b) acc < 18446744073709551616 → Lib.parseUint10 acc l = .ok (l.foldl (fun a b => a * 10 + dvN b) acc)) ∧
    (¬ l.foldl (fun a b => a * 10 + dvN b) acc < 18446744073709551616 → Lib.parseUint10 acc l = .range)
  | [], acc, _, ha => ⟨fun _ => rfl, fun h => absurd ha h⟩
  | b :: l, acc, h, ha => by
    have hb := isDg_iff.1 (h b (by simp))
    have hl := fun c hc => h c (List.mem_cons_of_mem b hc)
    have hlow := foldl_low l (acc * 10 + dvN b)
    have e : (b :: l).foldl (fun a b => a * 10 + dvN b) acc = l.foldl (fun a b => a * 10 + dvN b) (acc * 10 + dvN b) := rfl
    rw [e]
    show (_ → (if 48 ≤ b.toNat ∧ b.toNat ≤ 57 then _ else _) = _) ∧ (_ → (if 48 ≤ b.toNat ∧ b.toNat ≤ 57 then _ else _) = _)
    rw [if_pos hb]
    by_cases h1 : 1844674407370955162 ≤ acc
    · rw [if_pos h1]
      exact ⟨fun hx => by omega, fun _ => rfl⟩
    · rw [if_neg h1]
      by_cases h2 : 18446744073709551616 ≤ acc * 10 + (b.toNat - 48)
      · rw [if_pos h2]
        refine ⟨fun hx => ?_, fun _ => rfl⟩
        exfalso
        have : acc * 10 + dvN b = acc * 10 + (b.toNat - 48) := rfl
        omega
      · rw [if_neg h2]
        exact parse_digits l _ hl (by have : acc * 10 + dvN b = acc * 10 + (b.toNat - 48) := rfl; omega)
theorem atoiAll_dec (n : Nat) : Lib.atoiAll (Lib.decDigits n) = if n < 9223372036854775808 then .ok (n : Int) else .range := by
  have hd := dec_digit n
  have hv := nval_dec n
  cases hl : Lib.decDigits n with
  | nil => exact absurd hl (dec_ne_nil n)
  | cons c r =>
    rw [hl] at hd hv
    have hc := isDg_iff.1 (hd c (by simp))
    have hp := parse_digits (c :: r) 0 hd (by omega)
    have hf : (c :: r).foldl (fun a b => a * 10 + dvN b) 0 = n := hv
    rw [hf] at hp
    have e1 : ¬ (c.toNat = 43 ∨ c.toNat = 45) := by omega
    have e2 : ¬ c.toNat = 45 := by omega
    unfold Lib.atoiAll
    simp only [if_neg e1]
    unfold Lib.parseMag
    rw [if_neg (by simp)]
    by_cases h64 : n < 18446744073709551616
    · rw [hp.1 h64]
      simp only [e2, not_false_eq_true, true_and, false_and, if_false]
      by_cases h63 : n < 9223372036854775808
      · rw [if_neg (by omega), if_pos h63]
      · rw [if_pos (by omega), if_neg h63]
    · rw [hp.2 h64, if_neg (by omega)]
end Go.Proofs.YtbojlmnajndleaaGreatDoor
