/- rational: Valid, lowest, Make, minus. -/
import Derived.Test.YtbojlmnajndleaaGreatDoorRaP
import Derived.Test.YtbojlmnajndleaaGreatDoorNatX
import Derived.Test.YtbojlmnajndleaaGreatDoorNatJ
import Derived.BigGuard
set_option linter.unusedVariables false
set_option linter.unusedSimpArgs false
namespace Go.Proofs.YtbojlmnajndleaaGreatDoor
open Go.RowKit

def s0 : ByteArray := ⟨#[48]⟩
def s1 : ByteArray := ⟨#[49]⟩
theorem natS_one : natS 1 = ⟨#[49]⟩ := by unfold natS; rw [dec_small (by omega)]; rfl
/-- Whether a value of the struct is a number in lowest terms. -/
def vldR (g : Bool) (s t : ByteArray) : Bool := vldN s && vldN t && (decide (nval t.data.toList ≠ 0)) && (if nval s.data.toList = 0 then (!g && decide (nval t.data.toList = 1)) else decide (Nat.gcd (nval s.data.toList) (nval t.data.toList) = 1))
theorem vldR_bad {g : Bool} {s t : ByteArray} (h : bad2 s t) : vldR g s t = false := by
  unfold vldR
  rcases h with h | ⟨_, h⟩
  · rw [h]; rfl
  · rw [h]; simp
theorem vldR_nat {g : Bool} {n d : Nat} (hn : n < capN) (hd : d < capN) : vldR g (natS n) (natS d) = (decide (d ≠ 0) && (if n = 0 then (!g && decide (d = 1)) else decide (Nat.gcd n d = 1))) := by
  unfold vldR
  rw [natS_vldN.2 hn, natS_vldN.2 hd, natS_toList, natS_toList, nval_dec, nval_dec]
  simp
theorem vldR_iff {g : Bool} {s t : ByteArray} : vldR g s t = true ↔ ∃ q : Rat, g = ngQ q ∧ s = natS (nmQ q) ∧ t = natS q.den ∧ nmQ q < capN ∧ q.den < capN := by
  constructor
  · intro h
    have h1 : vldN s = true := by unfold vldR at h; simp only [Bool.and_eq_true] at h; exact h.1.1.1
    have h2 : vldN t = true := by unfold vldR at h; simp only [Bool.and_eq_true] at h; exact h.1.1.2
    obtain ⟨n, hn, rfl⟩ := vldN_obtain h1
    obtain ⟨d, hd, rfl⟩ := vldN_obtain h2
    rw [vldR_nat hn hd] at h
    simp only [Bool.and_eq_true, decide_eq_true_eq] at h
    obtain ⟨hd0, h3⟩ := h
    have hl : LowQ g n d := by
      refine ⟨by omega, ?_, fun e => ?_⟩
      · by_cases e : n = 0
        · rw [if_pos e] at h3
          simp only [Bool.and_eq_true, decide_eq_true_eq] at h3
          rw [e, h3.2]; rfl
        · rw [if_neg e] at h3
          simpa using h3
      · rw [if_pos e] at h3
        simp only [Bool.and_eq_true, Bool.not_eq_true', decide_eq_true_eq] at h3
        exact h3.1
    obtain ⟨q, rfl, rfl, rfl⟩ := low_eq hl
    exact ⟨q, rfl, rfl, rfl, hn, hd⟩
  · rintro ⟨q, rfl, rfl, rfl, hn, hd⟩
    rw [vldR_nat hn hd]
    have h1 := den_pos q
    have h2 := red q
    simp only [Bool.and_eq_true, decide_eq_true_eq]
    refine ⟨by omega, ?_⟩
    by_cases e : nmQ q = 0
    · rw [if_pos e]
      rw [e, Nat.gcd_zero_left] at h2
      rw [h2, nmQ_zero.1 e]; decide
    · rw [if_neg e]; exact decide_eq_true h2
theorem natS_max {x : Nat} (h : x < capN) : (natS x).size ≤ maxLen := by
  have := capN_len.2 h
  rw [natS_size]; unfold maxLen; omega
/-- A number in a variable. -/
structure RC (w : World) (b : Nat) (g : Bool) (s t : ByteArray) : Prop where
  c0 : w.cell? ⟨b, 0, none⟩ = some (.bool g)
  c1 : w.cell? ⟨b, 1, none⟩ = some (.string s)
  c2 : w.cell? ⟨b, 2, none⟩ = some (.string t)
  f0 : w.frozen? ⟨b, 0, none⟩ = false
  f1 : w.frozen? ⟨b, 1, none⟩ = false
  f2 : w.frozen? ⟨b, 2, none⟩ = false
theorem RC.lt {w : World} {b : Nat} {g : Bool} {s t : ByteArray} (h : RC w b g s t) : b < w.heap.size := World.block_lt_of_cell? _ _ h.c0
theorem RC.below {w w' : World} {b : Nat} {g : Bool} {s t : ByteArray} (h : RC w b g s t) (hb : Below w.heap.size w w') : RC w' b g s t :=
  ⟨keep_cell hb h.c0, keep_cell hb h.c1, keep_cell hb h.c2, (hb.frozen (p := ⟨b, 0, none⟩) h.lt).trans h.f0, (hb.frozen (p := ⟨b, 1, none⟩) h.lt).trans h.f1, (hb.frozen (p := ⟨b, 2, none⟩) h.lt).trans h.f2⟩
theorem RC.new (w : World) (g : Bool) (s t : ByteArray) (T : TypeId) : RC (w.alloc (.cells #[.bool g, .string s, .string t] T)) w.heap.size g s t :=
  ⟨by simp [go_sem], by simp [go_sem], by simp [go_sem], by simp [go_sem], by simp [go_sem], by simp [go_sem]⟩
set_option maxHeartbeats 2000000 in
set_option maxRecDepth 100000 in
theorem rat_valid_zero (g : Bool) (d : Nat) (w : World) (hd : d < capN) (h0 : 0 < d) :
    Calls Tryz.prog 36 #[.agg #[.bool g, .string ⟨#[48]⟩, .string (natS d)]] w fun e w' => e = .returned (.bool (!g && decide (d = 1))) ∧ Below w.heap.size w w' := by
  have HVX : Hid (∀ W, Calls Tryz.prog 57 #[.string ⟨#[48]⟩] W fun e w' => e = .returned (.bool true) ∧ Below W.heap.size W w') := fun W => by
    have := nat_valid 0 W capN_pos
    rw [natS_zero] at this
    exact this
  have HVY : Hid (∀ W, Calls Tryz.prog 57 #[.string (natS d)] W fun e w' => e = .returned (.bool true) ∧ Below W.heap.size W w') := fun W => nat_valid d W hd
  have hne := natS_ne_zero h0
  have HT : Hid (((natS d).toList == [49]) = decide (d = 1)) := by
    show _ = _
    by_cases e : d = 1
    · rw [e, decide_eq_true rfl]; exact str_eq (by rw [natS_one])
    · rw [decide_eq_false e]; exact str_ne (t := ⟨#[49]⟩) (fun h => e (natS_inj (h.trans natS_one.symm))) rfl
  obtain ⟨t, ht⟩ : ∃ s, natS d = s := ⟨_, rfl⟩
  rw [ht] at HVY hne HT ⊢
  have hne1 : (t.toList == [48]) = false := str_ne hne (by rfl)
  clear hd h0 hne ht
  obtain ⟨b1, hb1⟩ : ∃ b, decide (d = 1) = b := ⟨_, rfl⟩
  rw [hb1] at HT ⊢
  have ht1 := HT.out
  clear hb1 HT
  have HB0 := hide (bAlloc (Below.refl w.heap.size w) (.cells #[.bool g, .string ⟨#[48]⟩, .string t] 24))
  have HR0 := hide (RC.new w g ⟨#[48]⟩ t 24)
  cases b1 <;> cases g
  all_goals
    go_enter Tryz.func36, Tryz.ntmps36
    go_wp2_with fail
    refine (HVX.out _).mono ?_
    rintro e w1 ⟨rfl, hb⟩
    have HB1 := hide (bStep HB0.out hb)
    have HR1 := hide (HR0.out.below hb)
    obtain ⟨c0, c1, c2, f0, f1, f2⟩ := HR1.out
    clear hb
    go_wp2_with fail
    refine (HVY.out _).mono ?_
    rintro e w2 ⟨rfl, hb⟩
    have HB2 := hide (bStep HB1.out hb)
    have HR2 := hide (HR1.out.below hb)
    obtain ⟨c0, c1, c2, f0, f1, f2⟩ := HR2.out
    clear hb
    go_wp2_with fail
    go_ret
    exact ⟨rfl, HB2.out⟩
set_option maxHeartbeats 2000000 in
set_option maxRecDepth 100000 in
theorem rat_valid_den0 (g : Bool) (n : Nat) (w : World) (hn : n < capN) :
    Calls Tryz.prog 36 #[.agg #[.bool g, .string (natS n), .string ⟨#[48]⟩]] w fun e w' => e = .returned (.bool false) ∧ Below w.heap.size w w' := by
  have HVX : Hid (∀ W, Calls Tryz.prog 57 #[.string (natS n)] W fun e w' => e = .returned (.bool true) ∧ Below W.heap.size W w') := fun W => nat_valid n W hn
  have HVY : Hid (∀ W, Calls Tryz.prog 57 #[.string ⟨#[48]⟩] W fun e w' => e = .returned (.bool true) ∧ Below W.heap.size W w') := fun W => by
    have := nat_valid 0 W capN_pos
    rw [natS_zero] at this
    exact this
  obtain ⟨t, ht⟩ : ∃ s, natS n = s := ⟨_, rfl⟩
  rw [ht] at HVX ⊢
  clear hn ht
  have HB0 := hide (bAlloc (Below.refl w.heap.size w) (.cells #[.bool g, .string t, .string ⟨#[48]⟩] 24))
  have HR0 := hide (RC.new w g t ⟨#[48]⟩ 24)
  go_enter Tryz.func36, Tryz.ntmps36
  go_wp2_with fail
  refine (HVX.out _).mono ?_
  rintro e w1 ⟨rfl, hb⟩
  have HB1 := hide (bStep HB0.out hb)
  have HR1 := hide (HR0.out.below hb)
  obtain ⟨c0, c1, c2, f0, f1, f2⟩ := HR1.out
  clear hb
  go_wp2_with fail
  refine (HVY.out _).mono ?_
  rintro e w2 ⟨rfl, hb⟩
  have HB2 := hide (bStep HB1.out hb)
  have HR2 := hide (HR1.out.below hb)
  obtain ⟨c0, c1, c2, f0, f1, f2⟩ := HR2.out
  clear hb
  go_wp2_with fail
  go_ret
  exact ⟨rfl, HB2.out⟩
set_option maxHeartbeats 2000000 in
set_option maxRecDepth 100000 in
theorem rat_valid_pos (g : Bool) (n d : Nat) (w : World) (hn : n < capN) (hd : d < capN) (h0 : 0 < d) (hn0 : 0 < n) (hw : LawW w) :
    Calls Tryz.prog 36 #[.agg #[.bool g, .string (natS n), .string (natS d)]] w fun e w' => e = .returned (.bool (decide (Nat.gcd n d = 1))) ∧ Below w.heap.size w w' := by
  have HVX : Hid (∀ W, Calls Tryz.prog 57 #[.string (natS n)] W fun e w' => e = .returned (.bool true) ∧ Below W.heap.size W w') := fun W => nat_valid n W hn
  have HVY : Hid (∀ W, Calls Tryz.prog 57 #[.string (natS d)] W fun e w' => e = .returned (.bool true) ∧ Below W.heap.size W w') := fun W => nat_valid d W hd
  have HG : Hid (∀ W, LawW W → Calls Tryz.prog 58 #[.string (natS n), .string (natS d)] W (OkPost W (Nat.gcd n d))) := fun W hW => nat_gcd n d W hn hd hW
  have hne := natS_ne_zero h0
  have hnn := natS_ne_zero hn0
  have HT : Hid (((natS (Nat.gcd n d)).toList == [49]) = decide (Nat.gcd n d = 1)) := by
    show _ = _
    by_cases e : Nat.gcd n d = 1
    · rw [decide_eq_true e]; exact str_eq (by rw [e, natS_one])
    · rw [decide_eq_false e]; exact str_ne (t := ⟨#[49]⟩) (fun h => e (natS_inj (h.trans natS_one.symm))) rfl
  obtain ⟨b1, hb1⟩ : ∃ b, decide (Nat.gcd n d = 1) = b := ⟨_, rfl⟩
  rw [hb1] at HT ⊢
  obtain ⟨t, ht⟩ : ∃ s, natS d = s := ⟨_, rfl⟩
  obtain ⟨s, hs⟩ : ∃ s, natS n = s := ⟨_, rfl⟩
  obtain ⟨u, hu⟩ : ∃ s, natS (Nat.gcd n d) = s := ⟨_, rfl⟩
  unfold OkPost at HG
  rw [hu] at HG HT
  rw [ht] at HVY hne HG ⊢
  rw [hs] at HVX hnn HG ⊢
  have hne1 : (t.toList == [48]) = false := str_ne hne (by rfl)
  have hnn1 : (s.toList == [48]) = false := str_ne hnn (by rfl)
  have ht1 := HT.out
  have HW := hide hw
  clear hd h0 hn0 hn hne hnn ht hs hu hb1 HT hw
  have HB0 := hide (bAlloc (Below.refl w.heap.size w) (.cells #[.bool g, .string s, .string t] 24))
  have HR0 := hide (RC.new w g s t 24)
  cases b1
  all_goals
    go_enter Tryz.func36, Tryz.ntmps36
    go_wp2_with fail
    refine (HVX.out _).mono ?_
    rintro e w1 ⟨rfl, hb⟩
    have HB1 := hide (bStep HB0.out hb)
    have HR1 := hide (HR0.out.below hb)
    obtain ⟨c0, c1, c2, f0, f1, f2⟩ := HR1.out
    clear hb
    go_wp2_with fail
    refine (HVY.out _).mono ?_
    rintro e w2 ⟨rfl, hb⟩
    have HB2 := hide (bStep HB1.out hb)
    have HR2 := hide (HR1.out.below hb)
    obtain ⟨c0, c1, c2, f0, f1, f2⟩ := HR2.out
    clear hb
    go_wp2_with fail
    refine (HG.out _ (HW.out.below HB2.out)).mono ?_
    rintro e w3 ⟨rfl, hb⟩
    have HB3 := hide (bStep HB2.out hb)
    clear hb
    go_wp2_with fail
    go_ret
    exact ⟨rfl, HB3.out⟩
set_option maxHeartbeats 2000000 in
set_option maxRecDepth 100000 in
theorem rat_valid_bad (g : Bool) (a b : ByteArray) (w : World) (ha : a.size ≤ maxLen) (hb : b.size ≤ maxLen) (h : bad2 a b) :
    Calls Tryz.prog 36 #[.agg #[.bool g, .string a, .string b]] w fun e w' => e = .returned (.bool false) ∧ Below w.heap.size w w' := by
  have HB0 := hide (bAlloc (Below.refl w.heap.size w) (.cells #[.bool g, .string a, .string b] 24))
  have HR0 := hide (RC.new w g a b 24)
  rcases h with h | ⟨h, h'⟩
  · have HVX : Hid (∀ W, Calls Tryz.prog 57 #[.string a] W fun e w' => e = .returned (.bool false) ∧ Below W.heap.size W w') := fun W => bad_valid a W ha h
    clear h
    go_enter Tryz.func36, Tryz.ntmps36
    go_wp2_with fail
    refine (HVX.out _).mono ?_
    rintro e w1 ⟨rfl, hb1⟩
    have HB1 := hide (bStep HB0.out hb1)
    clear hb1
    go_wp2_with fail
    go_ret
    exact ⟨rfl, HB1.out⟩
  · have HVX : Hid (∀ W, Calls Tryz.prog 57 #[.string a] W fun e w' => e = .returned (.bool true) ∧ Below W.heap.size W w') := fun W => by
      have := valid_any a W ha
      rw [h] at this; exact this
    have HVY : Hid (∀ W, Calls Tryz.prog 57 #[.string b] W fun e w' => e = .returned (.bool false) ∧ Below W.heap.size W w') := fun W => bad_valid b W hb h'
    clear h h'
    go_enter Tryz.func36, Tryz.ntmps36
    go_wp2_with fail
    refine (HVX.out _).mono ?_
    rintro e w1 ⟨rfl, hb1⟩
    have HB1 := hide (bStep HB0.out hb1)
    have HR1 := hide (HR0.out.below hb1)
    obtain ⟨c0, c1, c2, f0, f1, f2⟩ := HR1.out
    clear hb1
    go_wp2_with fail
    refine (HVY.out _).mono ?_
    rintro e w2 ⟨rfl, hb2⟩
    have HB2 := hide (bStep HB1.out hb2)
    clear hb2
    go_wp2_with fail
    go_ret
    exact ⟨rfl, HB2.out⟩
theorem rat_valid (g : Bool) (a b : ByteArray) (w : World) (ha : a.size ≤ maxLen) (hb : b.size ≤ maxLen) (hw : LawW w) :
    Calls Tryz.prog 36 #[.agg #[.bool g, .string a, .string b]] w fun e w' => e = .returned (.bool (vldR g a b)) ∧ Below w.heap.size w w' := by
  rcases good_or_bad a b with ⟨n, d, hn, hd, rfl, rfl⟩ | h
  · rw [vldR_nat hn hd]
    by_cases h0 : 0 < d
    · rw [decide_eq_true (show d ≠ 0 by omega), Bool.true_and]
      by_cases hn0 : 0 < n
      · rw [if_neg (by omega)]
        exact rat_valid_pos g n d w hn hd h0 hn0 hw
      · obtain rfl : n = 0 := by omega
        rw [if_pos rfl, natS_zero]
        exact rat_valid_zero g d w hd h0
    · obtain rfl : d = 0 := by omega
      rw [natS_zero]
      exact rat_valid_den0 g n w hn
  · rw [vldR_bad h]
    exact rat_valid_bad g a b w ha hb h
/-- A number as a value. -/
def rqV (q : Rat) : Value := .agg #[.bool (ngQ q), .string (natS (nmQ q)), .string (natS q.den)]
/-- Numbers whose parts have at most 1000 digits. -/
def FitQ (q : Rat) : Prop := nmQ q < capN ∧ q.den < capN
theorem vldR_q {q : Rat} (h : FitQ q) : vldR (ngQ q) (natS (nmQ q)) (natS q.den) = true := vldR_iff.2 ⟨q, rfl, rfl, rfl, h.1, h.2⟩
theorem rat_valid_q (q : Rat) (w : World) (h : FitQ q) (hw : LawW w) :
    Calls Tryz.prog 36 #[rqV q] w fun e w' => e = .returned (.bool true) ∧ Below w.heap.size w w' := by
  have := rat_valid (ngQ q) (natS (nmQ q)) (natS q.den) w (natS_max h.1) (natS_max h.2) hw
  rw [vldR_q h] at this
  exact this
end Go.Proofs.YtbojlmnajndleaaGreatDoor
