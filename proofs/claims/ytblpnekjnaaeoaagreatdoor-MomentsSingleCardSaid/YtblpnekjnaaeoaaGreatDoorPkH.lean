/- RaA, RaB, RaC in one text. -/
import Derived.Test.YtblpnekjnaaeoaaGreatDoorPkG
import Derived.Test.YtblpnekjnaaeoaaGreatDoorPkF
import Derived.BigGuard
set_option linter.unusedVariables false
set_option linter.unusedSimpArgs false
namespace Go.Proofs.YtblpnekjnaaeoaaGreatDoor
open Go.RowKit

def s0 : ByteArray := ⟨#[48]⟩
def s1 : ByteArray := ⟨#[49]⟩
theorem natS_one : natS 1 = ⟨#[49]⟩ := by unfold natS; rw [dec_small (by omega)]; rfl
/-- Whether a value of the struct is a number in lowest terms. -/
def vldR (g : Bool) (s t : ByteArray) : Bool := vldN s && vldN t && (decide (nval t.data.toList ≠ 0)) && (if nval s.data.toList = 0 then (!g && decide (nval t.data.toList = 1)) else decide (Nat.gcd (nval s.data.toList) (nval t.data.toList) = 1))
theorem vldR_bad {g : Bool} {s t : ByteArray} (h : bad2 s t) : vldR g s t = false := by
  unfold vldR
  rcases h with h | ⟨_, h⟩
  · rw [h]; rfl
  · rw [h]; simp
theorem vldR_nat {g : Bool} {n d : Nat} (hn : n < capN) (hd : d < capN) : vldR g (natS n) (natS d) = (decide (d ≠ 0) && (if n = 0 then (!g && decide (d = 1)) else decide (Nat.gcd n d = 1))) := by
  unfold vldR
  rw [natS_vldN.2 hn, natS_vldN.2 hd, natS_toList, natS_toList, nval_dec, nval_dec]
  simp
theorem vldR_iff {g : Bool} {s t : ByteArray} : vldR g s t = true ↔ ∃ q : Rat, g = ngQ q ∧ s = natS (nmQ q) ∧ t = natS q.den ∧ nmQ q < capN ∧ q.den < capN := by
  constructor
  · intro h
    have h1 : vldN s = true := by unfold vldR at h; simp only [Bool.and_eq_true] at h; exact h.1.1.1
    have h2 : vldN t = true := by unfold vldR at h; simp only [Bool.and_eq_true] at h; exact h.1.1.2
    obtain ⟨n, hn, rfl⟩ := vldN_obtain h1
    obtain ⟨d, hd, rfl⟩ := vldN_obtain h2
    rw [vldR_nat hn hd] at h
    simp only [Bool.and_eq_true, decide_eq_true_eq] at h
    obtain ⟨hd0, h3⟩ := h
    have hl : LowQ g n d := by
      refine ⟨by omega, ?_, fun e => ?_⟩
      · by_cases e : n = 0
        · rw [if_pos e] at h3
          simp only [Bool.and_eq_true, decide_eq_true_eq] at h3
          rw [e, h3.2]; rfl
        · rw [if_neg e] at h3
          simpa using h3
      · rw [if_pos e] at h3
        simp only [Bool.and_eq_true, Bool.not_eq_true', decide_eq_true_eq] at h3
        exact h3.1
    obtain ⟨q, rfl, rfl, rfl⟩ := low_eq hl
    exact ⟨q, rfl, rfl, rfl, hn, hd⟩
  · rintro ⟨q, rfl, rfl, rfl, hn, hd⟩
    rw [vldR_nat hn hd]
    have h1 := den_pos q
    have h2 := red q
    simp only [Bool.and_eq_true, decide_eq_true_eq]
    refine ⟨by omega, ?_⟩
    by_cases e : nmQ q = 0
    · rw [if_pos e]
      rw [e, Nat.gcd_zero_left] at h2
      rw [h2, nmQ_zero.1 e]; decide
    · rw [if_neg e]; exact decide_eq_true h2
theorem natS_max {x : Nat} (h : x < capN) : (natS x).size ≤ maxLen := by
  have := capN_len.2 h
  rw [natS_size]; unfold maxLen; omega
/-- A number in a variable. -/
structure RC (w : World) (b : Nat) (g : Bool) (s t : ByteArray) : Prop where
  c0 : w.cell? ⟨b, 0, none⟩ = some (.bool g)
  c1 : w.cell? ⟨b, 1, none⟩ = some (.string s)
  c2 : w.cell? ⟨b, 2, none⟩ = some (.string t)
  f0 : w.frozen? ⟨b, 0, none⟩ = false
  f1 : w.frozen? ⟨b, 1, none⟩ = false
  f2 : w.frozen? ⟨b, 2, none⟩ = false
theorem RC.lt {w : World} {b : Nat} {g : Bool} {s t : ByteArray} (h : RC w b g s t) : b < w.heap.size := World.block_lt_of_cell? _ _ h.c0
theorem RC.below {w w' : World} {b : Nat} {g : Bool} {s t : ByteArray} (h : RC w b g s t) (hb : Below w.heap.size w w') : RC w' b g s t :=
  ⟨keep_cell hb h.c0, keep_cell hb h.c1, keep_cell hb h.c2, (hb.frozen (p := ⟨b, 0, none⟩) h.lt).trans h.f0, (hb.frozen (p := ⟨b, 1, none⟩) h.lt).trans h.f1, (hb.frozen (p := ⟨b, 2, none⟩) h.lt).trans h.f2⟩
theorem RC.new (w : World) (g : Bool) (s t : ByteArray) (T : TypeId) : RC (w.alloc (.cells #[.bool g, .string s, .string t] T)) w.heap.size g s t :=
  ⟨by simp [go_sem], by simp [go_sem], by simp [go_sem], by simp [go_sem], by simp [go_sem], by simp [go_sem]⟩
set_option maxHeartbeats 2000000 in
set_option maxRecDepth 100000 in
theorem rat_valid_zero (g : Bool) (d : Nat) (w : World) (hd : d < capN) (h0 : 0 < d) :
    Calls Tryz.prog 47 #[.agg #[.bool g, .string ⟨#[48]⟩, .string (natS d)]] w fun e w' => e = .returned (.bool (!g && decide (d = 1))) ∧ Below w.heap.size w w' := by
  have HVX : Hid (∀ W, Calls Tryz.prog 75 #[.string ⟨#[48]⟩] W fun e w' => e = .returned (.bool true) ∧ Below W.heap.size W w') := fun W => by
    have := nat_valid 0 W capN_pos
    rw [natS_zero] at this
    exact this
  have HVY : Hid (∀ W, Calls Tryz.prog 75 #[.string (natS d)] W fun e w' => e = .returned (.bool true) ∧ Below W.heap.size W w') := fun W => nat_valid d W hd
  have hne := natS_ne_zero h0
  have HT : Hid (((natS d).toList == [49]) = decide (d = 1)) := by
    show _ = _
    by_cases e : d = 1
    · rw [e, decide_eq_true rfl]; exact str_eq (by rw [natS_one])
    · rw [decide_eq_false e]; exact str_ne (t := ⟨#[49]⟩) (fun h => e (natS_inj (h.trans natS_one.symm))) rfl
  obtain ⟨t, ht⟩ : ∃ s, natS d = s := ⟨_, rfl⟩
  rw [ht] at HVY hne HT ⊢
  have hne1 : (t.toList == [48]) = false := str_ne hne (by rfl)
  clear hd h0 hne ht
  obtain ⟨b1, hb1⟩ : ∃ b, decide (d = 1) = b := ⟨_, rfl⟩
  rw [hb1] at HT ⊢
  have ht1 := HT.out
  clear hb1 HT
  have HB0 := hide (bAlloc (Below.refl w.heap.size w) (.cells #[.bool g, .string ⟨#[48]⟩, .string t] 29))
  have HR0 := hide (RC.new w g ⟨#[48]⟩ t 29)
  cases b1 <;> cases g
  all_goals
    go_enter Tryz.func47, Tryz.ntmps47
    go_wp2_with fail
    refine (HVX.out _).mono ?_
    rintro e w1 ⟨rfl, hb⟩
    have HB1 := hide (bStep HB0.out hb)
    have HR1 := hide (HR0.out.below hb)
    obtain ⟨c0, c1, c2, f0, f1, f2⟩ := HR1.out
    clear hb
    go_wp2_with fail
    refine (HVY.out _).mono ?_
    rintro e w2 ⟨rfl, hb⟩
    have HB2 := hide (bStep HB1.out hb)
    have HR2 := hide (HR1.out.below hb)
    obtain ⟨c0, c1, c2, f0, f1, f2⟩ := HR2.out
    clear hb
    go_wp2_with fail
    go_ret
    exact ⟨rfl, HB2.out⟩
set_option maxHeartbeats 2000000 in
set_option maxRecDepth 100000 in
theorem rat_valid_den0 (g : Bool) (n : Nat) (w : World) (hn : n < capN) :
    Calls Tryz.prog 47 #[.agg #[.bool g, .string (natS n), .string ⟨#[48]⟩]] w fun e w' => e = .returned (.bool false) ∧ Below w.heap.size w w' := by
  have HVX : Hid (∀ W, Calls Tryz.prog 75 #[.string (natS n)] W fun e w' => e = .returned (.bool true) ∧ Below W.heap.size W w') := fun W => nat_valid n W hn
  have HVY : Hid (∀ W, Calls Tryz.prog 75 #[.string ⟨#[48]⟩] W fun e w' => e = .returned (.bool true) ∧ Below W.heap.size W w') := fun W => by
    have := nat_valid 0 W capN_pos
    rw [natS_zero] at this
    exact this
  obtain ⟨t, ht⟩ : ∃ s, natS n = s := ⟨_, rfl⟩
  rw [ht] at HVX ⊢
  clear hn ht
  have HB0 := hide (bAlloc (Below.refl w.heap.size w) (.cells #[.bool g, .string t, .string ⟨#[48]⟩] 29))
  have HR0 := hide (RC.new w g t ⟨#[48]⟩ 29)
  go_enter Tryz.func47, Tryz.ntmps47
  go_wp2_with fail
  refine (HVX.out _).mono ?_
  rintro e w1 ⟨rfl, hb⟩
  have HB1 := hide (bStep HB0.out hb)
  have HR1 := hide (HR0.out.below hb)
  obtain ⟨c0, c1, c2, f0, f1, f2⟩ := HR1.out
  clear hb
  go_wp2_with fail
  refine (HVY.out _).mono ?_
  rintro e w2 ⟨rfl, hb⟩
  have HB2 := hide (bStep HB1.out hb)
  have HR2 := hide (HR1.out.below hb)
  obtain ⟨c0, c1, c2, f0, f1, f2⟩ := HR2.out
  clear hb
  go_wp2_with fail
  go_ret
  exact ⟨rfl, HB2.out⟩
set_option maxHeartbeats 2000000 in
set_option maxRecDepth 100000 in
theorem rat_valid_pos (g : Bool) (n d : Nat) (w : World) (hn : n < capN) (hd : d < capN) (h0 : 0 < d) (hn0 : 0 < n) (hw : LawW w) :
    Calls Tryz.prog 47 #[.agg #[.bool g, .string (natS n), .string (natS d)]] w fun e w' => e = .returned (.bool (decide (Nat.gcd n d = 1))) ∧ Below w.heap.size w w' := by
  have HVX : Hid (∀ W, Calls Tryz.prog 75 #[.string (natS n)] W fun e w' => e = .returned (.bool true) ∧ Below W.heap.size W w') := fun W => nat_valid n W hn
  have HVY : Hid (∀ W, Calls Tryz.prog 75 #[.string (natS d)] W fun e w' => e = .returned (.bool true) ∧ Below W.heap.size W w') := fun W => nat_valid d W hd
  have HG : Hid (∀ W, LawW W → Calls Tryz.prog 76 #[.string (natS n), .string (natS d)] W (OkPost W (Nat.gcd n d))) := fun W hW => nat_gcd n d W hn hd hW
  have hne := natS_ne_zero h0
  have hnn := natS_ne_zero hn0
  have HT : Hid (((natS (Nat.gcd n d)).toList == [49]) = decide (Nat.gcd n d = 1)) := by
    show _ = _
    by_cases e : Nat.gcd n d = 1
    · rw [decide_eq_true e]; exact str_eq (by rw [e, natS_one])
    · rw [decide_eq_false e]; exact str_ne (t := ⟨#[49]⟩) (fun h => e (natS_inj (h.trans natS_one.symm))) rfl
  obtain ⟨b1, hb1⟩ : ∃ b, decide (Nat.gcd n d = 1) = b := ⟨_, rfl⟩
  rw [hb1] at HT ⊢
  obtain ⟨t, ht⟩ : ∃ s, natS d = s := ⟨_, rfl⟩
  obtain ⟨s, hs⟩ : ∃ s, natS n = s := ⟨_, rfl⟩
  obtain ⟨u, hu⟩ : ∃ s, natS (Nat.gcd n d) = s := ⟨_, rfl⟩
  unfold OkPost at HG
  rw [hu] at HG HT
  rw [ht] at HVY hne HG ⊢
  rw [hs] at HVX hnn HG ⊢
  have hne1 : (t.toList == [48]) = false := str_ne hne (by rfl)
  have hnn1 : (s.toList == [48]) = false := str_ne hnn (by rfl)
  have ht1 := HT.out
  have HW := hide hw
  clear hd h0 hn0 hn hne hnn ht hs hu hb1 HT hw
  have HB0 := hide (bAlloc (Below.refl w.heap.size w) (.cells #[.bool g, .string s, .string t] 29))
  have HR0 := hide (RC.new w g s t 29)
  cases b1
  all_goals
    go_enter Tryz.func47, Tryz.ntmps47
    go_wp2_with fail
    refine (HVX.out _).mono ?_
    rintro e w1 ⟨rfl, hb⟩
    have HB1 := hide (bStep HB0.out hb)
    have HR1 := hide (HR0.out.below hb)
    obtain ⟨c0, c1, c2, f0, f1, f2⟩ := HR1.out
    clear hb
    go_wp2_with fail
    refine (HVY.out _).mono ?_
    rintro e w2 ⟨rfl, hb⟩
    have HB2 := hide (bStep HB1.out hb)
    have HR2 := hide (HR1.out.below hb)
    obtain ⟨c0, c1, c2, f0, f1, f2⟩ := HR2.out
    clear hb
    go_wp2_with fail
    refine (HG.out _ (HW.out.below HB2.out)).mono ?_
    rintro e w3 ⟨rfl, hb⟩
    have HB3 := hide (bStep HB2.out hb)
    clear hb
    go_wp2_with fail
    go_ret
    exact ⟨rfl, HB3.out⟩
set_option maxHeartbeats 2000000 in
set_option maxRecDepth 100000 in
theorem rat_valid_bad (g : Bool) (a b : ByteArray) (w : World) (ha : a.size ≤ maxLen) (hb : b.size ≤ maxLen) (h : bad2 a b) :
    Calls Tryz.prog 47 #[.agg #[.bool g, .string a, .string b]] w fun e w' => e = .returned (.bool false) ∧ Below w.heap.size w w' := by
  have HB0 := hide (bAlloc (Below.refl w.heap.size w) (.cells #[.bool g, .string a, .string b] 29))
  have HR0 := hide (RC.new w g a b 29)
  rcases h with h | ⟨h, h'⟩
  · have HVX : Hid (∀ W, Calls Tryz.prog 75 #[.string a] W fun e w' => e = .returned (.bool false) ∧ Below W.heap.size W w') := fun W => bad_valid a W ha h
    clear h
    go_enter Tryz.func47, Tryz.ntmps47
    go_wp2_with fail
    refine (HVX.out _).mono ?_
    rintro e w1 ⟨rfl, hb1⟩
    have HB1 := hide (bStep HB0.out hb1)
    clear hb1
    go_wp2_with fail
    go_ret
    exact ⟨rfl, HB1.out⟩
  · have HVX : Hid (∀ W, Calls Tryz.prog 75 #[.string a] W fun e w' => e = .returned (.bool true) ∧ Below W.heap.size W w') := fun W => by
      have := valid_any a W ha
      rw [h] at this; exact this
    have HVY : Hid (∀ W, Calls Tryz.prog 75 #[.string b] W fun e w' => e = .returned (.bool false) ∧ Below W.heap.size W w') := fun W => bad_valid b W hb h'
    clear h h'
    go_enter Tryz.func47, Tryz.ntmps47
    go_wp2_with fail
    refine (HVX.out _).mono ?_
    rintro e w1 ⟨rfl, hb1⟩
    have HB1 := hide (bStep HB0.out hb1)
    have HR1 := hide (HR0.out.below hb1)
    obtain ⟨c0, c1, c2, f0, f1, f2⟩ := HR1.out
    clear hb1
    go_wp2_with fail
    refine (HVY.out _).mono ?_
    rintro e w2 ⟨rfl, hb2⟩
    have HB2 := hide (bStep HB1.out hb2)
    clear hb2
    go_wp2_with fail
    go_ret
    exact ⟨rfl, HB2.out⟩
theorem rat_valid (g : Bool) (a b : ByteArray) (w : World) (ha : a.size ≤ maxLen) (hb : b.size ≤ maxLen) (hw : LawW w) :
    Calls Tryz.prog 47 #[.agg #[.bool g, .string a, .string b]] w fun e w' => e = .returned (.bool (vldR g a b)) ∧ Below w.heap.size w w' := by
  rcases good_or_bad a b with ⟨n, d, hn, hd, rfl, rfl⟩ | h
  · rw [vldR_nat hn hd]
    by_cases h0 : 0 < d
    · rw [decide_eq_true (show d ≠ 0 by omega), Bool.true_and]
      by_cases hn0 : 0 < n
      · rw [if_neg (by omega)]
        exact rat_valid_pos g n d w hn hd h0 hn0 hw
      · obtain rfl : n = 0 := by omega
        rw [if_pos rfl, natS_zero]
        exact rat_valid_zero g d w hd h0
    · obtain rfl : d = 0 := by omega
      rw [natS_zero]
      exact rat_valid_den0 g n w hn
  · rw [vldR_bad h]
    exact rat_valid_bad g a b w ha hb h
/-- A number as a value. -/
def rqV (q : Rat) : Value := .agg #[.bool (ngQ q), .string (natS (nmQ q)), .string (natS q.den)]
/-- Numbers whose parts have at most 1000 digits. -/
def FitQ (q : Rat) : Prop := nmQ q < capN ∧ q.den < capN
theorem vldR_q {q : Rat} (h : FitQ q) : vldR (ngQ q) (natS (nmQ q)) (natS q.den) = true := vldR_iff.2 ⟨q, rfl, rfl, rfl, h.1, h.2⟩
theorem rat_valid_q (q : Rat) (w : World) (h : FitQ q) (hw : LawW w) :
    Calls Tryz.prog 47 #[rqV q] w fun e w' => e = .returned (.bool true) ∧ Below w.heap.size w w' := by
  have := rat_valid (ngQ q) (natS (nmQ q)) (natS q.den) w (natS_max h.1) (natS_max h.2) hw
  rw [vldR_q h] at this
  exact this
end Go.Proofs.YtblpnekjnaaeoaaGreatDoor
namespace Go.Proofs.YtblpnekjnaaeoaaGreatDoor
open Go.RowKit

/-- The zero value of the struct. -/
def zV : Value := .agg #[.bool false, .string ⟨#[]⟩, .string ⟨#[]⟩]
theorem mkQ_low_eq {g : Bool} {n d : Nat} (h : LowQ g n d) : rqV (mkQ g n d) = .agg #[.bool g, .string (natS n), .string (natS d)] := by
  obtain ⟨a, b, c⟩ := mkQ_low h
  unfold rqV; rw [a, b, c]
theorem rqV_zero : rqV 0 = .agg #[.bool false, .string ⟨#[48]⟩, .string ⟨#[49]⟩] := by
  unfold rqV
  rw [ngQ_zero, show nmQ 0 = 0 from nmQ_zero.2 rfl, den_zero, natS_zero, natS_one]
theorem RC.set3 {w : World} {b : Nat} {g : Bool} {s t : ByteArray} (h : RC w b g s t) (g' : Bool) (s' t' : ByteArray) :
    RC (((w.setCell ⟨b, 0, none⟩ (.bool g')).setCell ⟨b, 1, none⟩ (.string s')).setCell ⟨b, 2, none⟩ (.string t')) b g' s' t' := by
  have n01 : (⟨b, 0, none⟩ : Addr) ≠ ⟨b, 1, none⟩ := by intro e; injection e with _ e; omega
  have n02 : (⟨b, 0, none⟩ : Addr) ≠ ⟨b, 2, none⟩ := by intro e; injection e with _ e; omega
  have n12 : (⟨b, 1, none⟩ : Addr) ≠ ⟨b, 2, none⟩ := by intro e; injection e with _ e; omega
  have x1 := World.cell?_setCell_other w ⟨b, 0, none⟩ ⟨b, 1, none⟩ (.bool g') n01
  have x2 := World.cell?_setCell_other w ⟨b, 0, none⟩ ⟨b, 2, none⟩ (.bool g') n02
  have x3 := World.cell?_setCell_other (w.setCell ⟨b, 0, none⟩ (.bool g')) ⟨b, 1, none⟩ ⟨b, 2, none⟩ (.string s') n12
  refine ⟨?_, ?_, ?_, ?_, ?_, ?_⟩
  · rw [World.cell?_setCell_other _ _ _ _ n02.symm, World.cell?_setCell_other _ _ _ _ n01.symm]
    exact World.cell?_setCell_same _ _ _ h.c0
  · rw [World.cell?_setCell_other _ _ _ _ n12.symm]
    exact World.cell?_setCell_same _ _ _ (x1.trans h.c1)
  · exact World.cell?_setCell_same _ _ _ (x3.trans (x2.trans h.c2))
  · simp only [World.frozen?_setCell]; exact h.f0
  · simp only [World.frozen?_setCell]; exact h.f1
  · simp only [World.frozen?_setCell]; exact h.f2
theorem bset3 {w0 w : World} {b : Nat} (h : Below w0.heap.size w0 w) (hb : w0.heap.size ≤ b) (x y z : Value) : Below w0.heap.size w0 (((w.setCell ⟨b, 0, none⟩ x).setCell ⟨b, 1, none⟩ y).setCell ⟨b, 2, none⟩ z) :=
  ((h.setCell (p := ⟨b, 0, none⟩) hb x).setCell (p := ⟨b, 1, none⟩) hb y).setCell (p := ⟨b, 2, none⟩) hb z
set_option maxHeartbeats 2000000 in
set_option maxRecDepth 100000 in
theorem rat_lowest0 (g : Bool) (t : ByteArray) (w : World) :
    Calls Tryz.prog 62 #[.bool g, .string ⟨#[48]⟩, .string t] w fun e w' => e = .returned (rqV 0) ∧ Below w.heap.size w w' := by
  rw [rqV_zero]
  go_enter Tryz.func62, Tryz.ntmps62
  go_wp2_with fail
  exact bodyPost_ret (v := .agg #[.bool false, .string ⟨#[48]⟩, .string ⟨#[49]⟩]) (by simp [results, Tryz.results62, go_sem]) rfl ⟨rfl, (Below.refl _ _).alloc (Nat.le_refl _) _⟩
set_option maxHeartbeats 2000000 in
set_option maxRecDepth 100000 in
theorem rat_lowest1 (g : Bool) (n d : Nat) (w : World) (hn : n < capN) (hd : d < capN) (hn0 : 0 < n) (hd0 : 0 < d) (hw : LawW w) :
    Calls Tryz.prog 62 #[.bool g, .string (natS n), .string (natS d)] w fun e w' => e = .returned (rqV (mkQ g n d)) ∧ Below w.heap.size w w' := by
  obtain ⟨hl, hv⟩ := lowest_eq (g := g) hd0 hn0
  rw [← hv, mkQ_low_eq hl]
  have hg0 : 0 < Nat.gcd n d := Nat.gcd_pos_of_pos_left _ hn0
  have HG : Hid (∀ W, LawW W → Calls Tryz.prog 76 #[.string (natS n), .string (natS d)] W fun e w' => e = .returned (.tuple #[.string (natS (Nat.gcd n d)), .int .i64 0]) ∧ Below W.heap.size W w') := fun W hW => nat_gcd n d W hn hd hW
  have HD1 : Hid (∀ W, LawW W → Calls Tryz.prog 57 #[.string (natS n), .string (natS (Nat.gcd n d))] W fun e w' => e = .returned (.tuple #[.string (natS (n / Nat.gcd n d)), .string (natS (n % Nat.gcd n d)), .int .i64 0]) ∧ Below W.heap.size W w') := fun W hW => nat_div n _ W hn (gcd_cap hn hd) hg0 hW
  have HD2 : Hid (∀ W, LawW W → Calls Tryz.prog 57 #[.string (natS d), .string (natS (Nat.gcd n d))] W fun e w' => e = .returned (.tuple #[.string (natS (d / Nat.gcd n d)), .string (natS (d % Nat.gcd n d)), .int .i64 0]) ∧ Below W.heap.size W w') := fun W hW => nat_div d _ W hd (gcd_cap hn hd) hg0 hW
  have hnn := natS_ne_zero hn0
  have HW := hide hw
  obtain ⟨s, hs⟩ : ∃ s, natS n = s := ⟨_, rfl⟩
  obtain ⟨t, ht⟩ : ∃ s, natS d = s := ⟨_, rfl⟩
  obtain ⟨u, hu⟩ : ∃ s, natS (Nat.gcd n d) = s := ⟨_, rfl⟩
  obtain ⟨s', hs'⟩ : ∃ s, natS (n / Nat.gcd n d) = s := ⟨_, rfl⟩
  obtain ⟨t', ht'⟩ : ∃ s, natS (d / Nat.gcd n d) = s := ⟨_, rfl⟩
  obtain ⟨r1, hr1⟩ : ∃ s, natS (n % Nat.gcd n d) = s := ⟨_, rfl⟩
  obtain ⟨r2, hr2⟩ : ∃ s, natS (d % Nat.gcd n d) = s := ⟨_, rfl⟩
  rw [hs, ht, hu] at HG
  rw [hs, hu, hs', hr1] at HD1
  rw [ht, hu, ht', hr2] at HD2
  rw [hs] at hnn
  rw [hs, ht, hs', ht']
  have hnn1 : (s.toList == [48]) = false := str_ne hnn (by rfl)
  clear hn hd hn0 hd0 hl hv hg0 hnn hs ht hu hs' ht' hr1 hr2 hw
  have HB0 := hide (bAlloc (Below.refl w.heap.size w) (.cells #[.bool false, .string ⟨#[]⟩, .string ⟨#[]⟩] 29))
  have HR0 := hide (RC.new w false ⟨#[]⟩ ⟨#[]⟩ 29)
  go_enter Tryz.func62, Tryz.ntmps62
  go_wp2_with fail
  refine (HG.out _ (HW.out.below HB0.out)).mono ?_
  rintro e w1 ⟨rfl, hb⟩
  have HB1 := hide (bStep HB0.out hb)
  have HR1 := hide (HR0.out.below hb)
  clear hb
  go_wp2_with fail
  refine (HD1.out _ (HW.out.below HB1.out)).mono ?_
  rintro e w2 ⟨rfl, hb⟩
  have HB2 := hide (bStep HB1.out hb)
  have HR2 := hide (HR1.out.below hb)
  clear hb
  go_wp2_with fail
  refine (HD2.out _ (HW.out.below HB2.out)).mono ?_
  rintro e w3 ⟨rfl, hb⟩
  have HB3 := hide (bStep HB2.out hb)
  have HR3 := hide (HR2.out.below hb)
  obtain ⟨c0, c1, c2, f0, f1, f2⟩ := HR3.out
  clear hb
  go_wp2_with fail
  obtain ⟨d0, d1, d2, _, _, _⟩ := HR3.out.set3 g s' t'
  exact bodyPost_ret (v := .agg #[.bool g, .string s', .string t']) (by simp [results, Tryz.results62, go_sem, d0, d1, d2]) rfl ⟨rfl, bset3 HB3.out (Nat.le_refl _) _ _ _⟩
theorem rat_lowest (g : Bool) (n d : Nat) (w : World) (hn : n < capN) (hd : d < capN) (hd0 : 0 < d) (hw : LawW w) :
    Calls Tryz.prog 62 #[.bool g, .string (natS n), .string (natS d)] w fun e w' => e = .returned (rqV (mkQ g n d)) ∧ Below w.heap.size w w' := by
  by_cases h : 0 < n
  · exact rat_lowest1 g n d w hn hd h hd0 hw
  · obtain rfl : n = 0 := by omega
    rw [natS_zero, mkQ_zero]
    exact rat_lowest0 g _ w
/-- A result with an error, and one without. -/
def RqPost (w : World) (q : Rat) (e : Ending) (w' : World) : Prop := e = .returned (.tuple #[rqV q, .int .i64 0]) ∧ Below w.heap.size w w'
def ReqPost (w : World) (k : Int) (e : Ending) (w' : World) : Prop := e = .returned (.tuple #[zV, .int .i64 k]) ∧ Below w.heap.size w w'
set_option maxHeartbeats 2000000 in
set_option maxRecDepth 100000 in
theorem rat_Make (g : Bool) (n d : Nat) (w : World) (hn : n < capN) (hd : d < capN) (hd0 : 0 < d) (hw : LawW w) :
    Calls Tryz.prog 82 #[.bool g, .string (natS n), .string (natS d)] w (RqPost w (mkQ g n d)) := by
  have HVX : Hid (∀ W, Calls Tryz.prog 75 #[.string (natS n)] W fun e w' => e = .returned (.bool true) ∧ Below W.heap.size W w') := fun W => nat_valid n W hn
  have HVY : Hid (∀ W, Calls Tryz.prog 75 #[.string (natS d)] W fun e w' => e = .returned (.bool true) ∧ Below W.heap.size W w') := fun W => nat_valid d W hd
  have HL : Hid (∀ W, LawW W → Calls Tryz.prog 62 #[.bool g, .string (natS n), .string (natS d)] W fun e w' => e = .returned (rqV (mkQ g n d)) ∧ Below W.heap.size W w') := fun W hW => rat_lowest g n d W hn hd hd0 hW
  have hne := natS_ne_zero hd0
  have HW := hide hw
  unfold RqPost
  obtain ⟨q, hq⟩ : ∃ q, mkQ g n d = q := ⟨_, rfl⟩
  rw [hq] at HL ⊢
  unfold rqV at HL ⊢
  obtain ⟨g', hg'⟩ : ∃ s, ngQ q = s := ⟨_, rfl⟩
  obtain ⟨s', hs'⟩ : ∃ s, natS (nmQ q) = s := ⟨_, rfl⟩
  obtain ⟨t', ht'⟩ : ∃ s, natS q.den = s := ⟨_, rfl⟩
  rw [hg', hs', ht'] at HL ⊢
  obtain ⟨s, hs⟩ : ∃ s, natS n = s := ⟨_, rfl⟩
  obtain ⟨t, ht⟩ : ∃ s, natS d = s := ⟨_, rfl⟩
  rw [hs] at HVX HL ⊢
  rw [ht] at HVY HL hne ⊢
  have hne1 : (t.toList == [48]) = false := str_ne hne (by rfl)
  clear hn hd hd0 hne hs ht hs' ht' hg' hq hw
  have HB0 := hide (bAlloc (Below.refl w.heap.size w) (.cells #[.bool false, .string ⟨#[]⟩, .string ⟨#[]⟩] 29))
  have HR0 := hide (RC.new w false ⟨#[]⟩ ⟨#[]⟩ 29)
  go_enter Tryz.func82, Tryz.ntmps82
  go_wp2_with fail
  refine (HVX.out _).mono ?_
  rintro e w1 ⟨rfl, hb⟩
  have HB1 := hide (bStep HB0.out hb)
  have HR1 := hide (HR0.out.below hb)
  clear hb
  go_wp2_with fail
  refine (HVY.out _).mono ?_
  rintro e w2 ⟨rfl, hb⟩
  have HB2 := hide (bStep HB1.out hb)
  have HR2 := hide (HR1.out.below hb)
  clear hb
  go_wp2_with fail
  refine (HL.out _ (HW.out.below HB2.out)).mono ?_
  rintro e w3 ⟨rfl, hb⟩
  have HB3 := hide (bStep HB2.out hb)
  have HR3 := hide (HR2.out.below hb)
  obtain ⟨c0, c1, c2, f0, f1, f2⟩ := HR3.out
  clear hb
  go_wp2_with fail
  obtain ⟨d0, d1, d2, _, _, _⟩ := HR3.out.set3 g' s' t'
  exact bodyPost_ret (v := .tuple #[.agg #[.bool g', .string s', .string t'], .int .i64 0]) (by simp [results, Tryz.results82, go_sem, d0, d1, d2]) rfl ⟨rfl, bset3 HB3.out (Nat.le_refl _) _ _ _⟩
set_option maxHeartbeats 2000000 in
set_option maxRecDepth 100000 in
theorem rat_Make_zero (g : Bool) (n : Nat) (w : World) (hn : n < capN) :
    Calls Tryz.prog 82 #[.bool g, .string (natS n), .string ⟨#[48]⟩] w (ReqPost w 14) := by
  have HVX : Hid (∀ W, Calls Tryz.prog 75 #[.string (natS n)] W fun e w' => e = .returned (.bool true) ∧ Below W.heap.size W w') := fun W => nat_valid n W hn
  have HVY : Hid (∀ W, Calls Tryz.prog 75 #[.string ⟨#[48]⟩] W fun e w' => e = .returned (.bool true) ∧ Below W.heap.size W w') := fun W => by
    have := nat_valid 0 W capN_pos
    rw [natS_zero] at this
    exact this
  obtain ⟨s, hs⟩ : ∃ s, natS n = s := ⟨_, rfl⟩
  rw [hs] at HVX ⊢
  unfold ReqPost zV
  clear hn hs
  have HB0 := hide (bAlloc (Below.refl w.heap.size w) (.cells #[.bool false, .string ⟨#[]⟩, .string ⟨#[]⟩] 29))
  have HR0 := hide (RC.new w false ⟨#[]⟩ ⟨#[]⟩ 29)
  go_enter Tryz.func82, Tryz.ntmps82
  go_wp2_with fail
  refine (HVX.out _).mono ?_
  rintro e w1 ⟨rfl, hb⟩
  have HB1 := hide (bStep HB0.out hb)
  have HR1 := hide (HR0.out.below hb)
  clear hb
  go_wp2_with fail
  refine (HVY.out _).mono ?_
  rintro e w2 ⟨rfl, hb⟩
  have HB2 := hide (bStep HB1.out hb)
  have HR2 := hide (HR1.out.below hb)
  obtain ⟨c0, c1, c2, f0, f1, f2⟩ := HR2.out
  clear hb
  go_wp2_with fail
  obtain ⟨d0, d1, d2, _, _, _⟩ := HR2.out.set3 false ⟨#[]⟩ ⟨#[]⟩
  exact bodyPost_ret (v := .tuple #[.agg #[.bool false, .string ⟨#[]⟩, .string ⟨#[]⟩], .int .i64 14]) (by simp [results, Tryz.results82, go_sem, d0, d1, d2]) rfl ⟨rfl, bset3 HB2.out (Nat.le_refl _) _ _ _⟩
set_option maxHeartbeats 2000000 in
set_option maxRecDepth 100000 in
theorem rat_minus (q : Rat) (w : World) :
    Calls Tryz.prog 56 #[rqV q] w fun e w' => e = .returned (rqV (-q)) ∧ Below w.heap.size w w' := by
  obtain ⟨e1, e2, e3⟩ := neg_parts q
  unfold rqV
  rw [e1, e2, e3]
  have hz : ((natS (nmQ q)).toList == [48]) = !decide (nmQ q ≠ 0) := by
    by_cases h : nmQ q = 0
    · rw [decide_eq_false (by simp [h])]; exact str_eq (by rw [h, natS_zero])
    · rw [decide_eq_true h]; exact str_ne (natS_ne_zero (by omega)) (by rfl)
  obtain ⟨g, hg⟩ : ∃ s, ngQ q = s := ⟨_, rfl⟩
  obtain ⟨s, hs⟩ : ∃ s, natS (nmQ q) = s := ⟨_, rfl⟩
  obtain ⟨t, ht⟩ : ∃ s, natS q.den = s := ⟨_, rfl⟩
  obtain ⟨z, hzz⟩ : ∃ z, decide (nmQ q ≠ 0) = z := ⟨_, rfl⟩
  rw [hs, hzz] at hz
  rw [hg, hs, ht, hzz]
  clear e1 e2 e3 hg hs ht hzz
  cases g <;> cases z
  all_goals
    simp only [Bool.not_false, Bool.not_true] at hz
    go_enter Tryz.func56, Tryz.ntmps56
    go_wp2_with fail
    exact bodyPost_ret (v := .agg #[_, .string s, .string t]) (by simp [results, Tryz.results56, go_sem]) rfl ⟨rfl, ((Below.refl _ _).alloc (Nat.le_refl _) _).alloc (by simp) _⟩
end Go.Proofs.YtblpnekjnaaeoaaGreatDoor
namespace Go.Proofs.YtblpnekjnaaeoaaGreatDoor
open Go.RowKit

/-- What a product or a sum of naturals leaves, and its error. -/
def msS (n : Nat) : ByteArray := if n < capN then natS n else ⟨#[]⟩
def msE (n : Nat) : Int := if n < capN then 0 else 2
theorem msS_ok {n : Nat} (h : n < capN) : msS n = natS n := if_pos h
theorem msE_ok {n : Nat} (h : n < capN) : msE n = 0 := if_pos h
theorem msE_bad {n : Nat} (h : ¬ n < capN) : msE n = 2 := if_neg h
theorem TextPost.ms {w w' : World} {n : Nat} {e : Ending} (h : TextPost w n e w') : e = .returned (.tuple #[.string (msS n), .int .i64 (msE n)]) ∧ Below w.heap.size w w' := by
  obtain ⟨hb, ⟨h1, he⟩ | ⟨h1, he⟩⟩ := h
  · rw [msS_ok h1, msE_ok h1]; exact ⟨he, hb⟩
  · unfold msS msE; rw [if_neg h1, if_neg h1]; exact ⟨he, hb⟩
/-- The first error. -/
def er2 (er k : Int) : Int := if er = 0 then k else er
/-- The world behind a step that may set the error in block R. -/
structure StepR (W w' : World) (R : Nat) (er : Int) : Prop where
  only : Only2 W w' R none
  cell : w'.cell? ⟨R, 0, none⟩ = some (.int .i64 er)
  froz : w'.frozen? ⟨R, 0, none⟩ = false
theorem StepR.trans {w0 w1 w2 : World} {R : Nat} {a b : Int} (h : Only2 w0 w1 R none) (k : StepR w1 w2 R b) : StepR w0 w2 R b :=
  ⟨⟨k.only.os.trans h.os, k.only.tape.trans h.tape, k.only.output.trans h.output, Nat.le_trans h.size k.only.size, fun j hj h1 h2 => (k.only.block j (Nat.lt_of_lt_of_le hj h.size) h1 h2).trans (h.block j hj h1 h2)⟩, k.cell, k.froz⟩
theorem Only2.refl (w : World) (R : Nat) (row : Option Nat) : Only2 w w R row := ⟨rfl, rfl, rfl, Nat.le_refl _, fun _ _ _ _ => rfl⟩
set_option maxHeartbeats 2000000 in
set_option maxRecDepth 100000 in
theorem sums_take (R : Nat) (s : ByteArray) (k er : Int) (w : World) (hc : w.cell? ⟨R, 0, none⟩ = some (.int .i64 er)) (hf : w.frozen? ⟨R, 0, none⟩ = false) :
    Calls Tryz.prog 64 #[.pointer (some ⟨R, 0, none⟩), .string s, .int .i64 k] w fun e w' => e = .returned (.string s) ∧ StepR w w' R (er2 er k) := by
  have HC := hide hc
  have HF := hide hf
  by_cases h : er = 0
  · subst h
    go_enter Tryz.func64, Tryz.ntmps64
    go_wp2_with fail
    go_ret
    exact ⟨rfl, (Only2.refl _ _ _).setCell 0 _, World.cell?_setCell_same _ _ _ HC.out, by rw [World.frozen?_setCell]; exact HF.out⟩
  · have he : (er == 0) = false := by simpa using h
    have HE : Hid (er2 er k = er) := if_neg h
    clear h
    go_enter Tryz.func64, Tryz.ntmps64
    go_wp2_with fail
    go_ret
    exact ⟨rfl, Only2.refl _ _ _, by rw [HE.out]; exact HC.out, HF.out⟩
set_option maxHeartbeats 2000000 in
set_option maxRecDepth 100000 in
theorem sums_mul (R : Nat) (x y : Nat) (er : Int) (w : World) (hx : x < capN) (hy : y < capN) (hw : LawW w) (hc : w.cell? ⟨R, 0, none⟩ = some (.int .i64 er)) (hf : w.frozen? ⟨R, 0, none⟩ = false) :
    Calls Tryz.prog 60 #[.pointer (some ⟨R, 0, none⟩), .string (natS x), .string (natS y)] w fun e w' => e = .returned (.string (msS (x * y))) ∧ StepR w w' R (er2 er (msE (x * y))) := by
  have HM : Hid (∀ W, LawW W → Calls Tryz.prog 88 #[.string (natS x), .string (natS y)] W fun e w' => e = .returned (.tuple #[.string (msS (x * y)), .int .i64 (msE (x * y))]) ∧ Below W.heap.size W w') := fun W hW => (nat_mul x y W hx hy hW).mono fun _ _ h => h.ms
  have HC := hide hc
  have HF := hide hf
  have HW := hide hw
  obtain ⟨m, hm⟩ : ∃ s, msS (x * y) = s := ⟨_, rfl⟩
  obtain ⟨k, hk⟩ : ∃ s, msE (x * y) = s := ⟨_, rfl⟩
  obtain ⟨sx, hsx⟩ : ∃ s, natS x = s := ⟨_, rfl⟩
  obtain ⟨sy, hsy⟩ : ∃ s, natS y = s := ⟨_, rfl⟩
  rw [hm, hk, hsx, hsy] at HM
  rw [hm, hk, hsx, hsy]
  clear hm hk hsx hsy hx hy hc hf hw
  go_enter Tryz.func60, Tryz.ntmps60
  go_wp2_with fail
  refine (HM.out _ HW.out).mono ?_
  rintro e w1 ⟨rfl, hb⟩
  have HC1 := hide (keep_cell hb HC.out)
  have HF1 := hide ((hb.frozen (p := ⟨R, 0, none⟩) (World.block_lt_of_cell? _ _ HC.out)).trans HF.out)
  have HO := hide (Only2.of_below (R := R) (row := none) hb)
  clear hb
  go_wp2_with fail
  refine (sums_take R m k er _ HC1.out HF1.out).mono ?_
  rintro e w2 ⟨rfl, hs⟩
  have HS := hide hs
  clear hs
  go_wp2_with fail
  go_ret
  exact ⟨rfl, StepR.trans (a := er) HO.out HS.out⟩
set_option maxHeartbeats 2000000 in
set_option maxRecDepth 100000 in
theorem sums_add (R : Nat) (x y : Nat) (er : Int) (w : World) (hx : x < capN) (hy : y < capN) (hw : LawW w) (hc : w.cell? ⟨R, 0, none⟩ = some (.int .i64 er)) (hf : w.frozen? ⟨R, 0, none⟩ = false) :
    Calls Tryz.prog 63 #[.pointer (some ⟨R, 0, none⟩), .string (natS x), .string (natS y)] w fun e w' => e = .returned (.string (msS (x + y))) ∧ StepR w w' R (er2 er (msE (x + y))) := by
  have HM : Hid (∀ W, LawW W → Calls Tryz.prog 89 #[.string (natS x), .string (natS y)] W fun e w' => e = .returned (.tuple #[.string (msS (x + y)), .int .i64 (msE (x + y))]) ∧ Below W.heap.size W w') := fun W hW => (nat_add x y W hx hy hW).mono fun _ _ h => h.ms
  have HC := hide hc
  have HF := hide hf
  have HW := hide hw
  obtain ⟨m, hm⟩ : ∃ s, msS (x + y) = s := ⟨_, rfl⟩
  obtain ⟨k, hk⟩ : ∃ s, msE (x + y) = s := ⟨_, rfl⟩
  obtain ⟨sx, hsx⟩ : ∃ s, natS x = s := ⟨_, rfl⟩
  obtain ⟨sy, hsy⟩ : ∃ s, natS y = s := ⟨_, rfl⟩
  rw [hm, hk, hsx, hsy] at HM
  rw [hm, hk, hsx, hsy]
  clear hm hk hsx hsy hx hy hc hf hw
  go_enter Tryz.func63, Tryz.ntmps63
  go_wp2_with fail
  refine (HM.out _ HW.out).mono ?_
  rintro e w1 ⟨rfl, hb⟩
  have HC1 := hide (keep_cell hb HC.out)
  have HF1 := hide ((hb.frozen (p := ⟨R, 0, none⟩) (World.block_lt_of_cell? _ _ HC.out)).trans HF.out)
  have HO := hide (Only2.of_below (R := R) (row := none) hb)
  clear hb
  go_wp2_with fail
  refine (sums_take R m k er _ HC1.out HF1.out).mono ?_
  rintro e w2 ⟨rfl, hs⟩
  have HS := hide hs
  clear hs
  go_wp2_with fail
  go_ret
  exact ⟨rfl, StepR.trans (a := er) HO.out HS.out⟩
set_option maxHeartbeats 2000000 in
set_option maxRecDepth 100000 in
theorem join_ok (R D : Nat) (g : Bool) (n d : Nat) (w : World) (hn : n < capN) (hd : d < capN) (hd0 : 0 < d) (hw : LawW w) (hc : w.cell? ⟨R, 0, none⟩ = some (.int .i64 0)) (hD : w.cell? ⟨D, 0, none⟩ = some (.string (natS d))) :
    Calls Tryz.prog 61 #[.bool g, .string (natS n), .pointer (some ⟨R, 0, none⟩), .pointer (some ⟨D, 0, none⟩)] w (RqPost w (mkQ g n d)) := by
  have HL : Hid (∀ W, LawW W → Calls Tryz.prog 62 #[.bool g, .string (natS n), .string (natS d)] W fun e w' => e = .returned (rqV (mkQ g n d)) ∧ Below W.heap.size W w') := fun W hW => rat_lowest g n d W hn hd hd0 hW
  have HW := hide hw
  unfold RqPost
  obtain ⟨q, hq⟩ : ∃ q, mkQ g n d = q := ⟨_, rfl⟩
  rw [hq] at HL ⊢
  unfold rqV at HL ⊢
  obtain ⟨g', hg'⟩ : ∃ s, ngQ q = s := ⟨_, rfl⟩
  obtain ⟨s', hs'⟩ : ∃ s, natS (nmQ q) = s := ⟨_, rfl⟩
  obtain ⟨t', ht'⟩ : ∃ s, natS q.den = s := ⟨_, rfl⟩
  rw [hg', hs', ht'] at HL ⊢
  obtain ⟨s, hs⟩ : ∃ s, natS n = s := ⟨_, rfl⟩
  obtain ⟨t, ht⟩ : ∃ s, natS d = s := ⟨_, rfl⟩
  rw [hs] at HL ⊢
  rw [ht] at HL hD
  clear hn hd hd0 hs ht hs' ht' hg' hq hw
  have hb0 := bAlloc (Below.refl w.heap.size w) (.cells #[.bool false, .string ⟨#[]⟩, .string ⟨#[]⟩] 29)
  have HB0 := hide hb0
  have c8 := keep_cell hb0 hc
  have c9 := keep_cell hb0 hD
  clear hb0
  have HR0 := hide (RC.new w false ⟨#[]⟩ ⟨#[]⟩ 29)
  go_enter Tryz.func61, Tryz.ntmps61
  go_wp2_with fail
  refine (HL.out _ (HW.out.below HB0.out)).mono ?_
  rintro e w3 ⟨rfl, hb⟩
  have HB3 := hide (bStep HB0.out hb)
  have HR3 := hide (HR0.out.below hb)
  obtain ⟨c0, c1, c2, f0, f1, f2⟩ := HR3.out
  clear hb
  go_wp2_with fail
  obtain ⟨d0, d1, d2, _, _, _⟩ := HR3.out.set3 g' s' t'
  exact bodyPost_ret (v := .tuple #[.agg #[.bool g', .string s', .string t'], .int .i64 0]) (by simp [results, Tryz.results61, go_sem, d0, d1, d2]) rfl ⟨rfl, bset3 HB3.out (Nat.le_refl _) _ _ _⟩
set_option maxHeartbeats 2000000 in
set_option maxRecDepth 100000 in
theorem join_err (R : Nat) (g : Bool) (n : ByteArray) (D : Value) (er : Int) (w : World) (hne : er ≠ 0) (hc : w.cell? ⟨R, 0, none⟩ = some (.int .i64 er)) :
    Calls Tryz.prog 61 #[.bool g, .string n, .pointer (some ⟨R, 0, none⟩), D] w (ReqPost w er) := by
  have hb0 := bAlloc (Below.refl w.heap.size w) (.cells #[.bool false, .string ⟨#[]⟩, .string ⟨#[]⟩] 29)
  have HB0 := hide hb0
  have c8 := keep_cell hb0 hc
  have he : (er == 0) = false := by simpa using hne
  have he2 : (er != 0) = true := by simpa using hne
  have hR : R ≠ w.heap.size := by have : R < w.heap.size := World.block_lt_of_cell? _ _ hc; omega
  clear hb0 hne
  unfold ReqPost zV
  have HR0 := hide (RC.new w false ⟨#[]⟩ ⟨#[]⟩ 29)
  go_enter Tryz.func61, Tryz.ntmps61
  go_wp2_with fail
  obtain ⟨c0, c1, c2, f0, f1, f2⟩ := HR0.out
  go_region
  all_goals
    go_wp2_with fail
    exact bodyPost_ret (v := .tuple #[.agg #[.bool false, .string ⟨#[]⟩, .string ⟨#[]⟩], .int .i64 er]) (by simp [results, Tryz.results61, go_sem]) rfl ⟨rfl, HB0.out.drew⟩
end Go.Proofs.YtblpnekjnaaeoaaGreatDoor
