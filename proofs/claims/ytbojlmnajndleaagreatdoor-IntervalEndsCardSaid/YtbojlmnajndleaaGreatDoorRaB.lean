/- rational: lowest, Make, minus; the sums' methods. -/
import Derived.Test.YtbojlmnajndleaaGreatDoorRaA
set_option linter.unusedVariables false
set_option linter.unusedSimpArgs false
namespace Go.Proofs.YtbojlmnajndleaaGreatDoor
open Go.RowKit

/-- The zero value of the struct. -/
def zV : Value := .agg #[.bool false, .string ⟨#[]⟩, .string ⟨#[]⟩]
theorem mkQ_low_eq {g : Bool} {n d : Nat} (h : LowQ g n d) : rqV (mkQ g n d) = .agg #[.bool g, .string (natS n), .string (natS d)] := by
  obtain ⟨a, b, c⟩ := mkQ_low h
  unfold rqV; rw [a, b, c]
theorem rqV_zero : rqV 0 = .agg #[.bool false, .string ⟨#[48]⟩, .string ⟨#[49]⟩] := by
  unfold rqV
  rw [ngQ_zero, show nmQ 0 = 0 from nmQ_zero.2 rfl, den_zero, natS_zero, natS_one]
theorem RC.set3 {w : World} {b : Nat} {g : Bool} {s t : ByteArray} (h : RC w b g s t) (g' : Bool) (s' t' : ByteArray) :
    RC (((w.setCell ⟨b, 0, none⟩ (.bool g')).setCell ⟨b, 1, none⟩ (.string s')).setCell ⟨b, 2, none⟩ (.string t')) b g' s' t' := by
  have n01 : (⟨b, 0, none⟩ : Addr) ≠ ⟨b, 1, none⟩ := by intro e; injection e with _ e; omega
  have n02 : (⟨b, 0, none⟩ : Addr) ≠ ⟨b, 2, none⟩ := by intro e; injection e with _ e; omega
  have n12 : (⟨b, 1, none⟩ : Addr) ≠ ⟨b, 2, none⟩ := by intro e; injection e with _ e; omega
  have x1 := World.cell?_setCell_other w ⟨b, 0, none⟩ ⟨b, 1, none⟩ (.bool g') n01
  have x2 := World.cell?_setCell_other w ⟨b, 0, none⟩ ⟨b, 2, none⟩ (.bool g') n02
  have x3 := World.cell?_setCell_other (w.setCell ⟨b, 0, none⟩ (.bool g')) ⟨b, 1, none⟩ ⟨b, 2, none⟩ (.string s') n12
  refine ⟨?_, ?_, ?_, ?_, ?_, ?_⟩
  · rw [World.cell?_setCell_other _ _ _ _ n02.symm, World.cell?_setCell_other _ _ _ _ n01.symm]
    exact World.cell?_setCell_same _ _ _ h.c0
  · rw [World.cell?_setCell_other _ _ _ _ n12.symm]
    exact World.cell?_setCell_same _ _ _ (x1.trans h.c1)
  · exact World.cell?_setCell_same _ _ _ (x3.trans (x2.trans h.c2))
  · simp only [World.frozen?_setCell]; exact h.f0
  · simp only [World.frozen?_setCell]; exact h.f1
  · simp only [World.frozen?_setCell]; exact h.f2
theorem bset3 {w0 w : World} {b : Nat} (h : Below w0.heap.size w0 w) (hb : w0.heap.size ≤ b) (x y z : Value) : Below w0.heap.size w0 (((w.setCell ⟨b, 0, none⟩ x).setCell ⟨b, 1, none⟩ y).setCell ⟨b, 2, none⟩ z) :=
  ((h.setCell (p := ⟨b, 0, none⟩) hb x).setCell (p := ⟨b, 1, none⟩) hb y).setCell (p := ⟨b, 2, none⟩) hb z
set_option maxHeartbeats 2000000 in
set_option maxRecDepth 100000 in
theorem rat_lowest0 (g : Bool) (t : ByteArray) (w : World) :
    Calls Tryz.prog 41 #[.bool g, .string ⟨#[48]⟩, .string t] w fun e w' => e = .returned (rqV 0) ∧ Below w.heap.size w w' := by
  rw [rqV_zero]
  go_enter Tryz.func41, Tryz.ntmps41
  go_wp2_with fail
  exact bodyPost_ret (v := .agg #[.bool false, .string ⟨#[48]⟩, .string ⟨#[49]⟩]) (by simp [results, Tryz.results41, go_sem]) rfl ⟨rfl, (Below.refl _ _).alloc (Nat.le_refl _) _⟩
set_option maxHeartbeats 2000000 in
set_option maxRecDepth 100000 in
theorem rat_lowest1 (g : Bool) (n d : Nat) (w : World) (hn : n < capN) (hd : d < capN) (hn0 : 0 < n) (hd0 : 0 < d) (hw : LawW w) :
    Calls Tryz.prog 41 #[.bool g, .string (natS n), .string (natS d)] w fun e w' => e = .returned (rqV (mkQ g n d)) ∧ Below w.heap.size w w' := by
  obtain ⟨hl, hv⟩ := lowest_eq (g := g) hd0 hn0
  rw [← hv, mkQ_low_eq hl]
  have hg0 : 0 < Nat.gcd n d := Nat.gcd_pos_of_pos_left _ hn0
  have HG : Hid (∀ W, LawW W → Calls Tryz.prog 58 #[.string (natS n), .string (natS d)] W fun e w' => e = .returned (.tuple #[.string (natS (Nat.gcd n d)), .int .i64 0]) ∧ Below W.heap.size W w') := fun W hW => nat_gcd n d W hn hd hW
  have HD1 : Hid (∀ W, LawW W → Calls Tryz.prog 60 #[.string (natS n), .string (natS (Nat.gcd n d))] W fun e w' => e = .returned (.tuple #[.string (natS (n / Nat.gcd n d)), .string (natS (n % Nat.gcd n d)), .int .i64 0]) ∧ Below W.heap.size W w') := fun W hW => nat_div n _ W hn (gcd_cap hn hd) hg0 hW
  have HD2 : Hid (∀ W, LawW W → Calls Tryz.prog 60 #[.string (natS d), .string (natS (Nat.gcd n d))] W fun e w' => e = .returned (.tuple #[.string (natS (d / Nat.gcd n d)), .string (natS (d % Nat.gcd n d)), .int .i64 0]) ∧ Below W.heap.size W w') := fun W hW => nat_div d _ W hd (gcd_cap hn hd) hg0 hW
  have hnn := natS_ne_zero hn0
  have HW := hide hw
  obtain ⟨s, hs⟩ : ∃ s, natS n = s := ⟨_, rfl⟩
  obtain ⟨t, ht⟩ : ∃ s, natS d = s := ⟨_, rfl⟩
  obtain ⟨u, hu⟩ : ∃ s, natS (Nat.gcd n d) = s := ⟨_, rfl⟩
  obtain ⟨s', hs'⟩ : ∃ s, natS (n / Nat.gcd n d) = s := ⟨_, rfl⟩
  obtain ⟨t', ht'⟩ : ∃ s, natS (d / Nat.gcd n d) = s := ⟨_, rfl⟩
  obtain ⟨r1, hr1⟩ : ∃ s, natS (n % Nat.gcd n d) = s := ⟨_, rfl⟩
  obtain ⟨r2, hr2⟩ : ∃ s, natS (d % Nat.gcd n d) = s := ⟨_, rfl⟩
  rw [hs, ht, hu] at HG
  rw [hs, hu, hs', hr1] at HD1
  rw [ht, hu, ht', hr2] at HD2
  rw [hs] at hnn
  rw [hs, ht, hs', ht']
  have hnn1 : (s.toList == [48]) = false := str_ne hnn (by rfl)
  clear hn hd hn0 hd0 hl hv hg0 hnn hs ht hu hs' ht' hr1 hr2 hw
  have HB0 := hide (bAlloc (Below.refl w.heap.size w) (.cells #[.bool false, .string ⟨#[]⟩, .string ⟨#[]⟩] 24))
  have HR0 := hide (RC.new w false ⟨#[]⟩ ⟨#[]⟩ 24)
  go_enter Tryz.func41, Tryz.ntmps41
  go_wp2_with fail
  refine (HG.out _ (HW.out.below HB0.out)).mono ?_
  rintro e w1 ⟨rfl, hb⟩
  have HB1 := hide (bStep HB0.out hb)
  have HR1 := hide (HR0.out.below hb)
  clear hb
  go_wp2_with fail
  refine (HD1.out _ (HW.out.below HB1.out)).mono ?_
  rintro e w2 ⟨rfl, hb⟩
  have HB2 := hide (bStep HB1.out hb)
  have HR2 := hide (HR1.out.below hb)
  clear hb
  go_wp2_with fail
  refine (HD2.out _ (HW.out.below HB2.out)).mono ?_
  rintro e w3 ⟨rfl, hb⟩
  have HB3 := hide (bStep HB2.out hb)
  have HR3 := hide (HR2.out.below hb)
  obtain ⟨c0, c1, c2, f0, f1, f2⟩ := HR3.out
  clear hb
  go_wp2_with fail
  obtain ⟨d0, d1, d2, _, _, _⟩ := HR3.out.set3 g s' t'
  exact bodyPost_ret (v := .agg #[.bool g, .string s', .string t']) (by simp [results, Tryz.results41, go_sem, d0, d1, d2]) rfl ⟨rfl, bset3 HB3.out (Nat.le_refl _) _ _ _⟩
theorem rat_lowest (g : Bool) (n d : Nat) (w : World) (hn : n < capN) (hd : d < capN) (hd0 : 0 < d) (hw : LawW w) :
    Calls Tryz.prog 41 #[.bool g, .string (natS n), .string (natS d)] w fun e w' => e = .returned (rqV (mkQ g n d)) ∧ Below w.heap.size w w' := by
  by_cases h : 0 < n
  · exact rat_lowest1 g n d w hn hd h hd0 hw
  · obtain rfl : n = 0 := by omega
    rw [natS_zero, mkQ_zero]
    exact rat_lowest0 g _ w
/-- A result with an error, and one without. -/
def RqPost (w : World) (q : Rat) (e : Ending) (w' : World) : Prop := e = .returned (.tuple #[rqV q, .int .i64 0]) ∧ Below w.heap.size w w'
def ReqPost (w : World) (k : Int) (e : Ending) (w' : World) : Prop := e = .returned (.tuple #[zV, .int .i64 k]) ∧ Below w.heap.size w w'
set_option maxHeartbeats 2000000 in
set_option maxRecDepth 100000 in
theorem rat_Make (g : Bool) (n d : Nat) (w : World) (hn : n < capN) (hd : d < capN) (hd0 : 0 < d) (hw : LawW w) :
    Calls Tryz.prog 69 #[.bool g, .string (natS n), .string (natS d)] w (RqPost w (mkQ g n d)) := by
  have HVX : Hid (∀ W, Calls Tryz.prog 57 #[.string (natS n)] W fun e w' => e = .returned (.bool true) ∧ Below W.heap.size W w') := fun W => nat_valid n W hn
  have HVY : Hid (∀ W, Calls Tryz.prog 57 #[.string (natS d)] W fun e w' => e = .returned (.bool true) ∧ Below W.heap.size W w') := fun W => nat_valid d W hd
  have HL : Hid (∀ W, LawW W → Calls Tryz.prog 41 #[.bool g, .string (natS n), .string (natS d)] W fun e w' => e = .returned (rqV (mkQ g n d)) ∧ Below W.heap.size W w') := fun W hW => rat_lowest g n d W hn hd hd0 hW
  have hne := natS_ne_zero hd0
  have HW := hide hw
  unfold RqPost
  obtain ⟨q, hq⟩ : ∃ q, mkQ g n d = q := ⟨_, rfl⟩
  rw [hq] at HL ⊢
  unfold rqV at HL ⊢
  obtain ⟨g', hg'⟩ : ∃ s, ngQ q = s := ⟨_, rfl⟩
  obtain ⟨s', hs'⟩ : ∃ s, natS (nmQ q) = s := ⟨_, rfl⟩
  obtain ⟨t', ht'⟩ : ∃ s, natS q.den = s := ⟨_, rfl⟩
  rw [hg', hs', ht'] at HL ⊢
  obtain ⟨s, hs⟩ : ∃ s, natS n = s := ⟨_, rfl⟩
  obtain ⟨t, ht⟩ : ∃ s, natS d = s := ⟨_, rfl⟩
  rw [hs] at HVX HL ⊢
  rw [ht] at HVY HL hne ⊢
  have hne1 : (t.toList == [48]) = false := str_ne hne (by rfl)
  clear hn hd hd0 hne hs ht hs' ht' hg' hq hw
  have HB0 := hide (bAlloc (Below.refl w.heap.size w) (.cells #[.bool false, .string ⟨#[]⟩, .string ⟨#[]⟩] 24))
  have HR0 := hide (RC.new w false ⟨#[]⟩ ⟨#[]⟩ 24)
  go_enter Tryz.func69, Tryz.ntmps69
  go_wp2_with fail
  refine (HVX.out _).mono ?_
  rintro e w1 ⟨rfl, hb⟩
  have HB1 := hide (bStep HB0.out hb)
  have HR1 := hide (HR0.out.below hb)
  clear hb
  go_wp2_with fail
  refine (HVY.out _).mono ?_
  rintro e w2 ⟨rfl, hb⟩
  have HB2 := hide (bStep HB1.out hb)
  have HR2 := hide (HR1.out.below hb)
  clear hb
  go_wp2_with fail
  refine (HL.out _ (HW.out.below HB2.out)).mono ?_
  rintro e w3 ⟨rfl, hb⟩
  have HB3 := hide (bStep HB2.out hb)
  have HR3 := hide (HR2.out.below hb)
  obtain ⟨c0, c1, c2, f0, f1, f2⟩ := HR3.out
  clear hb
  go_wp2_with fail
  obtain ⟨d0, d1, d2, _, _, _⟩ := HR3.out.set3 g' s' t'
  exact bodyPost_ret (v := .tuple #[.agg #[.bool g', .string s', .string t'], .int .i64 0]) (by simp [results, Tryz.results69, go_sem, d0, d1, d2]) rfl ⟨rfl, bset3 HB3.out (Nat.le_refl _) _ _ _⟩
set_option maxHeartbeats 2000000 in
set_option maxRecDepth 100000 in
theorem rat_Make_zero (g : Bool) (n : Nat) (w : World) (hn : n < capN) :
    Calls Tryz.prog 69 #[.bool g, .string (natS n), .string ⟨#[48]⟩] w (ReqPost w 14) := by
  have HVX : Hid (∀ W, Calls Tryz.prog 57 #[.string (natS n)] W fun e w' => e = .returned (.bool true) ∧ Below W.heap.size W w') := fun W => nat_valid n W hn
  have HVY : Hid (∀ W, Calls Tryz.prog 57 #[.string ⟨#[48]⟩] W fun e w' => e = .returned (.bool true) ∧ Below W.heap.size W w') := fun W => by
    have := nat_valid 0 W capN_pos
    rw [natS_zero] at this
    exact this
  obtain ⟨s, hs⟩ : ∃ s, natS n = s := ⟨_, rfl⟩
  rw [hs] at HVX ⊢
  unfold ReqPost zV
  clear hn hs
  have HB0 := hide (bAlloc (Below.refl w.heap.size w) (.cells #[.bool false, .string ⟨#[]⟩, .string ⟨#[]⟩] 24))
  have HR0 := hide (RC.new w false ⟨#[]⟩ ⟨#[]⟩ 24)
  go_enter Tryz.func69, Tryz.ntmps69
  go_wp2_with fail
  refine (HVX.out _).mono ?_
  rintro e w1 ⟨rfl, hb⟩
  have HB1 := hide (bStep HB0.out hb)
  have HR1 := hide (HR0.out.below hb)
  clear hb
  go_wp2_with fail
  refine (HVY.out _).mono ?_
  rintro e w2 ⟨rfl, hb⟩
  have HB2 := hide (bStep HB1.out hb)
  have HR2 := hide (HR1.out.below hb)
  obtain ⟨c0, c1, c2, f0, f1, f2⟩ := HR2.out
  clear hb
  go_wp2_with fail
  obtain ⟨d0, d1, d2, _, _, _⟩ := HR2.out.set3 false ⟨#[]⟩ ⟨#[]⟩
  exact bodyPost_ret (v := .tuple #[.agg #[.bool false, .string ⟨#[]⟩, .string ⟨#[]⟩], .int .i64 14]) (by simp [results, Tryz.results69, go_sem, d0, d1, d2]) rfl ⟨rfl, bset3 HB2.out (Nat.le_refl _) _ _ _⟩
set_option maxHeartbeats 2000000 in
set_option maxRecDepth 100000 in
theorem rat_Make_bad (g : Bool) (a b : ByteArray) (w : World) (ha : a.size ≤ maxLen) (hb : b.size ≤ maxLen) (h : bad2 a b) :
    Calls Tryz.prog 69 #[.bool g, .string a, .string b] w (ReqPost w 1) := by
  unfold ReqPost zV
  have HB0 := hide (bAlloc (Below.refl w.heap.size w) (.cells #[.bool false, .string ⟨#[]⟩, .string ⟨#[]⟩] 24))
  have HR0 := hide (RC.new w false ⟨#[]⟩ ⟨#[]⟩ 24)
  rcases h with h | ⟨h, h'⟩
  · have HVX : Hid (∀ W, Calls Tryz.prog 57 #[.string a] W fun e w' => e = .returned (.bool false) ∧ Below W.heap.size W w') := fun W => bad_valid a W ha h
    clear h
    go_enter Tryz.func69, Tryz.ntmps69
    go_wp2_with fail
    refine (HVX.out _).mono ?_
    rintro e w1 ⟨rfl, hb1⟩
    have HB1 := hide (bStep HB0.out hb1)
    have HR1 := hide (HR0.out.below hb1)
    obtain ⟨c0, c1, c2, f0, f1, f2⟩ := HR1.out
    clear hb1
    go_wp2_with fail
    obtain ⟨d0, d1, d2, _, _, _⟩ := HR1.out.set3 false ⟨#[]⟩ ⟨#[]⟩
    exact bodyPost_ret (v := .tuple #[.agg #[.bool false, .string ⟨#[]⟩, .string ⟨#[]⟩], .int .i64 1]) (by simp [results, Tryz.results69, go_sem, d0, d1, d2]) rfl ⟨rfl, bset3 HB1.out (Nat.le_refl _) _ _ _⟩
  · have HVX : Hid (∀ W, Calls Tryz.prog 57 #[.string a] W fun e w' => e = .returned (.bool true) ∧ Below W.heap.size W w') := fun W => by
      have := valid_any a W ha
      rw [h] at this; exact this
    have HVY : Hid (∀ W, Calls Tryz.prog 57 #[.string b] W fun e w' => e = .returned (.bool false) ∧ Below W.heap.size W w') := fun W => bad_valid b W hb h'
    clear h h'
    go_enter Tryz.func69, Tryz.ntmps69
    go_wp2_with fail
    refine (HVX.out _).mono ?_
    rintro e w1 ⟨rfl, hb1⟩
    have HB1 := hide (bStep HB0.out hb1)
    have HR1 := hide (HR0.out.below hb1)
    clear hb1
    go_wp2_with fail
    refine (HVY.out _).mono ?_
    rintro e w2 ⟨rfl, hb2⟩
    have HB2 := hide (bStep HB1.out hb2)
    have HR2 := hide (HR1.out.below hb2)
    obtain ⟨c0, c1, c2, f0, f1, f2⟩ := HR2.out
    clear hb2
    go_wp2_with fail
    obtain ⟨d0, d1, d2, _, _, _⟩ := HR2.out.set3 false ⟨#[]⟩ ⟨#[]⟩
    exact bodyPost_ret (v := .tuple #[.agg #[.bool false, .string ⟨#[]⟩, .string ⟨#[]⟩], .int .i64 1]) (by simp [results, Tryz.results69, go_sem, d0, d1, d2]) rfl ⟨rfl, bset3 HB2.out (Nat.le_refl _) _ _ _⟩
set_option maxHeartbeats 2000000 in
set_option maxRecDepth 100000 in
theorem rat_minus (q : Rat) (w : World) :
    Calls Tryz.prog 59 #[rqV q] w fun e w' => e = .returned (rqV (-q)) ∧ Below w.heap.size w w' := by
  obtain ⟨e1, e2, e3⟩ := neg_parts q
  unfold rqV
  rw [e1, e2, e3]
  have hz : ((natS (nmQ q)).toList == [48]) = !decide (nmQ q ≠ 0) := by
    by_cases h : nmQ q = 0
    · rw [decide_eq_false (by simp [h])]; exact str_eq (by rw [h, natS_zero])
    · rw [decide_eq_true h]; exact str_ne (natS_ne_zero (by omega)) (by rfl)
  obtain ⟨g, hg⟩ : ∃ s, ngQ q = s := ⟨_, rfl⟩
  obtain ⟨s, hs⟩ : ∃ s, natS (nmQ q) = s := ⟨_, rfl⟩
  obtain ⟨t, ht⟩ : ∃ s, natS q.den = s := ⟨_, rfl⟩
  obtain ⟨z, hzz⟩ : ∃ z, decide (nmQ q ≠ 0) = z := ⟨_, rfl⟩
  rw [hs, hzz] at hz
  rw [hg, hs, ht, hzz]
  clear e1 e2 e3 hg hs ht hzz
  cases g <;> cases z
  all_goals
    simp only [Bool.not_false, Bool.not_true] at hz
    go_enter Tryz.func59, Tryz.ntmps59
    go_wp2_with fail
    exact bodyPost_ret (v := .agg #[_, .string s, .string t]) (by simp [results, Tryz.results59, go_sem]) rfl ⟨rfl, ((Below.refl _ _).alloc (Nat.le_refl _) _).alloc (by simp) _⟩
end Go.Proofs.YtbojlmnajndleaaGreatDoor
