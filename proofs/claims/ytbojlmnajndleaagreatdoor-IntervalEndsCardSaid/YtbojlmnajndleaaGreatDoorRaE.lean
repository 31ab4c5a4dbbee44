/- rational: Add by numbers, Mul, Sub, Div. -/
import Derived.Test.YtbojlmnajndleaaGreatDoorRaD
set_option linter.unusedVariables false
set_option linter.unusedSimpArgs false
namespace Go.Proofs.YtbojlmnajndleaaGreatDoor
open Go.RowKit

/-- A result: a number, or ErrLimit. -/
def rvV : Option Rat → Value
  | some q => rqV q
  | none => zV
def rvE : Option Rat → Int
  | some _ => 0
  | none => 2
def addFit (p q : Rat) : Prop := nmQ p * q.den < capN ∧ nmQ q * p.den < capN ∧ p.den * q.den < capN ∧ (ngQ p = ngQ q → nmQ p * q.den + nmQ q * p.den < capN)
def mulFit (p q : Rat) : Prop := nmQ p * nmQ q < capN ∧ p.den * q.den < capN
instance (p q : Rat) : Decidable (addFit p q) := by unfold addFit; infer_instance
instance (p q : Rat) : Decidable (mulFit p q) := by unfold mulFit; infer_instance
def addR (p q : Rat) : Option Rat := if addFit p q then some (p + q) else none
def mulR (p q : Rat) : Option Rat := if mulFit p q then some (p * q) else none
theorem addR_ok {p q : Rat} (h : addFit p q) : addR p q = some (p + q) := if_pos h
theorem mulR_ok {p q : Rat} (h : mulFit p q) : mulR p q = some (p * q) := if_pos h
theorem addR_no {p q : Rat} (h : ¬ addFit p q) : addR p q = none := if_neg h
theorem mulR_no {p q : Rat} (h : ¬ mulFit p q) : mulR p q = none := if_neg h
/-- What a call of Add or Mul returns. -/
def RvPost (w : World) (r : Option Rat) (e : Ending) (w' : World) : Prop := e = .returned (.tuple #[rvV r, .int .i64 (rvE r)]) ∧ Below w.heap.size w w'
set_option maxRecDepth 100000 in
theorem AddPost.rv {p q : Rat} {w w' : World} {e : Ending} (h : AddPost w (ngQ p) (ngQ q) (nmQ p * q.den) (nmQ q * p.den) (p.den * q.den) e w') : RvPost w (addR p q) e w' := by
  unfold AddPost at h
  by_cases h1 : nmQ p * q.den < capN ∧ nmQ q * p.den < capN ∧ p.den * q.den < capN
  · rw [if_pos h1] at h
    by_cases h2 : ngQ p = ngQ q
    · rw [if_pos h2] at h
      by_cases h3 : nmQ p * q.den + nmQ q * p.den < capN
      · rw [if_pos h3, add_same h2] at h
        rw [addR_ok ⟨h1.1, h1.2.1, h1.2.2, fun _ => h3⟩]; exact h
      · rw [if_neg h3] at h
        rw [addR_no fun hf => h3 (hf.2.2.2 h2)]; exact h
    · rw [if_neg h2] at h
      rw [addR_ok ⟨h1.1, h1.2.1, h1.2.2, fun e => absurd e h2⟩]
      by_cases h4 : nmQ p * q.den < nmQ q * p.den
      · rw [if_pos h4, add_right h2 (Nat.le_of_lt h4)] at h; exact h
      · rw [if_neg h4, add_left h2 (by omega)] at h; exact h
  · rw [if_neg h1] at h
    rw [addR_no fun hf => h1 ⟨hf.1, hf.2.1, hf.2.2.1⟩]; exact h
set_option maxRecDepth 100000 in
theorem rat_Add (p q : Rat) (w : World) (hp : FitQ p) (hq : FitQ q) (hw : LawW w) : Calls Tryz.prog 23 #[rqV p, rqV q] w (RvPost w (addR p q)) :=
  (rat_Add_core (ngQ p) (ngQ q) (nmQ p) p.den (nmQ q) q.den w hp.1 hp.2 hq.1 hq.2 (den_pos p) (den_pos q) hw (vldR_q hp) (vldR_q hq)).mono fun _ _ h => h.rv
/-- What Mul returns. -/
def MulPost (w : World) (g : Bool) (N D : Nat) (e : Ending) (w' : World) : Prop := if N < capN ∧ D < capN then RqPost w (mkQ g N D) e w' else ReqPost w 2 e w'
theorem er2_bad {N D : Nat} (h : ¬ (N < capN ∧ D < capN)) : er2 (er2 0 (msE N)) (msE D) = 2 := by
  by_cases h1 : N < capN
  · have h3 : ¬ D < capN := fun h3 => h ⟨h1, h3⟩
    rw [msE_ok h1, msE_bad h3]; rfl
  · rw [msE_bad h1]; rfl
theorem er2_ok {N D : Nat} (h : N < capN ∧ D < capN) : er2 (er2 0 (msE N)) (msE D) = 0 := by
  rw [msE_ok h.1, msE_ok h.2]; rfl
set_option maxHeartbeats 4000000 in
set_option maxRecDepth 100000 in
theorem rat_Mul_core (ga gb : Bool) (a1 a2 b1 b2 : Nat) (w : World) (ha1 : a1 < capN) (ha2 : a2 < capN) (hb1 : b1 < capN) (hb2 : b2 < capN) (ha0 : 0 < a2) (hb0 : 0 < b2) (hw : LawW w)
    (va : vldR ga (natS a1) (natS a2) = true) (vb : vldR gb (natS b1) (natS b2) = true) :
    Calls Tryz.prog 24 #[.agg #[.bool ga, .string (natS a1), .string (natS a2)], .agg #[.bool gb, .string (natS b1), .string (natS b2)]] w (MulPost w (ga != gb) (a1 * b1) (a2 * b2)) := by
  have HW := hide hw
  have HVA : Hid (∀ W, LawW W → Calls Tryz.prog 36 #[.agg #[.bool ga, .string (natS a1), .string (natS a2)]] W fun e w' => e = .returned (.bool true) ∧ Below W.heap.size W w') := fun W hW => by
    have := rat_valid ga (natS a1) (natS a2) W (natS_max ha1) (natS_max ha2) hW
    rw [va] at this; exact this
  have HVB : Hid (∀ W, LawW W → Calls Tryz.prog 36 #[.agg #[.bool gb, .string (natS b1), .string (natS b2)]] W fun e w' => e = .returned (.bool true) ∧ Below W.heap.size W w') := fun W hW => by
    have := rat_valid gb (natS b1) (natS b2) W (natS_max hb1) (natS_max hb2) hW
    rw [vb] at this; exact this
  obtain ⟨s1, hs1⟩ : ∃ s, natS a1 = s := ⟨_, rfl⟩
  obtain ⟨s2, hs2⟩ : ∃ s, natS a2 = s := ⟨_, rfl⟩
  obtain ⟨t1, ht1⟩ : ∃ s, natS b1 = s := ⟨_, rfl⟩
  obtain ⟨t2, ht2⟩ : ∃ s, natS b2 = s := ⟨_, rfl⟩
  rw [hs1, hs2] at HVA
  rw [ht1, ht2] at HVB
  rw [hs1, hs2, ht1, ht2]
  clear va vb hw
  have HS1 := hide hs1
  have HS2 := hide hs2
  have HT1 := hide ht1
  have HT2 := hide ht2
  clear hs1 hs2 ht1 ht2
  have HB0 := hide (bAlloc (bAlloc (bAlloc (Below.refl w.heap.size w) (.cells #[.bool ga, .string s1, .string s2] 24)) (.cells #[.bool gb, .string t1, .string t2] 24)) (.cells #[.bool false, .string ⟨#[]⟩, .string ⟨#[]⟩] 24))
  go_enter Tryz.func24, Tryz.ntmps24
  go_wp2_with fail
  have ra := hide (((RC.new w ga s1 s2 24).below (bAlloc (Below.refl _ _) (.cells #[.bool gb, .string t1, .string t2] 24))).below (bAlloc (Below.refl _ _) (.cells #[.bool false, .string ⟨#[]⟩, .string ⟨#[]⟩] 24)))
  have rb := hide ((RC.new_at (w.alloc (.cells #[.bool ga, .string s1, .string s2] 24)) gb t1 t2 24 (b := w.heap.size + 1) (by simp)).below (bAlloc (Below.refl _ _) (.cells #[.bool false, .string ⟨#[]⟩, .string ⟨#[]⟩] 24)))
  have rz := hide (RC.new_at ((w.alloc (.cells #[.bool ga, .string s1, .string s2] 24)).alloc (.cells #[.bool gb, .string t1, .string t2] 24)) false ⟨#[]⟩ ⟨#[]⟩ 24 (b := w.heap.size + 1 + 1) (by simp))
  refine (HVA.out _ (HW.out.below HB0.out)).mono ?_
  rintro e w1 ⟨rfl, hb⟩
  have HB1 := hide (bStep HB0.out hb)
  have RA1 := hide (ra.out.below hb)
  have RB1 := hide (rb.out.below hb)
  have RZ1 := hide (rz.out.below hb)
  clear hb ra rb rz
  obtain ⟨d0, d1, d2, _, _, _⟩ := RB1.out
  go_wp2_with fail
  refine (HVB.out _ (HW.out.below HB1.out)).mono ?_
  rintro e w2 ⟨rfl, hb⟩
  have HB2 := hide (bStep HB1.out hb)
  have RA2 := hide (RA1.out.below hb)
  have RB2 := hide (RB1.out.below hb)
  have RZ2 := hide (RZ1.out.below hb)
  clear hb
  clear d0 d1 d2
  go_wp2_with fail
  obtain ⟨R, hR⟩ : ∃ R, w2.heap.size = R := ⟨_, rfl⟩
  have hst0 : ST w R ga s1 s2 gb t1 t2 (w2.alloc (.cells #[.int .i64 0] 59)) 0 := by
    have h1 := RZ2.out.lt
    subst hR
    exact ⟨bAlloc HB2.out _, RA2.out.below (bAlloc (Below.refl _ _) _), RB2.out.below (bAlloc (Below.refl _ _) _), RZ2.out.below (bAlloc (Below.refl _ _) _), by simp [go_sem], by simp [go_sem], h1⟩
  have HMP : Hid (∀ W er, ST w R ga s1 s2 gb t1 t2 W er → Calls Tryz.prog 39 #[.pointer (some ⟨R, 0, none⟩), .string s1, .string t1] W fun e w' => e = .returned (.string (msS (a1 * b1))) ∧ ST w R ga s1 s2 gb t1 t2 w' (er2 er (msE (a1 * b1))) ∧ ∀ b, DF w R W b → DF w R w' b) := mulHyp_of HW.out ha1 hb1 HS1.out HT1.out
  have HMD : Hid (∀ W er, ST w R ga s1 s2 gb t1 t2 W er → Calls Tryz.prog 39 #[.pointer (some ⟨R, 0, none⟩), .string s2, .string t2] W fun e w' => e = .returned (.string (msS (a2 * b2))) ∧ ST w R ga s1 s2 gb t1 t2 w' (er2 er (msE (a2 * b2))) ∧ ∀ b, DF w R W b → DF w R w' b) := mulHyp_of HW.out ha2 hb2 HS2.out HT2.out
  rw [hR]
  obtain ⟨w3, hw3⟩ : ∃ w3, w2.alloc (.cells #[.int .i64 0] 59) = w3 := ⟨_, rfl⟩
  rw [hw3] at hst0 ⊢
  obtain ⟨P, hP⟩ : ∃ P, a1 * b1 = P := ⟨_, rfl⟩
  obtain ⟨D, hD⟩ : ∃ D, a2 * b2 = D := ⟨_, rfl⟩
  rw [hP] at HMP
  rw [hD] at HMD
  obtain ⟨mP, hmP⟩ : ∃ s, msS P = s := ⟨_, rfl⟩
  obtain ⟨mD, hmD⟩ : ∃ s, msS D = s := ⟨_, rfl⟩
  obtain ⟨eP, heP⟩ : ∃ s, msE P = s := ⟨_, rfl⟩
  obtain ⟨eD, heD⟩ : ∃ s, msE D = s := ⟨_, rfl⟩
  rw [hmP, heP] at HMP
  rw [hmD, heD] at HMD
  have KmP := hide hmP
  have KmD := hide hmD
  have KeP := hide heP
  have KeD := hide heD
  have KP := hide hP
  have KD := hide hD
  clear hmP hmD heP heD hP hD hw3 hR HB0 HB1 HB2 RA1 RA2 RB1 RB2 RZ1 RZ2
  have hst := hst0.drew
  go_region_held3 (fun w' => w'.cell? ⟨w.heap.size, 1, none⟩ = some (.string s1) ∧ w'.cell? ⟨w.heap.size, 2, none⟩ = some (.string s2) ∧ w'.cell? ⟨w.heap.size + 1, 1, none⟩ = some (.string t1) ∧ w'.cell? ⟨w.heap.size + 1, 2, none⟩ = some (.string t2))
    (first | exact ST.loads (by assumption))
    ((first
      | (go_at_call 39; (with_reducible refine (HMP.out _ 0 (by assumption)).mono ?_); rintro e w5 ⟨rfl, hst5, _⟩)
      | (go_at_call 39; (with_reducible refine (HMD.out _ (er2 0 eP) (by assumption)).mono ?_); rintro e w7 ⟨rfl, hst7, _⟩)))
  obtain ⟨a0, a1', a2', fa0, fa1, fa2⟩ := hst7.ra
  obtain ⟨b0, b1', b2', fb0, fb1, fb2⟩ := hst7.rb
  obtain ⟨z0, z1, z2, fz0, fz1, fz2⟩ := hst7.rz
  have hRn : R ≠ w.heap.size + 1 + 1 := by have := hst7.far; omega
  by_cases hall : P < capN ∧ D < capN
  · have he : er2 (er2 0 eP) eD = 0 := by rw [← KeP.out, ← KeD.out]; exact er2_ok hall
    rw [he] at hst7
    have hc := hst7.cell
    have KPs : Hid (natS P = mP) := (msS_ok hall.1).symm.trans KmP.out
    have KDs : Hid (natS D = mD) := (msS_ok hall.2).symm.trans KmD.out
    have hD0 : 0 < D := by rw [← KD.out]; exact Nat.mul_pos ha0 hb0
    have HL : Hid (∀ W, LawW W → Calls Tryz.prog 41 #[.bool (ga != gb), .string mP, .string mD] W fun e w' => e = .returned (rqV (mkQ (ga != gb) P D)) ∧ Below W.heap.size W w') := fun W hW => by
      rw [← KPs.out, ← KDs.out]; exact rat_lowest (ga != gb) P D W hall.1 hall.2 hD0 hW
    have HRES : Hid (∀ e w', e = .returned (.tuple #[rqV (mkQ (ga != gb) P D), .int .i64 0]) → Below w.heap.size w w' → MulPost w (ga != gb) (a1 * b1) (a2 * b2) e w') := fun e w' he hb => by
      rw [KP.out, KD.out]; unfold MulPost; rw [if_pos hall]; exact ⟨he, hb⟩
    unfold rqV at HRES HL
    obtain ⟨g', hg'⟩ : ∃ s, ngQ (mkQ (ga != gb) P D) = s := ⟨_, rfl⟩
    obtain ⟨u', hu'⟩ : ∃ s, natS (nmQ (mkQ (ga != gb) P D)) = s := ⟨_, rfl⟩
    obtain ⟨v', hv'⟩ : ∃ s, natS (mkQ (ga != gb) P D).den = s := ⟨_, rfl⟩
    rw [hg', hu', hv'] at HL HRES
    clear he hall hg' hu' hv'
    go_wp2_with fail
    refine (HL.out _ (hst7.law HW.out)).mono ?_
    rintro e w8 ⟨rfl, hb⟩
    have hst8 := hst7.below hb
    obtain ⟨z0, z1, z2, fz0, fz1, fz2⟩ := hst8.rz
    clear hb
    go_wp2_with fail
    obtain ⟨d0, d1, d2, _, _, _⟩ := hst8.rz.set3 g' u' v'
    exact bodyPost_ret (v := .tuple #[.agg #[.bool g', .string u', .string v'], .int .i64 0]) (by simp [results, Tryz.results24, go_sem, d0, d1, d2]) rfl
      (by with_reducible refine HRES.out _ _ ?_ (bset3 hst8.bel (by omega) _ _ _); rfl)
  · have he : er2 (er2 0 eP) eD = 2 := by rw [← KeP.out, ← KeD.out]; exact er2_bad hall
    rw [he] at hst7
    have hc := hst7.cell
    have HALL := hide hall
    clear he hall
    go_wp2_with fail
    go_region
    all_goals
      go_wp2_with fail
      obtain ⟨d0, d1, d2, _, _, _⟩ := hst7.rz.set3 false ⟨#[]⟩ ⟨#[]⟩
      exact bodyPost_ret (v := .tuple #[.agg #[.bool false, .string ⟨#[]⟩, .string ⟨#[]⟩], .int .i64 2]) (by simp [results, Tryz.results24, go_sem, d0, d1, d2]) rfl
        (by rw [KP.out, KD.out]; unfold MulPost; rw [if_neg HALL.out]; exact ⟨rfl, (bset3 hst7.bel (by omega) _ _ _).drew⟩)
set_option maxRecDepth 100000 in
theorem MulPost.rv {p q : Rat} {w w' : World} {e : Ending} (h : MulPost w (ngQ p != ngQ q) (nmQ p * nmQ q) (p.den * q.den) e w') : RvPost w (mulR p q) e w' := by
  unfold MulPost at h
  by_cases h1 : nmQ p * nmQ q < capN ∧ p.den * q.den < capN
  · rw [if_pos h1, mul_mk] at h
    rw [mulR_ok h1]; exact h
  · rw [if_neg h1] at h
    rw [mulR_no h1]; exact h
set_option maxRecDepth 100000 in
theorem rat_Mul (p q : Rat) (w : World) (hp : FitQ p) (hq : FitQ q) (hw : LawW w) : Calls Tryz.prog 24 #[rqV p, rqV q] w (RvPost w (mulR p q)) :=
  (rat_Mul_core (ngQ p) (ngQ q) (nmQ p) p.den (nmQ q) q.den w hp.1 hp.2 hq.1 hq.2 (den_pos p) (den_pos q) hw (vldR_q hp) (vldR_q hq)).mono fun _ _ h => h.rv
set_option maxHeartbeats 4000000 in
set_option maxRecDepth 100000 in
theorem rat_Add_bad1 (ga gb : Bool) (s1 s2 t1 t2 : ByteArray) (w : World) (hs1 : s1.size ≤ maxLen) (hs2 : s2.size ≤ maxLen) (hw : LawW w) (va : vldR ga s1 s2 = false) :
    Calls Tryz.prog 23 #[.agg #[.bool ga, .string s1, .string s2], .agg #[.bool gb, .string t1, .string t2]] w (ReqPost w 1) := by
  have HW := hide hw
  have HVA : Hid (∀ W, LawW W → Calls Tryz.prog 36 #[.agg #[.bool ga, .string s1, .string s2]] W fun e w' => e = .returned (.bool false) ∧ Below W.heap.size W w') := fun W hW => by
    have := rat_valid ga s1 s2 W hs1 hs2 hW
    rw [va] at this; exact this
  unfold ReqPost zV
  clear va hw
  have HB0 := hide (bAlloc (bAlloc (bAlloc (Below.refl w.heap.size w) (.cells #[.bool ga, .string s1, .string s2] 24)) (.cells #[.bool gb, .string t1, .string t2] 24)) (.cells #[.bool false, .string ⟨#[]⟩, .string ⟨#[]⟩] 24))
  go_enter Tryz.func23, Tryz.ntmps23
  go_wp2_with fail
  have ra := hide (((RC.new w ga s1 s2 24).below (bAlloc (Below.refl _ _) (.cells #[.bool gb, .string t1, .string t2] 24))).below (bAlloc (Below.refl _ _) (.cells #[.bool false, .string ⟨#[]⟩, .string ⟨#[]⟩] 24)))
  have rb := hide ((RC.new_at (w.alloc (.cells #[.bool ga, .string s1, .string s2] 24)) gb t1 t2 24 (b := w.heap.size + 1) (by simp)).below (bAlloc (Below.refl _ _) (.cells #[.bool false, .string ⟨#[]⟩, .string ⟨#[]⟩] 24)))
  have rz := hide (RC.new_at ((w.alloc (.cells #[.bool ga, .string s1, .string s2] 24)).alloc (.cells #[.bool gb, .string t1, .string t2] 24)) false ⟨#[]⟩ ⟨#[]⟩ 24 (b := w.heap.size + 1 + 1) (by simp))
  refine (HVA.out _ (HW.out.below HB0.out)).mono ?_
  rintro e w1 ⟨rfl, hb⟩
  have HB1 := hide (bStep HB0.out hb)
  have RA1 := hide (ra.out.below hb)
  have RB1 := hide (rb.out.below hb)
  have RZ1 := hide (rz.out.below hb)
  clear hb ra rb rz
  obtain ⟨z0, z1, z2, fz0, fz1, fz2⟩ := RZ1.out
  go_wp2_with fail
  obtain ⟨d0, d1, d2, _, _, _⟩ := RZ1.out.set3 false ⟨#[]⟩ ⟨#[]⟩
  exact bodyPost_ret (v := .tuple #[.agg #[.bool false, .string ⟨#[]⟩, .string ⟨#[]⟩], .int .i64 1]) (by simp [results, Tryz.results23, go_sem, d0, d1, d2]) rfl ⟨rfl, bset3 HB1.out (by omega) _ _ _⟩
set_option maxHeartbeats 4000000 in
set_option maxRecDepth 100000 in
theorem rat_Add_bad2 (ga gb : Bool) (s1 s2 t1 t2 : ByteArray) (w : World) (hs1 : s1.size ≤ maxLen) (hs2 : s2.size ≤ maxLen) (ht1 : t1.size ≤ maxLen) (ht2 : t2.size ≤ maxLen) (hw : LawW w) (va : vldR ga s1 s2 = true) (vb : vldR gb t1 t2 = false) :
    Calls Tryz.prog 23 #[.agg #[.bool ga, .string s1, .string s2], .agg #[.bool gb, .string t1, .string t2]] w (ReqPost w 1) := by
  have HW := hide hw
  have HVA : Hid (∀ W, LawW W → Calls Tryz.prog 36 #[.agg #[.bool ga, .string s1, .string s2]] W fun e w' => e = .returned (.bool true) ∧ Below W.heap.size W w') := fun W hW => by
    have := rat_valid ga s1 s2 W hs1 hs2 hW
    rw [va] at this; exact this
  have HVB : Hid (∀ W, LawW W → Calls Tryz.prog 36 #[.agg #[.bool gb, .string t1, .string t2]] W fun e w' => e = .returned (.bool false) ∧ Below W.heap.size W w') := fun W hW => by
    have := rat_valid gb t1 t2 W ht1 ht2 hW
    rw [vb] at this; exact this
  unfold ReqPost zV
  clear va vb hw
  have HB0 := hide (bAlloc (bAlloc (bAlloc (Below.refl w.heap.size w) (.cells #[.bool ga, .string s1, .string s2] 24)) (.cells #[.bool gb, .string t1, .string t2] 24)) (.cells #[.bool false, .string ⟨#[]⟩, .string ⟨#[]⟩] 24))
  go_enter Tryz.func23, Tryz.ntmps23
  go_wp2_with fail
  have ra := hide (((RC.new w ga s1 s2 24).below (bAlloc (Below.refl _ _) (.cells #[.bool gb, .string t1, .string t2] 24))).below (bAlloc (Below.refl _ _) (.cells #[.bool false, .string ⟨#[]⟩, .string ⟨#[]⟩] 24)))
  have rb := hide ((RC.new_at (w.alloc (.cells #[.bool ga, .string s1, .string s2] 24)) gb t1 t2 24 (b := w.heap.size + 1) (by simp)).below (bAlloc (Below.refl _ _) (.cells #[.bool false, .string ⟨#[]⟩, .string ⟨#[]⟩] 24)))
  have rz := hide (RC.new_at ((w.alloc (.cells #[.bool ga, .string s1, .string s2] 24)).alloc (.cells #[.bool gb, .string t1, .string t2] 24)) false ⟨#[]⟩ ⟨#[]⟩ 24 (b := w.heap.size + 1 + 1) (by simp))
  refine (HVA.out _ (HW.out.below HB0.out)).mono ?_
  rintro e w1 ⟨rfl, hb⟩
  have HB1 := hide (bStep HB0.out hb)
  have RA1 := hide (ra.out.below hb)
  have RB1 := hide (rb.out.below hb)
  have RZ1 := hide (rz.out.below hb)
  clear hb ra rb rz
  obtain ⟨d0, d1, d2, _, _, _⟩ := RB1.out
  go_wp2_with fail
  refine (HVB.out _ (HW.out.below HB1.out)).mono ?_
  rintro e w2 ⟨rfl, hb⟩
  have HB2 := hide (bStep HB1.out hb)
  have RA2 := hide (RA1.out.below hb)
  have RB2 := hide (RB1.out.below hb)
  have RZ2 := hide (RZ1.out.below hb)
  clear hb
  clear d0 d1 d2
  obtain ⟨z0, z1, z2, fz0, fz1, fz2⟩ := RZ2.out
  go_wp2_with fail
  obtain ⟨d0, d1, d2, _, _, _⟩ := RZ2.out.set3 false ⟨#[]⟩ ⟨#[]⟩
  exact bodyPost_ret (v := .tuple #[.agg #[.bool false, .string ⟨#[]⟩, .string ⟨#[]⟩], .int .i64 1]) (by simp [results, Tryz.results23, go_sem, d0, d1, d2]) rfl ⟨rfl, bset3 HB2.out (by omega) _ _ _⟩
set_option maxHeartbeats 4000000 in
set_option maxRecDepth 100000 in
theorem rat_Mul_bad1 (ga gb : Bool) (s1 s2 t1 t2 : ByteArray) (w : World) (hs1 : s1.size ≤ maxLen) (hs2 : s2.size ≤ maxLen) (hw : LawW w) (va : vldR ga s1 s2 = false) :
    Calls Tryz.prog 24 #[.agg #[.bool ga, .string s1, .string s2], .agg #[.bool gb, .string t1, .string t2]] w (ReqPost w 1) := by
  have HW := hide hw
  have HVA : Hid (∀ W, LawW W → Calls Tryz.prog 36 #[.agg #[.bool ga, .string s1, .string s2]] W fun e w' => e = .returned (.bool false) ∧ Below W.heap.size W w') := fun W hW => by
    have := rat_valid ga s1 s2 W hs1 hs2 hW
    rw [va] at this; exact this
  unfold ReqPost zV
  clear va hw
  have HB0 := hide (bAlloc (bAlloc (bAlloc (Below.refl w.heap.size w) (.cells #[.bool ga, .string s1, .string s2] 24)) (.cells #[.bool gb, .string t1, .string t2] 24)) (.cells #[.bool false, .string ⟨#[]⟩, .string ⟨#[]⟩] 24))
  go_enter Tryz.func24, Tryz.ntmps24
  go_wp2_with fail
  have ra := hide (((RC.new w ga s1 s2 24).below (bAlloc (Below.refl _ _) (.cells #[.bool gb, .string t1, .string t2] 24))).below (bAlloc (Below.refl _ _) (.cells #[.bool false, .string ⟨#[]⟩, .string ⟨#[]⟩] 24)))
  have rb := hide ((RC.new_at (w.alloc (.cells #[.bool ga, .string s1, .string s2] 24)) gb t1 t2 24 (b := w.heap.size + 1) (by simp)).below (bAlloc (Below.refl _ _) (.cells #[.bool false, .string ⟨#[]⟩, .string ⟨#[]⟩] 24)))
  have rz := hide (RC.new_at ((w.alloc (.cells #[.bool ga, .string s1, .string s2] 24)).alloc (.cells #[.bool gb, .string t1, .string t2] 24)) false ⟨#[]⟩ ⟨#[]⟩ 24 (b := w.heap.size + 1 + 1) (by simp))
  refine (HVA.out _ (HW.out.below HB0.out)).mono ?_
  rintro e w1 ⟨rfl, hb⟩
  have HB1 := hide (bStep HB0.out hb)
  have RA1 := hide (ra.out.below hb)
  have RB1 := hide (rb.out.below hb)
  have RZ1 := hide (rz.out.below hb)
  clear hb ra rb rz
  obtain ⟨z0, z1, z2, fz0, fz1, fz2⟩ := RZ1.out
  go_wp2_with fail
  obtain ⟨d0, d1, d2, _, _, _⟩ := RZ1.out.set3 false ⟨#[]⟩ ⟨#[]⟩
  exact bodyPost_ret (v := .tuple #[.agg #[.bool false, .string ⟨#[]⟩, .string ⟨#[]⟩], .int .i64 1]) (by simp [results, Tryz.results24, go_sem, d0, d1, d2]) rfl ⟨rfl, bset3 HB1.out (by omega) _ _ _⟩
set_option maxHeartbeats 4000000 in
set_option maxRecDepth 100000 in
theorem rat_Mul_bad2 (ga gb : Bool) (s1 s2 t1 t2 : ByteArray) (w : World) (hs1 : s1.size ≤ maxLen) (hs2 : s2.size ≤ maxLen) (ht1 : t1.size ≤ maxLen) (ht2 : t2.size ≤ maxLen) (hw : LawW w) (va : vldR ga s1 s2 = true) (vb : vldR gb t1 t2 = false) :
    Calls Tryz.prog 24 #[.agg #[.bool ga, .string s1, .string s2], .agg #[.bool gb, .string t1, .string t2]] w (ReqPost w 1) := by
  have HW := hide hw
  have HVA : Hid (∀ W, LawW W → Calls Tryz.prog 36 #[.agg #[.bool ga, .string s1, .string s2]] W fun e w' => e = .returned (.bool true) ∧ Below W.heap.size W w') := fun W hW => by
    have := rat_valid ga s1 s2 W hs1 hs2 hW
    rw [va] at this; exact this
  have HVB : Hid (∀ W, LawW W → Calls Tryz.prog 36 #[.agg #[.bool gb, .string t1, .string t2]] W fun e w' => e = .returned (.bool false) ∧ Below W.heap.size W w') := fun W hW => by
    have := rat_valid gb t1 t2 W ht1 ht2 hW
    rw [vb] at this; exact this
  unfold ReqPost zV
  clear va vb hw
  have HB0 := hide (bAlloc (bAlloc (bAlloc (Below.refl w.heap.size w) (.cells #[.bool ga, .string s1, .string s2] 24)) (.cells #[.bool gb, .string t1, .string t2] 24)) (.cells #[.bool false, .string ⟨#[]⟩, .string ⟨#[]⟩] 24))
  go_enter Tryz.func24, Tryz.ntmps24
  go_wp2_with fail
  have ra := hide (((RC.new w ga s1 s2 24).below (bAlloc (Below.refl _ _) (.cells #[.bool gb, .string t1, .string t2] 24))).below (bAlloc (Below.refl _ _) (.cells #[.bool false, .string ⟨#[]⟩, .string ⟨#[]⟩] 24)))
  have rb := hide ((RC.new_at (w.alloc (.cells #[.bool ga, .string s1, .string s2] 24)) gb t1 t2 24 (b := w.heap.size + 1) (by simp)).below (bAlloc (Below.refl _ _) (.cells #[.bool false, .string ⟨#[]⟩, .string ⟨#[]⟩] 24)))
  have rz := hide (RC.new_at ((w.alloc (.cells #[.bool ga, .string s1, .string s2] 24)).alloc (.cells #[.bool gb, .string t1, .string t2] 24)) false ⟨#[]⟩ ⟨#[]⟩ 24 (b := w.heap.size + 1 + 1) (by simp))
  refine (HVA.out _ (HW.out.below HB0.out)).mono ?_
  rintro e w1 ⟨rfl, hb⟩
  have HB1 := hide (bStep HB0.out hb)
  have RA1 := hide (ra.out.below hb)
  have RB1 := hide (rb.out.below hb)
  have RZ1 := hide (rz.out.below hb)
  clear hb ra rb rz
  obtain ⟨d0, d1, d2, _, _, _⟩ := RB1.out
  go_wp2_with fail
  refine (HVB.out _ (HW.out.below HB1.out)).mono ?_
  rintro e w2 ⟨rfl, hb⟩
  have HB2 := hide (bStep HB1.out hb)
  have RA2 := hide (RA1.out.below hb)
  have RB2 := hide (RB1.out.below hb)
  have RZ2 := hide (RZ1.out.below hb)
  clear hb
  clear d0 d1 d2
  obtain ⟨z0, z1, z2, fz0, fz1, fz2⟩ := RZ2.out
  go_wp2_with fail
  obtain ⟨d0, d1, d2, _, _, _⟩ := RZ2.out.set3 false ⟨#[]⟩ ⟨#[]⟩
  exact bodyPost_ret (v := .tuple #[.agg #[.bool false, .string ⟨#[]⟩, .string ⟨#[]⟩], .int .i64 1]) (by simp [results, Tryz.results24, go_sem, d0, d1, d2]) rfl ⟨rfl, bset3 HB2.out (by omega) _ _ _⟩
/-- A call that returns a number and an error, in whatever world of the law. -/
def Ret2 (F : FuncId) (args : Array Value) (g : Bool) (s t : ByteArray) (k : Int) : Prop := ∀ W, LawW W → Calls Tryz.prog F args W fun e w' => e = .returned (.tuple #[.agg #[.bool g, .string s, .string t], .int .i64 k]) ∧ Below W.heap.size W w'
end Go.Proofs.YtbojlmnajndleaaGreatDoor
