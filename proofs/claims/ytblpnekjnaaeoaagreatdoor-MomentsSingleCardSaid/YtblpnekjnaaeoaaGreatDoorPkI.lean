/- RaD, RaE in one text. -/
import Derived.Test.YtblpnekjnaaeoaaGreatDoorPkH
import Derived.Deep.DeepCutAuto
set_option linter.unusedVariables false
set_option linter.unusedSimpArgs false
namespace Go.Proofs.YtblpnekjnaaeoaaGreatDoor
open Go.RowKit

theorem RC.new_at (w : World) (g : Bool) (s t : ByteArray) (T : TypeId) {b : Nat} (hb : w.heap.size = b) : RC (w.alloc (.cells #[.bool g, .string s, .string t] T)) b g s t := by
  subst hb; exact RC.new w g s t T
theorem Only2.set3 (w : World) (b : Nat) (x y z : Value) : Only2 w (((w.setCell ⟨b, 0, none⟩ x).setCell ⟨b, 1, none⟩ y).setCell ⟨b, 2, none⟩ z) b none :=
  (((Only2.refl _ _ _).setCell 0 x).setCell 1 y).setCell 2 z
theorem RC.only {w w' : World} {b R : Nat} {g : Bool} {s t : ByteArray} (h : RC w b g s t) (ho : Only2 w w' R none) (hR : b ≠ R) : RC w' b g s t := by
  have e := ho.block b h.lt hR (by simp)
  refine ⟨?_, ?_, ?_, ?_, ?_, ?_⟩
  · rw [World.cell?_of_block (w := w) (a := ⟨b, 0, none⟩) e]; exact h.c0
  · rw [World.cell?_of_block (w := w) (a := ⟨b, 1, none⟩) e]; exact h.c1
  · rw [World.cell?_of_block (w := w) (a := ⟨b, 2, none⟩) e]; exact h.c2
  · rw [World.frozen?_of_block (w := w) (a := ⟨b, 0, none⟩) e]; exact h.f0
  · rw [World.frozen?_of_block (w := w) (a := ⟨b, 1, none⟩) e]; exact h.f1
  · rw [World.frozen?_of_block (w := w) (a := ⟨b, 2, none⟩) e]; exact h.f2
/-- The variables of Add. -/
structure ST (w : World) (R : Nat) (ga : Bool) (s1 s2 : ByteArray) (gb : Bool) (t1 t2 : ByteArray) (W : World) (er : Int) : Prop where
  bel : Below w.heap.size w W
  ra : RC W w.heap.size ga s1 s2
  rb : RC W (w.heap.size + 1) gb t1 t2
  rz : RC W (w.heap.size + 1 + 1) false ⟨#[]⟩ ⟨#[]⟩
  cell : W.cell? ⟨R, 0, none⟩ = some (.int .i64 er)
  froz : W.frozen? ⟨R, 0, none⟩ = false
  far : w.heap.size + 1 + 1 < R
section
variable {w : World} {R : Nat} {ga : Bool} {s1 s2 : ByteArray} {gb : Bool} {t1 t2 : ByteArray} {W W' : World} {er er' : Int}
theorem ST.below (h : ST w R ga s1 s2 gb t1 t2 W er) (hb : Below W.heap.size W W') : ST w R ga s1 s2 gb t1 t2 W' er :=
  ⟨bStep h.bel hb, h.ra.below hb, h.rb.below hb, h.rz.below hb, keep_cell hb h.cell, (hb.frozen (p := ⟨R, 0, none⟩) (World.block_lt_of_cell? _ _ h.cell)).trans h.froz, h.far⟩
theorem ST.alloc (h : ST w R ga s1 s2 gb t1 t2 W er) (o : Obj) : ST w R ga s1 s2 gb t1 t2 (W.alloc o) er := h.below (bAlloc (Below.refl _ _) o)
theorem ST.drew (h : ST w R ga s1 s2 gb t1 t2 W er) : ST w R ga s1 s2 gb t1 t2 W.drew er := h.below (Below.refl _ _).drew
theorem ST.step (h : ST w R ga s1 s2 gb t1 t2 W er) (k : StepR W W' R er') : ST w R ga s1 s2 gb t1 t2 W' er' :=
  ⟨h.bel.trans (k.only.below (by have := h.far; omega) (by simp) h.bel.size), h.ra.only k.only (by have := h.far; omega), h.rb.only k.only (by have := h.far; omega), h.rz.only k.only (by have := h.far; omega), k.cell, k.froz, h.far⟩
theorem ST.law (h : ST w R ga s1 s2 gb t1 t2 W er) (hw : LawW w) : LawW W := hw.below h.bel
theorem ST.loads (h : ST w R ga s1 s2 gb t1 t2 W er) : W.cell? ⟨w.heap.size, 1, none⟩ = some (.string s1) ∧ W.cell? ⟨w.heap.size, 2, none⟩ = some (.string s2) ∧ W.cell? ⟨w.heap.size + 1, 1, none⟩ = some (.string t1) ∧ W.cell? ⟨w.heap.size + 1, 2, none⟩ = some (.string t2) :=
  ⟨h.ra.c1, h.ra.c2, h.rb.c1, h.rb.c2⟩
/-- The variable of the product of the denominators, before it is set. -/
def DF (w : World) (R : Nat) (W : World) (b : Nat) : Prop := W.cell? ⟨b, 0, none⟩ = some (.string ⟨#[]⟩) ∧ W.frozen? ⟨b, 0, none⟩ = false ∧ b ≠ R ∧ w.heap.size + 1 + 1 < b
theorem DF.new (h : ST w R ga s1 s2 gb t1 t2 W er) (T : TypeId) : DF w R (W.alloc (.cells #[.string ⟨#[]⟩] T)) W.heap.size := by
  have h1 : R < W.heap.size := World.block_lt_of_cell? _ _ h.cell
  have h2 := h.far
  exact ⟨by simp [go_sem], by simp [go_sem], by omega, by omega⟩
theorem DF.step {b : Nat} (h : DF w R W b) (k : StepR W W' R er') : DF w R W' b := by
  have hlt : b < W.heap.size := World.block_lt_of_cell? _ _ h.1
  have e := k.only.block b hlt h.2.2.1 (by simp)
  refine ⟨?_, ?_, h.2.2⟩
  · rw [World.cell?_of_block (w := W) (a := ⟨b, 0, none⟩) e]; exact h.1
  · rw [World.frozen?_of_block (w := W) (a := ⟨b, 0, none⟩) e]; exact h.2.1
theorem ST.setD {b : Nat} (h : ST w R ga s1 s2 gb t1 t2 W er) (hd : DF w R W b) (v : Value) : ST w R ga s1 s2 gb t1 t2 (W.setCell ⟨b, 0, none⟩ v) er := by
  have hb : Below b W (W.setCell ⟨b, 0, none⟩ v) := (Below.refl _ _).setCell (p := ⟨b, 0, none⟩) (Nat.le_refl _) _
  have ho : Only2 W (W.setCell ⟨b, 0, none⟩ v) b none := (Only2.refl _ _ _).setCell 0 _
  have h2 := hd.2.2.2
  refine ⟨h.bel.setCell (p := ⟨b, 0, none⟩) (by show w.heap.size ≤ b; omega) _, h.ra.only ho (by omega), h.rb.only ho (by omega), h.rz.only ho (by omega), ?_, ?_, h.far⟩
  · rw [World.cell?_setCell_other _ _ _ _ (by intro e; injection e with e; exact hd.2.2.1 e)]; exact h.cell
  · rw [World.frozen?_setCell]; exact h.froz
end
def mulHyp (w : World) (R : Nat) (ga : Bool) (s1 s2 : ByteArray) (gb : Bool) (t1 t2 x y : ByteArray) (n : Nat) : Prop :=
  ∀ W er, ST w R ga s1 s2 gb t1 t2 W er → Calls Tryz.prog 60 #[.pointer (some ⟨R, 0, none⟩), .string x, .string y] W fun e w' => e = .returned (.string (msS n)) ∧ ST w R ga s1 s2 gb t1 t2 w' (er2 er (msE n)) ∧ ∀ b, DF w R W b → DF w R w' b
theorem mulHyp_of {w : World} {R : Nat} {ga : Bool} {s1 s2 : ByteArray} {gb : Bool} {t1 t2 x y : ByteArray} {a b : Nat} (hw : LawW w) (ha : a < capN) (hb : b < capN) (hx : natS a = x) (hy : natS b = y) : mulHyp w R ga s1 s2 gb t1 t2 x y (a * b) := fun W er h => by
  subst hx hy
  exact (sums_mul R a b er W ha hb (h.law hw) h.cell h.froz).mono fun e w' ⟨he, hs⟩ => ⟨he, h.step hs, fun b hb => hb.step hs⟩
section
variable {w : World} {R B : Nat} {ga : Bool} {s1 s2 : ByteArray} {gb : Bool} {t1 t2 : ByteArray} {W W' : World} {er er' : Int}
theorem cell_step {v : Value} (h : W.cell? ⟨B, 0, none⟩ = some v) (k : StepR W W' R er') (hB : B ≠ R) : W'.cell? ⟨B, 0, none⟩ = some v := by
  have e := k.only.block B (World.block_lt_of_cell? _ _ h) hB (by simp)
  rw [World.cell?_of_block (w := W) (a := ⟨B, 0, none⟩) e]; exact h
theorem er2_zero (k : Int) : er2 0 k = k := if_pos rfl
theorem addHyp_of {P Q : Nat} {x y z : ByteArray} (hw : LawW w) (hP : P < capN) (hQ : Q < capN) (hx : natS P = x) (hy : natS Q = y) (hB : B ≠ R) (h : ST w R ga s1 s2 gb t1 t2 W 0) (hc : W.cell? ⟨B, 0, none⟩ = some (.string z)) :
    Calls Tryz.prog 63 #[.pointer (some ⟨R, 0, none⟩), .string x, .string y] W fun e w' => e = .returned (.string (msS (P + Q))) ∧ ST w R ga s1 s2 gb t1 t2 w' (msE (P + Q)) ∧ w'.cell? ⟨B, 0, none⟩ = some (.string z) := by
  subst hx hy
  refine (sums_add R P Q 0 W hP hQ (h.law hw) h.cell h.froz).mono fun e w' ⟨he, hs⟩ => ?_
  rw [er2_zero] at hs
  exact ⟨he, h.step hs, cell_step hc hs hB⟩
theorem takeHyp_of {x z : ByteArray} (hB : B ≠ R) (h : ST w R ga s1 s2 gb t1 t2 W 0) (hc : W.cell? ⟨B, 0, none⟩ = some (.string z)) :
    Calls Tryz.prog 64 #[.pointer (some ⟨R, 0, none⟩), .string x, .int .i64 0] W fun e w' => e = .returned (.string x) ∧ ST w R ga s1 s2 gb t1 t2 w' 0 ∧ w'.cell? ⟨B, 0, none⟩ = some (.string z) :=
  (sums_take R x 0 0 W h.cell h.froz).mono fun e w' ⟨he, hs⟩ => by
    rw [er2_zero] at hs
    exact ⟨he, h.step hs, cell_step hc hs hB⟩
theorem subHyp_of {P Q : Nat} {x y z : ByteArray} (hw : LawW w) (hP : P < capN) (hQ : Q < capN) (hle : Q ≤ P) (hx : natS P = x) (hy : natS Q = y) (h : ST w R ga s1 s2 gb t1 t2 W 0) (hc : W.cell? ⟨B, 0, none⟩ = some (.string z)) :
    Calls Tryz.prog 65 #[.string x, .string y] W fun e w' => e = .returned (.tuple #[.string (natS (P - Q)), .int .i64 0]) ∧ ST w R ga s1 s2 gb t1 t2 w' 0 ∧ w'.cell? ⟨B, 0, none⟩ = some (.string z) := by
  subst hx hy
  exact (nat_sub P Q W hP hQ hle (h.law hw)).mono fun e w' ⟨he, hb⟩ => ⟨he, h.below hb, keep_cell hb hc⟩
theorem cmpHyp_of {P Q : Nat} {x y z : ByteArray} (hP : P < capN) (hQ : Q < capN) (hx : natS P = x) (hy : natS Q = y) (h : ST w R ga s1 s2 gb t1 t2 W 0) (hc : W.cell? ⟨B, 0, none⟩ = some (.string z)) :
    Calls Tryz.prog 58 #[.string x, .string y] W fun e w' => e = .returned (.int .i64 (cmpN P Q)) ∧ ST w R ga s1 s2 gb t1 t2 w' 0 ∧ w'.cell? ⟨B, 0, none⟩ = some (.string z) := by
  subst hx hy
  exact (nat_compare P Q W hP hQ).mono fun e w' ⟨he, hb⟩ => ⟨he, h.below hb, keep_cell hb hc⟩
theorem joinHyp_of {g : Bool} {n D : Nat} {x z : ByteArray} (hw : LawW w) (hn : n < capN) (hD : D < capN) (hD0 : 0 < D) (hx : natS n = x) (hz : natS D = z) (h : ST w R ga s1 s2 gb t1 t2 W 0) (hc : W.cell? ⟨B, 0, none⟩ = some (.string z)) :
    Calls Tryz.prog 61 #[.bool g, .string x, .pointer (some ⟨R, 0, none⟩), .pointer (some ⟨B, 0, none⟩)] W fun e w' => e = .returned (.tuple #[.agg #[.bool (ngQ (mkQ g n D)), .string (natS (nmQ (mkQ g n D))), .string (natS (mkQ g n D).den)], .int .i64 0]) ∧ ST w R ga s1 s2 gb t1 t2 w' 0 := by
  subst hx hz
  exact (join_ok R B g n D W hn hD hD0 (h.law hw) h.cell hc).mono fun e w' ⟨he, hb⟩ => ⟨he, h.below hb⟩
theorem joinErr_of {g : Bool} {x : ByteArray} {v : Value} (h : ST w R ga s1 s2 gb t1 t2 W 2) :
    Calls Tryz.prog 61 #[.bool g, .string x, .pointer (some ⟨R, 0, none⟩), v] W fun e w' => e = .returned (.tuple #[.agg #[.bool false, .string ⟨#[]⟩, .string ⟨#[]⟩], .int .i64 2]) ∧ ST w R ga s1 s2 gb t1 t2 w' 2 :=
  (join_err R g x v 2 W (by decide) h.cell).mono fun e w' ⟨he, hb⟩ => ⟨he, h.below hb⟩
end
/-- What Add returns. -/
def AddPost (w : World) (ga gb : Bool) (P Q D : Nat) (e : Ending) (w' : World) : Prop :=
  if P < capN ∧ Q < capN ∧ D < capN then
    (if ga = gb then (if P + Q < capN then RqPost w (mkQ ga (P + Q) D) e w' else ReqPost w 2 e w')
    else if P < Q then RqPost w (mkQ gb (Q - P) D) e w' else RqPost w (mkQ ga (P - Q) D) e w')
  else ReqPost w 2 e w'
theorem er3_bad {P Q D : Nat} (h : ¬ (P < capN ∧ Q < capN ∧ D < capN)) : er2 (er2 (er2 0 (msE P)) (msE Q)) (msE D) = 2 := by
  by_cases h1 : P < capN
  · by_cases h2 : Q < capN
    · have h3 : ¬ D < capN := fun h3 => h ⟨h1, h2, h3⟩
      rw [msE_ok h1, msE_ok h2, msE_bad h3]; rfl
    · rw [msE_ok h1, msE_bad h2]; rfl
  · rw [msE_bad h1]; rfl
theorem er3_ok {P Q D : Nat} (h : P < capN ∧ Q < capN ∧ D < capN) : er2 (er2 (er2 0 (msE P)) (msE Q)) (msE D) = 0 := by
  rw [msE_ok h.1, msE_ok h.2.1, msE_ok h.2.2]; rfl
set_option maxHeartbeats 4000000 in
set_option maxRecDepth 100000 in
theorem rat_Add_core (ga gb : Bool) (a1 a2 b1 b2 : Nat) (w : World) (ha1 : a1 < capN) (ha2 : a2 < capN) (hb1 : b1 < capN) (hb2 : b2 < capN) (ha0 : 0 < a2) (hb0 : 0 < b2) (hw : LawW w)
    (va : vldR ga (natS a1) (natS a2) = true) (vb : vldR gb (natS b1) (natS b2) = true) :
    Calls Tryz.prog 37 #[.agg #[.bool ga, .string (natS a1), .string (natS a2)], .agg #[.bool gb, .string (natS b1), .string (natS b2)]] w (AddPost w ga gb (a1 * b2) (b1 * a2) (a2 * b2)) := by
  have HW := hide hw
  have HVA : Hid (∀ W, LawW W → Calls Tryz.prog 47 #[.agg #[.bool ga, .string (natS a1), .string (natS a2)]] W fun e w' => e = .returned (.bool true) ∧ Below W.heap.size W w') := fun W hW => by
    have := rat_valid ga (natS a1) (natS a2) W (natS_max ha1) (natS_max ha2) hW
    rw [va] at this; exact this
  have HVB : Hid (∀ W, LawW W → Calls Tryz.prog 47 #[.agg #[.bool gb, .string (natS b1), .string (natS b2)]] W fun e w' => e = .returned (.bool true) ∧ Below W.heap.size W w') := fun W hW => by
    have := rat_valid gb (natS b1) (natS b2) W (natS_max hb1) (natS_max hb2) hW
    rw [vb] at this; exact this
  obtain ⟨s1, hs1⟩ : ∃ s, natS a1 = s := ⟨_, rfl⟩
  obtain ⟨s2, hs2⟩ : ∃ s, natS a2 = s := ⟨_, rfl⟩
  obtain ⟨t1, ht1⟩ : ∃ s, natS b1 = s := ⟨_, rfl⟩
  obtain ⟨t2, ht2⟩ : ∃ s, natS b2 = s := ⟨_, rfl⟩
  rw [hs1, hs2] at HVA
  rw [ht1, ht2] at HVB
  rw [hs1, hs2, ht1, ht2]
  clear va vb hw
  have HS1 := hide hs1
  have HS2 := hide hs2
  have HT1 := hide ht1
  have HT2 := hide ht2
  clear hs1 hs2 ht1 ht2
  have HB0 := hide (bAlloc (bAlloc (bAlloc (Below.refl w.heap.size w) (.cells #[.bool ga, .string s1, .string s2] 29)) (.cells #[.bool gb, .string t1, .string t2] 29)) (.cells #[.bool false, .string ⟨#[]⟩, .string ⟨#[]⟩] 29))
  go_enter Tryz.func37, Tryz.ntmps37
  go_wp2_with fail
  have ra := hide (((RC.new w ga s1 s2 29).below (bAlloc (Below.refl _ _) (.cells #[.bool gb, .string t1, .string t2] 29))).below (bAlloc (Below.refl _ _) (.cells #[.bool false, .string ⟨#[]⟩, .string ⟨#[]⟩] 29)))
  have rb := hide ((RC.new_at (w.alloc (.cells #[.bool ga, .string s1, .string s2] 29)) gb t1 t2 29 (b := w.heap.size + 1) (by simp)).below (bAlloc (Below.refl _ _) (.cells #[.bool false, .string ⟨#[]⟩, .string ⟨#[]⟩] 29)))
  have rz := hide (RC.new_at ((w.alloc (.cells #[.bool ga, .string s1, .string s2] 29)).alloc (.cells #[.bool gb, .string t1, .string t2] 29)) false ⟨#[]⟩ ⟨#[]⟩ 29 (b := w.heap.size + 1 + 1) (by simp))
  refine (HVA.out _ (HW.out.below HB0.out)).mono ?_
  rintro e w1 ⟨rfl, hb⟩
  have HB1 := hide (bStep HB0.out hb)
  have RA1 := hide (ra.out.below hb)
  have RB1 := hide (rb.out.below hb)
  have RZ1 := hide (rz.out.below hb)
  clear hb ra rb rz
  obtain ⟨d0, d1, d2, _, _, _⟩ := RB1.out
  go_wp2_with fail
  refine (HVB.out _ (HW.out.below HB1.out)).mono ?_
  rintro e w2 ⟨rfl, hb⟩
  have HB2 := hide (bStep HB1.out hb)
  have RA2 := hide (RA1.out.below hb)
  have RB2 := hide (RB1.out.below hb)
  have RZ2 := hide (RZ1.out.below hb)
  clear hb d0 d1 d2
  go_wp2_with fail
  obtain ⟨R, hR⟩ : ∃ R, w2.heap.size = R := ⟨_, rfl⟩
  have hst0 : ST w R ga s1 s2 gb t1 t2 (w2.alloc (.cells #[.int .i64 0] 86)) 0 := by
    have h1 := RZ2.out.lt
    subst hR
    exact ⟨bAlloc HB2.out _, RA2.out.below (bAlloc (Below.refl _ _) _), RB2.out.below (bAlloc (Below.refl _ _) _), RZ2.out.below (bAlloc (Below.refl _ _) _), by simp [go_sem], by simp [go_sem], h1⟩
  have HMP : Hid (∀ W er, ST w R ga s1 s2 gb t1 t2 W er → Calls Tryz.prog 60 #[.pointer (some ⟨R, 0, none⟩), .string s1, .string t2] W fun e w' => e = .returned (.string (msS (a1 * b2))) ∧ ST w R ga s1 s2 gb t1 t2 w' (er2 er (msE (a1 * b2))) ∧ ∀ b, DF w R W b → DF w R w' b) := mulHyp_of HW.out ha1 hb2 HS1.out HT2.out
  have HMQ : Hid (∀ W er, ST w R ga s1 s2 gb t1 t2 W er → Calls Tryz.prog 60 #[.pointer (some ⟨R, 0, none⟩), .string t1, .string s2] W fun e w' => e = .returned (.string (msS (b1 * a2))) ∧ ST w R ga s1 s2 gb t1 t2 w' (er2 er (msE (b1 * a2))) ∧ ∀ b, DF w R W b → DF w R w' b) := mulHyp_of HW.out hb1 ha2 HT1.out HS2.out
  have HMD : Hid (∀ W er, ST w R ga s1 s2 gb t1 t2 W er → Calls Tryz.prog 60 #[.pointer (some ⟨R, 0, none⟩), .string s2, .string t2] W fun e w' => e = .returned (.string (msS (a2 * b2))) ∧ ST w R ga s1 s2 gb t1 t2 w' (er2 er (msE (a2 * b2))) ∧ ∀ b, DF w R W b → DF w R w' b) := mulHyp_of HW.out ha2 hb2 HS2.out HT2.out
  rw [hR]
  obtain ⟨w3, hw3⟩ : ∃ w3, w2.alloc (.cells #[.int .i64 0] 86) = w3 := ⟨_, rfl⟩
  rw [hw3] at hst0 ⊢
  obtain ⟨P, hP⟩ : ∃ P, a1 * b2 = P := ⟨_, rfl⟩
  obtain ⟨Q, hQ⟩ : ∃ Q, b1 * a2 = Q := ⟨_, rfl⟩
  obtain ⟨D, hD⟩ : ∃ D, a2 * b2 = D := ⟨_, rfl⟩
  rw [hP] at HMP
  rw [hQ] at HMQ
  rw [hD] at HMD
  obtain ⟨mP, hmP⟩ : ∃ s, msS P = s := ⟨_, rfl⟩
  obtain ⟨mQ, hmQ⟩ : ∃ s, msS Q = s := ⟨_, rfl⟩
  obtain ⟨mD, hmD⟩ : ∃ s, msS D = s := ⟨_, rfl⟩
  obtain ⟨eP, heP⟩ : ∃ s, msE P = s := ⟨_, rfl⟩
  obtain ⟨eQ, heQ⟩ : ∃ s, msE Q = s := ⟨_, rfl⟩
  obtain ⟨eD, heD⟩ : ∃ s, msE D = s := ⟨_, rfl⟩
  rw [hmP, heP] at HMP
  rw [hmQ, heQ] at HMQ
  rw [hmD, heD] at HMD
  have KmP := hide hmP
  have KmQ := hide hmQ
  have KmD := hide hmD
  have KeP := hide heP
  have KeQ := hide heQ
  have KeD := hide heD
  have KP := hide hP
  have KQ := hide hQ
  have KD := hide hD
  clear hmP hmQ hmD heP heQ heD hP hQ hD
  clear hw3 hR HB0 HB1 HB2 RA1 RA2 RB1 RB2 RZ1 RZ2
  go_cut [8, 9, 10] (fun z8 z9 z10 wx => ∃ B : Nat, z8 = .string mP ∧ z9 = .string mQ ∧ z10 = .pointer (some ⟨B, 0, none⟩) ∧ ST w R ga s1 s2 gb t1 t2 wx (er2 (er2 (er2 0 eP) eQ) eD) ∧ wx.cell? ⟨B, 0, none⟩ = some (.string mD) ∧ B ≠ R)
  case first =>
    have hst := hst0.drew
    go_region_held3 (fun w' => w'.cell? ⟨w.heap.size, 1, none⟩ = some (.string s1) ∧ w'.cell? ⟨w.heap.size, 2, none⟩ = some (.string s2) ∧ w'.cell? ⟨w.heap.size + 1, 1, none⟩ = some (.string t1) ∧ w'.cell? ⟨w.heap.size + 1, 2, none⟩ = some (.string t2))
      (first | exact ST.loads (by assumption) | exact ST.loads (ST.alloc (by assumption) _) | exact ST.loads (ST.setD (by assumption) (by assumption) _))
      ((first
        | (go_at_call 60; (with_reducible refine (HMP.out _ 0 ?_).mono ?_); (· (first | assumption | exact ST.alloc (by assumption) _)); rintro e w5 ⟨rfl, hst5, hd⟩; (first | have hD5 := hd _ (DF.new (by assumption) _) | have hD5 := hd _ (by assumption) | skip); (try obtain ⟨c5, f5, n5, l5⟩ := id hD5); clear hd)
        | (go_at_call 60; (with_reducible refine (HMQ.out _ (er2 0 eP) ?_).mono ?_); (· (first | assumption | exact ST.alloc (by assumption) _)); rintro e w6 ⟨rfl, hst6, hd⟩; (first | have hD6 := hd _ (DF.new (by assumption) _) | have hD6 := hd _ (by assumption) | skip); (try obtain ⟨c6, f6, n6, l6⟩ := id hD6); clear hd)
        | (go_at_call 60; (with_reducible refine (HMD.out _ (er2 (er2 0 eP) eQ) ?_).mono ?_); (· (first | assumption | exact ST.alloc (by assumption) _)); rintro e w7 ⟨rfl, hst7, hd⟩; (first | have hD7 := hd _ (DF.new (by assumption) _) | have hD7 := hd _ (by assumption) | skip); (try obtain ⟨c7, f7, n7, l7⟩ := id hD7); clear hd)))
    all_goals
      go_wp2_with fail
      go_meet
      first
      | exact ⟨_, rfl, rfl, rfl, ST.alloc (by assumption) _, by simp [go_sem], by have h9 := ST.cell (by assumption : ST w R ga s1 s2 gb t1 t2 w7 _); have : R < w7.heap.size := World.block_lt_of_cell? _ _ h9; omega⟩
      | exact ⟨_, rfl, rfl, rfl, ST.setD (by assumption) (by assumption) _, World.cell?_setCell_same _ _ _ (by assumption), by assumption⟩
  case rest =>
    obtain ⟨B, rfl, rfl, rfl, hst, hB, hBR⟩ := hcut
    obtain ⟨a0, a1', a2', fa0, fa1, fa2⟩ := hst.ra
    obtain ⟨b0, b1', b2', fb0, fb1, fb2⟩ := hst.rb
    obtain ⟨z0, z1, z2, fz0, fz1, fz2⟩ := hst.rz
    by_cases hall : P < capN ∧ Q < capN ∧ D < capN
    · have he : er2 (er2 (er2 0 eP) eQ) eD = 0 := by rw [← KeP.out, ← KeQ.out, ← KeD.out]; exact er3_ok hall
      rw [he] at hst
      have hc := hst.cell
      have hRn : R ≠ w.heap.size + 1 + 1 := by have := hst.far; omega
      have KPs : Hid (natS P = mP) := (msS_ok hall.1).symm.trans KmP.out
      have KQs : Hid (natS Q = mQ) := (msS_ok hall.2.1).symm.trans KmQ.out
      have KDs : Hid (natS D = mD) := (msS_ok hall.2.2).symm.trans KmD.out
      have hD0 : 0 < D := by rw [← KD.out]; exact Nat.mul_pos ha0 hb0
      have HALL := hide hall
      clear he hall
      by_cases hs : ga = gb
      · subst hs
        have HADD := fun W h hc => addHyp_of (W := W) (B := B) (x := mP) (y := mQ) (z := mD) (ga := ga) (gb := ga) (s1 := s1) (s2 := s2) (t1 := t1) (t2 := t2) HW.out HALL.out.1 HALL.out.2.1 KPs.out KQs.out hBR h hc
        by_cases hS : P + Q < capN
        · have HJ := fun W h hc => joinHyp_of (W := W) (B := B) (R := R) (g := ga) (x := natS (P + Q)) (z := mD) (ga := ga) (gb := ga) (s1 := s1) (s2 := s2) (t1 := t1) (t2 := t2) HW.out hS HALL.out.2.2 hD0 rfl KDs.out h hc
          rw [msS_ok (n := P + Q) hS, msE_ok (n := P + Q) hS] at HADD
          have HRES : Hid (∀ e w', e = .returned (.tuple #[rqV (mkQ ga (P + Q) D), .int .i64 0]) → Below w.heap.size w w' → AddPost w ga ga (a1 * b2) (b1 * a2) (a2 * b2) e w') := fun e w' he hb => by
            rw [KP.out, KQ.out, KD.out]; unfold AddPost; rw [if_pos HALL.out, if_pos rfl, if_pos hS]; exact ⟨he, hb⟩
          unfold rqV at HRES
          obtain ⟨g', hg'⟩ : ∃ s, ngQ (mkQ ga (P + Q) D) = s := ⟨_, rfl⟩
          obtain ⟨u', hu'⟩ : ∃ s, natS (nmQ (mkQ ga (P + Q) D)) = s := ⟨_, rfl⟩
          obtain ⟨v', hv'⟩ : ∃ s, natS (mkQ ga (P + Q) D).den = s := ⟨_, rfl⟩
          obtain ⟨x', hx'⟩ : ∃ s, natS (P + Q) = s := ⟨_, rfl⟩
          rw [hg', hu', hv', hx'] at HJ
          rw [hg', hu', hv'] at HRES
          rw [hx'] at HADD
          have HADD := hide HADD
          have HJ := hide HJ
          clear hg' hu' hv' hx'
          go_wp2_with fail
          have hst0' := hst.drew
          have hB' : wc.drew.cell? ⟨B, 0, none⟩ = some (.string mD) := keep_cell ((Below.refl _ _).drew) hB
          go_region_held3 (fun w' => w'.cell? ⟨w.heap.size, 0, none⟩ = some (.bool ga))
              (first | exact RC.c0 (ST.ra (by assumption)) | exact RC.c0 (ST.ra (ST.drew (by assumption))) | exact RC.c0 ((ST.ra (by assumption)).only (Only2.set3 _ _ _ _ _) (by omega)))
              ((first
                | (go_at_call 63; (with_reducible refine (HADD.out _ (by assumption) (by assumption)).mono ?_); rintro e w5 ⟨rfl, hst5, hB5⟩)
                | (go_at_call 61; (with_reducible refine (HJ.out _ (by assumption) (by assumption)).mono ?_); rintro e w6 ⟨rfl, hst6⟩; obtain ⟨z0, z1, z2, fz0, fz1, fz2⟩ := hst6.rz)))
          all_goals
            go_wp2_with fail
            obtain ⟨d0, d1, d2, _, _, _⟩ := hst6.rz.set3 g' u' v'
            exact bodyPost_ret (v := .tuple #[.agg #[.bool g', .string u', .string v'], .int .i64 0]) (by simp [results, Tryz.results37, go_sem, d0, d1, d2]) rfl
              (by with_reducible refine HRES.out _ _ ?_ (bset3 hst6.bel (by omega) _ _ _); rfl)
        · rw [msE_bad (n := P + Q) hS] at HADD
          have HRES : Hid (∀ e w', e = .returned (.tuple #[.agg #[.bool false, .string ⟨#[]⟩, .string ⟨#[]⟩], .int .i64 2]) → Below w.heap.size w w' → AddPost w ga ga (a1 * b2) (b1 * a2) (a2 * b2) e w') := fun e w' he hb => by
            rw [KP.out, KQ.out, KD.out]; unfold AddPost; rw [if_pos HALL.out, if_pos rfl, if_neg hS]; exact ⟨he, hb⟩
          have HJ := hide (fun W h => joinErr_of (W := W) (R := R) (g := ga) (x := msS (P + Q)) (v := .pointer (some ⟨B, 0, none⟩)) (w := w) (ga := ga) (gb := ga) (s1 := s1) (s2 := s2) (t1 := t1) (t2 := t2) h)
          obtain ⟨x', hx'⟩ : ∃ s, msS (P + Q) = s := ⟨_, rfl⟩
          rw [hx'] at HADD HJ
          have HADD := hide HADD
          clear hx'
          go_wp2_with fail
          have hst0' := hst.drew
          have hB' : wc.drew.cell? ⟨B, 0, none⟩ = some (.string mD) := keep_cell ((Below.refl _ _).drew) hB
          go_region_held3 (fun w' => w'.cell? ⟨w.heap.size, 0, none⟩ = some (.bool ga))
              (first | exact RC.c0 (ST.ra (by assumption)) | exact RC.c0 (ST.ra (ST.drew (by assumption))) | exact RC.c0 ((ST.ra (by assumption)).only (Only2.set3 _ _ _ _ _) (by omega)))
              ((first
                | (go_at_call 63; (with_reducible refine (HADD.out _ (by assumption) (by assumption)).mono ?_); rintro e w5 ⟨rfl, hst5, hB5⟩)
                | (go_at_call 61; (with_reducible refine (HJ.out _ (by assumption)).mono ?_); rintro e w6 ⟨rfl, hst6⟩; obtain ⟨z0, z1, z2, fz0, fz1, fz2⟩ := hst6.rz)))
          all_goals
            go_wp2_with fail
            obtain ⟨d0, d1, d2, _, _, _⟩ := hst6.rz.set3 false ⟨#[]⟩ ⟨#[]⟩
            exact bodyPost_ret (v := .tuple #[.agg #[.bool false, .string ⟨#[]⟩, .string ⟨#[]⟩], .int .i64 2]) (by simp [results, Tryz.results37, go_sem, d0, d1, d2]) rfl
              (by with_reducible refine HRES.out _ _ ?_ (bset3 hst6.bel (by omega) _ _ _); rfl)
      · have hsb : (ga == gb) = false := by simpa using hs
        have HCMP : Hid (∀ W, ST w R ga s1 s2 gb t1 t2 W 0 → W.cell? ⟨B, 0, none⟩ = some (.string mD) → Calls Tryz.prog 58 #[.string mP, .string mQ] W fun e w' => e = .returned (.int .i64 (cmpN P Q)) ∧ ST w R ga s1 s2 gb t1 t2 w' 0 ∧ w'.cell? ⟨B, 0, none⟩ = some (.string mD)) := fun W h hc => cmpHyp_of HALL.out.1 HALL.out.2.1 KPs.out KQs.out h hc
        have HTK : Hid (∀ (x : ByteArray) W, ST w R ga s1 s2 gb t1 t2 W 0 → W.cell? ⟨B, 0, none⟩ = some (.string mD) → Calls Tryz.prog 64 #[.pointer (some ⟨R, 0, none⟩), .string x, .int .i64 0] W fun e w' => e = .returned (.string x) ∧ ST w R ga s1 s2 gb t1 t2 w' 0 ∧ w'.cell? ⟨B, 0, none⟩ = some (.string mD)) := fun x W h hc => takeHyp_of hBR h hc
        by_cases hlt : P < Q
        · have hcm : cmpN P Q < 0 := cmpN_neg.2 hlt
          have hcb : decide (cmpN P Q < 0) = true := decide_eq_true hcm
          have HSB : Hid (∀ W, ST w R ga s1 s2 gb t1 t2 W 0 → W.cell? ⟨B, 0, none⟩ = some (.string mD) → Calls Tryz.prog 65 #[.string mQ, .string mP] W fun e w' => e = .returned (.tuple #[.string (natS (Q - P)), .int .i64 0]) ∧ ST w R ga s1 s2 gb t1 t2 w' 0 ∧ w'.cell? ⟨B, 0, none⟩ = some (.string mD)) := fun W h hc => subHyp_of HW.out HALL.out.2.1 HALL.out.1 (by omega) KQs.out KPs.out h hc
          have HJ := fun W h hc => joinHyp_of (W := W) (B := B) (R := R) (g := gb) (x := natS (Q - P)) (z := mD) (ga := ga) (gb := gb) (s1 := s1) (s2 := s2) (t1 := t1) (t2 := t2) HW.out (show Q - P < capN from Nat.lt_of_le_of_lt (Nat.sub_le _ _) HALL.out.2.1) HALL.out.2.2 hD0 rfl KDs.out h hc
          have HRES : Hid (∀ e w', e = .returned (.tuple #[rqV (mkQ gb (Q - P) D), .int .i64 0]) → Below w.heap.size w w' → AddPost w ga gb (a1 * b2) (b1 * a2) (a2 * b2) e w') := fun e w' he hb => by
            rw [KP.out, KQ.out, KD.out]; unfold AddPost; rw [if_pos HALL.out, if_neg hs, if_pos hlt]; exact ⟨he, hb⟩
          unfold rqV at HRES
          obtain ⟨g', hg'⟩ : ∃ s, ngQ (mkQ gb (Q - P) D) = s := ⟨_, rfl⟩
          obtain ⟨u', hu'⟩ : ∃ s, natS (nmQ (mkQ gb (Q - P) D)) = s := ⟨_, rfl⟩
          obtain ⟨v', hv'⟩ : ∃ s, natS (mkQ gb (Q - P) D).den = s := ⟨_, rfl⟩
          obtain ⟨x', hx'⟩ : ∃ s, natS (Q - P) = s := ⟨_, rfl⟩
          obtain ⟨cm, hcme⟩ : ∃ c, cmpN P Q = c := ⟨_, rfl⟩
          rw [hg', hu', hv', hx'] at HJ
          rw [hg', hu', hv'] at HRES
          rw [hx'] at HSB
          rw [hcme] at HCMP hcm hcb
          have HJ := hide HJ
          clear hg' hu' hv' hx' hcme
          go_wp2_with fail
          refine (HCMP.out _ hst hB).mono ?_
          rintro e w4 ⟨rfl, hst4, hB4⟩
          obtain ⟨a0, _, _, _, _, _⟩ := hst4.ra
          obtain ⟨b0, _, _, _, _, _⟩ := hst4.rb
          go_wp2_with fail
          have hst0' := hst4.drew
          have hB' : w4.drew.cell? ⟨B, 0, none⟩ = some (.string mD) := keep_cell ((Below.refl _ _).drew) hB4
          go_region_held3 (fun w' => w'.cell? ⟨w.heap.size + 1, 0, none⟩ = some (.bool gb))
              (first | exact RC.c0 (ST.rb (by assumption)) | exact RC.c0 (ST.rb (ST.drew (by assumption))) | exact RC.c0 ((ST.rb (by assumption)).only (Only2.set3 _ _ _ _ _) (by omega)))
              ((first
                | (go_at_call 65; (with_reducible refine (HSB.out _ (by assumption) (by assumption)).mono ?_); rintro e w5 ⟨rfl, hst5, hB5⟩)
                | (go_at_call 64; (with_reducible refine (HTK.out _ _ (by assumption) (by assumption)).mono ?_); rintro e w6 ⟨rfl, hst6, hB6⟩)
                | (go_at_call 61; (with_reducible refine (HJ.out _ (by assumption) (by assumption)).mono ?_); rintro e w7 ⟨rfl, hst7⟩; obtain ⟨z0, z1, z2, fz0, fz1, fz2⟩ := hst7.rz)))
          all_goals
            go_wp2_with fail
            obtain ⟨d0, d1, d2, _, _, _⟩ := hst7.rz.set3 g' u' v'
            exact bodyPost_ret (v := .tuple #[.agg #[.bool g', .string u', .string v'], .int .i64 0]) (by simp [results, Tryz.results37, go_sem, d0, d1, d2]) rfl
              (by with_reducible refine HRES.out _ _ ?_ (bset3 hst7.bel (by omega) _ _ _); rfl)
        · have hcm : cmpN P Q ≥ 0 := by have h := cmpN_neg (x := P) (y := Q); omega
          have hcb : decide (cmpN P Q < 0) = false := decide_eq_false (by omega)
          have HSB : Hid (∀ W, ST w R ga s1 s2 gb t1 t2 W 0 → W.cell? ⟨B, 0, none⟩ = some (.string mD) → Calls Tryz.prog 65 #[.string mP, .string mQ] W fun e w' => e = .returned (.tuple #[.string (natS (P - Q)), .int .i64 0]) ∧ ST w R ga s1 s2 gb t1 t2 w' 0 ∧ w'.cell? ⟨B, 0, none⟩ = some (.string mD)) := fun W h hc => subHyp_of HW.out HALL.out.1 HALL.out.2.1 (by omega) KPs.out KQs.out h hc
          have HJ := fun W h hc => joinHyp_of (W := W) (B := B) (R := R) (g := ga) (x := natS (P - Q)) (z := mD) (ga := ga) (gb := gb) (s1 := s1) (s2 := s2) (t1 := t1) (t2 := t2) HW.out (show P - Q < capN from Nat.lt_of_le_of_lt (Nat.sub_le _ _) HALL.out.1) HALL.out.2.2 hD0 rfl KDs.out h hc
          have HRES : Hid (∀ e w', e = .returned (.tuple #[rqV (mkQ ga (P - Q) D), .int .i64 0]) → Below w.heap.size w w' → AddPost w ga gb (a1 * b2) (b1 * a2) (a2 * b2) e w') := fun e w' he hb => by
            rw [KP.out, KQ.out, KD.out]; unfold AddPost; rw [if_pos HALL.out, if_neg hs, if_neg hlt]; exact ⟨he, hb⟩
          unfold rqV at HRES
          obtain ⟨g', hg'⟩ : ∃ s, ngQ (mkQ ga (P - Q) D) = s := ⟨_, rfl⟩
          obtain ⟨u', hu'⟩ : ∃ s, natS (nmQ (mkQ ga (P - Q) D)) = s := ⟨_, rfl⟩
          obtain ⟨v', hv'⟩ : ∃ s, natS (mkQ ga (P - Q) D).den = s := ⟨_, rfl⟩
          obtain ⟨x', hx'⟩ : ∃ s, natS (P - Q) = s := ⟨_, rfl⟩
          obtain ⟨cm, hcme⟩ : ∃ c, cmpN P Q = c := ⟨_, rfl⟩
          rw [hg', hu', hv', hx'] at HJ
          rw [hg', hu', hv'] at HRES
          rw [hx'] at HSB
          rw [hcme] at HCMP hcm hcb
          have HJ := hide HJ
          clear hg' hu' hv' hx' hcme
          go_wp2_with fail
          refine (HCMP.out _ hst hB).mono ?_
          rintro e w4 ⟨rfl, hst4, hB4⟩
          obtain ⟨a0, _, _, _, _, _⟩ := hst4.ra
          obtain ⟨b0, _, _, _, _, _⟩ := hst4.rb
          go_wp2_with fail
          have hst0' := hst4.drew
          have hB' : w4.drew.cell? ⟨B, 0, none⟩ = some (.string mD) := keep_cell ((Below.refl _ _).drew) hB4
          go_region_held3 (fun w' => w'.cell? ⟨w.heap.size, 0, none⟩ = some (.bool ga))
              (first | exact RC.c0 (ST.ra (by assumption)) | exact RC.c0 (ST.ra (ST.drew (by assumption))) | exact RC.c0 ((ST.ra (by assumption)).only (Only2.set3 _ _ _ _ _) (by omega)))
              ((first
                | (go_at_call 65; (with_reducible refine (HSB.out _ (by assumption) (by assumption)).mono ?_); rintro e w5 ⟨rfl, hst5, hB5⟩)
                | (go_at_call 64; (with_reducible refine (HTK.out _ _ (by assumption) (by assumption)).mono ?_); rintro e w6 ⟨rfl, hst6, hB6⟩)
                | (go_at_call 61; (with_reducible refine (HJ.out _ (by assumption) (by assumption)).mono ?_); rintro e w7 ⟨rfl, hst7⟩; obtain ⟨z0, z1, z2, fz0, fz1, fz2⟩ := hst7.rz)))
          all_goals
            go_wp2_with fail
            obtain ⟨d0, d1, d2, _, _, _⟩ := hst7.rz.set3 g' u' v'
            exact bodyPost_ret (v := .tuple #[.agg #[.bool g', .string u', .string v'], .int .i64 0]) (by simp [results, Tryz.results37, go_sem, d0, d1, d2]) rfl
              (by with_reducible refine HRES.out _ _ ?_ (bset3 hst7.bel (by omega) _ _ _); rfl)
    · have he : er2 (er2 (er2 0 eP) eQ) eD = 2 := by rw [← KeP.out, ← KeQ.out, ← KeD.out]; exact er3_bad hall
      rw [he] at hst
      have hc := hst.cell
      have hRn : R ≠ w.heap.size + 1 + 1 := by have := hst.far; omega
      have HALL := hide hall
      clear he hall
      go_wp2_with fail
      go_region
      all_goals
        go_wp2_with fail
        obtain ⟨d0, d1, d2, _, _, _⟩ := hst.rz.set3 false ⟨#[]⟩ ⟨#[]⟩
        exact bodyPost_ret (v := .tuple #[.agg #[.bool false, .string ⟨#[]⟩, .string ⟨#[]⟩], .int .i64 2]) (by simp [results, Tryz.results37, go_sem, d0, d1, d2]) rfl
          (by rw [KP.out, KQ.out, KD.out]; unfold AddPost; rw [if_neg HALL.out]; exact ⟨rfl, (bset3 hst.bel (by omega) _ _ _).drew⟩)
end Go.Proofs.YtblpnekjnaaeoaaGreatDoor
namespace Go.Proofs.YtblpnekjnaaeoaaGreatDoor
open Go.RowKit

/-- A result: a number, or ErrLimit. -/
def rvV : Option Rat → Value
  | some q => rqV q
  | none => zV
def rvE : Option Rat → Int
  | some _ => 0
  | none => 2
def addFit (p q : Rat) : Prop := nmQ p * q.den < capN ∧ nmQ q * p.den < capN ∧ p.den * q.den < capN ∧ (ngQ p = ngQ q → nmQ p * q.den + nmQ q * p.den < capN)
def mulFit (p q : Rat) : Prop := nmQ p * nmQ q < capN ∧ p.den * q.den < capN
instance (p q : Rat) : Decidable (addFit p q) := by unfold addFit; infer_instance
instance (p q : Rat) : Decidable (mulFit p q) := by unfold mulFit; infer_instance
def addR (p q : Rat) : Option Rat := if addFit p q then some (p + q) else none
def mulR (p q : Rat) : Option Rat := if mulFit p q then some (p * q) else none
theorem addR_ok {p q : Rat} (h : addFit p q) : addR p q = some (p + q) := if_pos h
theorem mulR_ok {p q : Rat} (h : mulFit p q) : mulR p q = some (p * q) := if_pos h
theorem addR_no {p q : Rat} (h : ¬ addFit p q) : addR p q = none := if_neg h
theorem mulR_no {p q : Rat} (h : ¬ mulFit p q) : mulR p q = none := if_neg h
/-- What a call of Add or Mul returns. -/
def RvPost (w : World) (r : Option Rat) (e : Ending) (w' : World) : Prop := e = .returned (.tuple #[rvV r, .int .i64 (rvE r)]) ∧ Below w.heap.size w w'
set_option maxRecDepth 100000 in
theorem AddPost.rv {p q : Rat} {w w' : World} {e : Ending} (h : AddPost w (ngQ p) (ngQ q) (nmQ p * q.den) (nmQ q * p.den) (p.den * q.den) e w') : RvPost w (addR p q) e w' := by
  unfold AddPost at h
  by_cases h1 : nmQ p * q.den < capN ∧ nmQ q * p.den < capN ∧ p.den * q.den < capN
  · rw [if_pos h1] at h
    by_cases h2 : ngQ p = ngQ q
    · rw [if_pos h2] at h
      by_cases h3 : nmQ p * q.den + nmQ q * p.den < capN
      · rw [if_pos h3, add_same h2] at h
        rw [addR_ok ⟨h1.1, h1.2.1, h1.2.2, fun _ => h3⟩]; exact h
      · rw [if_neg h3] at h
        rw [addR_no fun hf => h3 (hf.2.2.2 h2)]; exact h
    · rw [if_neg h2] at h
      rw [addR_ok ⟨h1.1, h1.2.1, h1.2.2, fun e => absurd e h2⟩]
      by_cases h4 : nmQ p * q.den < nmQ q * p.den
      · rw [if_pos h4, add_right h2 (Nat.le_of_lt h4)] at h; exact h
      · rw [if_neg h4, add_left h2 (by omega)] at h; exact h
  · rw [if_neg h1] at h
    rw [addR_no fun hf => h1 ⟨hf.1, hf.2.1, hf.2.2.1⟩]; exact h
set_option maxRecDepth 100000 in
theorem rat_Add (p q : Rat) (w : World) (hp : FitQ p) (hq : FitQ q) (hw : LawW w) : Calls Tryz.prog 37 #[rqV p, rqV q] w (RvPost w (addR p q)) :=
  (rat_Add_core (ngQ p) (ngQ q) (nmQ p) p.den (nmQ q) q.den w hp.1 hp.2 hq.1 hq.2 (den_pos p) (den_pos q) hw (vldR_q hp) (vldR_q hq)).mono fun _ _ h => h.rv
/-- What Mul returns. -/
def MulPost (w : World) (g : Bool) (N D : Nat) (e : Ending) (w' : World) : Prop := if N < capN ∧ D < capN then RqPost w (mkQ g N D) e w' else ReqPost w 2 e w'
theorem er2_bad {N D : Nat} (h : ¬ (N < capN ∧ D < capN)) : er2 (er2 0 (msE N)) (msE D) = 2 := by
  by_cases h1 : N < capN
  · have h3 : ¬ D < capN := fun h3 => h ⟨h1, h3⟩
    rw [msE_ok h1, msE_bad h3]; rfl
  · rw [msE_bad h1]; rfl
theorem er2_ok {N D : Nat} (h : N < capN ∧ D < capN) : er2 (er2 0 (msE N)) (msE D) = 0 := by
  rw [msE_ok h.1, msE_ok h.2]; rfl
set_option maxHeartbeats 4000000 in
set_option maxRecDepth 100000 in
theorem rat_Mul_core (ga gb : Bool) (a1 a2 b1 b2 : Nat) (w : World) (ha1 : a1 < capN) (ha2 : a2 < capN) (hb1 : b1 < capN) (hb2 : b2 < capN) (ha0 : 0 < a2) (hb0 : 0 < b2) (hw : LawW w)
    (va : vldR ga (natS a1) (natS a2) = true) (vb : vldR gb (natS b1) (natS b2) = true) :
    Calls Tryz.prog 38 #[.agg #[.bool ga, .string (natS a1), .string (natS a2)], .agg #[.bool gb, .string (natS b1), .string (natS b2)]] w (MulPost w (ga != gb) (a1 * b1) (a2 * b2)) := by
  have HW := hide hw
  have HVA : Hid (∀ W, LawW W → Calls Tryz.prog 47 #[.agg #[.bool ga, .string (natS a1), .string (natS a2)]] W fun e w' => e = .returned (.bool true) ∧ Below W.heap.size W w') := fun W hW => by
    have := rat_valid ga (natS a1) (natS a2) W (natS_max ha1) (natS_max ha2) hW
    rw [va] at this; exact this
  have HVB : Hid (∀ W, LawW W → Calls Tryz.prog 47 #[.agg #[.bool gb, .string (natS b1), .string (natS b2)]] W fun e w' => e = .returned (.bool true) ∧ Below W.heap.size W w') := fun W hW => by
    have := rat_valid gb (natS b1) (natS b2) W (natS_max hb1) (natS_max hb2) hW
    rw [vb] at this; exact this
  obtain ⟨s1, hs1⟩ : ∃ s, natS a1 = s := ⟨_, rfl⟩
  obtain ⟨s2, hs2⟩ : ∃ s, natS a2 = s := ⟨_, rfl⟩
  obtain ⟨t1, ht1⟩ : ∃ s, natS b1 = s := ⟨_, rfl⟩
  obtain ⟨t2, ht2⟩ : ∃ s, natS b2 = s := ⟨_, rfl⟩
  rw [hs1, hs2] at HVA
  rw [ht1, ht2] at HVB
  rw [hs1, hs2, ht1, ht2]
  clear va vb hw
  have HS1 := hide hs1
  have HS2 := hide hs2
  have HT1 := hide ht1
  have HT2 := hide ht2
  clear hs1 hs2 ht1 ht2
  have HB0 := hide (bAlloc (bAlloc (bAlloc (Below.refl w.heap.size w) (.cells #[.bool ga, .string s1, .string s2] 29)) (.cells #[.bool gb, .string t1, .string t2] 29)) (.cells #[.bool false, .string ⟨#[]⟩, .string ⟨#[]⟩] 29))
  go_enter Tryz.func38, Tryz.ntmps38
  go_wp2_with fail
  have ra := hide (((RC.new w ga s1 s2 29).below (bAlloc (Below.refl _ _) (.cells #[.bool gb, .string t1, .string t2] 29))).below (bAlloc (Below.refl _ _) (.cells #[.bool false, .string ⟨#[]⟩, .string ⟨#[]⟩] 29)))
  have rb := hide ((RC.new_at (w.alloc (.cells #[.bool ga, .string s1, .string s2] 29)) gb t1 t2 29 (b := w.heap.size + 1) (by simp)).below (bAlloc (Below.refl _ _) (.cells #[.bool false, .string ⟨#[]⟩, .string ⟨#[]⟩] 29)))
  have rz := hide (RC.new_at ((w.alloc (.cells #[.bool ga, .string s1, .string s2] 29)).alloc (.cells #[.bool gb, .string t1, .string t2] 29)) false ⟨#[]⟩ ⟨#[]⟩ 29 (b := w.heap.size + 1 + 1) (by simp))
  refine (HVA.out _ (HW.out.below HB0.out)).mono ?_
  rintro e w1 ⟨rfl, hb⟩
  have HB1 := hide (bStep HB0.out hb)
  have RA1 := hide (ra.out.below hb)
  have RB1 := hide (rb.out.below hb)
  have RZ1 := hide (rz.out.below hb)
  clear hb ra rb rz
  obtain ⟨d0, d1, d2, _, _, _⟩ := RB1.out
  go_wp2_with fail
  refine (HVB.out _ (HW.out.below HB1.out)).mono ?_
  rintro e w2 ⟨rfl, hb⟩
  have HB2 := hide (bStep HB1.out hb)
  have RA2 := hide (RA1.out.below hb)
  have RB2 := hide (RB1.out.below hb)
  have RZ2 := hide (RZ1.out.below hb)
  clear hb
  clear d0 d1 d2
  go_wp2_with fail
  obtain ⟨R, hR⟩ : ∃ R, w2.heap.size = R := ⟨_, rfl⟩
  have hst0 : ST w R ga s1 s2 gb t1 t2 (w2.alloc (.cells #[.int .i64 0] 86)) 0 := by
    have h1 := RZ2.out.lt
    subst hR
    exact ⟨bAlloc HB2.out _, RA2.out.below (bAlloc (Below.refl _ _) _), RB2.out.below (bAlloc (Below.refl _ _) _), RZ2.out.below (bAlloc (Below.refl _ _) _), by simp [go_sem], by simp [go_sem], h1⟩
  have HMP : Hid (∀ W er, ST w R ga s1 s2 gb t1 t2 W er → Calls Tryz.prog 60 #[.pointer (some ⟨R, 0, none⟩), .string s1, .string t1] W fun e w' => e = .returned (.string (msS (a1 * b1))) ∧ ST w R ga s1 s2 gb t1 t2 w' (er2 er (msE (a1 * b1))) ∧ ∀ b, DF w R W b → DF w R w' b) := mulHyp_of HW.out ha1 hb1 HS1.out HT1.out
  have HMD : Hid (∀ W er, ST w R ga s1 s2 gb t1 t2 W er → Calls Tryz.prog 60 #[.pointer (some ⟨R, 0, none⟩), .string s2, .string t2] W fun e w' => e = .returned (.string (msS (a2 * b2))) ∧ ST w R ga s1 s2 gb t1 t2 w' (er2 er (msE (a2 * b2))) ∧ ∀ b, DF w R W b → DF w R w' b) := mulHyp_of HW.out ha2 hb2 HS2.out HT2.out
  rw [hR]
  obtain ⟨w3, hw3⟩ : ∃ w3, w2.alloc (.cells #[.int .i64 0] 86) = w3 := ⟨_, rfl⟩
  rw [hw3] at hst0 ⊢
  obtain ⟨P, hP⟩ : ∃ P, a1 * b1 = P := ⟨_, rfl⟩
  obtain ⟨D, hD⟩ : ∃ D, a2 * b2 = D := ⟨_, rfl⟩
  rw [hP] at HMP
  rw [hD] at HMD
  obtain ⟨mP, hmP⟩ : ∃ s, msS P = s := ⟨_, rfl⟩
  obtain ⟨mD, hmD⟩ : ∃ s, msS D = s := ⟨_, rfl⟩
  obtain ⟨eP, heP⟩ : ∃ s, msE P = s := ⟨_, rfl⟩
  obtain ⟨eD, heD⟩ : ∃ s, msE D = s := ⟨_, rfl⟩
  rw [hmP, heP] at HMP
  rw [hmD, heD] at HMD
  have KmP := hide hmP
  have KmD := hide hmD
  have KeP := hide heP
  have KeD := hide heD
  have KP := hide hP
  have KD := hide hD
  clear hmP hmD heP heD hP hD hw3 hR HB0 HB1 HB2 RA1 RA2 RB1 RB2 RZ1 RZ2
  have hst := hst0.drew
  go_region_held3 (fun w' => w'.cell? ⟨w.heap.size, 1, none⟩ = some (.string s1) ∧ w'.cell? ⟨w.heap.size, 2, none⟩ = some (.string s2) ∧ w'.cell? ⟨w.heap.size + 1, 1, none⟩ = some (.string t1) ∧ w'.cell? ⟨w.heap.size + 1, 2, none⟩ = some (.string t2))
    (first | exact ST.loads (by assumption))
    ((first
      | (go_at_call 60; (with_reducible refine (HMP.out _ 0 (by assumption)).mono ?_); rintro e w5 ⟨rfl, hst5, _⟩)
      | (go_at_call 60; (with_reducible refine (HMD.out _ (er2 0 eP) (by assumption)).mono ?_); rintro e w7 ⟨rfl, hst7, _⟩)))
  obtain ⟨a0, a1', a2', fa0, fa1, fa2⟩ := hst7.ra
  obtain ⟨b0, b1', b2', fb0, fb1, fb2⟩ := hst7.rb
  obtain ⟨z0, z1, z2, fz0, fz1, fz2⟩ := hst7.rz
  have hRn : R ≠ w.heap.size + 1 + 1 := by have := hst7.far; omega
  by_cases hall : P < capN ∧ D < capN
  · have he : er2 (er2 0 eP) eD = 0 := by rw [← KeP.out, ← KeD.out]; exact er2_ok hall
    rw [he] at hst7
    have hc := hst7.cell
    have KPs : Hid (natS P = mP) := (msS_ok hall.1).symm.trans KmP.out
    have KDs : Hid (natS D = mD) := (msS_ok hall.2).symm.trans KmD.out
    have hD0 : 0 < D := by rw [← KD.out]; exact Nat.mul_pos ha0 hb0
    have HL : Hid (∀ W, LawW W → Calls Tryz.prog 62 #[.bool (ga != gb), .string mP, .string mD] W fun e w' => e = .returned (rqV (mkQ (ga != gb) P D)) ∧ Below W.heap.size W w') := fun W hW => by
      rw [← KPs.out, ← KDs.out]; exact rat_lowest (ga != gb) P D W hall.1 hall.2 hD0 hW
    have HRES : Hid (∀ e w', e = .returned (.tuple #[rqV (mkQ (ga != gb) P D), .int .i64 0]) → Below w.heap.size w w' → MulPost w (ga != gb) (a1 * b1) (a2 * b2) e w') := fun e w' he hb => by
      rw [KP.out, KD.out]; unfold MulPost; rw [if_pos hall]; exact ⟨he, hb⟩
    unfold rqV at HRES HL
    obtain ⟨g', hg'⟩ : ∃ s, ngQ (mkQ (ga != gb) P D) = s := ⟨_, rfl⟩
    obtain ⟨u', hu'⟩ : ∃ s, natS (nmQ (mkQ (ga != gb) P D)) = s := ⟨_, rfl⟩
    obtain ⟨v', hv'⟩ : ∃ s, natS (mkQ (ga != gb) P D).den = s := ⟨_, rfl⟩
    rw [hg', hu', hv'] at HL HRES
    clear he hall hg' hu' hv'
    go_wp2_with fail
    refine (HL.out _ (hst7.law HW.out)).mono ?_
    rintro e w8 ⟨rfl, hb⟩
    have hst8 := hst7.below hb
    obtain ⟨z0, z1, z2, fz0, fz1, fz2⟩ := hst8.rz
    clear hb
    go_wp2_with fail
    obtain ⟨d0, d1, d2, _, _, _⟩ := hst8.rz.set3 g' u' v'
    exact bodyPost_ret (v := .tuple #[.agg #[.bool g', .string u', .string v'], .int .i64 0]) (by simp [results, Tryz.results38, go_sem, d0, d1, d2]) rfl
      (by with_reducible refine HRES.out _ _ ?_ (bset3 hst8.bel (by omega) _ _ _); rfl)
  · have he : er2 (er2 0 eP) eD = 2 := by rw [← KeP.out, ← KeD.out]; exact er2_bad hall
    rw [he] at hst7
    have hc := hst7.cell
    have HALL := hide hall
    clear he hall
    go_wp2_with fail
    go_region
    all_goals
      go_wp2_with fail
      obtain ⟨d0, d1, d2, _, _, _⟩ := hst7.rz.set3 false ⟨#[]⟩ ⟨#[]⟩
      exact bodyPost_ret (v := .tuple #[.agg #[.bool false, .string ⟨#[]⟩, .string ⟨#[]⟩], .int .i64 2]) (by simp [results, Tryz.results38, go_sem, d0, d1, d2]) rfl
        (by rw [KP.out, KD.out]; unfold MulPost; rw [if_neg HALL.out]; exact ⟨rfl, (bset3 hst7.bel (by omega) _ _ _).drew⟩)
set_option maxRecDepth 100000 in
theorem MulPost.rv {p q : Rat} {w w' : World} {e : Ending} (h : MulPost w (ngQ p != ngQ q) (nmQ p * nmQ q) (p.den * q.den) e w') : RvPost w (mulR p q) e w' := by
  unfold MulPost at h
  by_cases h1 : nmQ p * nmQ q < capN ∧ p.den * q.den < capN
  · rw [if_pos h1, mul_mk] at h
    rw [mulR_ok h1]; exact h
  · rw [if_neg h1] at h
    rw [mulR_no h1]; exact h
set_option maxRecDepth 100000 in
theorem rat_Mul (p q : Rat) (w : World) (hp : FitQ p) (hq : FitQ q) (hw : LawW w) : Calls Tryz.prog 38 #[rqV p, rqV q] w (RvPost w (mulR p q)) :=
  (rat_Mul_core (ngQ p) (ngQ q) (nmQ p) p.den (nmQ q) q.den w hp.1 hp.2 hq.1 hq.2 (den_pos p) (den_pos q) hw (vldR_q hp) (vldR_q hq)).mono fun _ _ h => h.rv
set_option maxHeartbeats 4000000 in
set_option maxRecDepth 100000 in
theorem rat_Add_bad1 (ga gb : Bool) (s1 s2 t1 t2 : ByteArray) (w : World) (hs1 : s1.size ≤ maxLen) (hs2 : s2.size ≤ maxLen) (hw : LawW w) (va : vldR ga s1 s2 = false) :
    Calls Tryz.prog 37 #[.agg #[.bool ga, .string s1, .string s2], .agg #[.bool gb, .string t1, .string t2]] w (ReqPost w 1) := by
  have HW := hide hw
  have HVA : Hid (∀ W, LawW W → Calls Tryz.prog 47 #[.agg #[.bool ga, .string s1, .string s2]] W fun e w' => e = .returned (.bool false) ∧ Below W.heap.size W w') := fun W hW => by
    have := rat_valid ga s1 s2 W hs1 hs2 hW
    rw [va] at this; exact this
  unfold ReqPost zV
  clear va hw
  have HB0 := hide (bAlloc (bAlloc (bAlloc (Below.refl w.heap.size w) (.cells #[.bool ga, .string s1, .string s2] 29)) (.cells #[.bool gb, .string t1, .string t2] 29)) (.cells #[.bool false, .string ⟨#[]⟩, .string ⟨#[]⟩] 29))
  go_enter Tryz.func37, Tryz.ntmps37
  go_wp2_with fail
  have ra := hide (((RC.new w ga s1 s2 29).below (bAlloc (Below.refl _ _) (.cells #[.bool gb, .string t1, .string t2] 29))).below (bAlloc (Below.refl _ _) (.cells #[.bool false, .string ⟨#[]⟩, .string ⟨#[]⟩] 29)))
  have rb := hide ((RC.new_at (w.alloc (.cells #[.bool ga, .string s1, .string s2] 29)) gb t1 t2 29 (b := w.heap.size + 1) (by simp)).below (bAlloc (Below.refl _ _) (.cells #[.bool false, .string ⟨#[]⟩, .string ⟨#[]⟩] 29)))
  have rz := hide (RC.new_at ((w.alloc (.cells #[.bool ga, .string s1, .string s2] 29)).alloc (.cells #[.bool gb, .string t1, .string t2] 29)) false ⟨#[]⟩ ⟨#[]⟩ 29 (b := w.heap.size + 1 + 1) (by simp))
  refine (HVA.out _ (HW.out.below HB0.out)).mono ?_
  rintro e w1 ⟨rfl, hb⟩
  have HB1 := hide (bStep HB0.out hb)
  have RA1 := hide (ra.out.below hb)
  have RB1 := hide (rb.out.below hb)
  have RZ1 := hide (rz.out.below hb)
  clear hb ra rb rz
  obtain ⟨z0, z1, z2, fz0, fz1, fz2⟩ := RZ1.out
  go_wp2_with fail
  obtain ⟨d0, d1, d2, _, _, _⟩ := RZ1.out.set3 false ⟨#[]⟩ ⟨#[]⟩
  exact bodyPost_ret (v := .tuple #[.agg #[.bool false, .string ⟨#[]⟩, .string ⟨#[]⟩], .int .i64 1]) (by simp [results, Tryz.results37, go_sem, d0, d1, d2]) rfl ⟨rfl, bset3 HB1.out (by omega) _ _ _⟩
set_option maxHeartbeats 4000000 in
set_option maxRecDepth 100000 in
theorem rat_Add_bad2 (ga gb : Bool) (s1 s2 t1 t2 : ByteArray) (w : World) (hs1 : s1.size ≤ maxLen) (hs2 : s2.size ≤ maxLen) (ht1 : t1.size ≤ maxLen) (ht2 : t2.size ≤ maxLen) (hw : LawW w) (va : vldR ga s1 s2 = true) (vb : vldR gb t1 t2 = false) :
    Calls Tryz.prog 37 #[.agg #[.bool ga, .string s1, .string s2], .agg #[.bool gb, .string t1, .string t2]] w (ReqPost w 1) := by
  have HW := hide hw
  have HVA : Hid (∀ W, LawW W → Calls Tryz.prog 47 #[.agg #[.bool ga, .string s1, .string s2]] W fun e w' => e = .returned (.bool true) ∧ Below W.heap.size W w') := fun W hW => by
    have := rat_valid ga s1 s2 W hs1 hs2 hW
    rw [va] at this; exact this
  have HVB : Hid (∀ W, LawW W → Calls Tryz.prog 47 #[.agg #[.bool gb, .string t1, .string t2]] W fun e w' => e = .returned (.bool false) ∧ Below W.heap.size W w') := fun W hW => by
    have := rat_valid gb t1 t2 W ht1 ht2 hW
    rw [vb] at this; exact this
  unfold ReqPost zV
  clear va vb hw
  have HB0 := hide (bAlloc (bAlloc (bAlloc (Below.refl w.heap.size w) (.cells #[.bool ga, .string s1, .string s2] 29)) (.cells #[.bool gb, .string t1, .string t2] 29)) (.cells #[.bool false, .string ⟨#[]⟩, .string ⟨#[]⟩] 29))
  go_enter Tryz.func37, Tryz.ntmps37
  go_wp2_with fail
  have ra := hide (((RC.new w ga s1 s2 29).below (bAlloc (Below.refl _ _) (.cells #[.bool gb, .string t1, .string t2] 29))).below (bAlloc (Below.refl _ _) (.cells #[.bool false, .string ⟨#[]⟩, .string ⟨#[]⟩] 29)))
  have rb := hide ((RC.new_at (w.alloc (.cells #[.bool ga, .string s1, .string s2] 29)) gb t1 t2 29 (b := w.heap.size + 1) (by simp)).below (bAlloc (Below.refl _ _) (.cells #[.bool false, .string ⟨#[]⟩, .string ⟨#[]⟩] 29)))
  have rz := hide (RC.new_at ((w.alloc (.cells #[.bool ga, .string s1, .string s2] 29)).alloc (.cells #[.bool gb, .string t1, .string t2] 29)) false ⟨#[]⟩ ⟨#[]⟩ 29 (b := w.heap.size + 1 + 1) (by simp))
  refine (HVA.out _ (HW.out.below HB0.out)).mono ?_
  rintro e w1 ⟨rfl, hb⟩
  have HB1 := hide (bStep HB0.out hb)
  have RA1 := hide (ra.out.below hb)
  have RB1 := hide (rb.out.below hb)
  have RZ1 := hide (rz.out.below hb)
  clear hb ra rb rz
  obtain ⟨d0, d1, d2, _, _, _⟩ := RB1.out
  go_wp2_with fail
  refine (HVB.out _ (HW.out.below HB1.out)).mono ?_
  rintro e w2 ⟨rfl, hb⟩
  have HB2 := hide (bStep HB1.out hb)
  have RA2 := hide (RA1.out.below hb)
  have RB2 := hide (RB1.out.below hb)
  have RZ2 := hide (RZ1.out.below hb)
  clear hb
  clear d0 d1 d2
  obtain ⟨z0, z1, z2, fz0, fz1, fz2⟩ := RZ2.out
  go_wp2_with fail
  obtain ⟨d0, d1, d2, _, _, _⟩ := RZ2.out.set3 false ⟨#[]⟩ ⟨#[]⟩
  exact bodyPost_ret (v := .tuple #[.agg #[.bool false, .string ⟨#[]⟩, .string ⟨#[]⟩], .int .i64 1]) (by simp [results, Tryz.results37, go_sem, d0, d1, d2]) rfl ⟨rfl, bset3 HB2.out (by omega) _ _ _⟩
set_option maxHeartbeats 4000000 in
set_option maxRecDepth 100000 in
theorem rat_Mul_bad1 (ga gb : Bool) (s1 s2 t1 t2 : ByteArray) (w : World) (hs1 : s1.size ≤ maxLen) (hs2 : s2.size ≤ maxLen) (hw : LawW w) (va : vldR ga s1 s2 = false) :
    Calls Tryz.prog 38 #[.agg #[.bool ga, .string s1, .string s2], .agg #[.bool gb, .string t1, .string t2]] w (ReqPost w 1) := by
  have HW := hide hw
  have HVA : Hid (∀ W, LawW W → Calls Tryz.prog 47 #[.agg #[.bool ga, .string s1, .string s2]] W fun e w' => e = .returned (.bool false) ∧ Below W.heap.size W w') := fun W hW => by
    have := rat_valid ga s1 s2 W hs1 hs2 hW
    rw [va] at this; exact this
  unfold ReqPost zV
  clear va hw
  have HB0 := hide (bAlloc (bAlloc (bAlloc (Below.refl w.heap.size w) (.cells #[.bool ga, .string s1, .string s2] 29)) (.cells #[.bool gb, .string t1, .string t2] 29)) (.cells #[.bool false, .string ⟨#[]⟩, .string ⟨#[]⟩] 29))
  go_enter Tryz.func38, Tryz.ntmps38
  go_wp2_with fail
  have ra := hide (((RC.new w ga s1 s2 29).below (bAlloc (Below.refl _ _) (.cells #[.bool gb, .string t1, .string t2] 29))).below (bAlloc (Below.refl _ _) (.cells #[.bool false, .string ⟨#[]⟩, .string ⟨#[]⟩] 29)))
  have rb := hide ((RC.new_at (w.alloc (.cells #[.bool ga, .string s1, .string s2] 29)) gb t1 t2 29 (b := w.heap.size + 1) (by simp)).below (bAlloc (Below.refl _ _) (.cells #[.bool false, .string ⟨#[]⟩, .string ⟨#[]⟩] 29)))
  have rz := hide (RC.new_at ((w.alloc (.cells #[.bool ga, .string s1, .string s2] 29)).alloc (.cells #[.bool gb, .string t1, .string t2] 29)) false ⟨#[]⟩ ⟨#[]⟩ 29 (b := w.heap.size + 1 + 1) (by simp))
  refine (HVA.out _ (HW.out.below HB0.out)).mono ?_
  rintro e w1 ⟨rfl, hb⟩
  have HB1 := hide (bStep HB0.out hb)
  have RA1 := hide (ra.out.below hb)
  have RB1 := hide (rb.out.below hb)
  have RZ1 := hide (rz.out.below hb)
  clear hb ra rb rz
  obtain ⟨z0, z1, z2, fz0, fz1, fz2⟩ := RZ1.out
  go_wp2_with fail
  obtain ⟨d0, d1, d2, _, _, _⟩ := RZ1.out.set3 false ⟨#[]⟩ ⟨#[]⟩
  exact bodyPost_ret (v := .tuple #[.agg #[.bool false, .string ⟨#[]⟩, .string ⟨#[]⟩], .int .i64 1]) (by simp [results, Tryz.results38, go_sem, d0, d1, d2]) rfl ⟨rfl, bset3 HB1.out (by omega) _ _ _⟩
set_option maxHeartbeats 4000000 in
set_option maxRecDepth 100000 in
theorem rat_Mul_bad2 (ga gb : Bool) (s1 s2 t1 t2 : ByteArray) (w : World) (hs1 : s1.size ≤ maxLen) (hs2 : s2.size ≤ maxLen) (ht1 : t1.size ≤ maxLen) (ht2 : t2.size ≤ maxLen) (hw : LawW w) (va : vldR ga s1 s2 = true) (vb : vldR gb t1 t2 = false) :
    Calls Tryz.prog 38 #[.agg #[.bool ga, .string s1, .string s2], .agg #[.bool gb, .string t1, .string t2]] w (ReqPost w 1) := by
  have HW := hide hw
  have HVA : Hid (∀ W, LawW W → Calls Tryz.prog 47 #[.agg #[.bool ga, .string s1, .string s2]] W fun e w' => e = .returned (.bool true) ∧ Below W.heap.size W w') := fun W hW => by
    have := rat_valid ga s1 s2 W hs1 hs2 hW
    rw [va] at this; exact this
  have HVB : Hid (∀ W, LawW W → Calls Tryz.prog 47 #[.agg #[.bool gb, .string t1, .string t2]] W fun e w' => e = .returned (.bool false) ∧ Below W.heap.size W w') := fun W hW => by
    have := rat_valid gb t1 t2 W ht1 ht2 hW
    rw [vb] at this; exact this
  unfold ReqPost zV
  clear va vb hw
  have HB0 := hide (bAlloc (bAlloc (bAlloc (Below.refl w.heap.size w) (.cells #[.bool ga, .string s1, .string s2] 29)) (.cells #[.bool gb, .string t1, .string t2] 29)) (.cells #[.bool false, .string ⟨#[]⟩, .string ⟨#[]⟩] 29))
  go_enter Tryz.func38, Tryz.ntmps38
  go_wp2_with fail
  have ra := hide (((RC.new w ga s1 s2 29).below (bAlloc (Below.refl _ _) (.cells #[.bool gb, .string t1, .string t2] 29))).below (bAlloc (Below.refl _ _) (.cells #[.bool false, .string ⟨#[]⟩, .string ⟨#[]⟩] 29)))
  have rb := hide ((RC.new_at (w.alloc (.cells #[.bool ga, .string s1, .string s2] 29)) gb t1 t2 29 (b := w.heap.size + 1) (by simp)).below (bAlloc (Below.refl _ _) (.cells #[.bool false, .string ⟨#[]⟩, .string ⟨#[]⟩] 29)))
  have rz := hide (RC.new_at ((w.alloc (.cells #[.bool ga, .string s1, .string s2] 29)).alloc (.cells #[.bool gb, .string t1, .string t2] 29)) false ⟨#[]⟩ ⟨#[]⟩ 29 (b := w.heap.size + 1 + 1) (by simp))
  refine (HVA.out _ (HW.out.below HB0.out)).mono ?_
  rintro e w1 ⟨rfl, hb⟩
  have HB1 := hide (bStep HB0.out hb)
  have RA1 := hide (ra.out.below hb)
  have RB1 := hide (rb.out.below hb)
  have RZ1 := hide (rz.out.below hb)
  clear hb ra rb rz
  obtain ⟨d0, d1, d2, _, _, _⟩ := RB1.out
  go_wp2_with fail
  refine (HVB.out _ (HW.out.below HB1.out)).mono ?_
  rintro e w2 ⟨rfl, hb⟩
  have HB2 := hide (bStep HB1.out hb)
  have RA2 := hide (RA1.out.below hb)
  have RB2 := hide (RB1.out.below hb)
  have RZ2 := hide (RZ1.out.below hb)
  clear hb
  clear d0 d1 d2
  obtain ⟨z0, z1, z2, fz0, fz1, fz2⟩ := RZ2.out
  go_wp2_with fail
  obtain ⟨d0, d1, d2, _, _, _⟩ := RZ2.out.set3 false ⟨#[]⟩ ⟨#[]⟩
  exact bodyPost_ret (v := .tuple #[.agg #[.bool false, .string ⟨#[]⟩, .string ⟨#[]⟩], .int .i64 1]) (by simp [results, Tryz.results38, go_sem, d0, d1, d2]) rfl ⟨rfl, bset3 HB2.out (by omega) _ _ _⟩
set_option maxHeartbeats 4000000 in
set_option maxRecDepth 100000 in
theorem rat_Sub_any (ga gb : Bool) (s1 s2 t1 t2 : ByteArray) (gc : Bool) (u1 u2 : ByteArray) (g' : Bool) (u' v' : ByteArray) (k : Int) (w : World) (hw : LawW w)
    (HVB : Hid (∀ W, LawW W → Calls Tryz.prog 47 #[.agg #[.bool gb, .string t1, .string t2]] W fun e w' => e = .returned (.bool true) ∧ Below W.heap.size W w'))
    (HMI : Hid (∀ W, Calls Tryz.prog 56 #[.agg #[.bool gb, .string t1, .string t2]] W fun e w' => e = .returned (.agg #[.bool gc, .string u1, .string u2]) ∧ Below W.heap.size W w'))
    (HAD : Hid (∀ W, LawW W → Calls Tryz.prog 37 #[.agg #[.bool ga, .string s1, .string s2], .agg #[.bool gc, .string u1, .string u2]] W fun e w' => e = .returned (.tuple #[.agg #[.bool g', .string u', .string v'], .int .i64 k]) ∧ Below W.heap.size W w')) :
    Calls Tryz.prog 36 #[.agg #[.bool ga, .string s1, .string s2], .agg #[.bool gb, .string t1, .string t2]] w fun e w' => e = .returned (.tuple #[.agg #[.bool g', .string u', .string v'], .int .i64 k]) ∧ Below w.heap.size w w' := by
  have HW := hide hw
  clear hw
  have HB0 := hide (bAlloc (bAlloc (bAlloc (Below.refl w.heap.size w) (.cells #[.bool ga, .string s1, .string s2] 29)) (.cells #[.bool gb, .string t1, .string t2] 29)) (.cells #[.bool false, .string ⟨#[]⟩, .string ⟨#[]⟩] 29))
  go_enter Tryz.func36, Tryz.ntmps36
  go_wp2_with fail
  have ra := hide (((RC.new w ga s1 s2 29).below (bAlloc (Below.refl _ _) (.cells #[.bool gb, .string t1, .string t2] 29))).below (bAlloc (Below.refl _ _) (.cells #[.bool false, .string ⟨#[]⟩, .string ⟨#[]⟩] 29)))
  have rb := hide ((RC.new_at (w.alloc (.cells #[.bool ga, .string s1, .string s2] 29)) gb t1 t2 29 (b := w.heap.size + 1) (by simp)).below (bAlloc (Below.refl _ _) (.cells #[.bool false, .string ⟨#[]⟩, .string ⟨#[]⟩] 29)))
  have rz := hide (RC.new_at ((w.alloc (.cells #[.bool ga, .string s1, .string s2] 29)).alloc (.cells #[.bool gb, .string t1, .string t2] 29)) false ⟨#[]⟩ ⟨#[]⟩ 29 (b := w.heap.size + 1 + 1) (by simp))
  refine (HVB.out _ (HW.out.below HB0.out)).mono ?_
  rintro e w1 ⟨rfl, hb⟩
  have HB1 := hide (bStep HB0.out hb)
  have RA1 := hide (ra.out.below hb)
  have RB1 := hide (rb.out.below hb)
  have RZ1 := hide (rz.out.below hb)
  clear hb ra rb rz
  obtain ⟨a0, a1, a2, fa0, fa1, fa2⟩ := RA1.out
  obtain ⟨b0, b1, b2, fb0, fb1, fb2⟩ := RB1.out
  have hra := RA1.out
  have hrb := RB1.out
  have hb1 : Below w.heap.size w w1 := HB1.out
  have hrad := hra.below (Below.refl _ _).drew
  have hrbd := hrb.below (Below.refl _ _).drew
  have HBD := hide (hb1.drew)
  have HLD := hide (HW.out.below HBD.out)
  have HZD := hide (RZ1.out.below (Below.refl _ _).drew)
  go_wp2_with fail
  go_region_held3 (fun w' => (w'.cell? ⟨w.heap.size, 0, none⟩ = some (.bool ga) ∧ w'.cell? ⟨w.heap.size, 1, none⟩ = some (.string s1) ∧ w'.cell? ⟨w.heap.size, 2, none⟩ = some (.string s2)) ∧ w'.cell? ⟨w.heap.size + 1, 0, none⟩ = some (.bool gb) ∧ w'.cell? ⟨w.heap.size + 1, 1, none⟩ = some (.string t1) ∧ w'.cell? ⟨w.heap.size + 1, 2, none⟩ = some (.string t2))
    (first | exact ⟨⟨RC.c0 hrad, RC.c1 hrad, RC.c2 hrad⟩, RC.c0 hrbd, RC.c1 hrbd, RC.c2 hrbd⟩ | exact ⟨⟨RC.c0 hra3, RC.c1 hra3, RC.c2 hra3⟩, RC.c0 hrb3, RC.c1 hrb3, RC.c2 hrb3⟩ | exact ⟨⟨RC.c0 hra4, RC.c1 hra4, RC.c2 hra4⟩, RC.c0 hrb4, RC.c1 hrb4, RC.c2 hrb4⟩ | exact ⟨⟨RC.c0 (hra4.only (Only2.set3 _ _ _ _ _) (by omega)), RC.c1 (hra4.only (Only2.set3 _ _ _ _ _) (by omega)), RC.c2 (hra4.only (Only2.set3 _ _ _ _ _) (by omega))⟩, RC.c0 (hrb4.only (Only2.set3 _ _ _ _ _) (by omega)), RC.c1 (hrb4.only (Only2.set3 _ _ _ _ _) (by omega)), RC.c2 (hrb4.only (Only2.set3 _ _ _ _ _) (by omega))⟩)
    ((first
      | (go_at_call 56; (with_reducible refine (HMI.out _).mono ?_); rintro e w3 ⟨rfl, hb3⟩; have hra3 := hrad.below hb3; have hrb3 := hrbd.below hb3; have HB3 := hide (bStep HBD.out hb3); have HZ3 := hide (HZD.out.below hb3); clear hb3)
      | (go_at_call 37; (with_reducible refine (HAD.out _ (HW.out.below HB3.out)).mono ?_); rintro e w4 ⟨rfl, hb4⟩; have hra4 := hra3.below hb4; have hrb4 := hrb3.below hb4; have HB4 := hide (bStep HB3.out hb4); have HZ4 := hide (HZ3.out.below hb4); clear hb4; obtain ⟨z0, z1, z2, fz0, fz1, fz2⟩ := HZ4.out)))
  all_goals
    go_wp2_with fail
    obtain ⟨d0, d1, d2, _, _, _⟩ := HZ4.out.set3 g' u' v'
    exact bodyPost_ret (v := .tuple #[.agg #[.bool g', .string u', .string v'], .int .i64 k]) (by simp [results, Tryz.results36, go_sem, d0, d1, d2]) rfl ⟨rfl, bset3 HB4.out (by omega) _ _ _⟩
end Go.Proofs.YtblpnekjnaaeoaaGreatDoor
