/- law 46: calc.add, calc.mul. -/
import Derived.Test.YtblpnekjnaaeoaaGreatDoorPkO
set_option linter.unusedVariables false
set_option linter.unusedSimpArgs false
namespace Go.Proofs.YtblpnekjnaaeoaaGreatDoor
open Go.RowKit

/-- The cell that notes a failure. -/
structure CF (w : World) (C : Nat) (f : Bool) : Prop where
  c : w.cell? ⟨C, 0, none⟩ = some (.bool f)
  f : w.frozen? ⟨C, 0, none⟩ = false
theorem CF.lt {w : World} {C : Nat} {f : Bool} (h : CF w C f) : C < w.heap.size := World.block_lt_of_cell? _ _ h.c
theorem CF.below {w w' : World} {C : Nat} {f : Bool} (h : CF w C f) (hb : Below w.heap.size w w') : CF w' C f := ⟨keep_cell hb h.c, (hb.frozen (p := ⟨C, 0, none⟩) h.lt).trans h.f⟩
theorem CF.set {w : World} {C : Nat} {f : Bool} (h : CF w C f) (k : Bool) : CF (w.setCell ⟨C, 0, none⟩ (.bool k)) C k := ⟨World.cell?_setCell_same _ _ _ h.c, by rw [World.frozen?_setCell]; exact h.f⟩
theorem CF.keptM {w w' : World} {C : Nat} {f : Bool} {row : Option Nat} (h : CF w C f) (hg : w.grownBy w' row) (hne : some C ≠ row) : CF w' C f := by
  have e := hg.block C h.lt hne
  exact ⟨(World.cell?_of_block (a := ⟨C, 0, none⟩) e).trans h.c, (World.frozen?_of_block (a := ⟨C, 0, none⟩) e).trans h.f⟩
theorem CF.new (w : World) (T : TypeId) : CF (w.alloc (.cells #[.bool false] T)) w.heap.size false := ⟨by simp [go_sem], by simp [go_sem]⟩
def add2 (a b : Option Rat) : Option Rat := a.bind fun p => b.bind fun q => addR p q
def mul2 (a b : Option Rat) : Option Rat := a.bind fun p => b.bind fun q => mulR p q
def FitO (a : Option Rat) : Prop := ∀ q, a = some q → FitQ q
theorem FitO.add2 (a b : Option Rat) : FitO (add2 a b) := fun r h => by
  unfold Go.Proofs.YtblpnekjnaaeoaaGreatDoor.add2 at h
  obtain ⟨p, _, h⟩ := Option.bind_eq_some_iff.1 h
  obtain ⟨q, _, h⟩ := Option.bind_eq_some_iff.1 h
  exact (addR_fit h).2
theorem FitO.mul2 (a b : Option Rat) : FitO (mul2 a b) := fun r h => by
  unfold Go.Proofs.YtblpnekjnaaeoaaGreatDoor.mul2 at h
  obtain ⟨p, _, h⟩ := Option.bind_eq_some_iff.1 h
  obtain ⟨q, _, h⟩ := Option.bind_eq_some_iff.1 h
  exact (mulR_fit h).2
theorem vld_none (g : Bool) : vldR g ⟨#[]⟩ ⟨#[]⟩ = false := by
  cases h : vldR g ⟨#[]⟩ ⟨#[]⟩ with
  | false => rfl
  | true =>
    obtain ⟨q, h1, h2, h3, h4, h5⟩ := vldR_iff.1 h
    have := congrArg ByteArray.size h2
    rw [natS_size] at this
    have h6 := dec_len_pos (nmQ q)
    rw [← this] at h6
    exact absurd h6 (by decide)
theorem rO_size {a : Option Rat} (h : FitO a) : (rO a).2.1.size ≤ maxLen ∧ (rO a).2.2.size ≤ maxLen := by
  cases a with
  | none => exact ⟨Nat.zero_le _, Nat.zero_le _⟩
  | some q => exact ⟨natS_max (h q rfl).1, natS_max (h q rfl).2⟩
theorem rO_vld {q : Rat} (h : FitQ q) : vldR (rO (some q)).1 (rO (some q)).2.1 (rO (some q)).2.2 = true := vld_rqM h
theorem rvO (r : Option Rat) : rvV r = .agg #[.bool (rO r).1, .string (rO r).2.1, .string (rO r).2.2] := by cases r <;> rfl
/-- Texts of a number, or of none. -/
structure TO (a : Option Rat) (x : T3) : Prop where
  sz : x.2.1.size ≤ maxLen ∧ x.2.2.size ≤ maxLen
  ok : ∀ q, a = some q → x = rqM q ∧ FitQ q
  no : a = none → ∀ g, vldR g x.2.1 x.2.2 = false
theorem TO.rO {a : Option Rat} (h : FitO a) : TO a (rO a) := ⟨rO_size h, fun q e => by subst e; exact ⟨rfl, h q rfl⟩, fun e g => by subst e; exact vld_none g⟩
theorem TO.rq {q : Rat} (h : FitQ q) : TO (some q) (rqM q) := TO.rO (a := some q) (fun r e => by injection e with e; subst e; exact h)
theorem r_add {a b : Option Rat} {x y : T3} (ha : TO a x) (hb : TO b y) (w : World) (hL : LawW w) : Calls Tryz.prog 37 #[.agg #[.bool x.1, .string x.2.1, .string x.2.2], .agg #[.bool y.1, .string y.2.1, .string y.2.2]] w fun e w' => ∃ k : Int, e = .returned (.tuple #[.agg #[.bool (rO (add2 a b)).1, .string (rO (add2 a b)).2.1, .string (rO (add2 a b)).2.2], .int .i64 k]) ∧ ((add2 a b).isNone = true → k ≠ 0) ∧ ((add2 a b).isNone = false → k = 0) ∧ Below w.heap.size w w' := by
  cases a with
  | none =>
    refine (rat_Add_bad1 _ _ _ _ _ _ w ha.sz.1 ha.sz.2 hL (ha.no rfl _)).mono ?_
    rintro e w' ⟨rfl, h⟩
    exact ⟨1, rfl, (fun _ => by decide), (fun h => by cases h), h⟩
  | some p =>
    obtain ⟨rfl, fp⟩ := ha.ok p rfl
    cases b with
    | none =>
      refine (rat_Add_bad2 _ _ _ _ _ _ w ha.sz.1 ha.sz.2 hb.sz.1 hb.sz.2 hL (rO_vld fp) (hb.no rfl _)).mono ?_
      rintro e w' ⟨rfl, h⟩
      exact ⟨1, rfl, (fun _ => by decide), (fun h => by cases h), h⟩
    | some q =>
      obtain ⟨rfl, fq⟩ := hb.ok q rfl
      refine (rat_Add p q w fp fq hL).mono ?_
      rintro e w' ⟨rfl, h⟩
      have e2 : add2 (some p) (some q) = addR p q := by unfold add2; rw [Option.bind_some, Option.bind_some]
      rw [e2, rvO]
      cases addR p q with
      | none => exact ⟨2, rfl, (fun _ => by decide), (fun h => by cases h), h⟩
      | some r => exact ⟨0, rfl, (fun h => by cases h), (fun _ => rfl), h⟩
theorem r_mul {a b : Option Rat} {x y : T3} (ha : TO a x) (hb : TO b y) (w : World) (hL : LawW w) : Calls Tryz.prog 38 #[.agg #[.bool x.1, .string x.2.1, .string x.2.2], .agg #[.bool y.1, .string y.2.1, .string y.2.2]] w fun e w' => ∃ k : Int, e = .returned (.tuple #[.agg #[.bool (rO (mul2 a b)).1, .string (rO (mul2 a b)).2.1, .string (rO (mul2 a b)).2.2], .int .i64 k]) ∧ ((mul2 a b).isNone = true → k ≠ 0) ∧ ((mul2 a b).isNone = false → k = 0) ∧ Below w.heap.size w w' := by
  cases a with
  | none =>
    refine (rat_Mul_bad1 _ _ _ _ _ _ w ha.sz.1 ha.sz.2 hL (ha.no rfl _)).mono ?_
    rintro e w' ⟨rfl, h⟩
    exact ⟨1, rfl, (fun _ => by decide), (fun h => by cases h), h⟩
  | some p =>
    obtain ⟨rfl, fp⟩ := ha.ok p rfl
    cases b with
    | none =>
      refine (rat_Mul_bad2 _ _ _ _ _ _ w ha.sz.1 ha.sz.2 hb.sz.1 hb.sz.2 hL (rO_vld fp) (hb.no rfl _)).mono ?_
      rintro e w' ⟨rfl, h⟩
      exact ⟨1, rfl, (fun _ => by decide), (fun h => by cases h), h⟩
    | some q =>
      obtain ⟨rfl, fq⟩ := hb.ok q rfl
      refine (rat_Mul p q w fp fq hL).mono ?_
      rintro e w' ⟨rfl, h⟩
      have e2 : mul2 (some p) (some q) = mulR p q := by unfold mul2; rw [Option.bind_some, Option.bind_some]
      rw [e2, rvO]
      cases mulR p q with
      | none => exact ⟨2, rfl, (fun _ => by decide), (fun h => by cases h), h⟩
      | some r => exact ⟨0, rfl, (fun h => by cases h), (fun _ => rfl), h⟩
set_option maxHeartbeats 4000000 in
set_option maxRecDepth 100000 in
theorem l46_add_any (C : Nat) (x y r : T3) (f d : Bool) (w : World) (hc : CF w C f)
    (hF : ∀ W, Below w.heap.size w W → Calls Tryz.prog 37 #[.agg #[.bool x.1, .string x.2.1, .string x.2.2], .agg #[.bool y.1, .string y.2.1, .string y.2.2]] W fun e w' => ∃ k : Int, e = .returned (.tuple #[.agg #[.bool r.1, .string r.2.1, .string r.2.2], .int .i64 k]) ∧ (d = true → k ≠ 0) ∧ (d = false → k = 0) ∧ Below W.heap.size W w') :
    Calls Tryz.prog 24 #[.pointer (some ⟨C, 0, none⟩), .agg #[.bool x.1, .string x.2.1, .string x.2.2], .agg #[.bool y.1, .string y.2.1, .string y.2.2]] w fun e w' => e = .returned (.agg #[.bool r.1, .string r.2.1, .string r.2.2]) ∧ CF w' C (f || d) ∧ w.grownBy w' (some C) := by
  have hb := bAlloc (bAlloc (bAlloc (Below.refl w.heap.size w) (.cells #[.bool x.1, .string x.2.1, .string x.2.2] 29)) (.cells #[.bool y.1, .string y.2.1, .string y.2.2] 29)) (.cells #[.bool false, .string ⟨#[]⟩, .string ⟨#[]⟩] 29)
  have HB := hide hb
  have HC := hide (hc.below hb)
  have HF := hide (fun W hW => hF W (bStepM hb hW))
  have HR0 := hide (RC.new_at ((w.alloc (.cells #[.bool x.1, .string x.2.1, .string x.2.2] 29)).alloc (.cells #[.bool y.1, .string y.2.1, .string y.2.2] 29)) false ⟨#[]⟩ ⟨#[]⟩ 29 (b := w.heap.size + 1 + 1) (by simp [go_sem]))
  have HNC : Hid (C < w.heap.size) := hc.lt
  clear hb hc hF
  go_enter Tryz.func24, Tryz.ntmps24
  go_wp2_with fail
  refine (HF.out _ (Below.refl _ _)).mono ?_
  rintro e w1 ⟨k, rfl, hk1, hk2, hb⟩
  have HC1 := hide (HC.out.below hb)
  have HB1 := hide (bStepM HB.out hb)
  have HR1 := hide (HR0.out.below hb)
  have hb2 := bAlloc (Below.refl w1.heap.size w1) (.cells #[.bool r.1, .string r.2.1, .string r.2.2] 29)
  have HN := hide (RC.new w1 r.1 r.2.1 r.2.2 29)
  have HC2 := hide (HC1.out.below hb2)
  have HB2 := hide (bStepM HB1.out hb2)
  have HR2 := hide (HR1.out.below hb2)
  have hA1 := HR1.out.lt
  clear hb hb2 HF HC HB HR0
  go_upto_region 2 with fail
  obtain ⟨w2, hw2⟩ : ∃ W, w1.alloc (.cells #[.bool r.1, .string r.2.1, .string r.2.2] 29) = W := ⟨_, rfl⟩
  obtain ⟨X, hX⟩ : ∃ A, w1.heap.size = A := ⟨_, rfl⟩
  obtain ⟨A, hA⟩ : ∃ A, w.heap.size = A := ⟨_, rfl⟩
  have HAA := hide hA
  rw [hX, hA] at hA1
  rw [hX, hw2] at HN
  rw [hw2] at HC2 HB2 HR2
  rw [hA] at HR2 HNC
  rw [hw2, hX, hA]
  clear hw2 hX hA HC1 HB1 HR1
  have hCX : X ≠ C := by have := HNC.out; omega
  have hCA : A + 1 + 1 ≠ C := by have := HNC.out; omega
  have hXA : X ≠ A + 1 + 1 := by omega
  have hc0 := HC2.out.c
  have hf0 := HC2.out.f
  cases f with
  | true =>
    cases d with
    | true =>
      have hk : (k != 0) = true := bne_iff_ne.2 (hk1 rfl)
      clear hk1 hk2
      go_upto_region 3 with fail
      have hg1 := grown_set w2 C 0 (.bool true)
      have HN3 := hide (HN.out.keptM hg1 (fun h => hCX (by injection h)))
      have HR3 := hide (HR2.out.keptM hg1 (fun h => hCA (by injection h)))
      have HC3 := hide (HC2.out.set true)
      have HG3 := hide (grown_belowM HB2.out (some C) |>.trans hg1)
      clear hg1 hc0 hf0
      obtain ⟨w3, hw3⟩ : ∃ W, w2.setCell ⟨C, 0, none⟩ (.bool true) = W := ⟨_, rfl⟩
      rw [hw3] at HN3 HR3 HC3 HG3
      rw [hw3]
      clear hw3
      obtain ⟨n0, n1, n2, _, _, _⟩ := (id HN3.out : RC _ _ _ _ _)
      obtain ⟨r0, r1, r2, f0, f1, f2⟩ := (id HR3.out : RC _ _ _ _ _)
      go_wp2_with fail
      have hR2 := HR3.out.set3 r.1 r.2.1 r.2.2
      obtain ⟨d0, d1, d2, _, _, _⟩ := (id hR2 : RC _ _ _ _ _)
      have hC4 := HC3.out.keptM (grown_setM3 _ (A + 1 + 1) 0 1 2 (.bool r.1) (.string r.2.1) (.string r.2.2)) (by intro h; injection h with h; exact hCA h.symm)
      have hG := grown_then HG3.out (bSetM3 (x := 0) (y := 1) (z := 2) (u := .bool r.1) (v := .string r.2.1) (t := .string r.2.2) (show w.heap.size ≤ A + 1 + 1 by have := HAA.out; omega) HR3.out.lt)
      exact bodyPost_ret (v := .agg #[.bool r.1, .string r.2.1, .string r.2.2]) (by simp [results, Tryz.results24, go_sem, d0, d1, d2]) rfl ⟨rfl, hC4, hG⟩
    | false =>
      obtain rfl := hk2 rfl
      clear hk1 hk2
      go_upto_region 3 with fail
      have hg1 := grown_set w2 C 0 (.bool true)
      have HN3 := hide (HN.out.keptM hg1 (fun h => hCX (by injection h)))
      have HR3 := hide (HR2.out.keptM hg1 (fun h => hCA (by injection h)))
      have HC3 := hide (HC2.out.set true)
      have HG3 := hide (grown_belowM HB2.out (some C) |>.trans hg1)
      clear hg1 hc0 hf0
      obtain ⟨w3, hw3⟩ : ∃ W, w2.setCell ⟨C, 0, none⟩ (.bool true) = W := ⟨_, rfl⟩
      rw [hw3] at HN3 HR3 HC3 HG3
      rw [hw3]
      clear hw3
      obtain ⟨n0, n1, n2, _, _, _⟩ := (id HN3.out : RC _ _ _ _ _)
      obtain ⟨r0, r1, r2, f0, f1, f2⟩ := (id HR3.out : RC _ _ _ _ _)
      go_wp2_with fail
      have hR2 := HR3.out.set3 r.1 r.2.1 r.2.2
      obtain ⟨d0, d1, d2, _, _, _⟩ := (id hR2 : RC _ _ _ _ _)
      have hC4 := HC3.out.keptM (grown_setM3 _ (A + 1 + 1) 0 1 2 (.bool r.1) (.string r.2.1) (.string r.2.2)) (by intro h; injection h with h; exact hCA h.symm)
      have hG := grown_then HG3.out (bSetM3 (x := 0) (y := 1) (z := 2) (u := .bool r.1) (v := .string r.2.1) (t := .string r.2.2) (show w.heap.size ≤ A + 1 + 1 by have := HAA.out; omega) HR3.out.lt)
      exact bodyPost_ret (v := .agg #[.bool r.1, .string r.2.1, .string r.2.2]) (by simp [results, Tryz.results24, go_sem, d0, d1, d2]) rfl ⟨rfl, hC4, hG⟩
  | false =>
    cases d with
    | true =>
      have hk : (k != 0) = true := bne_iff_ne.2 (hk1 rfl)
      clear hk1 hk2
      go_upto_region 3 with fail
      have hg1 := grown_set w2 C 0 (.bool true)
      have HN3 := hide (HN.out.keptM hg1 (fun h => hCX (by injection h)))
      have HR3 := hide (HR2.out.keptM hg1 (fun h => hCA (by injection h)))
      have HC3 := hide (HC2.out.set true)
      have HG3 := hide (grown_belowM HB2.out (some C) |>.trans hg1)
      clear hg1 hc0 hf0
      obtain ⟨w3, hw3⟩ : ∃ W, w2.setCell ⟨C, 0, none⟩ (.bool true) = W := ⟨_, rfl⟩
      rw [hw3] at HN3 HR3 HC3 HG3
      rw [hw3]
      clear hw3
      obtain ⟨n0, n1, n2, _, _, _⟩ := (id HN3.out : RC _ _ _ _ _)
      obtain ⟨r0, r1, r2, f0, f1, f2⟩ := (id HR3.out : RC _ _ _ _ _)
      go_wp2_with fail
      have hR2 := HR3.out.set3 r.1 r.2.1 r.2.2
      obtain ⟨d0, d1, d2, _, _, _⟩ := (id hR2 : RC _ _ _ _ _)
      have hC4 := HC3.out.keptM (grown_setM3 _ (A + 1 + 1) 0 1 2 (.bool r.1) (.string r.2.1) (.string r.2.2)) (by intro h; injection h with h; exact hCA h.symm)
      have hG := grown_then HG3.out (bSetM3 (x := 0) (y := 1) (z := 2) (u := .bool r.1) (v := .string r.2.1) (t := .string r.2.2) (show w.heap.size ≤ A + 1 + 1 by have := HAA.out; omega) HR3.out.lt)
      exact bodyPost_ret (v := .agg #[.bool r.1, .string r.2.1, .string r.2.2]) (by simp [results, Tryz.results24, go_sem, d0, d1, d2]) rfl ⟨rfl, hC4, hG⟩
    | false =>
      obtain rfl := hk2 rfl
      clear hk1 hk2
      go_upto_region 3 with fail
      have hg1 := grown_set w2 C 0 (.bool false)
      have HN3 := hide (HN.out.keptM hg1 (fun h => hCX (by injection h)))
      have HR3 := hide (HR2.out.keptM hg1 (fun h => hCA (by injection h)))
      have HC3 := hide (HC2.out.set false)
      have HG3 := hide (grown_belowM HB2.out (some C) |>.trans hg1)
      clear hg1 hc0 hf0
      obtain ⟨w3, hw3⟩ : ∃ W, w2.setCell ⟨C, 0, none⟩ (.bool false) = W := ⟨_, rfl⟩
      rw [hw3] at HN3 HR3 HC3 HG3
      rw [hw3]
      clear hw3
      obtain ⟨n0, n1, n2, _, _, _⟩ := (id HN3.out : RC _ _ _ _ _)
      obtain ⟨r0, r1, r2, f0, f1, f2⟩ := (id HR3.out : RC _ _ _ _ _)
      go_wp2_with fail
      have hR2 := HR3.out.set3 r.1 r.2.1 r.2.2
      obtain ⟨d0, d1, d2, _, _, _⟩ := (id hR2 : RC _ _ _ _ _)
      have hC4 := HC3.out.keptM (grown_setM3 _ (A + 1 + 1) 0 1 2 (.bool r.1) (.string r.2.1) (.string r.2.2)) (by intro h; injection h with h; exact hCA h.symm)
      have hG := grown_then HG3.out (bSetM3 (x := 0) (y := 1) (z := 2) (u := .bool r.1) (v := .string r.2.1) (t := .string r.2.2) (show w.heap.size ≤ A + 1 + 1 by have := HAA.out; omega) HR3.out.lt)
      exact bodyPost_ret (v := .agg #[.bool r.1, .string r.2.1, .string r.2.2]) (by simp [results, Tryz.results24, go_sem, d0, d1, d2]) rfl ⟨rfl, hC4, hG⟩
theorem l46_add (C : Nat) {a b : Option Rat} {x y : T3} (ha : TO a x) (hb : TO b y) (f : Bool) (w : World) (hL : LawM w) (hc : CF w C f) :
    Calls Tryz.prog 24 #[.pointer (some ⟨C, 0, none⟩), .agg #[.bool x.1, .string x.2.1, .string x.2.2], .agg #[.bool y.1, .string y.2.1, .string y.2.2]] w fun e w' => ∃ r : T3, e = .returned (.agg #[.bool r.1, .string r.2.1, .string r.2.2]) ∧ TO (add2 a b) r ∧ CF w' C (f || (add2 a b).isNone) ∧ w.grownBy w' (some C) := by
  refine (l46_add_any C x y (rO (add2 a b)) f (add2 a b).isNone w hc fun W hW => r_add ha hb W (hL.below hW).1).mono ?_
  rintro e w' ⟨rfl, h1, h2⟩
  exact ⟨_, rfl, TO.rO (FitO.add2 a b), h1, h2⟩
set_option maxHeartbeats 4000000 in
set_option maxRecDepth 100000 in
theorem l46_mul_any (C : Nat) (x y r : T3) (f d : Bool) (w : World) (hc : CF w C f)
    (hF : ∀ W, Below w.heap.size w W → Calls Tryz.prog 38 #[.agg #[.bool x.1, .string x.2.1, .string x.2.2], .agg #[.bool y.1, .string y.2.1, .string y.2.2]] W fun e w' => ∃ k : Int, e = .returned (.tuple #[.agg #[.bool r.1, .string r.2.1, .string r.2.2], .int .i64 k]) ∧ (d = true → k ≠ 0) ∧ (d = false → k = 0) ∧ Below W.heap.size W w') :
    Calls Tryz.prog 26 #[.pointer (some ⟨C, 0, none⟩), .agg #[.bool x.1, .string x.2.1, .string x.2.2], .agg #[.bool y.1, .string y.2.1, .string y.2.2]] w fun e w' => e = .returned (.agg #[.bool r.1, .string r.2.1, .string r.2.2]) ∧ CF w' C (f || d) ∧ w.grownBy w' (some C) := by
  have hb := bAlloc (bAlloc (bAlloc (Below.refl w.heap.size w) (.cells #[.bool x.1, .string x.2.1, .string x.2.2] 29)) (.cells #[.bool y.1, .string y.2.1, .string y.2.2] 29)) (.cells #[.bool false, .string ⟨#[]⟩, .string ⟨#[]⟩] 29)
  have HB := hide hb
  have HC := hide (hc.below hb)
  have HF := hide (fun W hW => hF W (bStepM hb hW))
  have HR0 := hide (RC.new_at ((w.alloc (.cells #[.bool x.1, .string x.2.1, .string x.2.2] 29)).alloc (.cells #[.bool y.1, .string y.2.1, .string y.2.2] 29)) false ⟨#[]⟩ ⟨#[]⟩ 29 (b := w.heap.size + 1 + 1) (by simp [go_sem]))
  have HNC : Hid (C < w.heap.size) := hc.lt
  clear hb hc hF
  go_enter Tryz.func26, Tryz.ntmps26
  go_wp2_with fail
  refine (HF.out _ (Below.refl _ _)).mono ?_
  rintro e w1 ⟨k, rfl, hk1, hk2, hb⟩
  have HC1 := hide (HC.out.below hb)
  have HB1 := hide (bStepM HB.out hb)
  have HR1 := hide (HR0.out.below hb)
  have hb2 := bAlloc (Below.refl w1.heap.size w1) (.cells #[.bool r.1, .string r.2.1, .string r.2.2] 29)
  have HN := hide (RC.new w1 r.1 r.2.1 r.2.2 29)
  have HC2 := hide (HC1.out.below hb2)
  have HB2 := hide (bStepM HB1.out hb2)
  have HR2 := hide (HR1.out.below hb2)
  have hA1 := HR1.out.lt
  clear hb hb2 HF HC HB HR0
  go_upto_region 2 with fail
  obtain ⟨w2, hw2⟩ : ∃ W, w1.alloc (.cells #[.bool r.1, .string r.2.1, .string r.2.2] 29) = W := ⟨_, rfl⟩
  obtain ⟨X, hX⟩ : ∃ A, w1.heap.size = A := ⟨_, rfl⟩
  obtain ⟨A, hA⟩ : ∃ A, w.heap.size = A := ⟨_, rfl⟩
  have HAA := hide hA
  rw [hX, hA] at hA1
  rw [hX, hw2] at HN
  rw [hw2] at HC2 HB2 HR2
  rw [hA] at HR2 HNC
  rw [hw2, hX, hA]
  clear hw2 hX hA HC1 HB1 HR1
  have hCX : X ≠ C := by have := HNC.out; omega
  have hCA : A + 1 + 1 ≠ C := by have := HNC.out; omega
  have hXA : X ≠ A + 1 + 1 := by omega
  have hc0 := HC2.out.c
  have hf0 := HC2.out.f
  cases f with
  | true =>
    cases d with
    | true =>
      have hk : (k != 0) = true := bne_iff_ne.2 (hk1 rfl)
      clear hk1 hk2
      go_upto_region 3 with fail
      have hg1 := grown_set w2 C 0 (.bool true)
      have HN3 := hide (HN.out.keptM hg1 (fun h => hCX (by injection h)))
      have HR3 := hide (HR2.out.keptM hg1 (fun h => hCA (by injection h)))
      have HC3 := hide (HC2.out.set true)
      have HG3 := hide (grown_belowM HB2.out (some C) |>.trans hg1)
      clear hg1 hc0 hf0
      obtain ⟨w3, hw3⟩ : ∃ W, w2.setCell ⟨C, 0, none⟩ (.bool true) = W := ⟨_, rfl⟩
      rw [hw3] at HN3 HR3 HC3 HG3
      rw [hw3]
      clear hw3
      obtain ⟨n0, n1, n2, _, _, _⟩ := (id HN3.out : RC _ _ _ _ _)
      obtain ⟨r0, r1, r2, f0, f1, f2⟩ := (id HR3.out : RC _ _ _ _ _)
      go_wp2_with fail
      have hR2 := HR3.out.set3 r.1 r.2.1 r.2.2
      obtain ⟨d0, d1, d2, _, _, _⟩ := (id hR2 : RC _ _ _ _ _)
      have hC4 := HC3.out.keptM (grown_setM3 _ (A + 1 + 1) 0 1 2 (.bool r.1) (.string r.2.1) (.string r.2.2)) (by intro h; injection h with h; exact hCA h.symm)
      have hG := grown_then HG3.out (bSetM3 (x := 0) (y := 1) (z := 2) (u := .bool r.1) (v := .string r.2.1) (t := .string r.2.2) (show w.heap.size ≤ A + 1 + 1 by have := HAA.out; omega) HR3.out.lt)
      exact bodyPost_ret (v := .agg #[.bool r.1, .string r.2.1, .string r.2.2]) (by simp [results, Tryz.results26, go_sem, d0, d1, d2]) rfl ⟨rfl, hC4, hG⟩
    | false =>
      obtain rfl := hk2 rfl
      clear hk1 hk2
      go_upto_region 3 with fail
      have hg1 := grown_set w2 C 0 (.bool true)
      have HN3 := hide (HN.out.keptM hg1 (fun h => hCX (by injection h)))
      have HR3 := hide (HR2.out.keptM hg1 (fun h => hCA (by injection h)))
      have HC3 := hide (HC2.out.set true)
      have HG3 := hide (grown_belowM HB2.out (some C) |>.trans hg1)
      clear hg1 hc0 hf0
      obtain ⟨w3, hw3⟩ : ∃ W, w2.setCell ⟨C, 0, none⟩ (.bool true) = W := ⟨_, rfl⟩
      rw [hw3] at HN3 HR3 HC3 HG3
      rw [hw3]
      clear hw3
      obtain ⟨n0, n1, n2, _, _, _⟩ := (id HN3.out : RC _ _ _ _ _)
      obtain ⟨r0, r1, r2, f0, f1, f2⟩ := (id HR3.out : RC _ _ _ _ _)
      go_wp2_with fail
      have hR2 := HR3.out.set3 r.1 r.2.1 r.2.2
      obtain ⟨d0, d1, d2, _, _, _⟩ := (id hR2 : RC _ _ _ _ _)
      have hC4 := HC3.out.keptM (grown_setM3 _ (A + 1 + 1) 0 1 2 (.bool r.1) (.string r.2.1) (.string r.2.2)) (by intro h; injection h with h; exact hCA h.symm)
      have hG := grown_then HG3.out (bSetM3 (x := 0) (y := 1) (z := 2) (u := .bool r.1) (v := .string r.2.1) (t := .string r.2.2) (show w.heap.size ≤ A + 1 + 1 by have := HAA.out; omega) HR3.out.lt)
      exact bodyPost_ret (v := .agg #[.bool r.1, .string r.2.1, .string r.2.2]) (by simp [results, Tryz.results26, go_sem, d0, d1, d2]) rfl ⟨rfl, hC4, hG⟩
  | false =>
    cases d with
    | true =>
      have hk : (k != 0) = true := bne_iff_ne.2 (hk1 rfl)
      clear hk1 hk2
      go_upto_region 3 with fail
      have hg1 := grown_set w2 C 0 (.bool true)
      have HN3 := hide (HN.out.keptM hg1 (fun h => hCX (by injection h)))
      have HR3 := hide (HR2.out.keptM hg1 (fun h => hCA (by injection h)))
      have HC3 := hide (HC2.out.set true)
      have HG3 := hide (grown_belowM HB2.out (some C) |>.trans hg1)
      clear hg1 hc0 hf0
      obtain ⟨w3, hw3⟩ : ∃ W, w2.setCell ⟨C, 0, none⟩ (.bool true) = W := ⟨_, rfl⟩
      rw [hw3] at HN3 HR3 HC3 HG3
      rw [hw3]
      clear hw3
      obtain ⟨n0, n1, n2, _, _, _⟩ := (id HN3.out : RC _ _ _ _ _)
      obtain ⟨r0, r1, r2, f0, f1, f2⟩ := (id HR3.out : RC _ _ _ _ _)
      go_wp2_with fail
      have hR2 := HR3.out.set3 r.1 r.2.1 r.2.2
      obtain ⟨d0, d1, d2, _, _, _⟩ := (id hR2 : RC _ _ _ _ _)
      have hC4 := HC3.out.keptM (grown_setM3 _ (A + 1 + 1) 0 1 2 (.bool r.1) (.string r.2.1) (.string r.2.2)) (by intro h; injection h with h; exact hCA h.symm)
      have hG := grown_then HG3.out (bSetM3 (x := 0) (y := 1) (z := 2) (u := .bool r.1) (v := .string r.2.1) (t := .string r.2.2) (show w.heap.size ≤ A + 1 + 1 by have := HAA.out; omega) HR3.out.lt)
      exact bodyPost_ret (v := .agg #[.bool r.1, .string r.2.1, .string r.2.2]) (by simp [results, Tryz.results26, go_sem, d0, d1, d2]) rfl ⟨rfl, hC4, hG⟩
    | false =>
      obtain rfl := hk2 rfl
      clear hk1 hk2
      go_upto_region 3 with fail
      have hg1 := grown_set w2 C 0 (.bool false)
      have HN3 := hide (HN.out.keptM hg1 (fun h => hCX (by injection h)))
      have HR3 := hide (HR2.out.keptM hg1 (fun h => hCA (by injection h)))
      have HC3 := hide (HC2.out.set false)
      have HG3 := hide (grown_belowM HB2.out (some C) |>.trans hg1)
      clear hg1 hc0 hf0
      obtain ⟨w3, hw3⟩ : ∃ W, w2.setCell ⟨C, 0, none⟩ (.bool false) = W := ⟨_, rfl⟩
      rw [hw3] at HN3 HR3 HC3 HG3
      rw [hw3]
      clear hw3
      obtain ⟨n0, n1, n2, _, _, _⟩ := (id HN3.out : RC _ _ _ _ _)
      obtain ⟨r0, r1, r2, f0, f1, f2⟩ := (id HR3.out : RC _ _ _ _ _)
      go_wp2_with fail
      have hR2 := HR3.out.set3 r.1 r.2.1 r.2.2
      obtain ⟨d0, d1, d2, _, _, _⟩ := (id hR2 : RC _ _ _ _ _)
      have hC4 := HC3.out.keptM (grown_setM3 _ (A + 1 + 1) 0 1 2 (.bool r.1) (.string r.2.1) (.string r.2.2)) (by intro h; injection h with h; exact hCA h.symm)
      have hG := grown_then HG3.out (bSetM3 (x := 0) (y := 1) (z := 2) (u := .bool r.1) (v := .string r.2.1) (t := .string r.2.2) (show w.heap.size ≤ A + 1 + 1 by have := HAA.out; omega) HR3.out.lt)
      exact bodyPost_ret (v := .agg #[.bool r.1, .string r.2.1, .string r.2.2]) (by simp [results, Tryz.results26, go_sem, d0, d1, d2]) rfl ⟨rfl, hC4, hG⟩
theorem l46_mul (C : Nat) {a b : Option Rat} {x y : T3} (ha : TO a x) (hb : TO b y) (f : Bool) (w : World) (hL : LawM w) (hc : CF w C f) :
    Calls Tryz.prog 26 #[.pointer (some ⟨C, 0, none⟩), .agg #[.bool x.1, .string x.2.1, .string x.2.2], .agg #[.bool y.1, .string y.2.1, .string y.2.2]] w fun e w' => ∃ r : T3, e = .returned (.agg #[.bool r.1, .string r.2.1, .string r.2.2]) ∧ TO (mul2 a b) r ∧ CF w' C (f || (mul2 a b).isNone) ∧ w.grownBy w' (some C) := by
  refine (l46_mul_any C x y (rO (mul2 a b)) f (mul2 a b).isNone w hc fun W hW => r_mul ha hb W (hL.below hW).1).mono ?_
  rintro e w' ⟨rfl, h1, h2⟩
  exact ⟨_, rfl, TO.rO (FitO.mul2 a b), h1, h2⟩
end Go.Proofs.YtblpnekjnaaeoaaGreatDoor
