/- law 46: Minus, share, the arguments. -/
import Derived.Test.YtblpnekjnaaeoaaGreatDoorMqM
import Derived.Test.YtblpnekjnaaeoaaGreatDoorMqL
import Derived.Test.YtblpnekjnaaeoaaGreatDoorPkJ
set_option linter.unusedVariables false
set_option linter.unusedSimpArgs false
namespace Go.Proofs.YtblpnekjnaaeoaaGreatDoor
open Go.RowKit Go.Deep Go.ChangeShapes Go.WideShapes

set_option maxHeartbeats 4000000 in
set_option maxRecDepth 100000 in
theorem l46_minus0 (g : Bool) (t : ByteArray) (w : World)  :
    Calls Tryz.prog 27 #[.agg #[.bool g, .string ⟨#[48]⟩, .string t]] w fun e w' => e = .returned (.agg #[.bool g, .string ⟨#[48]⟩, .string t]) ∧ Below w.heap.size w w' := by
  go_enter Tryz.func27, Tryz.ntmps27
  go_wp2_with fail
  exact bodyPost_ret (v := .agg #[.bool g, .string ⟨#[48]⟩, .string t]) (by simp [results, Tryz.results27, go_sem]) rfl ⟨rfl, bAlloc (bAlloc (Below.refl _ _) _) _⟩
set_option maxHeartbeats 4000000 in
set_option maxRecDepth 100000 in
theorem l46_minus1 (g : Bool) (s t : ByteArray) (w : World) (f1 : (s.toList == [48]) = false) :
    Calls Tryz.prog 27 #[.agg #[.bool g, .string s, .string t]] w fun e w' => e = .returned (.agg #[.bool (!g), .string s, .string t]) ∧ Below w.heap.size w w' := by
  go_enter Tryz.func27, Tryz.ntmps27
  go_wp2_with fail
  exact bodyPost_ret (v := .agg #[.bool (!g), .string s, .string t]) (by simp [results, Tryz.results27, go_sem]) rfl ⟨rfl, bAlloc (bAlloc (Below.refl _ _) _) _⟩
def negO (a : Option Rat) : Option Rat := a.map fun q => -q
theorem l46_minus {a : Option Rat} {x : T3} (h : TO a x) (w : World) :
    Calls Tryz.prog 27 #[.agg #[.bool x.1, .string x.2.1, .string x.2.2]] w fun e w' => ∃ y : T3, e = .returned (.agg #[.bool y.1, .string y.2.1, .string y.2.2]) ∧ TO (negO a) y ∧ Below w.heap.size w w' := by
  obtain ⟨g, s, t⟩ := x
  by_cases hs : s = ⟨#[48]⟩
  · subst hs
    refine (l46_minus0 g t w).mono ?_
    rintro e w' ⟨rfl, hb⟩
    refine ⟨(g, ⟨#[48]⟩, t), rfl, ⟨h.sz, fun q hq => ?_, fun hq => h.no (by cases a <;> first | rfl | cases hq)⟩, hb⟩
    cases a with
    | none => cases hq
    | some p =>
      obtain ⟨e1, fp⟩ := h.ok p rfl
      have hq : -p = q := Option.some.inj hq
      subst hq
      have hn : natS (nmQ p) = ⟨#[48]⟩ := (congrArg (fun x : T3 => x.2.1) e1).symm
      have h0 : nmQ p = 0 := by
        rcases Nat.eq_zero_or_pos (nmQ p) with h | h
        · exact h
        · exact absurd hn (natS_ne_zero (by omega))
      have hp0 : p = 0 := Rat.num_eq_zero.1 (by unfold nmQ at h0; omega)
      subst hp0
      have e2 : -(0 : Rat) = 0 := by grind
      rw [e2]
      exact ⟨e1, fp⟩
  · refine (l46_minus1 g s t w (str_ne hs (by rfl))).mono ?_
    rintro e w' ⟨rfl, hb⟩
    refine ⟨(!g, s, t), rfl, ⟨h.sz, fun q hq => ?_, fun hq => h.no (by cases a <;> first | rfl | cases hq)⟩, hb⟩
    cases a with
    | none => cases hq
    | some p =>
      obtain ⟨e1, fp⟩ := h.ok p rfl
      have hq : -p = q := Option.some.inj hq
      subst hq
      refine ⟨?_, fp.neg⟩
      unfold rqM at e1 ⊢
      injection e1 with g1 e1
      injection e1 with s1 t1
      obtain ⟨n1, n2, n3⟩ := neg_parts p
      rw [n1, n2, n3, ← s1, ← t1, ← g1]
      have : nmQ p ≠ 0 := fun h0 => hs (by rw [s1, h0]; exact natS_zero)
      rw [decide_eq_true this, Bool.and_true]
theorem Tryz.cellsPt6 : Tryz.prog.cellsOf 41 = 6 := by kernel_rfl
def szP (a : T3 × T3) : Prop := (a.1.2.1.size ≤ maxLen ∧ a.1.2.2.size ≤ maxLen) ∧ (a.2.2.1.size ≤ maxLen ∧ a.2.2.2.size ≤ maxLen)
set_option maxRecDepth 100000 in
theorem trod_pt {H : Type} {enc : TypeId × Value → H} {w : World} {b : Nat} {sp : Nat → Bool} {hd : Bool} {n : Nat} {cs : List Value} {y : DataW H × List MemPlace} (h : DataW.trod enc Tryz.prog w b sp hd n 41 cs = some y) :
    ∃ (a : T3 × T3), szP a ∧ cs = vPr a := by
  obtain ⟨xs, m, _, _, hl, hx, hi⟩ := DataW.trod_struct Tryz.underlying41 h
  rw [Tryz.cellsPt6] at hl
  have hx' : xs.length = 2 := hx
  have e0 : DataW.trod enc Tryz.prog w b sp hd m 29 ((cs.drop 0).take (Tryz.prog.cellsOf 29)) = xs[0]? := hi 0 _ rfl
  have e1 : DataW.trod enc Tryz.prog w b sp hd m 29 ((cs.drop 3).take (Tryz.prog.cellsOf 29)) = xs[1]? := hi 1 _ rfl
  rw [Tryz.cellsRat, List.getElem?_eq_getElem (by omega)] at e0 e1
  match cs, hl with
  | [c0, c1, c2, c3, c4, c5], _ =>
    obtain ⟨g, s, t, l0, q0⟩ := trod_rat e0
    obtain ⟨g', s', t', l1, q1⟩ := trod_rat e1
    simp at q0 q1
    obtain ⟨rfl, rfl, rfl⟩ := q0
    obtain ⟨rfl, rfl, rfl⟩ := q1
    exact ⟨((g, s, t), (g', s', t')), ⟨l0, l1⟩, rfl⟩
set_option maxRecDepth 100000 in
theorem open_pts {H : Type} {enc : TypeId × Value → H} {w : World} {r : Reach} {b0 : Nat} {v : Value} {d : DataW H} {p : List MemPlace} (hv : Value.okWide Tryz.prog w r b0 22 v)
    (h : DataW.Trod enc Tryz.prog w 0 (fun _ => true) true 22 v d p) : ∃ l : List (T3 × T3), SliceOf vPr 6 w v l ∧ ∀ x ∈ l, szP x :=
  open_sliceOf vPr szP Tryz.underlying22 Tryz.cellsPt6 (by omega) vPr_len (fun _ _ _ _ h => trod_pt h) hv h
/-- The two weights of share. -/
structure Shr (p q : Rat) : Prop where
  sum : p + q = 1
  p0 : 0 ≤ p
  q0 : 0 ≤ q
  ps : S20 p
  qs : S20 q
theorem ofQ_s20 {n d : Int} (hn : 0 ≤ n ∧ n ≤ 1000) (hd : 1 ≤ d ∧ d ≤ 1000) : S20 (ofQ n d) := by
  have e2 := mkQ_ofQ n d (by omega)
  have h3 := mkQ_le (decide (n < 0) != decide (d < 0)) n.natAbs d.natAbs (by omega)
  rw [e2] at h3
  exact ⟨Nat.le_trans h3.1 (Nat.le_trans (by omega) P20_big), Nat.le_trans h3.2 (Nat.le_trans (by omega) P20_big)⟩
theorem shr_of {n d : Int} (hn : 0 ≤ n) (hd : 1 ≤ d) (h : n ≤ d) (h30 : d ≤ 30) : Shr (ofQ n d) (ofQ (d - n) d) := by
  have h0 : (d : Rat) ≠ 0 := by
    have : d ≠ 0 := by omega
    exact_mod_cast this
  have hdp : (0 : Rat) < (d : Rat) := by
    have : (0 : Int) < d := by omega
    exact_mod_cast this
  refine ⟨?_, ?_, ?_, ofQ_s20 ⟨hn, by omega⟩ ⟨hd, by omega⟩, ofQ_s20 ⟨by omega, by omega⟩ ⟨hd, by omega⟩⟩
  · unfold ofQ
    rw [Rat.intCast_sub]
    grind
  · unfold ofQ
    rw [Rat.div_def]
    exact Rat.mul_nonneg (by exact_mod_cast hn) (Rat.le_of_lt (Rat.inv_pos.2 hdp))
  · unfold ofQ
    have : (0 : Int) ≤ d - n := by omega
    rw [Rat.div_def]
    exact Rat.mul_nonneg (by exact_mod_cast this) (Rat.le_of_lt (Rat.inv_pos.2 hdp))
set_option maxHeartbeats 4000000 in
set_option maxRecDepth 100000 in
theorem law46_share (x y : Int) (hx : 0 ≤ x ∧ x < 256) (hy : 0 ≤ y ∧ y < 256) : ∃ p q : Rat, Shr p q ∧ ∀ (w : World) (_ : LawM w),
    Calls Tryz.prog 25 #[.int .u8 x, .int .u8 y] w fun e w' => e = .returned (.tuple #[.agg #[.bool (rqM p).1, .string (rqM p).2.1, .string (rqM p).2.2], .agg #[.bool (rqM q).1, .string (rqM q).2.1, .string (rqM q).2.2]]) ∧ Below w.heap.size w w' := by
  obtain ⟨hx0, hx1⟩ := hx
  obtain ⟨hy0, hy1⟩ := hy
  obtain ⟨d, hd⟩ : ∃ d : Nat, 1 + y % 30 = (d : Int) := ⟨(1 + y % 30).toNat, by omega⟩
  have hd1 : 1 ≤ d := by omega
  have hd2 : d ≤ 30 := by omega
  obtain ⟨n, hn⟩ : ∃ n : Nat, x % ((d : Int) + 1) = (n : Int) := ⟨(x % ((d : Int) + 1)).toNat, (Int.toNat_of_nonneg (Int.emod_nonneg _ (by omega))).symm⟩
  have hn1 : n ≤ d := by
    have := Int.emod_lt_of_pos x (show (0 : Int) < (d : Int) + 1 by omega)
    omega
  have HSH : Hid (Shr (ofQ (n : Int) (d : Int)) (ofQ ((d : Int) - (n : Int)) (d : Int))) := shr_of (by omega) (by omega) (by omega) (by omega)
  obtain ⟨p, hp⟩ : ∃ p, ofQ (n : Int) (d : Int) = p := ⟨_, rfl⟩
  obtain ⟨q, hq⟩ : ∃ q, ofQ ((d : Int) - (n : Int)) (d : Int) = q := ⟨_, rfl⟩
  rw [hp, hq] at HSH
  refine ⟨p, q, HSH.out, fun w hL => ?_⟩
  clear HSH
  have HL := hide hL
  have hba := bAlloc (bAlloc (Below.refl w.heap.size w) (.cells #[.bool false, .string ⟨#[]⟩, .string ⟨#[]⟩] 29)) (.cells #[.bool false, .string ⟨#[]⟩, .string ⟨#[]⟩] 29)
  have HB := hide hba
  have HR4 := hide ((RC.new w false ⟨#[]⟩ ⟨#[]⟩ 29).below (bAlloc (Below.refl _ (w.alloc (.cells #[.bool false, .string ⟨#[]⟩, .string ⟨#[]⟩] 29))) (.cells #[.bool false, .string ⟨#[]⟩, .string ⟨#[]⟩] 29)))
  have HR5 := hide (RC.new_at (w.alloc (.cells #[.bool false, .string ⟨#[]⟩, .string ⟨#[]⟩] 29)) false ⟨#[]⟩ ⟨#[]⟩ 29 (b := w.heap.size + 1) (by simp [go_sem]))
  clear hL hba
  have HD := hide hd
  have HN := hide hn
  clear hd hn
  go_enter Tryz.func25, Tryz.ntmps25
  go_upto_region 2 with fail
  rw [HD.out]
  have hdw : IntKind.i64.wrap ((d : Int) + 1) = (d : Int) + 1 := IntWalk.i64_in _ (by omega)
  have hd0 : ((d : Int) + 1 == 0) = false := beq_eq_false_iff_ne.2 (by omega)
  clear hy0 hy1
  go_upto_region 3 with fail
  rw [HN.out]
  have hsub : IntKind.i64.wrap ((d : Int) - (n : Int)) = (d : Int) - (n : Int) := IntWalk.i64_in _ (by omega)
  obtain ⟨u, hu⟩ : ∃ u, rqM p = u := ⟨_, rfl⟩
  obtain ⟨v, hv⟩ : ∃ v, rqM q = v := ⟨_, rfl⟩
  have HR1 : Hid (∀ W, Below w.heap.size w W → Calls Tryz.prog 23 #[.int .i64 (n : Int), .int .i64 (d : Int)] W fun e w' => e = .returned (.agg #[.bool u.1, .string u.2.1, .string u.2.2]) ∧ Below W.heap.size W w') := fun W hW => by
    have := law46_rat (n := (n : Int)) (d := (d : Int)) (q := p) (by unfold inI64; omega) (by unfold inI64; omega) (by omega) hp W (HL.out.below hW)
    rwa [hu] at this
  have HR2 : Hid (∀ W, Below w.heap.size w W → Calls Tryz.prog 23 #[.int .i64 ((d : Int) - (n : Int)), .int .i64 (d : Int)] W fun e w' => e = .returned (.agg #[.bool v.1, .string v.2.1, .string v.2.2]) ∧ Below W.heap.size W w') := fun W hW => by
    have := law46_rat (n := (d : Int) - (n : Int)) (d := (d : Int)) (q := q) (by unfold inI64; omega) (by unfold inI64; omega) (by omega) hq W (HL.out.below hW)
    rwa [hv] at this
  have HU := hide hu
  have HV := hide hv
  clear hp hq hu hv hdw hd0
  go_wp2_with fail
  refine (HR1.out _ HB.out).mono ?_
  rintro e w1 ⟨rfl, hb⟩
  have HB1 := hide (bStepM HB.out hb)
  have HR4a := hide (HR4.out.below hb)
  have HR5a := hide (HR5.out.below hb)
  clear hb HB HR4 HR5
  go_wp2_with fail
  refine (HR2.out _ HB1.out).mono ?_
  rintro e w2 ⟨rfl, hb⟩
  have HB2 := hide (bStepM HB1.out hb)
  have HR4b := hide (HR4a.out.below hb)
  have HR5b := hide (HR5a.out.below hb)
  clear hb HB1 HR4a HR5a
  obtain ⟨A, hA⟩ : ∃ A, w.heap.size = A := ⟨_, rfl⟩
  have HAA := hide hA
  rw [hA] at HR4b HR5b
  rw [hA]
  clear hA
  obtain ⟨r0, r1, r2, f0, f1, f2⟩ := (id HR4b.out : RC _ _ _ _ _)
  obtain ⟨s0, s1, s2, g0, g1, g2⟩ := (id HR5b.out : RC _ _ _ _ _)
  have hne : A ≠ A + 1 := by omega
  go_wp2_with fail
  have hg4 := grown_setM3 w2 A 0 1 2 (.bool u.1) (.string u.2.1) (.string u.2.2)
  have hR4 := HR4b.out.set3 u.1 u.2.1 u.2.2
  have hR5 := (HR5b.out.keptM hg4 (by intro h; injection h with h; omega)).set3 v.1 v.2.1 v.2.2
  have hR4' := hR4.keptM (grown_setM3 _ (A + 1) 0 1 2 (.bool v.1) (.string v.2.1) (.string v.2.2)) (by intro h; injection h with h; omega)
  obtain ⟨d0, d1, d2, _, _, _⟩ := (id hR4' : RC _ _ _ _ _)
  obtain ⟨e0, e1, e2, _, _, _⟩ := (id hR5 : RC _ _ _ _ _)
  have hlt4 := HR4b.out.lt
  have hlt5 := HR5b.out.lt
  have hbe1 := HB2.out.trans (bSetM3 (x := 0) (y := 1) (z := 2) (u := .bool u.1) (v := .string u.2.1) (t := .string u.2.2) (show w.heap.size ≤ A by have := HAA.out; omega) hlt4)
  have hbe := hbe1.trans (bSetM3 (x := 0) (y := 1) (z := 2) (u := .bool v.1) (v := .string v.2.1) (t := .string v.2.2) (show w.heap.size ≤ A + 1 by have := HAA.out; omega) (by simpa using hlt5))
  exact bodyPost_ret (v := .tuple #[.agg #[.bool u.1, .string u.2.1, .string u.2.2], .agg #[.bool v.1, .string v.2.1, .string v.2.2]]) (by simp [results, Tryz.results25, go_sem, d0, d1, d2, e0, e1, e2]) rfl ⟨by rw [HU.out, HV.out], hbe⟩
end Go.Proofs.YtblpnekjnaaeoaaGreatDoor
