/- rational: Compare. -/
import Derived.Test.YtblpnekjnaaeoaaGreatDoorPkI
import Derived.Deep.LoopGhost
import Derived.Deep.CutBlock
set_option linter.unusedVariables false
set_option linter.unusedSimpArgs false
namespace Go.Proofs.YtblpnekjnaaeoaaGreatDoor
open Go.RowKit

/-- Two naturals in an array of two. -/
structure PC (w : World) (b : Nat) (s t : ByteArray) : Prop where
  c0 : w.cell? ⟨b, 0, none⟩ = some (.string s)
  c1 : w.cell? ⟨b, 1, none⟩ = some (.string t)
  f0 : w.frozen? ⟨b, 0, none⟩ = false
  f1 : w.frozen? ⟨b, 1, none⟩ = false
theorem PC.lt {w : World} {b : Nat} {s t : ByteArray} (h : PC w b s t) : b < w.heap.size := World.block_lt_of_cell? _ _ h.c0
theorem PC.below {w w' : World} {b : Nat} {s t : ByteArray} (h : PC w b s t) (hb : Below w.heap.size w w') : PC w' b s t :=
  ⟨keep_cell hb h.c0, keep_cell hb h.c1, (hb.frozen (p := ⟨b, 0, none⟩) h.lt).trans h.f0, (hb.frozen (p := ⟨b, 1, none⟩) h.lt).trans h.f1⟩
theorem PC.set {w : World} {b : Nat} {s t : ByteArray} (h : PC w b s t) (s' t' : ByteArray) : PC ((w.setCell ⟨b, 0, none⟩ (.string s')).setCell ⟨b, 1, none⟩ (.string t')) b s' t' := by
  have n01 : (⟨b, 0, none⟩ : Addr) ≠ ⟨b, 1, none⟩ := by intro e; injection e with _ e; omega
  refine ⟨?_, ?_, ?_, ?_⟩
  · rw [World.cell?_setCell_other _ _ _ _ n01.symm]; exact World.cell?_setCell_same _ _ _ h.c0
  · exact World.cell?_setCell_same _ _ _ ((World.cell?_setCell_other w ⟨b, 0, none⟩ ⟨b, 1, none⟩ (.string s') n01).trans h.c1)
  · simp only [World.frozen?_setCell]; exact h.f0
  · simp only [World.frozen?_setCell]; exact h.f1
theorem PC.far {w : World} {b c : Nat} {s t : ByteArray} (h : PC w b s t) (hne : b ≠ c) (x y : Value) : PC ((w.setCell ⟨c, 0, none⟩ x).setCell ⟨c, 1, none⟩ y) b s t := by
  have n : ∀ i j, (⟨c, i, none⟩ : Addr) ≠ ⟨b, j, none⟩ := fun i j e => by injection e with e; exact hne e.symm
  refine ⟨?_, ?_, ?_, ?_⟩
  · rw [World.cell?_setCell_other _ _ _ _ (n 1 0), World.cell?_setCell_other _ _ _ _ (n 0 0)]; exact h.c0
  · rw [World.cell?_setCell_other _ _ _ _ (n 1 1), World.cell?_setCell_other _ _ _ _ (n 0 1)]; exact h.c1
  · simp only [World.frozen?_setCell]; exact h.f0
  · simp only [World.frozen?_setCell]; exact h.f1
theorem PC.new_at (w : World) (s t : ByteArray) (T : TypeId) {b : Nat} (hb : w.heap.size = b) : PC (w.alloc (.cells #[.string s, .string t] T)) b s t := by
  subst hb; exact ⟨by simp [go_sem], by simp [go_sem], by simp [go_sem], by simp [go_sem]⟩
/-- Two arrays, behind what was there. -/
structure P2 (w W : World) (B C : Nat) (s t u v : ByteArray) : Prop where
  bel : Below w.heap.size w W
  p : PC W B s t
  q : PC W C u v
  ne : B ≠ C
  hB : w.heap.size ≤ B
  hC : w.heap.size ≤ C
theorem P2.below {w W W' : World} {B C : Nat} {s t u v : ByteArray} (h : P2 w W B C s t u v) (hb : Below W.heap.size W W') : P2 w W' B C s t u v :=
  ⟨bStep h.bel hb, h.p.below hb, h.q.below hb, h.ne, h.hB, h.hC⟩
theorem P2.set {w W : World} {B C : Nat} {s t u v : ByteArray} (h : P2 w W B C s t u v) (s' t' u' v' : ByteArray) :
    P2 w ((((W.setCell ⟨B, 0, none⟩ (.string s')).setCell ⟨B, 1, none⟩ (.string t')).setCell ⟨C, 0, none⟩ (.string u')).setCell ⟨C, 1, none⟩ (.string v')) B C s' t' u' v' :=
  ⟨(((h.bel.setCell (p := ⟨B, 0, none⟩) h.hB _).setCell (p := ⟨B, 1, none⟩) h.hB _).setCell (p := ⟨C, 0, none⟩) h.hC _).setCell (p := ⟨C, 1, none⟩) h.hC _, (h.p.set s' t').far h.ne _ _, (h.q.far h.ne.symm _ _).set u' v', h.ne, h.hB, h.hC⟩
def CqPost (w : World) (z : Int) (e : Ending) (w' : World) : Prop := e = .returned (.int .i64 z) ∧ Below w.heap.size w w'
theorem P2.new {w wc : World} (h : Below w.heap.size w wc) (s t u v : ByteArray) (T T' : TypeId) : P2 w ((wc.alloc (.cells #[.string s, .string t] T)).alloc (.cells #[.string u, .string v] T')).drew wc.heap.size (wc.heap.size + 1) s t u v :=
  ⟨(bAlloc (bAlloc h _) _).drew, ((PC.new_at wc s t T rfl).below (bAlloc (Below.refl _ _) _)).below (Below.refl _ _).drew, (PC.new_at (wc.alloc (.cells #[.string s, .string t] T)) u v T' (by simp)).below (Below.refl _ _).drew, by omega, h.size, by have := h.size; omega⟩
theorem P2.new2 {w wc : World} (h : Below w.heap.size w wc) (s t u v : ByteArray) (T T' : TypeId) : P2 w ((wc.alloc (.cells #[.string u, .string v] T')).alloc (.cells #[.string s, .string t] T)).drew (wc.heap.size + 1) wc.heap.size s t u v :=
  ⟨(bAlloc (bAlloc h _) _).drew, (PC.new_at (wc.alloc (.cells #[.string u, .string v] T')) s t T (by simp)).below (Below.refl _ _).drew, ((PC.new_at wc u v T' rfl).below (bAlloc (Below.refl _ _) _)).below (Below.refl _ _).drew, by omega, by have := h.size; omega, h.size⟩
/-- Both numbers in their variables. -/
structure P3 (w W : World) (g h : Bool) (s1 s2 t1 t2 : ByteArray) : Prop where
  bel : Below w.heap.size w W
  a : RC W w.heap.size g s1 s2
  b : RC W (w.heap.size + 1) h t1 t2
theorem P3.below {w W W' : World} {g h : Bool} {s1 s2 t1 t2 : ByteArray} (p : P3 w W g h s1 s2 t1 t2) (hb : Below W.heap.size W W') : P3 w W' g h s1 s2 t1 t2 := ⟨bStep p.bel hb, p.a.below hb, p.b.below hb⟩
theorem P3.drew {w W : World} {g h : Bool} {s1 s2 t1 t2 : ByteArray} (p : P3 w W g h s1 s2 t1 t2) : P3 w W.drew g h s1 s2 t1 t2 := p.below (Below.refl _ _).drew
theorem P3.setA {w W : World} {g h : Bool} {s1 s2 t1 t2 : ByteArray} (p : P3 w W g h s1 s2 t1 t2) (g' : Bool) (u v : ByteArray) : P3 w (((W.setCell ⟨w.heap.size, 0, none⟩ (.bool g')).setCell ⟨w.heap.size, 1, none⟩ (.string u)).setCell ⟨w.heap.size, 2, none⟩ (.string v)) g' h u v t1 t2 :=
  ⟨bset3 p.bel (Nat.le_refl _) _ _ _, p.a.set3 g' u v, p.b.only (Only2.set3 _ _ _ _ _) (by omega)⟩
theorem P3.setB {w W : World} {g h : Bool} {s1 s2 t1 t2 : ByteArray} (p : P3 w W g h s1 s2 t1 t2) (g' : Bool) (u v : ByteArray) : P3 w (((W.setCell ⟨w.heap.size + 1, 0, none⟩ (.bool g')).setCell ⟨w.heap.size + 1, 1, none⟩ (.string u)).setCell ⟨w.heap.size + 1, 2, none⟩ (.string v)) g g' s1 s2 u v :=
  ⟨bset3 p.bel (by omega) _ _ _, p.a.only (Only2.set3 _ _ _ _ _) (by omega), p.b.set3 g' u v⟩
set_option maxHeartbeats 4000000 in
set_option maxRecDepth 100000 in
theorem rat_Compare_np (s1 s2 t1 t2 : ByteArray) (w : World) (hw : LawW w)
    (HVA : Hid (∀ W, LawW W → Calls Tryz.prog 47 #[.agg #[.bool true, .string s1, .string s2]] W fun e w' => e = .returned (.bool true) ∧ Below W.heap.size W w'))
    (HVB : Hid (∀ W, LawW W → Calls Tryz.prog 47 #[.agg #[.bool false, .string t1, .string t2]] W fun e w' => e = .returned (.bool true) ∧ Below W.heap.size W w')) :
    Calls Tryz.prog 28 #[.agg #[.bool true, .string s1, .string s2], .agg #[.bool false, .string t1, .string t2]] w (CqPost w (-1)) := by
  have HW := hide hw
  clear hw
  have HB0 := hide (bAlloc (bAlloc (Below.refl w.heap.size w) (.cells #[.bool true, .string s1, .string s2] 29)) (.cells #[.bool false, .string t1, .string t2] 29))
  have ra := hide ((RC.new w true s1 s2 29).below (bAlloc (Below.refl _ _) (.cells #[.bool false, .string t1, .string t2] 29)))
  have rb := hide (RC.new_at (w.alloc (.cells #[.bool true, .string s1, .string s2] 29)) false t1 t2 29 (b := w.heap.size + 1) (by simp))
  go_enter Tryz.func28, Tryz.ntmps28
  go_wp2_with fail
  refine (HVA.out _ (HW.out.below HB0.out)).mono ?_
  rintro e w1 ⟨rfl, hb⟩
  have HB1 := hide (bStep HB0.out hb)
  have RA1 := hide (ra.out.below hb)
  have RB1 := hide (rb.out.below hb)
  obtain ⟨a0, a1, a2, fa0, fa1, fa2⟩ := RA1.out
  obtain ⟨b0, b1, b2, fb0, fb1, fb2⟩ := RB1.out
  clear hb
  go_wp2_with fail
  refine (HVB.out _ (HW.out.below HB1.out)).mono ?_
  rintro e w2 ⟨rfl, hb⟩
  have HB2 := hide (bStep HB1.out hb)
  have RA2 := hide (RA1.out.below hb)
  have RB2 := hide (RB1.out.below hb)
  obtain ⟨a0, a1, a2, fa0, fa1, fa2⟩ := RA2.out
  obtain ⟨b0, b1, b2, fb0, fb1, fb2⟩ := RB2.out
  clear hb
  go_wp2_with fail
  go_ret
  exact ⟨rfl, HB2.out⟩
set_option maxHeartbeats 4000000 in
set_option maxRecDepth 100000 in
theorem rat_Compare_pn (s1 s2 t1 t2 : ByteArray) (w : World) (hw : LawW w)
    (HVA : Hid (∀ W, LawW W → Calls Tryz.prog 47 #[.agg #[.bool false, .string s1, .string s2]] W fun e w' => e = .returned (.bool true) ∧ Below W.heap.size W w'))
    (HVB : Hid (∀ W, LawW W → Calls Tryz.prog 47 #[.agg #[.bool true, .string t1, .string t2]] W fun e w' => e = .returned (.bool true) ∧ Below W.heap.size W w')) :
    Calls Tryz.prog 28 #[.agg #[.bool false, .string s1, .string s2], .agg #[.bool true, .string t1, .string t2]] w (CqPost w (1)) := by
  have HW := hide hw
  clear hw
  have HB0 := hide (bAlloc (bAlloc (Below.refl w.heap.size w) (.cells #[.bool false, .string s1, .string s2] 29)) (.cells #[.bool true, .string t1, .string t2] 29))
  have ra := hide ((RC.new w false s1 s2 29).below (bAlloc (Below.refl _ _) (.cells #[.bool true, .string t1, .string t2] 29)))
  have rb := hide (RC.new_at (w.alloc (.cells #[.bool false, .string s1, .string s2] 29)) true t1 t2 29 (b := w.heap.size + 1) (by simp))
  go_enter Tryz.func28, Tryz.ntmps28
  go_wp2_with fail
  refine (HVA.out _ (HW.out.below HB0.out)).mono ?_
  rintro e w1 ⟨rfl, hb⟩
  have HB1 := hide (bStep HB0.out hb)
  have RA1 := hide (ra.out.below hb)
  have RB1 := hide (rb.out.below hb)
  obtain ⟨a0, a1, a2, fa0, fa1, fa2⟩ := RA1.out
  obtain ⟨b0, b1, b2, fb0, fb1, fb2⟩ := RB1.out
  clear hb
  go_wp2_with fail
  refine (HVB.out _ (HW.out.below HB1.out)).mono ?_
  rintro e w2 ⟨rfl, hb⟩
  have HB2 := hide (bStep HB1.out hb)
  have RA2 := hide (RA1.out.below hb)
  have RB2 := hide (RB1.out.below hb)
  obtain ⟨a0, a1, a2, fa0, fa1, fa2⟩ := RA2.out
  obtain ⟨b0, b1, b2, fb0, fb1, fb2⟩ := RB2.out
  clear hb
  go_wp2_with fail
  go_ret
  exact ⟨rfl, HB2.out⟩
set_option maxHeartbeats 4000000 in
set_option maxRecDepth 100000 in
theorem rat_Compare_eq (g : Bool) (s1 s2 : ByteArray) (w : World) (hw : LawW w)
    (HVA : Hid (∀ W, LawW W → Calls Tryz.prog 47 #[.agg #[.bool g, .string s1, .string s2]] W fun e w' => e = .returned (.bool true) ∧ Below W.heap.size W w')) :
    Calls Tryz.prog 28 #[.agg #[.bool g, .string s1, .string s2], .agg #[.bool g, .string s1, .string s2]] w (CqPost w 0) := by
  have HW := hide hw
  have q1 : (s1.toList == s1.toList) = true := by simp
  have q2 : (s2.toList == s2.toList) = true := by simp
  clear hw
  have HB0 := hide (bAlloc (bAlloc (Below.refl w.heap.size w) (.cells #[.bool g, .string s1, .string s2] 29)) (.cells #[.bool g, .string s1, .string s2] 29))
  have ra := hide ((RC.new w g s1 s2 29).below (bAlloc (Below.refl _ _) (.cells #[.bool g, .string s1, .string s2] 29)))
  have rb := hide (RC.new_at (w.alloc (.cells #[.bool g, .string s1, .string s2] 29)) g s1 s2 29 (b := w.heap.size + 1) (by simp))
  cases g
  all_goals
    go_enter Tryz.func28, Tryz.ntmps28
    go_wp2_with fail
    refine (HVA.out _ (HW.out.below HB0.out)).mono ?_
    rintro e w1 ⟨rfl, hb⟩
    have HB1 := hide (bStep HB0.out hb)
    have RA1 := hide (ra.out.below hb)
    have RB1 := hide (rb.out.below hb)
    obtain ⟨a0, a1, a2, fa0, fa1, fa2⟩ := RA1.out
    obtain ⟨b0, b1, b2, fb0, fb1, fb2⟩ := RB1.out
    clear hb
    go_wp2_with fail
    refine (HVA.out _ (HW.out.below HB1.out)).mono ?_
    rintro e w2 ⟨rfl, hb⟩
    have HB2 := hide (bStep HB1.out hb)
    have RA2 := hide (RA1.out.below hb)
    have RB2 := hide (RB1.out.below hb)
    obtain ⟨a0, a1, a2, fa0, fa1, fa2⟩ := RA2.out
    obtain ⟨b0, b1, b2, fb0, fb1, fb2⟩ := RB2.out
    clear hb
    go_wp2_with fail
    go_ret
    exact ⟨rfl, HB2.out⟩
set_option maxHeartbeats 4000000 in
set_option maxRecDepth 100000 in
theorem rat_Compare_pp (x1 x2 y1 y2 : Nat) (s1 s2 t1 t2 : ByteArray) (w : World) (hw : LawW w)
    (HVA : Hid (∀ W, LawW W → Calls Tryz.prog 47 #[.agg #[.bool false, .string s1, .string s2]] W fun e w' => e = .returned (.bool true) ∧ Below W.heap.size W w'))
    (HVB : Hid (∀ W, LawW W → Calls Tryz.prog 47 #[.agg #[.bool false, .string t1, .string t2]] W fun e w' => e = .returned (.bool true) ∧ Below W.heap.size W w'))
    (ha1 : x1 < capN) (ha2 : x2 < capN) (hb1 : y1 < capN) (hb2 : y2 < capN) (ha0 : 0 < x2) (hb0 : 0 < y2) (hs1 : natS x1 = s1) (hs2 : natS x2 = s2) (ht1 : natS y1 = t1) (ht2 : natS y2 = t2)
    (hne : (s1.toList == t1.toList) = false ∨ ((s1.toList == t1.toList) = true ∧ (s2.toList == t2.toList) = false)) (hC : cmpX x1 x2 y1 y2 ≠ 0) :
    Calls Tryz.prog 28 #[.agg #[.bool false, .string s1, .string s2], .agg #[.bool false, .string t1, .string t2]] w (CqPost w (cmpX x1 x2 y1 y2)) := by
  have HW := hide hw
  clear hw
  have HS1 := hide hs1
  have HS2 := hide hs2
  have HT1 := hide ht1
  have HT2 := hide ht2
  clear hs1 hs2 ht1 ht2
  have HXB1 := hide ha1
  have HXB2 := hide ha2
  have HYB1 := hide hb1
  have HYB2 := hide hb2
  have HX0 := hide ha0
  have HY0 := hide hb0
  have HNZ := hide hC
  obtain ⟨Z, hZ⟩ : ∃ z, cmpX x1 x2 y1 y2 = z := ⟨_, rfl⟩
  rw [hZ] at HNZ ⊢
  have HZ := hide hZ
  clear ha1 ha2 hb1 hb2 ha0 hb0 hC hZ
  have HB0 := hide (bAlloc (bAlloc (Below.refl w.heap.size w) (.cells #[.bool false, .string s1, .string s2] 29)) (.cells #[.bool false, .string t1, .string t2] 29))
  have ra := hide ((RC.new w false s1 s2 29).below (bAlloc (Below.refl _ _) (.cells #[.bool false, .string t1, .string t2] 29)))
  have rb := hide (RC.new_at (w.alloc (.cells #[.bool false, .string s1, .string s2] 29)) false t1 t2 29 (b := w.heap.size + 1) (by simp))
  go_enter Tryz.func28, Tryz.ntmps28
  go_upto_block 0 with fail
  go_cut [] (fun wx => ∃ g1 g2 : Bool, RC wx w.heap.size g1 s1 s2 ∧ RC wx (w.heap.size + 1) g2 t1 t2 ∧ Below w.heap.size w wx)
  case first =>
    rcases hne with hn | ⟨hn, hn'⟩
    all_goals
      go_wp2_with fail
      refine (HVA.out _ (HW.out.below HB0.out)).mono ?_
      rintro e w1 ⟨rfl, hb⟩
      have HB1 := hide (bStep HB0.out hb)
      have RA1 := hide (ra.out.below hb)
      have RB1 := hide (rb.out.below hb)
      obtain ⟨a0, a1, a2, fa0, fa1, fa2⟩ := RA1.out
      obtain ⟨b0, b1, b2, fb0, fb1, fb2⟩ := RB1.out
      clear hb
      go_wp2_with fail
      refine (HVB.out _ (HW.out.below HB1.out)).mono ?_
      rintro e w2 ⟨rfl, hb⟩
      have HB2 := hide (bStep HB1.out hb)
      have RA2 := hide (RA1.out.below hb)
      have RB2 := hide (RB1.out.below hb)
      obtain ⟨a0, a1, a2, fa0, fa1, fa2⟩ := RA2.out
      obtain ⟨b0, b1, b2, fb0, fb1, fb2⟩ := RB2.out
      clear hb
      go_wp2_with fail
      go_meet
      exact ⟨_, _, RA2.out, RB2.out, HB2.out⟩
  case rest =>
    obtain ⟨g1, g2, hra, hrb, hbel⟩ := hcut
    obtain ⟨ca0, ca1, ca2, _, _, _⟩ := hra
    obtain ⟨cb0, cb1, cb2, _, _, _⟩ := hrb
    have HBC := hide hbel
    clear hbel
    go_upto_region 9 with fail
    go_cut [5, 6] (fun z5 z6 wx => ∃ B C : Nat, z5 = .pointer (some ⟨B, 0, none⟩) ∧ z6 = .pointer (some ⟨C, 0, none⟩) ∧ P2 w wx B C s1 s2 t1 t2)
    case first =>
      go_region_held3 (fun w' => w'.cell? ⟨w.heap.size, 1, none⟩ = some (.string s1) ∧ w'.cell? ⟨w.heap.size, 2, none⟩ = some (.string s2) ∧ w'.cell? ⟨w.heap.size + 1, 1, none⟩ = some (.string t1) ∧ w'.cell? ⟨w.heap.size + 1, 2, none⟩ = some (.string t2))
        (go_keep) (fail)
      all_goals
        go_wp2_with fail
        go_meet
        first
        | exact ⟨_, _, rfl, rfl, P2.new HBC.out _ _ _ _ _ _⟩
        | exact ⟨_, _, rfl, rfl, P2.new2 HBC.out _ _ _ _ _ _⟩
    case rest =>
      obtain ⟨B, C, rfl, rfl, hp2⟩ := hcut
      have HP2 := hide hp2
      clear hp2
      go_wp2_with fail
      go_loopg [] (x2 + y2) (fun g wx => ∃ (p1 p2 q1 q2 : Nat) (s t u v : ByteArray), g = p2 + q2 ∧ P2 w wx B C s t u v ∧ natS p1 = s ∧ natS p2 = t ∧ natS q1 = u ∧ natS q2 = v ∧ p1 < capN ∧ p2 < capN ∧ q1 < capN ∧ q2 < capN ∧ 0 < p2 ∧ 0 < q2 ∧ cmpX p1 p2 q1 q2 = Z)
      case atStart => exact ⟨x1, x2, y1, y2, _, _, _, _, rfl, HP2.out, HS1.out, HS2.out, HT1.out, HT2.out, HXB1.out, HXB2.out, HYB1.out, HYB2.out, HX0.out, HY0.out, HZ.out⟩
      case round =>
        obtain ⟨p1, p2, q1, q2, s, t, u, v, rfl, hp, hs, ht, hu, hv, b1', b2', b3', b4', p0, q0, hz⟩ := hrel
        have HD1 : Hid (∀ W, LawW W → Calls Tryz.prog 57 #[.string s, .string t] W fun e w' => e = .returned (.tuple #[.string (natS (p1 / p2)), .string (natS (p1 % p2)), .int .i64 0]) ∧ Below W.heap.size W w') := fun W hW => by
          rw [← hs, ← ht]; exact nat_div p1 p2 W b1' b2' p0 hW
        have HD2 : Hid (∀ W, LawW W → Calls Tryz.prog 57 #[.string u, .string v] W fun e w' => e = .returned (.tuple #[.string (natS (q1 / q2)), .string (natS (q1 % q2)), .int .i64 0]) ∧ Below W.heap.size W w') := fun W hW => by
          rw [← hu, ← hv]; exact nat_div q1 q2 W b3' b4' q0 hW
        have HCM : Hid (∀ W, Calls Tryz.prog 58 #[.string (natS (p1 / p2)), .string (natS (q1 / q2))] W fun e w' => e = .returned (.int .i64 (cmpN (p1 / p2) (q1 / q2))) ∧ Below W.heap.size W w') := fun W =>
          nat_compare _ _ W (Nat.lt_of_le_of_lt (Nat.div_le_self _ _) b1') (Nat.lt_of_le_of_lt (Nat.div_le_self _ _) b3')
        have hr1 := Nat.mod_lt p1 p0
        have hr2 := Nat.mod_lt q1 q0
        have zr1 : p1 % p2 = 0 → ((natS (p1 % p2)).toList == [48]) = true := fun h => str_eq (by rw [h, natS_zero])
        have nr1 : 0 < p1 % p2 → ((natS (p1 % p2)).toList == [48]) = false := fun h => str_ne (natS_ne_zero h) (by rfl)
        have zr2 : q1 % q2 = 0 → ((natS (q1 % q2)).toList == [48]) = true := fun h => str_eq (by rw [h, natS_zero])
        have nr2 : 0 < q1 % q2 → ((natS (q1 % q2)).toList == [48]) = false := fun h => str_ne (natS_ne_zero h) (by rfl)
        have HHS := hide hs
        have HHT := hide ht
        have HHU := hide hu
        have HHV := hide hv
        obtain ⟨d1, hd1⟩ : ∃ x, natS (p1 / p2) = x := ⟨_, rfl⟩
        obtain ⟨r1, hrr1⟩ : ∃ x, natS (p1 % p2) = x := ⟨_, rfl⟩
        obtain ⟨d2, hd2⟩ : ∃ x, natS (q1 / q2) = x := ⟨_, rfl⟩
        obtain ⟨r2, hrr2⟩ : ∃ x, natS (q1 % q2) = x := ⟨_, rfl⟩
        rw [hd1, hrr1] at HD1
        rw [hd2, hrr2] at HD2
        rw [hd1, hd2] at HCM
        rw [hrr1] at zr1 nr1
        rw [hrr2] at zr2 nr2
        have HR1 := hide hrr1
        have HR2 := hide hrr2
        have HQ1 := hide (Nat.lt_trans hr1 b2')
        have HQ2 := hide (Nat.lt_trans hr2 b4')
        have HP := hide hp
        have HBT := hide b2'
        have HBV := hide b4'
        clear hs ht hu hv hd1 hd2 hrr1 hrr2 b1' b2' b3' b4' hp
        obtain ⟨k0, k1, _, _⟩ := HP.out.p
        obtain ⟨l0, l1, _, _⟩ := HP.out.q
        rcases Nat.lt_trichotomy (p1 / p2) (q1 / q2) with hq | hq | hq
        · have HRES := hide ((cmpX_div_lt p0 q0 hq).symm.trans hz)
          rw [cmpN_lt hq] at HCM
          clear hq hz zr1 nr1 zr2 nr2 hr1 hr2
          go_wp2_with fail
          refine (HD1.out _ (HW.out.below HP.out.bel)).mono ?_
          rintro e w5 ⟨rfl, hb⟩
          have HP5 := hide (HP.out.below hb)
          obtain ⟨k0, k1, fk0, fk1⟩ := HP5.out.p
          obtain ⟨l0, l1, fl0, fl1⟩ := HP5.out.q
          clear hb
          go_wp2_with fail
          refine (HD2.out _ (HW.out.below HP5.out.bel)).mono ?_
          rintro e w6 ⟨rfl, hb⟩
          have HP6 := hide (HP5.out.below hb)
          clear hb k0 k1 fk0 fk1 l0 l1 fl0 fl1
          go_wp2_with fail
          refine (HCM.out _).mono ?_
          rintro e w7 ⟨rfl, hb⟩
          have HP7 := hide (HP6.out.below hb)
          obtain ⟨k0, k1, fk0, fk1⟩ := HP7.out.p
          obtain ⟨l0, l1, fl0, fl1⟩ := HP7.out.q
          have hBC := HP7.out.ne
          have HB7 := hide HP7.out.bel
          clear hb
          go_wp2_with fail
          go_ret
          exact ⟨by rw [← HRES.out]; rfl, HB7.out⟩
        · have HEQ := hide hq
          rw [hq, cmpN_eq] at HCM
          by_cases h1 : p1 % p2 = 0
          · have HRES : Hid (Z = -1) := by
              show _ = _
              rw [← hz]; exact cmpX_zero_left hq p0 h1 (by rw [hz]; exact HNZ.out)
            have e1 := zr1 h1
            clear hq hz zr1 nr1 zr2 nr2 hr1 hr2 h1
            go_wp2_with fail
            refine (HD1.out _ (HW.out.below HP.out.bel)).mono ?_
            rintro e w5 ⟨rfl, hb⟩
            have HP5 := hide (HP.out.below hb)
            obtain ⟨k0, k1, fk0, fk1⟩ := HP5.out.p
            obtain ⟨l0, l1, fl0, fl1⟩ := HP5.out.q
            clear hb
            go_wp2_with fail
            refine (HD2.out _ (HW.out.below HP5.out.bel)).mono ?_
            rintro e w6 ⟨rfl, hb⟩
            have HP6 := hide (HP5.out.below hb)
            clear hb k0 k1 fk0 fk1 l0 l1 fl0 fl1
            go_wp2_with fail
            refine (HCM.out _).mono ?_
            rintro e w7 ⟨rfl, hb⟩
            have HP7 := hide (HP6.out.below hb)
            obtain ⟨k0, k1, fk0, fk1⟩ := HP7.out.p
            obtain ⟨l0, l1, fl0, fl1⟩ := HP7.out.q
            have hBC := HP7.out.ne
            have HB7 := hide HP7.out.bel
            clear hb
            go_wp2_with fail
            go_ret
            exact ⟨by rw [HRES.out]; rfl, HB7.out⟩
          · have e1 := nr1 (by omega)
            by_cases h2 : q1 % q2 = 0
            · have HRES : Hid (Z = 1) := by
                show _ = _
                rw [← hz]; exact cmpX_zero_right hq q0 (by omega) h2
              have e2 := zr2 h2
              clear hq hz zr1 nr1 zr2 nr2 hr1 hr2 h1 h2
              go_wp2_with fail
              refine (HD1.out _ (HW.out.below HP.out.bel)).mono ?_
              rintro e w5 ⟨rfl, hb⟩
              have HP5 := hide (HP.out.below hb)
              obtain ⟨k0, k1, fk0, fk1⟩ := HP5.out.p
              obtain ⟨l0, l1, fl0, fl1⟩ := HP5.out.q
              clear hb
              go_wp2_with fail
              refine (HD2.out _ (HW.out.below HP5.out.bel)).mono ?_
              rintro e w6 ⟨rfl, hb⟩
              have HP6 := hide (HP5.out.below hb)
              clear hb k0 k1 fk0 fk1 l0 l1 fl0 fl1
              go_wp2_with fail
              refine (HCM.out _).mono ?_
              rintro e w7 ⟨rfl, hb⟩
              have HP7 := hide (HP6.out.below hb)
              obtain ⟨k0, k1, fk0, fk1⟩ := HP7.out.p
              obtain ⟨l0, l1, fl0, fl1⟩ := HP7.out.q
              have hBC := HP7.out.ne
              have HB7 := hide HP7.out.bel
              clear hb
              go_wp2_with fail
              go_ret
              exact ⟨by rw [HRES.out]; rfl, HB7.out⟩
            · have e2 := nr2 (by omega)
              have HZ2 : Hid (cmpX q2 (q1 % q2) p2 (p1 % p2) = Z) := by
                show _ = _
                rw [← cmpX_rest hq]; exact hz
              have HM1 : Hid (q1 % q2 + p1 % p2 < p2 + q2) := by show _ < _; omega
              have hp0 : 0 < p1 % p2 := by omega
              have hq0 : 0 < q1 % q2 := by omega
              have HP0 := hide hp0
              have HQ0 := hide hq0
              clear hq hz zr1 nr1 zr2 nr2 hr1 hr2 h1 h2 hp0 hq0
              go_wp2_with fail
              refine (HD1.out _ (HW.out.below HP.out.bel)).mono ?_
              rintro e w5 ⟨rfl, hb⟩
              have HP5 := hide (HP.out.below hb)
              obtain ⟨k0, k1, fk0, fk1⟩ := HP5.out.p
              obtain ⟨l0, l1, fl0, fl1⟩ := HP5.out.q
              clear hb
              go_wp2_with fail
              refine (HD2.out _ (HW.out.below HP5.out.bel)).mono ?_
              rintro e w6 ⟨rfl, hb⟩
              have HP6 := hide (HP5.out.below hb)
              clear hb k0 k1 fk0 fk1 l0 l1 fl0 fl1
              go_wp2_with fail
              refine (HCM.out _).mono ?_
              rintro e w7 ⟨rfl, hb⟩
              have HP7 := hide (HP6.out.below hb)
              obtain ⟨k0, k1, fk0, fk1⟩ := HP7.out.p
              obtain ⟨l0, l1, fl0, fl1⟩ := HP7.out.q
              have hBC := HP7.out.ne
              have HB7 := hide HP7.out.bel
              clear hb
              go_wp2_with fail
              go_roundg (q1 % q2 + p1 % p2)
              case measure => exact HM1.out
              case rel => exact ⟨q2, q1 % q2, p2, p1 % p2, _, _, _, _, rfl, HP7.out.set _ _ _ _, HHV.out, HR2.out, HHT.out, HR1.out, HBV.out, HQ2.out, HBT.out, HQ1.out, HQ0.out, HP0.out, HZ2.out⟩
        · have HRES := hide ((cmpX_div_gt p0 q0 hq).symm.trans hz)
          rw [cmpN_gt hq] at HCM
          clear hq hz zr1 nr1 zr2 nr2 hr1 hr2
          go_wp2_with fail
          refine (HD1.out _ (HW.out.below HP.out.bel)).mono ?_
          rintro e w5 ⟨rfl, hb⟩
          have HP5 := hide (HP.out.below hb)
          obtain ⟨k0, k1, fk0, fk1⟩ := HP5.out.p
          obtain ⟨l0, l1, fl0, fl1⟩ := HP5.out.q
          clear hb
          go_wp2_with fail
          refine (HD2.out _ (HW.out.below HP5.out.bel)).mono ?_
          rintro e w6 ⟨rfl, hb⟩
          have HP6 := hide (HP5.out.below hb)
          clear hb k0 k1 fk0 fk1 l0 l1 fl0 fl1
          go_wp2_with fail
          refine (HCM.out _).mono ?_
          rintro e w7 ⟨rfl, hb⟩
          have HP7 := hide (HP6.out.below hb)
          obtain ⟨k0, k1, fk0, fk1⟩ := HP7.out.p
          obtain ⟨l0, l1, fl0, fl1⟩ := HP7.out.q
          have hBC := HP7.out.ne
          have HB7 := hide HP7.out.bel
          clear hb
          go_wp2_with fail
          go_ret
          exact ⟨by rw [← HRES.out]; rfl, HB7.out⟩
set_option maxHeartbeats 4000000 in
set_option maxRecDepth 100000 in
theorem rat_Compare_nn (x1 x2 y1 y2 : Nat) (s1 s2 t1 t2 : ByteArray) (w : World) (hw : LawW w)
    (HVA : Hid (∀ W, LawW W → Calls Tryz.prog 47 #[.agg #[.bool true, .string s1, .string s2]] W fun e w' => e = .returned (.bool true) ∧ Below W.heap.size W w'))
    (HVB : Hid (∀ W, LawW W → Calls Tryz.prog 47 #[.agg #[.bool true, .string t1, .string t2]] W fun e w' => e = .returned (.bool true) ∧ Below W.heap.size W w'))
    (HMA : Hid (∀ W, Calls Tryz.prog 56 #[.agg #[.bool true, .string s1, .string s2]] W fun e w' => e = .returned (.agg #[.bool false, .string s1, .string s2]) ∧ Below W.heap.size W w'))
    (HMB : Hid (∀ W, Calls Tryz.prog 56 #[.agg #[.bool true, .string t1, .string t2]] W fun e w' => e = .returned (.agg #[.bool false, .string t1, .string t2]) ∧ Below W.heap.size W w'))
    (ha1 : x1 < capN) (ha2 : x2 < capN) (hb1 : y1 < capN) (hb2 : y2 < capN) (ha0 : 0 < x2) (hb0 : 0 < y2) (hs1 : natS x1 = s1) (hs2 : natS x2 = s2) (ht1 : natS y1 = t1) (ht2 : natS y2 = t2)
    (hne : (s1.toList == t1.toList) = false ∨ ((s1.toList == t1.toList) = true ∧ (s2.toList == t2.toList) = false)) (hC : cmpX y1 y2 x1 x2 ≠ 0) :
    Calls Tryz.prog 28 #[.agg #[.bool true, .string s1, .string s2], .agg #[.bool true, .string t1, .string t2]] w (CqPost w (cmpX y1 y2 x1 x2)) := by
  have HW := hide hw
  clear hw
  have HS1 := hide hs1
  have HS2 := hide hs2
  have HT1 := hide ht1
  have HT2 := hide ht2
  clear hs1 hs2 ht1 ht2
  have HXB1 := hide ha1
  have HXB2 := hide ha2
  have HYB1 := hide hb1
  have HYB2 := hide hb2
  have HX0 := hide ha0
  have HY0 := hide hb0
  have HNZ := hide hC
  obtain ⟨Z, hZ⟩ : ∃ z, cmpX y1 y2 x1 x2 = z := ⟨_, rfl⟩
  rw [hZ] at HNZ ⊢
  have HZ := hide hZ
  clear ha1 ha2 hb1 hb2 ha0 hb0 hC hZ
  have HB0 := hide (bAlloc (bAlloc (Below.refl w.heap.size w) (.cells #[.bool true, .string s1, .string s2] 29)) (.cells #[.bool true, .string t1, .string t2] 29))
  have ra := hide ((RC.new w true s1 s2 29).below (bAlloc (Below.refl _ _) (.cells #[.bool true, .string t1, .string t2] 29)))
  have rb := hide (RC.new_at (w.alloc (.cells #[.bool true, .string s1, .string s2] 29)) true t1 t2 29 (b := w.heap.size + 1) (by simp))
  go_enter Tryz.func28, Tryz.ntmps28
  go_upto_block 0 with fail
  go_cut [] (fun wx => ∃ g1 g2 : Bool, RC wx w.heap.size g1 t1 t2 ∧ RC wx (w.heap.size + 1) g2 s1 s2 ∧ Below w.heap.size w wx)
  case first =>
    rcases hne with hn | ⟨hn, hn'⟩
    all_goals
      go_wp2_with fail
      refine (HVA.out _ (HW.out.below HB0.out)).mono ?_
      rintro e w1 ⟨rfl, hb⟩
      have HB1 := hide (bStep HB0.out hb)
      have RA1 := hide (ra.out.below hb)
      have RB1 := hide (rb.out.below hb)
      obtain ⟨a0, a1, a2, fa0, fa1, fa2⟩ := RA1.out
      obtain ⟨b0, b1, b2, fb0, fb1, fb2⟩ := RB1.out
      clear hb
      go_wp2_with fail
      refine (HVB.out _ (HW.out.below HB1.out)).mono ?_
      rintro e w2 ⟨rfl, hb⟩
      have HB2 := hide (bStep HB1.out hb)
      have RA2 := hide (RA1.out.below hb)
      have RB2 := hide (RB1.out.below hb)
      obtain ⟨a0, a1, a2, fa0, fa1, fa2⟩ := RA2.out
      obtain ⟨b0, b1, b2, fb0, fb1, fb2⟩ := RB2.out
      clear hb
      go_wp2_with fail
      have hp3 : P3 w w2 true true s1 s2 t1 t2 := ⟨HB2.out, RA2.out, RB2.out⟩
      clear a0 a1 a2 fa0 fa1 fa2 b0 b1 b2 fb0 fb1 fb2
      obtain ⟨a0, a1, a2, fa0, fa1, fa2⟩ := hp3.a
      obtain ⟨b0, b1, b2, fb0, fb1, fb2⟩ := hp3.b
      go_region_with ((first
        | (go_at_call 56; (with_reducible refine (HMA.out _).mono ?_); rintro e w3 ⟨rfl, hb3⟩; (first | have hp4 := P3.below hp3.drew hb3 | have hp4 := P3.below (by assumption) hb3); obtain ⟨a0, a1, a2, fa0, fa1, fa2⟩ := hp4.a; obtain ⟨b0, b1, b2, fb0, fb1, fb2⟩ := hp4.b; clear hb3)
        | (go_at_call 56; (with_reducible refine (HMB.out _).mono ?_); rintro e w3 ⟨rfl, hb3⟩; (first | have hp4 := P3.below hp3.drew hb3 | have hp4 := P3.below (by assumption) hb3); obtain ⟨a0, a1, a2, fa0, fa1, fa2⟩ := hp4.a; obtain ⟨b0, b1, b2, fb0, fb1, fb2⟩ := hp4.b; clear hb3)))
      all_goals
        go_wp2_with fail
        go_meet
        have hf := P3.setB (P3.setA hp4 false t1 t2) false s1 s2
        exact ⟨_, _, hf.a, hf.b, hf.bel⟩
  case rest =>
    obtain ⟨g1, g2, hra, hrb, hbel⟩ := hcut
    obtain ⟨ca0, ca1, ca2, _, _, _⟩ := hra
    obtain ⟨cb0, cb1, cb2, _, _, _⟩ := hrb
    have HBC := hide hbel
    clear hbel
    go_upto_region 9 with fail
    go_cut [5, 6] (fun z5 z6 wx => ∃ B C : Nat, z5 = .pointer (some ⟨B, 0, none⟩) ∧ z6 = .pointer (some ⟨C, 0, none⟩) ∧ P2 w wx B C t1 t2 s1 s2)
    case first =>
      go_region_held3 (fun w' => w'.cell? ⟨w.heap.size, 1, none⟩ = some (.string t1) ∧ w'.cell? ⟨w.heap.size, 2, none⟩ = some (.string t2) ∧ w'.cell? ⟨w.heap.size + 1, 1, none⟩ = some (.string s1) ∧ w'.cell? ⟨w.heap.size + 1, 2, none⟩ = some (.string s2))
        (go_keep) (fail)
      all_goals
        go_wp2_with fail
        go_meet
        first
        | exact ⟨_, _, rfl, rfl, P2.new HBC.out _ _ _ _ _ _⟩
        | exact ⟨_, _, rfl, rfl, P2.new2 HBC.out _ _ _ _ _ _⟩
    case rest =>
      obtain ⟨B, C, rfl, rfl, hp2⟩ := hcut
      have HP2 := hide hp2
      clear hp2
      go_wp2_with fail
      go_loopg [] (y2 + x2) (fun g wx => ∃ (p1 p2 q1 q2 : Nat) (s t u v : ByteArray), g = p2 + q2 ∧ P2 w wx B C s t u v ∧ natS p1 = s ∧ natS p2 = t ∧ natS q1 = u ∧ natS q2 = v ∧ p1 < capN ∧ p2 < capN ∧ q1 < capN ∧ q2 < capN ∧ 0 < p2 ∧ 0 < q2 ∧ cmpX p1 p2 q1 q2 = Z)
      case atStart => exact ⟨y1, y2, x1, x2, _, _, _, _, rfl, HP2.out, HT1.out, HT2.out, HS1.out, HS2.out, HYB1.out, HYB2.out, HXB1.out, HXB2.out, HY0.out, HX0.out, HZ.out⟩
      case round =>
        obtain ⟨p1, p2, q1, q2, s, t, u, v, rfl, hp, hs, ht, hu, hv, b1', b2', b3', b4', p0, q0, hz⟩ := hrel
        have HD1 : Hid (∀ W, LawW W → Calls Tryz.prog 57 #[.string s, .string t] W fun e w' => e = .returned (.tuple #[.string (natS (p1 / p2)), .string (natS (p1 % p2)), .int .i64 0]) ∧ Below W.heap.size W w') := fun W hW => by
          rw [← hs, ← ht]; exact nat_div p1 p2 W b1' b2' p0 hW
        have HD2 : Hid (∀ W, LawW W → Calls Tryz.prog 57 #[.string u, .string v] W fun e w' => e = .returned (.tuple #[.string (natS (q1 / q2)), .string (natS (q1 % q2)), .int .i64 0]) ∧ Below W.heap.size W w') := fun W hW => by
          rw [← hu, ← hv]; exact nat_div q1 q2 W b3' b4' q0 hW
        have HCM : Hid (∀ W, Calls Tryz.prog 58 #[.string (natS (p1 / p2)), .string (natS (q1 / q2))] W fun e w' => e = .returned (.int .i64 (cmpN (p1 / p2) (q1 / q2))) ∧ Below W.heap.size W w') := fun W =>
          nat_compare _ _ W (Nat.lt_of_le_of_lt (Nat.div_le_self _ _) b1') (Nat.lt_of_le_of_lt (Nat.div_le_self _ _) b3')
        have hr1 := Nat.mod_lt p1 p0
        have hr2 := Nat.mod_lt q1 q0
        have zr1 : p1 % p2 = 0 → ((natS (p1 % p2)).toList == [48]) = true := fun h => str_eq (by rw [h, natS_zero])
        have nr1 : 0 < p1 % p2 → ((natS (p1 % p2)).toList == [48]) = false := fun h => str_ne (natS_ne_zero h) (by rfl)
        have zr2 : q1 % q2 = 0 → ((natS (q1 % q2)).toList == [48]) = true := fun h => str_eq (by rw [h, natS_zero])
        have nr2 : 0 < q1 % q2 → ((natS (q1 % q2)).toList == [48]) = false := fun h => str_ne (natS_ne_zero h) (by rfl)
        have HHS := hide hs
        have HHT := hide ht
        have HHU := hide hu
        have HHV := hide hv
        obtain ⟨d1, hd1⟩ : ∃ x, natS (p1 / p2) = x := ⟨_, rfl⟩
        obtain ⟨r1, hrr1⟩ : ∃ x, natS (p1 % p2) = x := ⟨_, rfl⟩
        obtain ⟨d2, hd2⟩ : ∃ x, natS (q1 / q2) = x := ⟨_, rfl⟩
        obtain ⟨r2, hrr2⟩ : ∃ x, natS (q1 % q2) = x := ⟨_, rfl⟩
        rw [hd1, hrr1] at HD1
        rw [hd2, hrr2] at HD2
        rw [hd1, hd2] at HCM
        rw [hrr1] at zr1 nr1
        rw [hrr2] at zr2 nr2
        have HR1 := hide hrr1
        have HR2 := hide hrr2
        have HQ1 := hide (Nat.lt_trans hr1 b2')
        have HQ2 := hide (Nat.lt_trans hr2 b4')
        have HP := hide hp
        have HBT := hide b2'
        have HBV := hide b4'
        clear hs ht hu hv hd1 hd2 hrr1 hrr2 b1' b2' b3' b4' hp
        obtain ⟨k0, k1, _, _⟩ := HP.out.p
        obtain ⟨l0, l1, _, _⟩ := HP.out.q
        rcases Nat.lt_trichotomy (p1 / p2) (q1 / q2) with hq | hq | hq
        · have HRES := hide ((cmpX_div_lt p0 q0 hq).symm.trans hz)
          rw [cmpN_lt hq] at HCM
          clear hq hz zr1 nr1 zr2 nr2 hr1 hr2
          go_wp2_with fail
          refine (HD1.out _ (HW.out.below HP.out.bel)).mono ?_
          rintro e w5 ⟨rfl, hb⟩
          have HP5 := hide (HP.out.below hb)
          obtain ⟨k0, k1, fk0, fk1⟩ := HP5.out.p
          obtain ⟨l0, l1, fl0, fl1⟩ := HP5.out.q
          clear hb
          go_wp2_with fail
          refine (HD2.out _ (HW.out.below HP5.out.bel)).mono ?_
          rintro e w6 ⟨rfl, hb⟩
          have HP6 := hide (HP5.out.below hb)
          clear hb k0 k1 fk0 fk1 l0 l1 fl0 fl1
          go_wp2_with fail
          refine (HCM.out _).mono ?_
          rintro e w7 ⟨rfl, hb⟩
          have HP7 := hide (HP6.out.below hb)
          obtain ⟨k0, k1, fk0, fk1⟩ := HP7.out.p
          obtain ⟨l0, l1, fl0, fl1⟩ := HP7.out.q
          have hBC := HP7.out.ne
          have HB7 := hide HP7.out.bel
          clear hb
          go_wp2_with fail
          go_ret
          exact ⟨by rw [← HRES.out]; rfl, HB7.out⟩
        · have HEQ := hide hq
          rw [hq, cmpN_eq] at HCM
          by_cases h1 : p1 % p2 = 0
          · have HRES : Hid (Z = -1) := by
              show _ = _
              rw [← hz]; exact cmpX_zero_left hq p0 h1 (by rw [hz]; exact HNZ.out)
            have e1 := zr1 h1
            clear hq hz zr1 nr1 zr2 nr2 hr1 hr2 h1
            go_wp2_with fail
            refine (HD1.out _ (HW.out.below HP.out.bel)).mono ?_
            rintro e w5 ⟨rfl, hb⟩
            have HP5 := hide (HP.out.below hb)
            obtain ⟨k0, k1, fk0, fk1⟩ := HP5.out.p
            obtain ⟨l0, l1, fl0, fl1⟩ := HP5.out.q
            clear hb
            go_wp2_with fail
            refine (HD2.out _ (HW.out.below HP5.out.bel)).mono ?_
            rintro e w6 ⟨rfl, hb⟩
            have HP6 := hide (HP5.out.below hb)
            clear hb k0 k1 fk0 fk1 l0 l1 fl0 fl1
            go_wp2_with fail
            refine (HCM.out _).mono ?_
            rintro e w7 ⟨rfl, hb⟩
            have HP7 := hide (HP6.out.below hb)
            obtain ⟨k0, k1, fk0, fk1⟩ := HP7.out.p
            obtain ⟨l0, l1, fl0, fl1⟩ := HP7.out.q
            have hBC := HP7.out.ne
            have HB7 := hide HP7.out.bel
            clear hb
            go_wp2_with fail
            go_ret
            exact ⟨by rw [HRES.out]; rfl, HB7.out⟩
          · have e1 := nr1 (by omega)
            by_cases h2 : q1 % q2 = 0
            · have HRES : Hid (Z = 1) := by
                show _ = _
                rw [← hz]; exact cmpX_zero_right hq q0 (by omega) h2
              have e2 := zr2 h2
              clear hq hz zr1 nr1 zr2 nr2 hr1 hr2 h1 h2
              go_wp2_with fail
              refine (HD1.out _ (HW.out.below HP.out.bel)).mono ?_
              rintro e w5 ⟨rfl, hb⟩
              have HP5 := hide (HP.out.below hb)
              obtain ⟨k0, k1, fk0, fk1⟩ := HP5.out.p
              obtain ⟨l0, l1, fl0, fl1⟩ := HP5.out.q
              clear hb
              go_wp2_with fail
              refine (HD2.out _ (HW.out.below HP5.out.bel)).mono ?_
              rintro e w6 ⟨rfl, hb⟩
              have HP6 := hide (HP5.out.below hb)
              clear hb k0 k1 fk0 fk1 l0 l1 fl0 fl1
              go_wp2_with fail
              refine (HCM.out _).mono ?_
              rintro e w7 ⟨rfl, hb⟩
              have HP7 := hide (HP6.out.below hb)
              obtain ⟨k0, k1, fk0, fk1⟩ := HP7.out.p
              obtain ⟨l0, l1, fl0, fl1⟩ := HP7.out.q
              have hBC := HP7.out.ne
              have HB7 := hide HP7.out.bel
              clear hb
              go_wp2_with fail
              go_ret
              exact ⟨by rw [HRES.out]; rfl, HB7.out⟩
            · have e2 := nr2 (by omega)
              have HZ2 : Hid (cmpX q2 (q1 % q2) p2 (p1 % p2) = Z) := by
                show _ = _
                rw [← cmpX_rest hq]; exact hz
              have HM1 : Hid (q1 % q2 + p1 % p2 < p2 + q2) := by show _ < _; omega
              have hp0 : 0 < p1 % p2 := by omega
              have hq0 : 0 < q1 % q2 := by omega
              have HP0 := hide hp0
              have HQ0 := hide hq0
              clear hq hz zr1 nr1 zr2 nr2 hr1 hr2 h1 h2 hp0 hq0
              go_wp2_with fail
              refine (HD1.out _ (HW.out.below HP.out.bel)).mono ?_
              rintro e w5 ⟨rfl, hb⟩
              have HP5 := hide (HP.out.below hb)
              obtain ⟨k0, k1, fk0, fk1⟩ := HP5.out.p
              obtain ⟨l0, l1, fl0, fl1⟩ := HP5.out.q
              clear hb
              go_wp2_with fail
              refine (HD2.out _ (HW.out.below HP5.out.bel)).mono ?_
              rintro e w6 ⟨rfl, hb⟩
              have HP6 := hide (HP5.out.below hb)
              clear hb k0 k1 fk0 fk1 l0 l1 fl0 fl1
              go_wp2_with fail
              refine (HCM.out _).mono ?_
              rintro e w7 ⟨rfl, hb⟩
              have HP7 := hide (HP6.out.below hb)
              obtain ⟨k0, k1, fk0, fk1⟩ := HP7.out.p
              obtain ⟨l0, l1, fl0, fl1⟩ := HP7.out.q
              have hBC := HP7.out.ne
              have HB7 := hide HP7.out.bel
              clear hb
              go_wp2_with fail
              go_roundg (q1 % q2 + p1 % p2)
              case measure => exact HM1.out
              case rel => exact ⟨q2, q1 % q2, p2, p1 % p2, _, _, _, _, rfl, HP7.out.set _ _ _ _, HHV.out, HR2.out, HHT.out, HR1.out, HBV.out, HQ2.out, HBT.out, HQ1.out, HQ0.out, HP0.out, HZ2.out⟩
        · have HRES := hide ((cmpX_div_gt p0 q0 hq).symm.trans hz)
          rw [cmpN_gt hq] at HCM
          clear hq hz zr1 nr1 zr2 nr2 hr1 hr2
          go_wp2_with fail
          refine (HD1.out _ (HW.out.below HP.out.bel)).mono ?_
          rintro e w5 ⟨rfl, hb⟩
          have HP5 := hide (HP.out.below hb)
          obtain ⟨k0, k1, fk0, fk1⟩ := HP5.out.p
          obtain ⟨l0, l1, fl0, fl1⟩ := HP5.out.q
          clear hb
          go_wp2_with fail
          refine (HD2.out _ (HW.out.below HP5.out.bel)).mono ?_
          rintro e w6 ⟨rfl, hb⟩
          have HP6 := hide (HP5.out.below hb)
          clear hb k0 k1 fk0 fk1 l0 l1 fl0 fl1
          go_wp2_with fail
          refine (HCM.out _).mono ?_
          rintro e w7 ⟨rfl, hb⟩
          have HP7 := hide (HP6.out.below hb)
          obtain ⟨k0, k1, fk0, fk1⟩ := HP7.out.p
          obtain ⟨l0, l1, fl0, fl1⟩ := HP7.out.q
          have hBC := HP7.out.ne
          have HB7 := hide HP7.out.bel
          clear hb
          go_wp2_with fail
          go_ret
          exact ⟨by rw [← HRES.out]; rfl, HB7.out⟩
theorem num_neg_of {p : Rat} (h : ngQ p = true) : p.num < 0 := by unfold ngQ at h; exact of_decide_eq_true h
theorem num_pos_of {p : Rat} (h : ngQ p = false) : 0 ≤ p.num := by unfold ngQ at h; have := of_decide_eq_false h; omega
theorem cmpQ_np {p q : Rat} (hp : ngQ p = true) (hq : ngQ q = false) : p < q := by
  rw [Rat.lt_iff]
  have h1 := num_neg_of hp
  have h2 := num_pos_of hq
  have h3 : p.num * (q.den : Int) < 0 := Int.mul_neg_of_neg_of_pos h1 (by have := den_pos q; omega)
  have h4 : 0 ≤ q.num * (p.den : Int) := Int.mul_nonneg h2 (by omega)
  omega
theorem valid_hyp {g : Bool} {s t : ByteArray} (hs : s.size ≤ maxLen) (ht : t.size ≤ maxLen) {b : Bool} (h : vldR g s t = b) : Hid (∀ W, LawW W → Calls Tryz.prog 47 #[.agg #[.bool g, .string s, .string t]] W fun e w' => e = .returned (.bool b) ∧ Below W.heap.size W w') := fun W hW => by
  have := rat_valid g s t W hs ht hW
  rw [h] at this; exact this
theorem parts_ne {p q : Rat} (h : p ≠ q) (hg : ngQ p = ngQ q) : ((natS (nmQ p)).toList == (natS (nmQ q)).toList) = false ∨ (((natS (nmQ p)).toList == (natS (nmQ q)).toList) = true ∧ ((natS p.den).toList == (natS q.den).toList) = false) := by
  by_cases h1 : nmQ p = nmQ q
  · refine .inr ⟨by rw [h1]; simp, ?_⟩
    refine beq_eq_false_iff_ne.2 fun e => h (q_ext hg h1 (natS_inj (ba_eq ?_)))
    rwa [ByteArray.toList_eq, ByteArray.toList_eq] at e
  · refine .inl (beq_eq_false_iff_ne.2 fun e => h1 (natS_inj (ba_eq ?_)))
    rwa [ByteArray.toList_eq, ByteArray.toList_eq] at e
theorem minus_hyp {p : Rat} (h : ngQ p = true) : Hid (∀ W, Calls Tryz.prog 56 #[.agg #[.bool true, .string (natS (nmQ p)), .string (natS p.den)]] W fun e w' => e = .returned (.agg #[.bool false, .string (natS (nmQ p)), .string (natS p.den)]) ∧ Below W.heap.size W w') := fun W => by
  have := rat_minus p W
  obtain ⟨e1, e2, e3⟩ := neg_parts p
  unfold rqV at this
  rw [e1, e2, e3, h] at this
  exact this
theorem rat_Compare (p q : Rat) (w : World) (hp : FitQ p) (hq : FitQ q) (hw : LawW w) : Calls Tryz.prog 28 #[rqV p, rqV q] w (CqPost w (cmpQ p q)) := by
  have va := valid_hyp (natS_max hp.1) (natS_max hp.2) (vldR_q hp)
  have vb := valid_hyp (natS_max hq.1) (natS_max hq.2) (vldR_q hq)
  by_cases he : p = q
  · subst he
    rw [cmpQ_eq]
    exact rat_Compare_eq _ _ _ w hw va
  · have hc : cmpQ p q ≠ 0 := fun h => he (cmpQ_zero.1 h)
    unfold rqV
    cases hgp : ngQ p <;> cases hgq : ngQ q
    · rw [hgp] at va
      rw [hgq] at vb
      rw [← cmpX_q hgp hgq] at hc ⊢
      exact rat_Compare_pp (nmQ p) p.den (nmQ q) q.den _ _ _ _ w hw va vb hp.1 hp.2 hq.1 hq.2 (den_pos p) (den_pos q) rfl rfl rfl rfl (parts_ne he (hgp.trans hgq.symm)) hc
    · rw [hgp] at va
      rw [hgq] at vb
      rw [cmpQ_gt (cmpQ_np hgq hgp)]
      exact rat_Compare_pn _ _ _ _ w hw va vb
    · rw [hgp] at va
      rw [hgq] at vb
      rw [cmpQ_lt (cmpQ_np hgp hgq)]
      exact rat_Compare_np _ _ _ _ w hw va vb
    · rw [hgp] at va
      rw [hgq] at vb
      have e : cmpX (nmQ q) q.den (nmQ p) p.den = cmpQ p q := by
        rw [← cmpQ_neg_neg p q]
        obtain ⟨a1, a2, a3⟩ := neg_parts p
        obtain ⟨b1, b2, b3⟩ := neg_parts q
        have h := cmpX_q (p := -q) (q := -p) (by rw [b1, hgq]; rfl) (by rw [a1, hgp]; rfl)
        rw [a2, a3, b2, b3] at h
        exact h
      rw [← e] at hc ⊢
      exact rat_Compare_nn (nmQ p) p.den (nmQ q) q.den _ _ _ _ w hw va vb (minus_hyp hgp) (minus_hyp hgq) hp.1 hp.2 hq.1 hq.2 (den_pos p) (den_pos q) rfl rfl rfl rfl (parts_ne he (hgp.trans hgq.symm)) hc
end Go.Proofs.YtblpnekjnaaeoaaGreatDoor
