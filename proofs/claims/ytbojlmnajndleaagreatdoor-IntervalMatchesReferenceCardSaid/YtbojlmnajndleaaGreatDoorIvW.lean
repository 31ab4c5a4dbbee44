/- IvA, IvB, IvC, IvD, IvE, IvF in one text. -/
import Derived.Test.YtbojlmnajndleaaGreatDoorPkJ
import Derived.BigGuard
import Derived.Test.YtbojlmnajndleaaGreatDoorPkA
import Derived.RangeFuncBox
import Derived.RangeFuncLeaves
import Derived.Shelf.Abstract
import Derived.WalkKit
import Derived.OwnWalkIn
import Derived.TacticsInMore
import Derived.LoopNIn
import Derived.LoopIn
import Derived.Maps.AppendAt
import Derived.RangeFuncNested
import Derived.RangeFuncBound
import Derived.RangeFuncCalls
import Derived.Shelf.RegionOpen
set_option linter.unusedVariables false
set_option linter.unusedSimpArgs false
/- interval: its functions by letters. -/
namespace Go.Proofs.YtbojlmnajndleaaGreatDoor
open Go.RowKit Go.Sort

/-- A variable in a block of its own. -/
def BV (W : World) (b : Nat) (vs : List Value) : Prop := ∀ i (h : i < vs.length), W.cell? ⟨b, i, none⟩ = some vs[i] ∧ W.frozen? ⟨b, i, none⟩ = false
/-- The world of a call: its variables, the newest first, each in a block of the call's own. -/
structure VB (w W : World) (L : List (Nat × List Value)) : Prop where
  bel : Below w.heap.size w W
  all : ∀ x ∈ L, BV W x.1 x.2
  lt : ∀ x ∈ L, x.1 < W.heap.size
  lo : ∀ x ∈ L, w.heap.size ≤ x.1
  ord : L.Pairwise fun x y => y.1 < x.1
section
variable {w W W' : World} {L : List (Nat × List Value)}
theorem VB.nil (w : World) : VB w w [] := ⟨Below.refl _ _, fun x hx => by simp at hx, fun x hx => by simp at hx, fun x hx => by simp at hx, List.Pairwise.nil⟩
theorem VB.below (h : VB w W L) (hb : Below W.heap.size W W') : VB w W' L :=
  ⟨bStep h.bel hb, fun x hx i hi => ⟨keep_cell hb (h.all x hx i hi).1, (hb.frozen (p := ⟨x.1, i, none⟩) (h.lt x hx)).trans (h.all x hx i hi).2⟩, fun x hx => Nat.lt_of_lt_of_le (h.lt x hx) hb.size, h.lo, h.ord⟩
theorem VB.anon (h : VB w W L) (o : Obj) : VB w (W.alloc o) L := h.below (bAlloc (Below.refl _ _) o)
theorem VB.drew (h : VB w W L) : VB w W.drew L := h.below (Below.refl _ _).drew
theorem VB.law (h : VB w W L) (hw : LawW w) : LawW W := hw.below h.bel
theorem VB.push (h : VB w W L) {b : Nat} (hb : W.heap.size = b) (vs : List Value) (T : TypeId) : VB w (W.alloc (.cells vs.toArray T)) ((b, vs) :: L) := by
  subst hb
  have h2 := h.anon (.cells vs.toArray T)
  refine ⟨h2.bel, fun x hx => ?_, fun x hx => ?_, fun x hx => ?_, List.Pairwise.cons h.lt h.ord⟩
  · rcases List.mem_cons.1 hx with rfl | hx
    · intro i hi
      refine ⟨?_, World.frozen?_alloc_new W _ T i⟩
      rw [World.cell?_alloc_new]
      simp [show i < vs.length from hi]
    · exact h2.all x hx
  · rcases List.mem_cons.1 hx with rfl | hx
    · simp
    · exact h2.lt x hx
  · rcases List.mem_cons.1 hx with rfl | hx
    · exact h.bel.size
    · exact h.lo x hx
theorem VB.at (h : VB w W L) {b : Nat} {vs : List Value} (hm : (b, vs) ∈ L) (i : Nat) (hi : i < vs.length) : W.cell? ⟨b, i, none⟩ = some vs[i] ∧ W.frozen? ⟨b, i, none⟩ = false := h.all _ hm i hi
theorem VB.set (h : VB w W L) (k : Nat) (hk : k < L.length) (i : Nat) (hi : i < L[k].2.length) (v : Value) : VB w (W.setCell ⟨L[k].1, i, none⟩ v) (L.set k (L[k].1, L[k].2.set i v)) := by
  have hne : ∀ j (hj : j < L.length), j ≠ k → L[j].1 ≠ L[k].1 := fun j hj e => by
    have hp := List.pairwise_iff_getElem.1 h.ord
    rcases Nat.lt_or_gt_of_ne e with hl | hl
    · have := hp j k hj hk hl; omega
    · have := hp k j hk hj hl; omega
  have hblk : ∀ x ∈ L.set k (L[k].1, L[k].2.set i v), ∃ y ∈ L, x.1 = y.1 := fun x hx => by
    obtain ⟨j, hj, rfl⟩ := List.getElem_of_mem hx
    rw [List.length_set] at hj
    refine ⟨L[j], List.getElem_mem hj, ?_⟩
    rw [List.getElem_set]
    split
    · rename_i e; subst e; rfl
    · rfl
  refine ⟨h.bel.setCell (p := ⟨L[k].1, i, none⟩) (h.lo _ (List.getElem_mem hk)) _, fun x hx => ?_, fun x hx => ?_, fun x hx => ?_, ?_⟩
  · obtain ⟨j, hj, rfl⟩ := List.getElem_of_mem hx
    rw [List.length_set] at hj
    rw [List.getElem_set]
    by_cases e : k = j
    · subst e
      rw [if_pos rfl]
      intro m hm
      simp only [List.length_set] at hm
      have h0 := h.all _ (List.getElem_mem hk) m hm
      rw [World.frozen?_setCell]
      refine ⟨?_, h0.2⟩
      show _ = some ((L[k].2.set i v)[m]'_)
      rw [List.getElem_set]
      by_cases e2 : i = m
      · subst e2
        rw [if_pos rfl]
        exact World.cell?_setCell_same _ _ _ h0.1
      · rw [if_neg e2]
        exact (World.cell?_setCell_other _ _ _ _ (fun e => e2 (by injection e))).trans h0.1
    · rw [if_neg e]
      intro m hm
      have h0 := h.all _ (List.getElem_mem hj) m hm
      rw [World.frozen?_setCell]
      refine ⟨(World.cell?_setCell_other _ _ _ _ (fun e' => hne j hj (fun e2 => e e2.symm) (by injection e' with e1; exact e1.symm))).trans h0.1, h0.2⟩
  · obtain ⟨y, hy, e⟩ := hblk x hx
    rw [e]; simpa using h.lt y hy
  · obtain ⟨y, hy, e⟩ := hblk x hx
    rw [e]; exact h.lo y hy
  · refine List.pairwise_iff_getElem.2 fun j m hj hm hjm => ?_
    rw [List.length_set] at hj hm
    have hp := List.pairwise_iff_getElem.1 h.ord j m hj hm hjm
    rw [List.getElem_set, List.getElem_set]
    by_cases e1 : k = m
    · subst e1
      rw [if_pos rfl, if_neg (by omega)]; exact hp
    · rw [if_neg e1]
      by_cases e2 : k = j
      · subst e2; rw [if_pos rfl]; exact hp
      · rw [if_neg e2]; exact hp
theorem VB.push3 (h : VB w W L) {b : Nat} (hb : W.heap.size = b) (x0 x1 x2 : Value) (T : TypeId) : VB w (W.alloc (.cells #[x0, x1, x2] T)) ((b, [x0, x1, x2]) :: L) := h.push hb [x0, x1, x2] T
theorem VB.push6 (h : VB w W L) {b : Nat} (hb : W.heap.size = b) (x0 x1 x2 x3 x4 x5 : Value) (T : TypeId) : VB w (W.alloc (.cells #[x0, x1, x2, x3, x4, x5] T)) ((b, [x0, x1, x2, x3, x4, x5]) :: L) := h.push hb [x0, x1, x2, x3, x4, x5] T
theorem VB.at3 (h : VB w W L) (k : Nat) {b : Nat} {x0 x1 x2 : Value} (hk : L[k]? = some (b, [x0, x1, x2])) : W.cell? ⟨b, 0, none⟩ = some x0 ∧ W.cell? ⟨b, 1, none⟩ = some x1 ∧ W.cell? ⟨b, 2, none⟩ = some x2 :=
  have hm := List.mem_of_getElem? hk
  ⟨(h.at hm 0 (by simp)).1, (h.at hm 1 (by simp)).1, (h.at hm 2 (by simp)).1⟩
theorem VB.at6 (h : VB w W L) (k : Nat) {b : Nat} {x0 x1 x2 x3 x4 x5 : Value} (hk : L[k]? = some (b, [x0, x1, x2, x3, x4, x5])) : W.cell? ⟨b, 0, none⟩ = some x0 ∧ W.cell? ⟨b, 1, none⟩ = some x1 ∧ W.cell? ⟨b, 2, none⟩ = some x2 ∧ W.cell? ⟨b, 3, none⟩ = some x3 ∧ W.cell? ⟨b, 4, none⟩ = some x4 ∧ W.cell? ⟨b, 5, none⟩ = some x5 :=
  have hm := List.mem_of_getElem? hk
  ⟨(h.at hm 0 (by simp)).1, (h.at hm 1 (by simp)).1, (h.at hm 2 (by simp)).1, (h.at hm 3 (by simp)).1, (h.at hm 4 (by simp)).1, (h.at hm 5 (by simp)).1⟩
theorem VB.fz3 (h : VB w W L) (k : Nat) {b : Nat} {x0 x1 x2 : Value} (hk : L[k]? = some (b, [x0, x1, x2])) : W.frozen? ⟨b, 0, none⟩ = false ∧ W.frozen? ⟨b, 1, none⟩ = false ∧ W.frozen? ⟨b, 2, none⟩ = false :=
  have hm := List.mem_of_getElem? hk
  ⟨(h.at hm 0 (by simp)).2, (h.at hm 1 (by simp)).2, (h.at hm 2 (by simp)).2⟩
theorem VB.fz6 (h : VB w W L) (k : Nat) {b : Nat} {x0 x1 x2 x3 x4 x5 : Value} (hk : L[k]? = some (b, [x0, x1, x2, x3, x4, x5])) : W.frozen? ⟨b, 0, none⟩ = false ∧ W.frozen? ⟨b, 1, none⟩ = false ∧ W.frozen? ⟨b, 2, none⟩ = false ∧ W.frozen? ⟨b, 3, none⟩ = false ∧ W.frozen? ⟨b, 4, none⟩ = false ∧ W.frozen? ⟨b, 5, none⟩ = false :=
  have hm := List.mem_of_getElem? hk
  ⟨(h.at hm 0 (by simp)).2, (h.at hm 1 (by simp)).2, (h.at hm 2 (by simp)).2, (h.at hm 3 (by simp)).2, (h.at hm 4 (by simp)).2, (h.at hm 5 (by simp)).2⟩
theorem VB.set1 (h : VB w W L) (k : Nat) {b : Nat} {vs : List Value} (hk : L[k]? = some (b, vs)) (i : Nat) (hi : i < vs.length) (v : Value) : VB w (W.setCell ⟨b, i, none⟩ v) (L.set k (b, vs.set i v)) ∧ (L.set k (b, vs.set i v))[k]? = some (b, vs.set i v) := by
  obtain ⟨hlt, e⟩ := List.getElem?_eq_some_iff.1 hk
  have := h.set k hlt i (by rw [e]; exact hi) v
  rw [e] at this
  exact ⟨this, by rw [List.getElem?_set_self hlt]⟩
theorem VB.put3 (h : VB w W L) (k : Nat) {b : Nat} {u0 u1 u2 : Value} (hk : L[k]? = some (b, [u0, u1, u2])) (x0 x1 x2 : Value) : VB w (((W.setCell ⟨b, 0, none⟩ x0).setCell ⟨b, 1, none⟩ x1).setCell ⟨b, 2, none⟩ x2) (L.set k (b, [x0, x1, x2])) := by
  obtain ⟨h0, k0⟩ := h.set1 k hk 0 (by simp) x0
  obtain ⟨h1, k1⟩ := h0.set1 k k0 1 (by simp) x1
  obtain ⟨h2, _⟩ := h1.set1 k k1 2 (by simp) x2
  simpa only [List.set_set, List.set_cons_zero, List.set_cons_succ] using h2
theorem VB.put6 (h : VB w W L) (k : Nat) {b : Nat} {u0 u1 u2 u3 u4 u5 : Value} (hk : L[k]? = some (b, [u0, u1, u2, u3, u4, u5])) (x0 x1 x2 x3 x4 x5 : Value) : VB w ((((((W.setCell ⟨b, 0, none⟩ x0).setCell ⟨b, 1, none⟩ x1).setCell ⟨b, 2, none⟩ x2).setCell ⟨b, 3, none⟩ x3).setCell ⟨b, 4, none⟩ x4).setCell ⟨b, 5, none⟩ x5) (L.set k (b, [x0, x1, x2, x3, x4, x5])) := by
  obtain ⟨h0, k0⟩ := h.set1 k hk 0 (by simp) x0
  obtain ⟨h1, k1⟩ := h0.set1 k k0 1 (by simp) x1
  obtain ⟨h2, k2⟩ := h1.set1 k k1 2 (by simp) x2
  obtain ⟨h3, k3⟩ := h2.set1 k k2 3 (by simp) x3
  obtain ⟨h4, k4⟩ := h3.set1 k k3 4 (by simp) x4
  obtain ⟨h5, _⟩ := h4.set1 k k4 5 (by simp) x5
  simpa only [List.set_set, List.set_cons_zero, List.set_cons_succ] using h5
end

def XV (g : Bool) (s t : ByteArray) (b : Bool) : Prop := ∀ W, LawW W → Calls Tryz.prog 36 #[.agg #[.bool g, .string s, .string t]] W fun e w' => e = .returned (.bool b) ∧ Below W.heap.size W w'
def XC (g : Bool) (s t : ByteArray) (g' : Bool) (s' t' : ByteArray) (z : Int) : Prop := ∀ W, LawW W → Calls Tryz.prog 37 #[.agg #[.bool g, .string s, .string t], .agg #[.bool g', .string s', .string t']] W fun e w' => e = .returned (.int .i64 z) ∧ Below W.heap.size W w'
def XA (F : FuncId) (ga : Bool) (sa ta : ByteArray) (gb : Bool) (sb tb : ByteArray) (g : Bool) (s t : ByteArray) (k : Int) : Prop := ∀ W, LawW W → Calls Tryz.prog F #[.agg #[.bool ga, .string sa, .string ta], .agg #[.bool gb, .string sb, .string tb]] W fun e w' => e = .returned (.tuple #[.agg #[.bool g, .string s, .string t], .int .i64 k]) ∧ Below W.heap.size W w'
def IV (g : Bool) (s t : ByteArray) (h : Bool) (u v : ByteArray) (b : Bool) : Prop := ∀ W, LawW W → Calls Tryz.prog 19 #[.agg #[.bool g, .string s, .string t, .bool h, .string u, .string v]] W fun e w' => e = .returned (.bool b) ∧ Below W.heap.size W w'
def XL (g : Bool) (s t : ByteArray) (g' : Bool) (s' t' : ByteArray) (b : Bool) : Prop := ∀ W, LawW W → Calls Tryz.prog 35 #[.agg #[.bool g, .string s, .string t], .agg #[.bool g', .string s', .string t']] W fun e w' => e = .returned (.bool b) ∧ Below W.heap.size W w'

set_option maxHeartbeats 4000000 in
set_option maxRecDepth 100000 in
theorem iv_valid1 (ga : Bool) (sa ta : ByteArray) (gb : Bool) (sb tb : ByteArray) (w : World) (h1 : XV ga sa ta false) (hw : LawW w) :
    Calls Tryz.prog 19 #[.agg #[.bool ga, .string sa, .string ta, .bool gb, .string sb, .string tb]] w fun e w' => e = .returned (.bool false) ∧ Below w.heap.size w w' := by
  unfold XV at h1
  have Hh1 := hide h1
  have HW := hide hw
  have HV0 : Hid (VB w w []) := VB.nil w
  clear h1 hw 
  go_enter Tryz.func19, Tryz.ntmps19
  have HV0_ := hide (HV0.out.push6 (b := w.heap.size) (by simp) (.bool ga) (.string sa) (.string ta) (.bool gb) (.string sb) (.string tb) 26)
  clear HV0
  obtain ⟨c1, c2, c3, c4, c5, c6⟩ := HV0_.out.at6 0 rfl
  go_wp2_with fail
  clear c1 c2 c3 c4 c5 c6
  refine (Hh1.out _ (HV0_.out.law HW.out)).mono ?_
  rintro e w1 ⟨rfl, hb⟩
  have HV1 := hide (HV0_.out.below hb)
  clear hb HV0_
  go_wp2_with fail
  go_ret
  exact ⟨rfl, HV1.out.bel⟩
set_option maxHeartbeats 4000000 in
set_option maxRecDepth 100000 in
theorem iv_valid2 (ga : Bool) (sa ta : ByteArray) (gb : Bool) (sb tb : ByteArray) (w : World) (h1 : XV ga sa ta true) (h2 : XV gb sb tb false) (hw : LawW w) :
    Calls Tryz.prog 19 #[.agg #[.bool ga, .string sa, .string ta, .bool gb, .string sb, .string tb]] w fun e w' => e = .returned (.bool false) ∧ Below w.heap.size w w' := by
  unfold XV at h1
  have Hh1 := hide h1
  unfold XV at h2
  have Hh2 := hide h2
  have HW := hide hw
  have HV0 : Hid (VB w w []) := VB.nil w
  clear h1 h2 hw 
  go_enter Tryz.func19, Tryz.ntmps19
  have HV0_ := hide (HV0.out.push6 (b := w.heap.size) (by simp) (.bool ga) (.string sa) (.string ta) (.bool gb) (.string sb) (.string tb) 26)
  clear HV0
  obtain ⟨c1, c2, c3, c4, c5, c6⟩ := HV0_.out.at6 0 rfl
  go_wp2_with fail
  clear c1 c2 c3 c4 c5 c6
  refine (Hh1.out _ (HV0_.out.law HW.out)).mono ?_
  rintro e w1 ⟨rfl, hb⟩
  have HV1 := hide (HV0_.out.below hb)
  clear hb HV0_
  obtain ⟨c7, c8, c9, c10, c11, c12⟩ := HV1.out.at6 0 rfl
  go_wp2_with fail
  clear c7 c8 c9 c10 c11 c12
  refine (Hh2.out _ (HV1.out.law HW.out)).mono ?_
  rintro e w2 ⟨rfl, hb⟩
  have HV2 := hide (HV1.out.below hb)
  clear hb HV1
  go_wp2_with fail
  go_ret
  exact ⟨rfl, HV2.out.bel⟩
set_option maxHeartbeats 4000000 in
set_option maxRecDepth 100000 in
theorem iv_valid3 (ga : Bool) (sa ta : ByteArray) (gb : Bool) (sb tb : ByteArray) (z : Int) (w : World) (h1 : XV ga sa ta true) (h2 : XV gb sb tb true) (h3 : XC ga sa ta gb sb tb z) (hw : LawW w) :
    Calls Tryz.prog 19 #[.agg #[.bool ga, .string sa, .string ta, .bool gb, .string sb, .string tb]] w fun e w' => e = .returned (.bool (decide (z ≤ 0))) ∧ Below w.heap.size w w' := by
  unfold XV at h1
  have Hh1 := hide h1
  unfold XV at h2
  have Hh2 := hide h2
  unfold XC at h3
  have Hh3 := hide h3
  have HW := hide hw
  have HV0 : Hid (VB w w []) := VB.nil w
  clear h1 h2 h3 hw 
  go_enter Tryz.func19, Tryz.ntmps19
  have HV0_ := hide (HV0.out.push6 (b := w.heap.size) (by simp) (.bool ga) (.string sa) (.string ta) (.bool gb) (.string sb) (.string tb) 26)
  clear HV0
  obtain ⟨c1, c2, c3, c4, c5, c6⟩ := HV0_.out.at6 0 rfl
  go_wp2_with fail
  clear c1 c2 c3 c4 c5 c6
  refine (Hh1.out _ (HV0_.out.law HW.out)).mono ?_
  rintro e w1 ⟨rfl, hb⟩
  have HV1 := hide (HV0_.out.below hb)
  clear hb HV0_
  obtain ⟨c7, c8, c9, c10, c11, c12⟩ := HV1.out.at6 0 rfl
  go_wp2_with fail
  clear c7 c8 c9 c10 c11 c12
  refine (Hh2.out _ (HV1.out.law HW.out)).mono ?_
  rintro e w2 ⟨rfl, hb⟩
  have HV2 := hide (HV1.out.below hb)
  clear hb HV1
  obtain ⟨c13, c14, c15, c16, c17, c18⟩ := HV2.out.at6 0 rfl
  go_wp2_with fail
  clear c13 c14 c15 c16 c17 c18
  refine (Hh3.out _ (HV2.out.law HW.out)).mono ?_
  rintro e w3 ⟨rfl, hb⟩
  have HV3 := hide (HV2.out.below hb)
  clear hb HV2
  go_wp2_with fail
  go_ret
  exact ⟨rfl, HV3.out.bel⟩
set_option maxHeartbeats 4000000 in
set_option maxRecDepth 100000 in
theorem iv_contains1 (ga : Bool) (sa ta : ByteArray) (gb : Bool) (sb tb : ByteArray) (gr : Bool) (sr tr : ByteArray) (w : World) (h1 : IV ga sa ta gb sb tb false) (hw : LawW w) :
    Calls Tryz.prog 21 #[.agg #[.bool ga, .string sa, .string ta, .bool gb, .string sb, .string tb], .agg #[.bool gr, .string sr, .string tr]] w fun e w' => e = .returned (.bool false) ∧ Below w.heap.size w w' := by
  unfold IV at h1
  have Hh1 := hide h1
  have HW := hide hw
  have HV0 : Hid (VB w w []) := VB.nil w
  clear h1 hw 
  go_enter Tryz.func21, Tryz.ntmps21
  have HV0_ := hide (HV0.out.push6 (b := w.heap.size) (by simp) (.bool ga) (.string sa) (.string ta) (.bool gb) (.string sb) (.string tb) 26)
  clear HV0
  have HV0__ := hide (HV0_.out.push3 (b := w.heap.size + 1) (by simp) (.bool gr) (.string sr) (.string tr) 24)
  clear HV0_
  obtain ⟨c1, c2, c3, c4, c5, c6⟩ := HV0__.out.at6 1 rfl
  go_wp2_with fail
  clear c1 c2 c3 c4 c5 c6
  refine (Hh1.out _ (HV0__.out.law HW.out)).mono ?_
  rintro e w1 ⟨rfl, hb⟩
  have HV1 := hide (HV0__.out.below hb)
  clear hb HV0__
  go_wp2_with fail
  go_ret
  exact ⟨rfl, HV1.out.bel⟩
set_option maxHeartbeats 4000000 in
set_option maxRecDepth 100000 in
theorem iv_contains2 (ga : Bool) (sa ta : ByteArray) (gb : Bool) (sb tb : ByteArray) (gr : Bool) (sr tr : ByteArray) (w : World) (h1 : IV ga sa ta gb sb tb true) (h2 : XV gr sr tr false) (hw : LawW w) :
    Calls Tryz.prog 21 #[.agg #[.bool ga, .string sa, .string ta, .bool gb, .string sb, .string tb], .agg #[.bool gr, .string sr, .string tr]] w fun e w' => e = .returned (.bool false) ∧ Below w.heap.size w w' := by
  unfold IV at h1
  have Hh1 := hide h1
  unfold XV at h2
  have Hh2 := hide h2
  have HW := hide hw
  have HV0 : Hid (VB w w []) := VB.nil w
  clear h1 h2 hw 
  go_enter Tryz.func21, Tryz.ntmps21
  have HV0_ := hide (HV0.out.push6 (b := w.heap.size) (by simp) (.bool ga) (.string sa) (.string ta) (.bool gb) (.string sb) (.string tb) 26)
  clear HV0
  have HV0__ := hide (HV0_.out.push3 (b := w.heap.size + 1) (by simp) (.bool gr) (.string sr) (.string tr) 24)
  clear HV0_
  obtain ⟨c1, c2, c3, c4, c5, c6⟩ := HV0__.out.at6 1 rfl
  go_wp2_with fail
  clear c1 c2 c3 c4 c5 c6
  refine (Hh1.out _ (HV0__.out.law HW.out)).mono ?_
  rintro e w1 ⟨rfl, hb⟩
  have HV1 := hide (HV0__.out.below hb)
  clear hb HV0__
  obtain ⟨c7, c8, c9⟩ := HV1.out.at3 0 rfl
  go_wp2_with fail
  clear c7 c8 c9
  refine (Hh2.out _ (HV1.out.law HW.out)).mono ?_
  rintro e w2 ⟨rfl, hb⟩
  have HV2 := hide (HV1.out.below hb)
  clear hb HV1
  go_wp2_with fail
  go_ret
  exact ⟨rfl, HV2.out.bel⟩
set_option maxHeartbeats 4000000 in
set_option maxRecDepth 100000 in
theorem iv_contains3 (ga : Bool) (sa ta : ByteArray) (gb : Bool) (sb tb : ByteArray) (gr : Bool) (sr tr : ByteArray) (z : Int) (w : World) (h1 : IV ga sa ta gb sb tb true) (h2 : XV gr sr tr true) (h3 : XC ga sa ta gr sr tr z) (f1 : decide (z ≤ 0) = false) (hw : LawW w) :
    Calls Tryz.prog 21 #[.agg #[.bool ga, .string sa, .string ta, .bool gb, .string sb, .string tb], .agg #[.bool gr, .string sr, .string tr]] w fun e w' => e = .returned (.bool false) ∧ Below w.heap.size w w' := by
  unfold IV at h1
  have Hh1 := hide h1
  unfold XV at h2
  have Hh2 := hide h2
  unfold XC at h3
  have Hh3 := hide h3
  have HW := hide hw
  have HV0 : Hid (VB w w []) := VB.nil w
  clear h1 h2 h3 hw 
  go_enter Tryz.func21, Tryz.ntmps21
  have HV0_ := hide (HV0.out.push6 (b := w.heap.size) (by simp) (.bool ga) (.string sa) (.string ta) (.bool gb) (.string sb) (.string tb) 26)
  clear HV0
  have HV0__ := hide (HV0_.out.push3 (b := w.heap.size + 1) (by simp) (.bool gr) (.string sr) (.string tr) 24)
  clear HV0_
  obtain ⟨c1, c2, c3, c4, c5, c6⟩ := HV0__.out.at6 1 rfl
  go_wp2_with fail
  clear c1 c2 c3 c4 c5 c6
  refine (Hh1.out _ (HV0__.out.law HW.out)).mono ?_
  rintro e w1 ⟨rfl, hb⟩
  have HV1 := hide (HV0__.out.below hb)
  clear hb HV0__
  obtain ⟨c7, c8, c9⟩ := HV1.out.at3 0 rfl
  go_wp2_with fail
  clear c7 c8 c9
  refine (Hh2.out _ (HV1.out.law HW.out)).mono ?_
  rintro e w2 ⟨rfl, hb⟩
  have HV2 := hide (HV1.out.below hb)
  clear hb HV1
  obtain ⟨c10, c11, c12, c13, c14, c15⟩ := HV2.out.at6 1 rfl
  obtain ⟨c16, c17, c18⟩ := HV2.out.at3 0 rfl
  go_wp2_with fail
  clear c10 c11 c12 c13 c14 c15 c16 c17 c18
  refine (Hh3.out _ (HV2.out.law HW.out)).mono ?_
  rintro e w3 ⟨rfl, hb⟩
  have HV3 := hide (HV2.out.below hb)
  clear hb HV2
  go_wp2_with fail
  go_ret
  exact ⟨rfl, HV3.out.bel⟩
set_option maxHeartbeats 4000000 in
set_option maxRecDepth 100000 in
theorem iv_contains4 (ga : Bool) (sa ta : ByteArray) (gb : Bool) (sb tb : ByteArray) (gr : Bool) (sr tr : ByteArray) (z : Int) (y : Int) (w : World) (h1 : IV ga sa ta gb sb tb true) (h2 : XV gr sr tr true) (h3 : XC ga sa ta gr sr tr z) (f1 : decide (z ≤ 0) = true) (h4 : XC gr sr tr gb sb tb y) (hw : LawW w) :
    Calls Tryz.prog 21 #[.agg #[.bool ga, .string sa, .string ta, .bool gb, .string sb, .string tb], .agg #[.bool gr, .string sr, .string tr]] w fun e w' => e = .returned (.bool (decide (y ≤ 0))) ∧ Below w.heap.size w w' := by
  unfold IV at h1
  have Hh1 := hide h1
  unfold XV at h2
  have Hh2 := hide h2
  unfold XC at h3
  have Hh3 := hide h3
  unfold XC at h4
  have Hh4 := hide h4
  have HW := hide hw
  have HV0 : Hid (VB w w []) := VB.nil w
  clear h1 h2 h3 h4 hw 
  go_enter Tryz.func21, Tryz.ntmps21
  have HV0_ := hide (HV0.out.push6 (b := w.heap.size) (by simp) (.bool ga) (.string sa) (.string ta) (.bool gb) (.string sb) (.string tb) 26)
  clear HV0
  have HV0__ := hide (HV0_.out.push3 (b := w.heap.size + 1) (by simp) (.bool gr) (.string sr) (.string tr) 24)
  clear HV0_
  obtain ⟨c1, c2, c3, c4, c5, c6⟩ := HV0__.out.at6 1 rfl
  go_wp2_with fail
  clear c1 c2 c3 c4 c5 c6
  refine (Hh1.out _ (HV0__.out.law HW.out)).mono ?_
  rintro e w1 ⟨rfl, hb⟩
  have HV1 := hide (HV0__.out.below hb)
  clear hb HV0__
  obtain ⟨c7, c8, c9⟩ := HV1.out.at3 0 rfl
  go_wp2_with fail
  clear c7 c8 c9
  refine (Hh2.out _ (HV1.out.law HW.out)).mono ?_
  rintro e w2 ⟨rfl, hb⟩
  have HV2 := hide (HV1.out.below hb)
  clear hb HV1
  obtain ⟨c10, c11, c12, c13, c14, c15⟩ := HV2.out.at6 1 rfl
  obtain ⟨c16, c17, c18⟩ := HV2.out.at3 0 rfl
  go_wp2_with fail
  clear c10 c11 c12 c13 c14 c15 c16 c17 c18
  refine (Hh3.out _ (HV2.out.law HW.out)).mono ?_
  rintro e w3 ⟨rfl, hb⟩
  have HV3 := hide (HV2.out.below hb)
  clear hb HV2
  obtain ⟨c19, c20, c21, c22, c23, c24⟩ := HV3.out.at6 1 rfl
  obtain ⟨c25, c26, c27⟩ := HV3.out.at3 0 rfl
  go_wp2_with fail
  clear c19 c20 c21 c22 c23 c24 c25 c26 c27
  refine (Hh4.out _ (HV3.out.law HW.out)).mono ?_
  rintro e w4 ⟨rfl, hb⟩
  have HV4 := hide (HV3.out.below hb)
  clear hb HV3
  go_wp2_with fail
  go_ret
  exact ⟨rfl, HV4.out.bel⟩
set_option maxHeartbeats 4000000 in
set_option maxRecDepth 100000 in
theorem iv_add1 (ga : Bool) (sa ta : ByteArray) (gb : Bool) (sb tb : ByteArray) (gc : Bool) (sc tc : ByteArray) (gd : Bool) (sd td : ByteArray) (w : World) (h1 : IV ga sa ta gb sb tb false) (hw : LawW w) :
    Calls Tryz.prog 11 #[.agg #[.bool ga, .string sa, .string ta, .bool gb, .string sb, .string tb], .agg #[.bool gc, .string sc, .string tc, .bool gd, .string sd, .string td]] w fun e w' => e = .returned (.tuple #[.agg #[.bool false, .string ⟨#[]⟩, .string ⟨#[]⟩, .bool false, .string ⟨#[]⟩, .string ⟨#[]⟩], .int .i64 1]) ∧ Below w.heap.size w w' := by
  unfold IV at h1
  have Hh1 := hide h1
  have HW := hide hw
  have HV0 : Hid (VB w w []) := VB.nil w
  clear h1 hw 
  go_enter Tryz.func11, Tryz.ntmps11
  have HV0_ := hide (HV0.out.push6 (b := w.heap.size) (by simp) (.bool ga) (.string sa) (.string ta) (.bool gb) (.string sb) (.string tb) 26)
  clear HV0
  have HV0__ := hide (HV0_.out.push6 (b := w.heap.size + 1) (by simp) (.bool gc) (.string sc) (.string tc) (.bool gd) (.string sd) (.string td) 26)
  clear HV0_
  have HV0___ := hide (HV0__.out.push6 (b := w.heap.size + 2) (by simp) (.bool false) (.string ⟨#[]⟩) (.string ⟨#[]⟩) (.bool false) (.string ⟨#[]⟩) (.string ⟨#[]⟩) 26)
  clear HV0__
  obtain ⟨c1, c2, c3, c4, c5, c6⟩ := HV0___.out.at6 2 rfl
  go_wp2_with fail
  clear c1 c2 c3 c4 c5 c6
  refine (Hh1.out _ (HV0___.out.law HW.out)).mono ?_
  rintro e w1 ⟨rfl, hb⟩
  have HV1 := hide (HV0___.out.below hb)
  clear hb HV0___
  obtain ⟨c7, c8, c9, c10, c11, c12⟩ := HV1.out.at6 0 rfl
  obtain ⟨fc7, fc8, fc9, fc10, fc11, fc12⟩ := HV1.out.fz6 0 rfl
  have HV1_ := hide (HV1.out.put6 0 rfl (.bool false) (.string ⟨#[]⟩) (.string ⟨#[]⟩) (.bool false) (.string ⟨#[]⟩) (.string ⟨#[]⟩))
  clear HV1
  go_wp2_with fail
  clear c7 c8 c9 c10 c11 c12 fc7 fc8 fc9 fc10 fc11 fc12
  obtain ⟨d0, d1, d2, d3, d4, d5⟩ := HV1_.out.at6 0 rfl
  exact bodyPost_ret (v := .tuple #[.agg #[.bool false, .string ⟨#[]⟩, .string ⟨#[]⟩, .bool false, .string ⟨#[]⟩, .string ⟨#[]⟩], .int .i64 1]) (by simp [results, Tryz.results11, go_sem, d0, d1, d2, d3, d4, d5]) rfl ⟨rfl, HV1_.out.bel⟩
set_option maxHeartbeats 4000000 in
set_option maxRecDepth 100000 in
theorem iv_add2 (ga : Bool) (sa ta : ByteArray) (gb : Bool) (sb tb : ByteArray) (gc : Bool) (sc tc : ByteArray) (gd : Bool) (sd td : ByteArray) (w : World) (h1 : IV ga sa ta gb sb tb true) (h2 : IV gc sc tc gd sd td false) (hw : LawW w) :
    Calls Tryz.prog 11 #[.agg #[.bool ga, .string sa, .string ta, .bool gb, .string sb, .string tb], .agg #[.bool gc, .string sc, .string tc, .bool gd, .string sd, .string td]] w fun e w' => e = .returned (.tuple #[.agg #[.bool false, .string ⟨#[]⟩, .string ⟨#[]⟩, .bool false, .string ⟨#[]⟩, .string ⟨#[]⟩], .int .i64 1]) ∧ Below w.heap.size w w' := by
  unfold IV at h1
  have Hh1 := hide h1
  unfold IV at h2
  have Hh2 := hide h2
  have HW := hide hw
  have HV0 : Hid (VB w w []) := VB.nil w
  clear h1 h2 hw 
  go_enter Tryz.func11, Tryz.ntmps11
  have HV0_ := hide (HV0.out.push6 (b := w.heap.size) (by simp) (.bool ga) (.string sa) (.string ta) (.bool gb) (.string sb) (.string tb) 26)
  clear HV0
  have HV0__ := hide (HV0_.out.push6 (b := w.heap.size + 1) (by simp) (.bool gc) (.string sc) (.string tc) (.bool gd) (.string sd) (.string td) 26)
  clear HV0_
  have HV0___ := hide (HV0__.out.push6 (b := w.heap.size + 2) (by simp) (.bool false) (.string ⟨#[]⟩) (.string ⟨#[]⟩) (.bool false) (.string ⟨#[]⟩) (.string ⟨#[]⟩) 26)
  clear HV0__
  obtain ⟨c1, c2, c3, c4, c5, c6⟩ := HV0___.out.at6 2 rfl
  go_wp2_with fail
  clear c1 c2 c3 c4 c5 c6
  refine (Hh1.out _ (HV0___.out.law HW.out)).mono ?_
  rintro e w1 ⟨rfl, hb⟩
  have HV1 := hide (HV0___.out.below hb)
  clear hb HV0___
  obtain ⟨c7, c8, c9, c10, c11, c12⟩ := HV1.out.at6 1 rfl
  go_wp2_with fail
  clear c7 c8 c9 c10 c11 c12
  refine (Hh2.out _ (HV1.out.law HW.out)).mono ?_
  rintro e w2 ⟨rfl, hb⟩
  have HV2 := hide (HV1.out.below hb)
  clear hb HV1
  obtain ⟨c13, c14, c15, c16, c17, c18⟩ := HV2.out.at6 0 rfl
  obtain ⟨fc13, fc14, fc15, fc16, fc17, fc18⟩ := HV2.out.fz6 0 rfl
  have HV2_ := hide (HV2.out.put6 0 rfl (.bool false) (.string ⟨#[]⟩) (.string ⟨#[]⟩) (.bool false) (.string ⟨#[]⟩) (.string ⟨#[]⟩))
  clear HV2
  go_wp2_with fail
  clear c13 c14 c15 c16 c17 c18 fc13 fc14 fc15 fc16 fc17 fc18
  obtain ⟨d0, d1, d2, d3, d4, d5⟩ := HV2_.out.at6 0 rfl
  exact bodyPost_ret (v := .tuple #[.agg #[.bool false, .string ⟨#[]⟩, .string ⟨#[]⟩, .bool false, .string ⟨#[]⟩, .string ⟨#[]⟩], .int .i64 1]) (by simp [results, Tryz.results11, go_sem, d0, d1, d2, d3, d4, d5]) rfl ⟨rfl, HV2_.out.bel⟩
set_option maxHeartbeats 4000000 in
set_option maxRecDepth 100000 in
theorem iv_add3 (ga : Bool) (sa ta : ByteArray) (gb : Bool) (sb tb : ByteArray) (gc : Bool) (sc tc : ByteArray) (gd : Bool) (sd td : ByteArray) (gx : Bool) (sx tx : ByteArray) (gy : Bool) (sy ty : ByteArray) (w : World) (h1 : IV ga sa ta gb sb tb true) (h2 : IV gc sc tc gd sd td true) (h3 : XA 23 ga sa ta gc sc tc gx sx tx 0) (h4 : XA 23 gb sb tb gd sd td gy sy ty 0) (hw : LawW w) :
    Calls Tryz.prog 11 #[.agg #[.bool ga, .string sa, .string ta, .bool gb, .string sb, .string tb], .agg #[.bool gc, .string sc, .string tc, .bool gd, .string sd, .string td]] w fun e w' => e = .returned (.tuple #[.agg #[.bool gx, .string sx, .string tx, .bool gy, .string sy, .string ty], .int .i64 0]) ∧ Below w.heap.size w w' := by
  unfold IV at h1
  have Hh1 := hide h1
  unfold IV at h2
  have Hh2 := hide h2
  unfold XA at h3
  have Hh3 := hide h3
  unfold XA at h4
  have Hh4 := hide h4
  have HW := hide hw
  have HV0 : Hid (VB w w []) := VB.nil w
  clear h1 h2 h3 h4 hw 
  go_enter Tryz.func11, Tryz.ntmps11
  have HV0_ := hide (HV0.out.push6 (b := w.heap.size) (by simp) (.bool ga) (.string sa) (.string ta) (.bool gb) (.string sb) (.string tb) 26)
  clear HV0
  have HV0__ := hide (HV0_.out.push6 (b := w.heap.size + 1) (by simp) (.bool gc) (.string sc) (.string tc) (.bool gd) (.string sd) (.string td) 26)
  clear HV0_
  have HV0___ := hide (HV0__.out.push6 (b := w.heap.size + 2) (by simp) (.bool false) (.string ⟨#[]⟩) (.string ⟨#[]⟩) (.bool false) (.string ⟨#[]⟩) (.string ⟨#[]⟩) 26)
  clear HV0__
  obtain ⟨c1, c2, c3, c4, c5, c6⟩ := HV0___.out.at6 2 rfl
  go_wp2_with fail
  clear c1 c2 c3 c4 c5 c6
  refine (Hh1.out _ (HV0___.out.law HW.out)).mono ?_
  rintro e w1 ⟨rfl, hb⟩
  have HV1 := hide (HV0___.out.below hb)
  clear hb HV0___
  obtain ⟨c7, c8, c9, c10, c11, c12⟩ := HV1.out.at6 1 rfl
  go_wp2_with fail
  clear c7 c8 c9 c10 c11 c12
  refine (Hh2.out _ (HV1.out.law HW.out)).mono ?_
  rintro e w2 ⟨rfl, hb⟩
  have HV2 := hide (HV1.out.below hb)
  clear hb HV1
  obtain ⟨c13, c14, c15, c16, c17, c18⟩ := HV2.out.at6 2 rfl
  obtain ⟨c19, c20, c21, c22, c23, c24⟩ := HV2.out.at6 1 rfl
  go_wp2_with fail
  clear c13 c14 c15 c16 c17 c18 c19 c20 c21 c22 c23 c24
  refine (Hh3.out _ (HV2.out.law HW.out)).mono ?_
  rintro e w3 ⟨rfl, hb⟩
  have HV3 := hide (HV2.out.below hb)
  clear hb HV2
  have HV3_ := hide (HV3.out.push3 (b := w3.heap.size) (by simp) (.bool gx) (.string sx) (.string tx) 24)
  clear HV3
  obtain ⟨c25, c26, c27, c28, c29, c30⟩ := HV3_.out.at6 3 rfl
  obtain ⟨c31, c32, c33, c34, c35, c36⟩ := HV3_.out.at6 2 rfl
  go_wp2_with fail
  clear c25 c26 c27 c28 c29 c30 c31 c32 c33 c34 c35 c36
  refine (Hh4.out _ (HV3_.out.law HW.out)).mono ?_
  rintro e w4 ⟨rfl, hb⟩
  have HV4 := hide (HV3_.out.below hb)
  clear hb HV3_
  have HV4_ := hide (HV4.out.push3 (b := w4.heap.size) (by simp) (.bool gy) (.string sy) (.string ty) 24)
  clear HV4
  obtain ⟨c37, c38, c39⟩ := HV4_.out.at3 1 rfl
  obtain ⟨c40, c41, c42⟩ := HV4_.out.at3 0 rfl
  obtain ⟨c43, c44, c45, c46, c47, c48⟩ := HV4_.out.at6 2 rfl
  obtain ⟨fc43, fc44, fc45, fc46, fc47, fc48⟩ := HV4_.out.fz6 2 rfl
  have HV4__ := hide (HV4_.out.put6 2 rfl (.bool gx) (.string sx) (.string tx) (.bool gy) (.string sy) (.string ty))
  clear HV4_
  go_wp2_with fail
  clear c37 c38 c39 c40 c41 c42 c43 c44 c45 c46 c47 c48 fc43 fc44 fc45 fc46 fc47 fc48
  obtain ⟨d0, d1, d2, d3, d4, d5⟩ := HV4__.out.at6 2 rfl
  exact bodyPost_ret (v := .tuple #[.agg #[.bool gx, .string sx, .string tx, .bool gy, .string sy, .string ty], .int .i64 0]) (by simp [results, Tryz.results11, go_sem, d0, d1, d2, d3, d4, d5]) rfl ⟨rfl, HV4__.out.bel⟩
set_option maxHeartbeats 4000000 in
set_option maxRecDepth 100000 in
theorem iv_less (ga : Bool) (sa ta : ByteArray) (gb : Bool) (sb tb : ByteArray) (z : Int) (w : World) (h1 : XC ga sa ta gb sb tb z) (hw : LawW w) :
    Calls Tryz.prog 35 #[.agg #[.bool ga, .string sa, .string ta], .agg #[.bool gb, .string sb, .string tb]] w fun e w' => e = .returned (.bool (decide (z < 0))) ∧ Below w.heap.size w w' := by
  unfold XC at h1
  have Hh1 := hide h1
  have HW := hide hw
  have HV0 : Hid (VB w w []) := VB.nil w
  clear h1 hw 
  go_enter Tryz.func35, Tryz.ntmps35
  have HV0_ := hide (HV0.out.push3 (b := w.heap.size) (by simp) (.bool ga) (.string sa) (.string ta) 24)
  clear HV0
  have HV0__ := hide (HV0_.out.push3 (b := w.heap.size + 1) (by simp) (.bool gb) (.string sb) (.string tb) 24)
  clear HV0_
  obtain ⟨c1, c2, c3⟩ := HV0__.out.at3 1 rfl
  obtain ⟨c4, c5, c6⟩ := HV0__.out.at3 0 rfl
  go_wp2_with fail
  clear c1 c2 c3 c4 c5 c6
  refine (Hh1.out _ (HV0__.out.law HW.out)).mono ?_
  rintro e w1 ⟨rfl, hb⟩
  have HV1 := hide (HV0__.out.below hb)
  clear hb HV0__
  go_wp2_with fail
  go_ret
  exact ⟨rfl, HV1.out.bel⟩
set_option maxHeartbeats 4000000 in
set_option maxRecDepth 100000 in
theorem iv_more (ga : Bool) (sa ta : ByteArray) (gb : Bool) (sb tb : ByteArray) (b : Bool) (w : World) (h1 : XL gb sb tb ga sa ta b) (hw : LawW w) :
    Calls Tryz.prog 54 #[.agg #[.bool ga, .string sa, .string ta], .agg #[.bool gb, .string sb, .string tb]] w fun e w' => e = .returned (.bool b) ∧ Below w.heap.size w w' := by
  unfold XL at h1
  have Hh1 := hide h1
  have HW := hide hw
  have HV0 : Hid (VB w w []) := VB.nil w
  clear h1 hw 
  go_enter Tryz.func54, Tryz.ntmps54
  have HV0_ := hide (HV0.out.push3 (b := w.heap.size) (by simp) (.bool ga) (.string sa) (.string ta) 24)
  clear HV0
  have HV0__ := hide (HV0_.out.push3 (b := w.heap.size + 1) (by simp) (.bool gb) (.string sb) (.string tb) 24)
  clear HV0_
  obtain ⟨c1, c2, c3⟩ := HV0__.out.at3 1 rfl
  obtain ⟨c4, c5, c6⟩ := HV0__.out.at3 0 rfl
  go_wp2_with fail
  clear c1 c2 c3 c4 c5 c6
  refine (Hh1.out _ (HV0__.out.law HW.out)).mono ?_
  rintro e w1 ⟨rfl, hb⟩
  have HV1 := hide (HV0__.out.below hb)
  clear hb HV0__
  go_wp2_with fail
  go_ret
  exact ⟨rfl, HV1.out.bel⟩
set_option maxHeartbeats 4000000 in
set_option maxRecDepth 100000 in
theorem iv_meet1 (ga : Bool) (sa ta : ByteArray) (gb : Bool) (sb tb : ByteArray) (gc : Bool) (sc tc : ByteArray) (gd : Bool) (sd td : ByteArray) (w : World) (h1 : IV ga sa ta gb sb tb false) (hw : LawW w) :
    Calls Tryz.prog 17 #[.agg #[.bool ga, .string sa, .string ta, .bool gb, .string sb, .string tb], .agg #[.bool gc, .string sc, .string tc, .bool gd, .string sd, .string td]] w fun e w' => e = .returned (.tuple #[.agg #[.bool false, .string ⟨#[]⟩, .string ⟨#[]⟩, .bool false, .string ⟨#[]⟩, .string ⟨#[]⟩], .bool false]) ∧ Below w.heap.size w w' := by
  unfold IV at h1
  have Hh1 := hide h1
  have HW := hide hw
  have HV0 : Hid (VB w w []) := VB.nil w
  clear h1 hw 
  go_enter Tryz.func17, Tryz.ntmps17
  have HV0_ := hide (HV0.out.push6 (b := w.heap.size) (by simp) (.bool ga) (.string sa) (.string ta) (.bool gb) (.string sb) (.string tb) 26)
  clear HV0
  have HV0__ := hide (HV0_.out.push6 (b := w.heap.size + 1) (by simp) (.bool gc) (.string sc) (.string tc) (.bool gd) (.string sd) (.string td) 26)
  clear HV0_
  have HV0___ := hide (HV0__.out.push6 (b := w.heap.size + 2) (by simp) (.bool false) (.string ⟨#[]⟩) (.string ⟨#[]⟩) (.bool false) (.string ⟨#[]⟩) (.string ⟨#[]⟩) 26)
  clear HV0__
  obtain ⟨c1, c2, c3, c4, c5, c6⟩ := HV0___.out.at6 2 rfl
  go_wp2_with fail
  clear c1 c2 c3 c4 c5 c6
  refine (Hh1.out _ (HV0___.out.law HW.out)).mono ?_
  rintro e w1 ⟨rfl, hb⟩
  have HV1 := hide (HV0___.out.below hb)
  clear hb HV0___
  obtain ⟨c7, c8, c9, c10, c11, c12⟩ := HV1.out.at6 0 rfl
  obtain ⟨fc7, fc8, fc9, fc10, fc11, fc12⟩ := HV1.out.fz6 0 rfl
  have HV1_ := hide (HV1.out.put6 0 rfl (.bool false) (.string ⟨#[]⟩) (.string ⟨#[]⟩) (.bool false) (.string ⟨#[]⟩) (.string ⟨#[]⟩))
  clear HV1
  go_wp2_with fail
  clear c7 c8 c9 c10 c11 c12 fc7 fc8 fc9 fc10 fc11 fc12
  obtain ⟨d0, d1, d2, d3, d4, d5⟩ := HV1_.out.at6 0 rfl
  exact bodyPost_ret (v := .tuple #[.agg #[.bool false, .string ⟨#[]⟩, .string ⟨#[]⟩, .bool false, .string ⟨#[]⟩, .string ⟨#[]⟩], .bool false]) (by simp [results, Tryz.results17, go_sem, d0, d1, d2, d3, d4, d5]) rfl ⟨rfl, HV1_.out.bel⟩
set_option maxHeartbeats 4000000 in
set_option maxRecDepth 100000 in
theorem iv_meet2 (ga : Bool) (sa ta : ByteArray) (gb : Bool) (sb tb : ByteArray) (gc : Bool) (sc tc : ByteArray) (gd : Bool) (sd td : ByteArray) (w : World) (h1 : IV ga sa ta gb sb tb true) (h2 : IV gc sc tc gd sd td false) (hw : LawW w) :
    Calls Tryz.prog 17 #[.agg #[.bool ga, .string sa, .string ta, .bool gb, .string sb, .string tb], .agg #[.bool gc, .string sc, .string tc, .bool gd, .string sd, .string td]] w fun e w' => e = .returned (.tuple #[.agg #[.bool false, .string ⟨#[]⟩, .string ⟨#[]⟩, .bool false, .string ⟨#[]⟩, .string ⟨#[]⟩], .bool false]) ∧ Below w.heap.size w w' := by
  unfold IV at h1
  have Hh1 := hide h1
  unfold IV at h2
  have Hh2 := hide h2
  have HW := hide hw
  have HV0 : Hid (VB w w []) := VB.nil w
  clear h1 h2 hw 
  go_enter Tryz.func17, Tryz.ntmps17
  have HV0_ := hide (HV0.out.push6 (b := w.heap.size) (by simp) (.bool ga) (.string sa) (.string ta) (.bool gb) (.string sb) (.string tb) 26)
  clear HV0
  have HV0__ := hide (HV0_.out.push6 (b := w.heap.size + 1) (by simp) (.bool gc) (.string sc) (.string tc) (.bool gd) (.string sd) (.string td) 26)
  clear HV0_
  have HV0___ := hide (HV0__.out.push6 (b := w.heap.size + 2) (by simp) (.bool false) (.string ⟨#[]⟩) (.string ⟨#[]⟩) (.bool false) (.string ⟨#[]⟩) (.string ⟨#[]⟩) 26)
  clear HV0__
  obtain ⟨c1, c2, c3, c4, c5, c6⟩ := HV0___.out.at6 2 rfl
  go_wp2_with fail
  clear c1 c2 c3 c4 c5 c6
  refine (Hh1.out _ (HV0___.out.law HW.out)).mono ?_
  rintro e w1 ⟨rfl, hb⟩
  have HV1 := hide (HV0___.out.below hb)
  clear hb HV0___
  obtain ⟨c7, c8, c9, c10, c11, c12⟩ := HV1.out.at6 1 rfl
  go_wp2_with fail
  clear c7 c8 c9 c10 c11 c12
  refine (Hh2.out _ (HV1.out.law HW.out)).mono ?_
  rintro e w2 ⟨rfl, hb⟩
  have HV2 := hide (HV1.out.below hb)
  clear hb HV1
  obtain ⟨c13, c14, c15, c16, c17, c18⟩ := HV2.out.at6 0 rfl
  obtain ⟨fc13, fc14, fc15, fc16, fc17, fc18⟩ := HV2.out.fz6 0 rfl
  have HV2_ := hide (HV2.out.put6 0 rfl (.bool false) (.string ⟨#[]⟩) (.string ⟨#[]⟩) (.bool false) (.string ⟨#[]⟩) (.string ⟨#[]⟩))
  clear HV2
  go_wp2_with fail
  clear c13 c14 c15 c16 c17 c18 fc13 fc14 fc15 fc16 fc17 fc18
  obtain ⟨d0, d1, d2, d3, d4, d5⟩ := HV2_.out.at6 0 rfl
  exact bodyPost_ret (v := .tuple #[.agg #[.bool false, .string ⟨#[]⟩, .string ⟨#[]⟩, .bool false, .string ⟨#[]⟩, .string ⟨#[]⟩], .bool false]) (by simp [results, Tryz.results17, go_sem, d0, d1, d2, d3, d4, d5]) rfl ⟨rfl, HV2_.out.bel⟩
set_option maxHeartbeats 4000000 in
set_option maxRecDepth 100000 in
theorem iv_meet3ttt (ga : Bool) (sa ta : ByteArray) (gb : Bool) (sb tb : ByteArray) (gc : Bool) (sc tc : ByteArray) (gd : Bool) (sd td : ByteArray) (w : World) (h1 : IV ga sa ta gb sb tb true) (h2 : IV gc sc tc gd sd td true) (h3 : XL ga sa ta gc sc tc true) (h4 : XL gd sd td gb sb tb true) (h5 : IV gc sc tc gd sd td true) (hw : LawW w) :
    Calls Tryz.prog 17 #[.agg #[.bool ga, .string sa, .string ta, .bool gb, .string sb, .string tb], .agg #[.bool gc, .string sc, .string tc, .bool gd, .string sd, .string td]] w fun e w' => e = .returned (.tuple #[.agg #[.bool gc, .string sc, .string tc, .bool gd, .string sd, .string td], .bool true]) ∧ Below w.heap.size w w' := by
  unfold IV at h1
  have Hh1 := hide h1
  unfold IV at h2
  have Hh2 := hide h2
  unfold XL at h3
  have Hh3 := hide h3
  unfold XL at h4
  have Hh4 := hide h4
  unfold IV at h5
  have Hh5 := hide h5
  have HW := hide hw
  have HV0 : Hid (VB w w []) := VB.nil w
  clear h1 h2 h3 h4 h5 hw 
  go_enter Tryz.func17, Tryz.ntmps17
  have HV0_ := hide (HV0.out.push6 (b := w.heap.size) (by simp) (.bool ga) (.string sa) (.string ta) (.bool gb) (.string sb) (.string tb) 26)
  clear HV0
  have HV0__ := hide (HV0_.out.push6 (b := w.heap.size + 1) (by simp) (.bool gc) (.string sc) (.string tc) (.bool gd) (.string sd) (.string td) 26)
  clear HV0_
  have HV0___ := hide (HV0__.out.push6 (b := w.heap.size + 2) (by simp) (.bool false) (.string ⟨#[]⟩) (.string ⟨#[]⟩) (.bool false) (.string ⟨#[]⟩) (.string ⟨#[]⟩) 26)
  clear HV0__
  obtain ⟨c1, c2, c3, c4, c5, c6⟩ := HV0___.out.at6 2 rfl
  go_wp2_with fail
  clear c1 c2 c3 c4 c5 c6
  refine (Hh1.out _ (HV0___.out.law HW.out)).mono ?_
  rintro e w1 ⟨rfl, hb⟩
  have HV1 := hide (HV0___.out.below hb)
  clear hb HV0___
  obtain ⟨c7, c8, c9, c10, c11, c12⟩ := HV1.out.at6 1 rfl
  go_wp2_with fail
  clear c7 c8 c9 c10 c11 c12
  refine (Hh2.out _ (HV1.out.law HW.out)).mono ?_
  rintro e w2 ⟨rfl, hb⟩
  have HV2 := hide (HV1.out.below hb)
  clear hb HV1
  obtain ⟨c13, c14, c15, c16, c17, c18⟩ := HV2.out.at6 2 rfl
  have HV2_ := hide (HV2.out.push6 (b := w2.heap.size) (by simp) (.bool ga) (.string sa) (.string ta) (.bool gb) (.string sb) (.string tb) 26)
  clear HV2
  obtain ⟨c19, c20, c21, c22, c23, c24⟩ := HV2_.out.at6 0 rfl
  obtain ⟨c25, c26, c27, c28, c29, c30⟩ := HV2_.out.at6 2 rfl
  go_wp2_with fail
  clear c13 c14 c15 c16 c17 c18 c19 c20 c21 c22 c23 c24 c25 c26 c27 c28 c29 c30
  refine (Hh3.out _ (HV2_.out.law HW.out)).mono ?_
  rintro e w3 ⟨rfl, hb⟩
  have HV3 := hide (HV2_.out.below hb)
  clear hb HV2_
  obtain ⟨c31, c32, c33, c34, c35, c36⟩ := HV3.out.at6 2 rfl
  obtain ⟨c37, c38, c39, c40, c41, c42⟩ := HV3.out.at6 0 rfl
  obtain ⟨fc37, fc38, fc39, fc40, fc41, fc42⟩ := HV3.out.fz6 0 rfl
  have HV3_ : Hid (VB w (w3.setCell ⟨w2.heap.size, 0, none⟩ (.bool gc)) [(w2.heap.size, [.bool gc, .string sa, .string ta, .bool gb, .string sb, .string tb]), (w.heap.size + 2, [.bool false, .string ⟨#[]⟩, .string ⟨#[]⟩, .bool false, .string ⟨#[]⟩, .string ⟨#[]⟩]), (w.heap.size + 1, [.bool gc, .string sc, .string tc, .bool gd, .string sd, .string td]), (w.heap.size, [.bool ga, .string sa, .string ta, .bool gb, .string sb, .string tb])]) := HV3.out.set 0 (show 0 < 4 by decide) 0 (show 0 < 6 by decide) (.bool gc)
  clear HV3
  have HV3__ : Hid (VB w ((w3.setCell ⟨w2.heap.size, 0, none⟩ (.bool gc)).setCell ⟨w2.heap.size, 1, none⟩ (.string sc)) [(w2.heap.size, [.bool gc, .string sc, .string ta, .bool gb, .string sb, .string tb]), (w.heap.size + 2, [.bool false, .string ⟨#[]⟩, .string ⟨#[]⟩, .bool false, .string ⟨#[]⟩, .string ⟨#[]⟩]), (w.heap.size + 1, [.bool gc, .string sc, .string tc, .bool gd, .string sd, .string td]), (w.heap.size, [.bool ga, .string sa, .string ta, .bool gb, .string sb, .string tb])]) := HV3_.out.set 0 (show 0 < 4 by decide) 1 (show 1 < 6 by decide) (.string sc)
  clear HV3_
  have HV3___ : Hid (VB w (((w3.setCell ⟨w2.heap.size, 0, none⟩ (.bool gc)).setCell ⟨w2.heap.size, 1, none⟩ (.string sc)).setCell ⟨w2.heap.size, 2, none⟩ (.string tc)) [(w2.heap.size, [.bool gc, .string sc, .string tc, .bool gb, .string sb, .string tb]), (w.heap.size + 2, [.bool false, .string ⟨#[]⟩, .string ⟨#[]⟩, .bool false, .string ⟨#[]⟩, .string ⟨#[]⟩]), (w.heap.size + 1, [.bool gc, .string sc, .string tc, .bool gd, .string sd, .string td]), (w.heap.size, [.bool ga, .string sa, .string ta, .bool gb, .string sb, .string tb])]) := HV3__.out.set 0 (show 0 < 4 by decide) 2 (show 2 < 6 by decide) (.string tc)
  clear HV3__
  obtain ⟨c43, c44, c45, c46, c47, c48⟩ := HV3___.out.at6 2 rfl
  obtain ⟨c49, c50, c51, c52, c53, c54⟩ := HV3___.out.at6 0 rfl
  go_wp2_with fail
  clear c31 c32 c33 c34 c35 c36 c37 c38 c39 c40 c41 c42 fc37 fc38 fc39 fc40 fc41 fc42 c43 c44 c45 c46 c47 c48 c49 c50 c51 c52 c53 c54
  refine (Hh4.out _ (HV3___.out.law HW.out)).mono ?_
  rintro e w4 ⟨rfl, hb⟩
  have HV4 := hide (HV3___.out.below hb)
  clear hb HV3___
  obtain ⟨c55, c56, c57, c58, c59, c60⟩ := HV4.out.at6 2 rfl
  obtain ⟨c61, c62, c63, c64, c65, c66⟩ := HV4.out.at6 0 rfl
  obtain ⟨fc61, fc62, fc63, fc64, fc65, fc66⟩ := HV4.out.fz6 0 rfl
  have HV4_ : Hid (VB w (w4.setCell ⟨w2.heap.size, 3, none⟩ (.bool gd)) [(w2.heap.size, [.bool gc, .string sc, .string tc, .bool gd, .string sb, .string tb]), (w.heap.size + 2, [.bool false, .string ⟨#[]⟩, .string ⟨#[]⟩, .bool false, .string ⟨#[]⟩, .string ⟨#[]⟩]), (w.heap.size + 1, [.bool gc, .string sc, .string tc, .bool gd, .string sd, .string td]), (w.heap.size, [.bool ga, .string sa, .string ta, .bool gb, .string sb, .string tb])]) := HV4.out.set 0 (show 0 < 4 by decide) 3 (show 3 < 6 by decide) (.bool gd)
  clear HV4
  have HV4__ : Hid (VB w ((w4.setCell ⟨w2.heap.size, 3, none⟩ (.bool gd)).setCell ⟨w2.heap.size, 4, none⟩ (.string sd)) [(w2.heap.size, [.bool gc, .string sc, .string tc, .bool gd, .string sd, .string tb]), (w.heap.size + 2, [.bool false, .string ⟨#[]⟩, .string ⟨#[]⟩, .bool false, .string ⟨#[]⟩, .string ⟨#[]⟩]), (w.heap.size + 1, [.bool gc, .string sc, .string tc, .bool gd, .string sd, .string td]), (w.heap.size, [.bool ga, .string sa, .string ta, .bool gb, .string sb, .string tb])]) := HV4_.out.set 0 (show 0 < 4 by decide) 4 (show 4 < 6 by decide) (.string sd)
  clear HV4_
  have HV4___ : Hid (VB w (((w4.setCell ⟨w2.heap.size, 3, none⟩ (.bool gd)).setCell ⟨w2.heap.size, 4, none⟩ (.string sd)).setCell ⟨w2.heap.size, 5, none⟩ (.string td)) [(w2.heap.size, [.bool gc, .string sc, .string tc, .bool gd, .string sd, .string td]), (w.heap.size + 2, [.bool false, .string ⟨#[]⟩, .string ⟨#[]⟩, .bool false, .string ⟨#[]⟩, .string ⟨#[]⟩]), (w.heap.size + 1, [.bool gc, .string sc, .string tc, .bool gd, .string sd, .string td]), (w.heap.size, [.bool ga, .string sa, .string ta, .bool gb, .string sb, .string tb])]) := HV4__.out.set 0 (show 0 < 4 by decide) 5 (show 5 < 6 by decide) (.string td)
  clear HV4__
  obtain ⟨c67, c68, c69, c70, c71, c72⟩ := HV4___.out.at6 0 rfl
  go_wp2_with fail
  clear c55 c56 c57 c58 c59 c60 c61 c62 c63 c64 c65 c66 fc61 fc62 fc63 fc64 fc65 fc66 c67 c68 c69 c70 c71 c72
  refine (Hh5.out _ (HV4___.out.law HW.out)).mono ?_
  rintro e w5 ⟨rfl, hb⟩
  have HV5 := hide (HV4___.out.below hb)
  clear hb HV4___
  obtain ⟨c73, c74, c75, c76, c77, c78⟩ := HV5.out.at6 0 rfl
  obtain ⟨c79, c80, c81, c82, c83, c84⟩ := HV5.out.at6 1 rfl
  obtain ⟨fc79, fc80, fc81, fc82, fc83, fc84⟩ := HV5.out.fz6 1 rfl
  have HV5_ := hide (HV5.out.put6 1 rfl (.bool gc) (.string sc) (.string tc) (.bool gd) (.string sd) (.string td))
  clear HV5
  go_wp2_with fail
  clear c73 c74 c75 c76 c77 c78 c79 c80 c81 c82 c83 c84 fc79 fc80 fc81 fc82 fc83 fc84
  obtain ⟨d0, d1, d2, d3, d4, d5⟩ := HV5_.out.at6 1 rfl
  exact bodyPost_ret (v := .tuple #[.agg #[.bool gc, .string sc, .string tc, .bool gd, .string sd, .string td], .bool true]) (by simp [results, Tryz.results17, go_sem, d0, d1, d2, d3, d4, d5]) rfl ⟨rfl, HV5_.out.bel⟩
set_option maxHeartbeats 4000000 in
set_option maxRecDepth 100000 in
theorem iv_meet3ttf (ga : Bool) (sa ta : ByteArray) (gb : Bool) (sb tb : ByteArray) (gc : Bool) (sc tc : ByteArray) (gd : Bool) (sd td : ByteArray) (w : World) (h1 : IV ga sa ta gb sb tb true) (h2 : IV gc sc tc gd sd td true) (h3 : XL ga sa ta gc sc tc true) (h4 : XL gd sd td gb sb tb true) (h5 : IV gc sc tc gd sd td false) (hw : LawW w) :
    Calls Tryz.prog 17 #[.agg #[.bool ga, .string sa, .string ta, .bool gb, .string sb, .string tb], .agg #[.bool gc, .string sc, .string tc, .bool gd, .string sd, .string td]] w fun e w' => e = .returned (.tuple #[.agg #[.bool false, .string ⟨#[]⟩, .string ⟨#[]⟩, .bool false, .string ⟨#[]⟩, .string ⟨#[]⟩], .bool false]) ∧ Below w.heap.size w w' := by
  unfold IV at h1
  have Hh1 := hide h1
  unfold IV at h2
  have Hh2 := hide h2
  unfold XL at h3
  have Hh3 := hide h3
  unfold XL at h4
  have Hh4 := hide h4
  unfold IV at h5
  have Hh5 := hide h5
  have HW := hide hw
  have HV0 : Hid (VB w w []) := VB.nil w
  clear h1 h2 h3 h4 h5 hw 
  go_enter Tryz.func17, Tryz.ntmps17
  have HV0_ := hide (HV0.out.push6 (b := w.heap.size) (by simp) (.bool ga) (.string sa) (.string ta) (.bool gb) (.string sb) (.string tb) 26)
  clear HV0
  have HV0__ := hide (HV0_.out.push6 (b := w.heap.size + 1) (by simp) (.bool gc) (.string sc) (.string tc) (.bool gd) (.string sd) (.string td) 26)
  clear HV0_
  have HV0___ := hide (HV0__.out.push6 (b := w.heap.size + 2) (by simp) (.bool false) (.string ⟨#[]⟩) (.string ⟨#[]⟩) (.bool false) (.string ⟨#[]⟩) (.string ⟨#[]⟩) 26)
  clear HV0__
  obtain ⟨c1, c2, c3, c4, c5, c6⟩ := HV0___.out.at6 2 rfl
  go_wp2_with fail
  clear c1 c2 c3 c4 c5 c6
  refine (Hh1.out _ (HV0___.out.law HW.out)).mono ?_
  rintro e w1 ⟨rfl, hb⟩
  have HV1 := hide (HV0___.out.below hb)
  clear hb HV0___
  obtain ⟨c7, c8, c9, c10, c11, c12⟩ := HV1.out.at6 1 rfl
  go_wp2_with fail
  clear c7 c8 c9 c10 c11 c12
  refine (Hh2.out _ (HV1.out.law HW.out)).mono ?_
  rintro e w2 ⟨rfl, hb⟩
  have HV2 := hide (HV1.out.below hb)
  clear hb HV1
  obtain ⟨c13, c14, c15, c16, c17, c18⟩ := HV2.out.at6 2 rfl
  have HV2_ := hide (HV2.out.push6 (b := w2.heap.size) (by simp) (.bool ga) (.string sa) (.string ta) (.bool gb) (.string sb) (.string tb) 26)
  clear HV2
  obtain ⟨c19, c20, c21, c22, c23, c24⟩ := HV2_.out.at6 0 rfl
  obtain ⟨c25, c26, c27, c28, c29, c30⟩ := HV2_.out.at6 2 rfl
  go_wp2_with fail
  clear c13 c14 c15 c16 c17 c18 c19 c20 c21 c22 c23 c24 c25 c26 c27 c28 c29 c30
  refine (Hh3.out _ (HV2_.out.law HW.out)).mono ?_
  rintro e w3 ⟨rfl, hb⟩
  have HV3 := hide (HV2_.out.below hb)
  clear hb HV2_
  obtain ⟨c31, c32, c33, c34, c35, c36⟩ := HV3.out.at6 2 rfl
  obtain ⟨c37, c38, c39, c40, c41, c42⟩ := HV3.out.at6 0 rfl
  obtain ⟨fc37, fc38, fc39, fc40, fc41, fc42⟩ := HV3.out.fz6 0 rfl
  have HV3_ : Hid (VB w (w3.setCell ⟨w2.heap.size, 0, none⟩ (.bool gc)) [(w2.heap.size, [.bool gc, .string sa, .string ta, .bool gb, .string sb, .string tb]), (w.heap.size + 2, [.bool false, .string ⟨#[]⟩, .string ⟨#[]⟩, .bool false, .string ⟨#[]⟩, .string ⟨#[]⟩]), (w.heap.size + 1, [.bool gc, .string sc, .string tc, .bool gd, .string sd, .string td]), (w.heap.size, [.bool ga, .string sa, .string ta, .bool gb, .string sb, .string tb])]) := HV3.out.set 0 (show 0 < 4 by decide) 0 (show 0 < 6 by decide) (.bool gc)
  clear HV3
  have HV3__ : Hid (VB w ((w3.setCell ⟨w2.heap.size, 0, none⟩ (.bool gc)).setCell ⟨w2.heap.size, 1, none⟩ (.string sc)) [(w2.heap.size, [.bool gc, .string sc, .string ta, .bool gb, .string sb, .string tb]), (w.heap.size + 2, [.bool false, .string ⟨#[]⟩, .string ⟨#[]⟩, .bool false, .string ⟨#[]⟩, .string ⟨#[]⟩]), (w.heap.size + 1, [.bool gc, .string sc, .string tc, .bool gd, .string sd, .string td]), (w.heap.size, [.bool ga, .string sa, .string ta, .bool gb, .string sb, .string tb])]) := HV3_.out.set 0 (show 0 < 4 by decide) 1 (show 1 < 6 by decide) (.string sc)
  clear HV3_
  have HV3___ : Hid (VB w (((w3.setCell ⟨w2.heap.size, 0, none⟩ (.bool gc)).setCell ⟨w2.heap.size, 1, none⟩ (.string sc)).setCell ⟨w2.heap.size, 2, none⟩ (.string tc)) [(w2.heap.size, [.bool gc, .string sc, .string tc, .bool gb, .string sb, .string tb]), (w.heap.size + 2, [.bool false, .string ⟨#[]⟩, .string ⟨#[]⟩, .bool false, .string ⟨#[]⟩, .string ⟨#[]⟩]), (w.heap.size + 1, [.bool gc, .string sc, .string tc, .bool gd, .string sd, .string td]), (w.heap.size, [.bool ga, .string sa, .string ta, .bool gb, .string sb, .string tb])]) := HV3__.out.set 0 (show 0 < 4 by decide) 2 (show 2 < 6 by decide) (.string tc)
  clear HV3__
  obtain ⟨c43, c44, c45, c46, c47, c48⟩ := HV3___.out.at6 2 rfl
  obtain ⟨c49, c50, c51, c52, c53, c54⟩ := HV3___.out.at6 0 rfl
  go_wp2_with fail
  clear c31 c32 c33 c34 c35 c36 c37 c38 c39 c40 c41 c42 fc37 fc38 fc39 fc40 fc41 fc42 c43 c44 c45 c46 c47 c48 c49 c50 c51 c52 c53 c54
  refine (Hh4.out _ (HV3___.out.law HW.out)).mono ?_
  rintro e w4 ⟨rfl, hb⟩
  have HV4 := hide (HV3___.out.below hb)
  clear hb HV3___
  obtain ⟨c55, c56, c57, c58, c59, c60⟩ := HV4.out.at6 2 rfl
  obtain ⟨c61, c62, c63, c64, c65, c66⟩ := HV4.out.at6 0 rfl
  obtain ⟨fc61, fc62, fc63, fc64, fc65, fc66⟩ := HV4.out.fz6 0 rfl
  have HV4_ : Hid (VB w (w4.setCell ⟨w2.heap.size, 3, none⟩ (.bool gd)) [(w2.heap.size, [.bool gc, .string sc, .string tc, .bool gd, .string sb, .string tb]), (w.heap.size + 2, [.bool false, .string ⟨#[]⟩, .string ⟨#[]⟩, .bool false, .string ⟨#[]⟩, .string ⟨#[]⟩]), (w.heap.size + 1, [.bool gc, .string sc, .string tc, .bool gd, .string sd, .string td]), (w.heap.size, [.bool ga, .string sa, .string ta, .bool gb, .string sb, .string tb])]) := HV4.out.set 0 (show 0 < 4 by decide) 3 (show 3 < 6 by decide) (.bool gd)
  clear HV4
  have HV4__ : Hid (VB w ((w4.setCell ⟨w2.heap.size, 3, none⟩ (.bool gd)).setCell ⟨w2.heap.size, 4, none⟩ (.string sd)) [(w2.heap.size, [.bool gc, .string sc, .string tc, .bool gd, .string sd, .string tb]), (w.heap.size + 2, [.bool false, .string ⟨#[]⟩, .string ⟨#[]⟩, .bool false, .string ⟨#[]⟩, .string ⟨#[]⟩]), (w.heap.size + 1, [.bool gc, .string sc, .string tc, .bool gd, .string sd, .string td]), (w.heap.size, [.bool ga, .string sa, .string ta, .bool gb, .string sb, .string tb])]) := HV4_.out.set 0 (show 0 < 4 by decide) 4 (show 4 < 6 by decide) (.string sd)
  clear HV4_
  have HV4___ : Hid (VB w (((w4.setCell ⟨w2.heap.size, 3, none⟩ (.bool gd)).setCell ⟨w2.heap.size, 4, none⟩ (.string sd)).setCell ⟨w2.heap.size, 5, none⟩ (.string td)) [(w2.heap.size, [.bool gc, .string sc, .string tc, .bool gd, .string sd, .string td]), (w.heap.size + 2, [.bool false, .string ⟨#[]⟩, .string ⟨#[]⟩, .bool false, .string ⟨#[]⟩, .string ⟨#[]⟩]), (w.heap.size + 1, [.bool gc, .string sc, .string tc, .bool gd, .string sd, .string td]), (w.heap.size, [.bool ga, .string sa, .string ta, .bool gb, .string sb, .string tb])]) := HV4__.out.set 0 (show 0 < 4 by decide) 5 (show 5 < 6 by decide) (.string td)
  clear HV4__
  obtain ⟨c67, c68, c69, c70, c71, c72⟩ := HV4___.out.at6 0 rfl
  go_wp2_with fail
  clear c55 c56 c57 c58 c59 c60 c61 c62 c63 c64 c65 c66 fc61 fc62 fc63 fc64 fc65 fc66 c67 c68 c69 c70 c71 c72
  refine (Hh5.out _ (HV4___.out.law HW.out)).mono ?_
  rintro e w5 ⟨rfl, hb⟩
  have HV5 := hide (HV4___.out.below hb)
  clear hb HV4___
  obtain ⟨c73, c74, c75, c76, c77, c78⟩ := HV5.out.at6 0 rfl
  obtain ⟨c79, c80, c81, c82, c83, c84⟩ := HV5.out.at6 1 rfl
  obtain ⟨fc79, fc80, fc81, fc82, fc83, fc84⟩ := HV5.out.fz6 1 rfl
  have HV5_ := hide (HV5.out.put6 1 rfl (.bool false) (.string ⟨#[]⟩) (.string ⟨#[]⟩) (.bool false) (.string ⟨#[]⟩) (.string ⟨#[]⟩))
  clear HV5
  go_wp2_with fail
  clear c73 c74 c75 c76 c77 c78 c79 c80 c81 c82 c83 c84 fc79 fc80 fc81 fc82 fc83 fc84
  obtain ⟨d0, d1, d2, d3, d4, d5⟩ := HV5_.out.at6 1 rfl
  exact bodyPost_ret (v := .tuple #[.agg #[.bool false, .string ⟨#[]⟩, .string ⟨#[]⟩, .bool false, .string ⟨#[]⟩, .string ⟨#[]⟩], .bool false]) (by simp [results, Tryz.results17, go_sem, d0, d1, d2, d3, d4, d5]) rfl ⟨rfl, HV5_.out.bel⟩
set_option maxHeartbeats 4000000 in
set_option maxRecDepth 100000 in
theorem iv_meet3tft (ga : Bool) (sa ta : ByteArray) (gb : Bool) (sb tb : ByteArray) (gc : Bool) (sc tc : ByteArray) (gd : Bool) (sd td : ByteArray) (w : World) (h1 : IV ga sa ta gb sb tb true) (h2 : IV gc sc tc gd sd td true) (h3 : XL ga sa ta gc sc tc true) (h4 : XL gd sd td gb sb tb false) (h5 : IV gc sc tc gb sb tb true) (hw : LawW w) :
    Calls Tryz.prog 17 #[.agg #[.bool ga, .string sa, .string ta, .bool gb, .string sb, .string tb], .agg #[.bool gc, .string sc, .string tc, .bool gd, .string sd, .string td]] w fun e w' => e = .returned (.tuple #[.agg #[.bool gc, .string sc, .string tc, .bool gb, .string sb, .string tb], .bool true]) ∧ Below w.heap.size w w' := by
  unfold IV at h1
  have Hh1 := hide h1
  unfold IV at h2
  have Hh2 := hide h2
  unfold XL at h3
  have Hh3 := hide h3
  unfold XL at h4
  have Hh4 := hide h4
  unfold IV at h5
  have Hh5 := hide h5
  have HW := hide hw
  have HV0 : Hid (VB w w []) := VB.nil w
  clear h1 h2 h3 h4 h5 hw 
  go_enter Tryz.func17, Tryz.ntmps17
  have HV0_ := hide (HV0.out.push6 (b := w.heap.size) (by simp) (.bool ga) (.string sa) (.string ta) (.bool gb) (.string sb) (.string tb) 26)
  clear HV0
  have HV0__ := hide (HV0_.out.push6 (b := w.heap.size + 1) (by simp) (.bool gc) (.string sc) (.string tc) (.bool gd) (.string sd) (.string td) 26)
  clear HV0_
  have HV0___ := hide (HV0__.out.push6 (b := w.heap.size + 2) (by simp) (.bool false) (.string ⟨#[]⟩) (.string ⟨#[]⟩) (.bool false) (.string ⟨#[]⟩) (.string ⟨#[]⟩) 26)
  clear HV0__
  obtain ⟨c1, c2, c3, c4, c5, c6⟩ := HV0___.out.at6 2 rfl
  go_wp2_with fail
  clear c1 c2 c3 c4 c5 c6
  refine (Hh1.out _ (HV0___.out.law HW.out)).mono ?_
  rintro e w1 ⟨rfl, hb⟩
  have HV1 := hide (HV0___.out.below hb)
  clear hb HV0___
  obtain ⟨c7, c8, c9, c10, c11, c12⟩ := HV1.out.at6 1 rfl
  go_wp2_with fail
  clear c7 c8 c9 c10 c11 c12
  refine (Hh2.out _ (HV1.out.law HW.out)).mono ?_
  rintro e w2 ⟨rfl, hb⟩
  have HV2 := hide (HV1.out.below hb)
  clear hb HV1
  obtain ⟨c13, c14, c15, c16, c17, c18⟩ := HV2.out.at6 2 rfl
  have HV2_ := hide (HV2.out.push6 (b := w2.heap.size) (by simp) (.bool ga) (.string sa) (.string ta) (.bool gb) (.string sb) (.string tb) 26)
  clear HV2
  obtain ⟨c19, c20, c21, c22, c23, c24⟩ := HV2_.out.at6 0 rfl
  obtain ⟨c25, c26, c27, c28, c29, c30⟩ := HV2_.out.at6 2 rfl
  go_wp2_with fail
  clear c13 c14 c15 c16 c17 c18 c19 c20 c21 c22 c23 c24 c25 c26 c27 c28 c29 c30
  refine (Hh3.out _ (HV2_.out.law HW.out)).mono ?_
  rintro e w3 ⟨rfl, hb⟩
  have HV3 := hide (HV2_.out.below hb)
  clear hb HV2_
  obtain ⟨c31, c32, c33, c34, c35, c36⟩ := HV3.out.at6 2 rfl
  obtain ⟨c37, c38, c39, c40, c41, c42⟩ := HV3.out.at6 0 rfl
  obtain ⟨fc37, fc38, fc39, fc40, fc41, fc42⟩ := HV3.out.fz6 0 rfl
  have HV3_ : Hid (VB w (w3.setCell ⟨w2.heap.size, 0, none⟩ (.bool gc)) [(w2.heap.size, [.bool gc, .string sa, .string ta, .bool gb, .string sb, .string tb]), (w.heap.size + 2, [.bool false, .string ⟨#[]⟩, .string ⟨#[]⟩, .bool false, .string ⟨#[]⟩, .string ⟨#[]⟩]), (w.heap.size + 1, [.bool gc, .string sc, .string tc, .bool gd, .string sd, .string td]), (w.heap.size, [.bool ga, .string sa, .string ta, .bool gb, .string sb, .string tb])]) := HV3.out.set 0 (show 0 < 4 by decide) 0 (show 0 < 6 by decide) (.bool gc)
  clear HV3
  have HV3__ : Hid (VB w ((w3.setCell ⟨w2.heap.size, 0, none⟩ (.bool gc)).setCell ⟨w2.heap.size, 1, none⟩ (.string sc)) [(w2.heap.size, [.bool gc, .string sc, .string ta, .bool gb, .string sb, .string tb]), (w.heap.size + 2, [.bool false, .string ⟨#[]⟩, .string ⟨#[]⟩, .bool false, .string ⟨#[]⟩, .string ⟨#[]⟩]), (w.heap.size + 1, [.bool gc, .string sc, .string tc, .bool gd, .string sd, .string td]), (w.heap.size, [.bool ga, .string sa, .string ta, .bool gb, .string sb, .string tb])]) := HV3_.out.set 0 (show 0 < 4 by decide) 1 (show 1 < 6 by decide) (.string sc)
  clear HV3_
  have HV3___ : Hid (VB w (((w3.setCell ⟨w2.heap.size, 0, none⟩ (.bool gc)).setCell ⟨w2.heap.size, 1, none⟩ (.string sc)).setCell ⟨w2.heap.size, 2, none⟩ (.string tc)) [(w2.heap.size, [.bool gc, .string sc, .string tc, .bool gb, .string sb, .string tb]), (w.heap.size + 2, [.bool false, .string ⟨#[]⟩, .string ⟨#[]⟩, .bool false, .string ⟨#[]⟩, .string ⟨#[]⟩]), (w.heap.size + 1, [.bool gc, .string sc, .string tc, .bool gd, .string sd, .string td]), (w.heap.size, [.bool ga, .string sa, .string ta, .bool gb, .string sb, .string tb])]) := HV3__.out.set 0 (show 0 < 4 by decide) 2 (show 2 < 6 by decide) (.string tc)
  clear HV3__
  obtain ⟨c43, c44, c45, c46, c47, c48⟩ := HV3___.out.at6 2 rfl
  obtain ⟨c49, c50, c51, c52, c53, c54⟩ := HV3___.out.at6 0 rfl
  go_wp2_with fail
  clear c31 c32 c33 c34 c35 c36 c37 c38 c39 c40 c41 c42 fc37 fc38 fc39 fc40 fc41 fc42 c43 c44 c45 c46 c47 c48 c49 c50 c51 c52 c53 c54
  refine (Hh4.out _ (HV3___.out.law HW.out)).mono ?_
  rintro e w4 ⟨rfl, hb⟩
  have HV4 := hide (HV3___.out.below hb)
  clear hb HV3___
  obtain ⟨c55, c56, c57, c58, c59, c60⟩ := HV4.out.at6 0 rfl
  go_wp2_with fail
  clear c55 c56 c57 c58 c59 c60
  refine (Hh5.out _ (HV4.out.law HW.out)).mono ?_
  rintro e w5 ⟨rfl, hb⟩
  have HV5 := hide (HV4.out.below hb)
  clear hb HV4
  obtain ⟨c61, c62, c63, c64, c65, c66⟩ := HV5.out.at6 0 rfl
  obtain ⟨c67, c68, c69, c70, c71, c72⟩ := HV5.out.at6 1 rfl
  obtain ⟨fc67, fc68, fc69, fc70, fc71, fc72⟩ := HV5.out.fz6 1 rfl
  have HV5_ := hide (HV5.out.put6 1 rfl (.bool gc) (.string sc) (.string tc) (.bool gb) (.string sb) (.string tb))
  clear HV5
  go_wp2_with fail
  clear c61 c62 c63 c64 c65 c66 c67 c68 c69 c70 c71 c72 fc67 fc68 fc69 fc70 fc71 fc72
  obtain ⟨d0, d1, d2, d3, d4, d5⟩ := HV5_.out.at6 1 rfl
  exact bodyPost_ret (v := .tuple #[.agg #[.bool gc, .string sc, .string tc, .bool gb, .string sb, .string tb], .bool true]) (by simp [results, Tryz.results17, go_sem, d0, d1, d2, d3, d4, d5]) rfl ⟨rfl, HV5_.out.bel⟩
set_option maxHeartbeats 4000000 in
set_option maxRecDepth 100000 in
theorem iv_meet3tff (ga : Bool) (sa ta : ByteArray) (gb : Bool) (sb tb : ByteArray) (gc : Bool) (sc tc : ByteArray) (gd : Bool) (sd td : ByteArray) (w : World) (h1 : IV ga sa ta gb sb tb true) (h2 : IV gc sc tc gd sd td true) (h3 : XL ga sa ta gc sc tc true) (h4 : XL gd sd td gb sb tb false) (h5 : IV gc sc tc gb sb tb false) (hw : LawW w) :
    Calls Tryz.prog 17 #[.agg #[.bool ga, .string sa, .string ta, .bool gb, .string sb, .string tb], .agg #[.bool gc, .string sc, .string tc, .bool gd, .string sd, .string td]] w fun e w' => e = .returned (.tuple #[.agg #[.bool false, .string ⟨#[]⟩, .string ⟨#[]⟩, .bool false, .string ⟨#[]⟩, .string ⟨#[]⟩], .bool false]) ∧ Below w.heap.size w w' := by
  unfold IV at h1
  have Hh1 := hide h1
  unfold IV at h2
  have Hh2 := hide h2
  unfold XL at h3
  have Hh3 := hide h3
  unfold XL at h4
  have Hh4 := hide h4
  unfold IV at h5
  have Hh5 := hide h5
  have HW := hide hw
  have HV0 : Hid (VB w w []) := VB.nil w
  clear h1 h2 h3 h4 h5 hw 
  go_enter Tryz.func17, Tryz.ntmps17
  have HV0_ := hide (HV0.out.push6 (b := w.heap.size) (by simp) (.bool ga) (.string sa) (.string ta) (.bool gb) (.string sb) (.string tb) 26)
  clear HV0
  have HV0__ := hide (HV0_.out.push6 (b := w.heap.size + 1) (by simp) (.bool gc) (.string sc) (.string tc) (.bool gd) (.string sd) (.string td) 26)
  clear HV0_
  have HV0___ := hide (HV0__.out.push6 (b := w.heap.size + 2) (by simp) (.bool false) (.string ⟨#[]⟩) (.string ⟨#[]⟩) (.bool false) (.string ⟨#[]⟩) (.string ⟨#[]⟩) 26)
  clear HV0__
  obtain ⟨c1, c2, c3, c4, c5, c6⟩ := HV0___.out.at6 2 rfl
  go_wp2_with fail
  clear c1 c2 c3 c4 c5 c6
  refine (Hh1.out _ (HV0___.out.law HW.out)).mono ?_
  rintro e w1 ⟨rfl, hb⟩
  have HV1 := hide (HV0___.out.below hb)
  clear hb HV0___
  obtain ⟨c7, c8, c9, c10, c11, c12⟩ := HV1.out.at6 1 rfl
  go_wp2_with fail
  clear c7 c8 c9 c10 c11 c12
  refine (Hh2.out _ (HV1.out.law HW.out)).mono ?_
  rintro e w2 ⟨rfl, hb⟩
  have HV2 := hide (HV1.out.below hb)
  clear hb HV1
  obtain ⟨c13, c14, c15, c16, c17, c18⟩ := HV2.out.at6 2 rfl
  have HV2_ := hide (HV2.out.push6 (b := w2.heap.size) (by simp) (.bool ga) (.string sa) (.string ta) (.bool gb) (.string sb) (.string tb) 26)
  clear HV2
  obtain ⟨c19, c20, c21, c22, c23, c24⟩ := HV2_.out.at6 0 rfl
  obtain ⟨c25, c26, c27, c28, c29, c30⟩ := HV2_.out.at6 2 rfl
  go_wp2_with fail
  clear c13 c14 c15 c16 c17 c18 c19 c20 c21 c22 c23 c24 c25 c26 c27 c28 c29 c30
  refine (Hh3.out _ (HV2_.out.law HW.out)).mono ?_
  rintro e w3 ⟨rfl, hb⟩
  have HV3 := hide (HV2_.out.below hb)
  clear hb HV2_
  obtain ⟨c31, c32, c33, c34, c35, c36⟩ := HV3.out.at6 2 rfl
  obtain ⟨c37, c38, c39, c40, c41, c42⟩ := HV3.out.at6 0 rfl
  obtain ⟨fc37, fc38, fc39, fc40, fc41, fc42⟩ := HV3.out.fz6 0 rfl
  have HV3_ : Hid (VB w (w3.setCell ⟨w2.heap.size, 0, none⟩ (.bool gc)) [(w2.heap.size, [.bool gc, .string sa, .string ta, .bool gb, .string sb, .string tb]), (w.heap.size + 2, [.bool false, .string ⟨#[]⟩, .string ⟨#[]⟩, .bool false, .string ⟨#[]⟩, .string ⟨#[]⟩]), (w.heap.size + 1, [.bool gc, .string sc, .string tc, .bool gd, .string sd, .string td]), (w.heap.size, [.bool ga, .string sa, .string ta, .bool gb, .string sb, .string tb])]) := HV3.out.set 0 (show 0 < 4 by decide) 0 (show 0 < 6 by decide) (.bool gc)
  clear HV3
  have HV3__ : Hid (VB w ((w3.setCell ⟨w2.heap.size, 0, none⟩ (.bool gc)).setCell ⟨w2.heap.size, 1, none⟩ (.string sc)) [(w2.heap.size, [.bool gc, .string sc, .string ta, .bool gb, .string sb, .string tb]), (w.heap.size + 2, [.bool false, .string ⟨#[]⟩, .string ⟨#[]⟩, .bool false, .string ⟨#[]⟩, .string ⟨#[]⟩]), (w.heap.size + 1, [.bool gc, .string sc, .string tc, .bool gd, .string sd, .string td]), (w.heap.size, [.bool ga, .string sa, .string ta, .bool gb, .string sb, .string tb])]) := HV3_.out.set 0 (show 0 < 4 by decide) 1 (show 1 < 6 by decide) (.string sc)
  clear HV3_
  have HV3___ : Hid (VB w (((w3.setCell ⟨w2.heap.size, 0, none⟩ (.bool gc)).setCell ⟨w2.heap.size, 1, none⟩ (.string sc)).setCell ⟨w2.heap.size, 2, none⟩ (.string tc)) [(w2.heap.size, [.bool gc, .string sc, .string tc, .bool gb, .string sb, .string tb]), (w.heap.size + 2, [.bool false, .string ⟨#[]⟩, .string ⟨#[]⟩, .bool false, .string ⟨#[]⟩, .string ⟨#[]⟩]), (w.heap.size + 1, [.bool gc, .string sc, .string tc, .bool gd, .string sd, .string td]), (w.heap.size, [.bool ga, .string sa, .string ta, .bool gb, .string sb, .string tb])]) := HV3__.out.set 0 (show 0 < 4 by decide) 2 (show 2 < 6 by decide) (.string tc)
  clear HV3__
  obtain ⟨c43, c44, c45, c46, c47, c48⟩ := HV3___.out.at6 2 rfl
  obtain ⟨c49, c50, c51, c52, c53, c54⟩ := HV3___.out.at6 0 rfl
  go_wp2_with fail
  clear c31 c32 c33 c34 c35 c36 c37 c38 c39 c40 c41 c42 fc37 fc38 fc39 fc40 fc41 fc42 c43 c44 c45 c46 c47 c48 c49 c50 c51 c52 c53 c54
  refine (Hh4.out _ (HV3___.out.law HW.out)).mono ?_
  rintro e w4 ⟨rfl, hb⟩
  have HV4 := hide (HV3___.out.below hb)
  clear hb HV3___
  obtain ⟨c55, c56, c57, c58, c59, c60⟩ := HV4.out.at6 0 rfl
  go_wp2_with fail
  clear c55 c56 c57 c58 c59 c60
  refine (Hh5.out _ (HV4.out.law HW.out)).mono ?_
  rintro e w5 ⟨rfl, hb⟩
  have HV5 := hide (HV4.out.below hb)
  clear hb HV4
  obtain ⟨c61, c62, c63, c64, c65, c66⟩ := HV5.out.at6 0 rfl
  obtain ⟨c67, c68, c69, c70, c71, c72⟩ := HV5.out.at6 1 rfl
  obtain ⟨fc67, fc68, fc69, fc70, fc71, fc72⟩ := HV5.out.fz6 1 rfl
  have HV5_ := hide (HV5.out.put6 1 rfl (.bool false) (.string ⟨#[]⟩) (.string ⟨#[]⟩) (.bool false) (.string ⟨#[]⟩) (.string ⟨#[]⟩))
  clear HV5
  go_wp2_with fail
  clear c61 c62 c63 c64 c65 c66 c67 c68 c69 c70 c71 c72 fc67 fc68 fc69 fc70 fc71 fc72
  obtain ⟨d0, d1, d2, d3, d4, d5⟩ := HV5_.out.at6 1 rfl
  exact bodyPost_ret (v := .tuple #[.agg #[.bool false, .string ⟨#[]⟩, .string ⟨#[]⟩, .bool false, .string ⟨#[]⟩, .string ⟨#[]⟩], .bool false]) (by simp [results, Tryz.results17, go_sem, d0, d1, d2, d3, d4, d5]) rfl ⟨rfl, HV5_.out.bel⟩
set_option maxHeartbeats 4000000 in
set_option maxRecDepth 100000 in
theorem iv_meet3ftt (ga : Bool) (sa ta : ByteArray) (gb : Bool) (sb tb : ByteArray) (gc : Bool) (sc tc : ByteArray) (gd : Bool) (sd td : ByteArray) (w : World) (h1 : IV ga sa ta gb sb tb true) (h2 : IV gc sc tc gd sd td true) (h3 : XL ga sa ta gc sc tc false) (h4 : XL gd sd td gb sb tb true) (h5 : IV ga sa ta gd sd td true) (hw : LawW w) :
    Calls Tryz.prog 17 #[.agg #[.bool ga, .string sa, .string ta, .bool gb, .string sb, .string tb], .agg #[.bool gc, .string sc, .string tc, .bool gd, .string sd, .string td]] w fun e w' => e = .returned (.tuple #[.agg #[.bool ga, .string sa, .string ta, .bool gd, .string sd, .string td], .bool true]) ∧ Below w.heap.size w w' := by
  unfold IV at h1
  have Hh1 := hide h1
  unfold IV at h2
  have Hh2 := hide h2
  unfold XL at h3
  have Hh3 := hide h3
  unfold XL at h4
  have Hh4 := hide h4
  unfold IV at h5
  have Hh5 := hide h5
  have HW := hide hw
  have HV0 : Hid (VB w w []) := VB.nil w
  clear h1 h2 h3 h4 h5 hw 
  go_enter Tryz.func17, Tryz.ntmps17
  have HV0_ := hide (HV0.out.push6 (b := w.heap.size) (by simp) (.bool ga) (.string sa) (.string ta) (.bool gb) (.string sb) (.string tb) 26)
  clear HV0
  have HV0__ := hide (HV0_.out.push6 (b := w.heap.size + 1) (by simp) (.bool gc) (.string sc) (.string tc) (.bool gd) (.string sd) (.string td) 26)
  clear HV0_
  have HV0___ := hide (HV0__.out.push6 (b := w.heap.size + 2) (by simp) (.bool false) (.string ⟨#[]⟩) (.string ⟨#[]⟩) (.bool false) (.string ⟨#[]⟩) (.string ⟨#[]⟩) 26)
  clear HV0__
  obtain ⟨c1, c2, c3, c4, c5, c6⟩ := HV0___.out.at6 2 rfl
  go_wp2_with fail
  clear c1 c2 c3 c4 c5 c6
  refine (Hh1.out _ (HV0___.out.law HW.out)).mono ?_
  rintro e w1 ⟨rfl, hb⟩
  have HV1 := hide (HV0___.out.below hb)
  clear hb HV0___
  obtain ⟨c7, c8, c9, c10, c11, c12⟩ := HV1.out.at6 1 rfl
  go_wp2_with fail
  clear c7 c8 c9 c10 c11 c12
  refine (Hh2.out _ (HV1.out.law HW.out)).mono ?_
  rintro e w2 ⟨rfl, hb⟩
  have HV2 := hide (HV1.out.below hb)
  clear hb HV1
  obtain ⟨c13, c14, c15, c16, c17, c18⟩ := HV2.out.at6 2 rfl
  have HV2_ := hide (HV2.out.push6 (b := w2.heap.size) (by simp) (.bool ga) (.string sa) (.string ta) (.bool gb) (.string sb) (.string tb) 26)
  clear HV2
  obtain ⟨c19, c20, c21, c22, c23, c24⟩ := HV2_.out.at6 0 rfl
  obtain ⟨c25, c26, c27, c28, c29, c30⟩ := HV2_.out.at6 2 rfl
  go_wp2_with fail
  clear c13 c14 c15 c16 c17 c18 c19 c20 c21 c22 c23 c24 c25 c26 c27 c28 c29 c30
  refine (Hh3.out _ (HV2_.out.law HW.out)).mono ?_
  rintro e w3 ⟨rfl, hb⟩
  have HV3 := hide (HV2_.out.below hb)
  clear hb HV2_
  obtain ⟨c31, c32, c33, c34, c35, c36⟩ := HV3.out.at6 2 rfl
  obtain ⟨c37, c38, c39, c40, c41, c42⟩ := HV3.out.at6 0 rfl
  go_wp2_with fail
  clear c31 c32 c33 c34 c35 c36 c37 c38 c39 c40 c41 c42
  refine (Hh4.out _ (HV3.out.law HW.out)).mono ?_
  rintro e w4 ⟨rfl, hb⟩
  have HV4 := hide (HV3.out.below hb)
  clear hb HV3
  obtain ⟨c43, c44, c45, c46, c47, c48⟩ := HV4.out.at6 2 rfl
  obtain ⟨c49, c50, c51, c52, c53, c54⟩ := HV4.out.at6 0 rfl
  obtain ⟨fc49, fc50, fc51, fc52, fc53, fc54⟩ := HV4.out.fz6 0 rfl
  have HV4_ : Hid (VB w (w4.setCell ⟨w2.heap.size, 3, none⟩ (.bool gd)) [(w2.heap.size, [.bool ga, .string sa, .string ta, .bool gd, .string sb, .string tb]), (w.heap.size + 2, [.bool false, .string ⟨#[]⟩, .string ⟨#[]⟩, .bool false, .string ⟨#[]⟩, .string ⟨#[]⟩]), (w.heap.size + 1, [.bool gc, .string sc, .string tc, .bool gd, .string sd, .string td]), (w.heap.size, [.bool ga, .string sa, .string ta, .bool gb, .string sb, .string tb])]) := HV4.out.set 0 (show 0 < 4 by decide) 3 (show 3 < 6 by decide) (.bool gd)
  clear HV4
  have HV4__ : Hid (VB w ((w4.setCell ⟨w2.heap.size, 3, none⟩ (.bool gd)).setCell ⟨w2.heap.size, 4, none⟩ (.string sd)) [(w2.heap.size, [.bool ga, .string sa, .string ta, .bool gd, .string sd, .string tb]), (w.heap.size + 2, [.bool false, .string ⟨#[]⟩, .string ⟨#[]⟩, .bool false, .string ⟨#[]⟩, .string ⟨#[]⟩]), (w.heap.size + 1, [.bool gc, .string sc, .string tc, .bool gd, .string sd, .string td]), (w.heap.size, [.bool ga, .string sa, .string ta, .bool gb, .string sb, .string tb])]) := HV4_.out.set 0 (show 0 < 4 by decide) 4 (show 4 < 6 by decide) (.string sd)
  clear HV4_
  have HV4___ : Hid (VB w (((w4.setCell ⟨w2.heap.size, 3, none⟩ (.bool gd)).setCell ⟨w2.heap.size, 4, none⟩ (.string sd)).setCell ⟨w2.heap.size, 5, none⟩ (.string td)) [(w2.heap.size, [.bool ga, .string sa, .string ta, .bool gd, .string sd, .string td]), (w.heap.size + 2, [.bool false, .string ⟨#[]⟩, .string ⟨#[]⟩, .bool false, .string ⟨#[]⟩, .string ⟨#[]⟩]), (w.heap.size + 1, [.bool gc, .string sc, .string tc, .bool gd, .string sd, .string td]), (w.heap.size, [.bool ga, .string sa, .string ta, .bool gb, .string sb, .string tb])]) := HV4__.out.set 0 (show 0 < 4 by decide) 5 (show 5 < 6 by decide) (.string td)
  clear HV4__
  obtain ⟨c55, c56, c57, c58, c59, c60⟩ := HV4___.out.at6 0 rfl
  go_wp2_with fail
  clear c43 c44 c45 c46 c47 c48 c49 c50 c51 c52 c53 c54 fc49 fc50 fc51 fc52 fc53 fc54 c55 c56 c57 c58 c59 c60
  refine (Hh5.out _ (HV4___.out.law HW.out)).mono ?_
  rintro e w5 ⟨rfl, hb⟩
  have HV5 := hide (HV4___.out.below hb)
  clear hb HV4___
  obtain ⟨c61, c62, c63, c64, c65, c66⟩ := HV5.out.at6 0 rfl
  obtain ⟨c67, c68, c69, c70, c71, c72⟩ := HV5.out.at6 1 rfl
  obtain ⟨fc67, fc68, fc69, fc70, fc71, fc72⟩ := HV5.out.fz6 1 rfl
  have HV5_ := hide (HV5.out.put6 1 rfl (.bool ga) (.string sa) (.string ta) (.bool gd) (.string sd) (.string td))
  clear HV5
  go_wp2_with fail
  clear c61 c62 c63 c64 c65 c66 c67 c68 c69 c70 c71 c72 fc67 fc68 fc69 fc70 fc71 fc72
  obtain ⟨d0, d1, d2, d3, d4, d5⟩ := HV5_.out.at6 1 rfl
  exact bodyPost_ret (v := .tuple #[.agg #[.bool ga, .string sa, .string ta, .bool gd, .string sd, .string td], .bool true]) (by simp [results, Tryz.results17, go_sem, d0, d1, d2, d3, d4, d5]) rfl ⟨rfl, HV5_.out.bel⟩
set_option maxHeartbeats 4000000 in
set_option maxRecDepth 100000 in
theorem iv_meet3ftf (ga : Bool) (sa ta : ByteArray) (gb : Bool) (sb tb : ByteArray) (gc : Bool) (sc tc : ByteArray) (gd : Bool) (sd td : ByteArray) (w : World) (h1 : IV ga sa ta gb sb tb true) (h2 : IV gc sc tc gd sd td true) (h3 : XL ga sa ta gc sc tc false) (h4 : XL gd sd td gb sb tb true) (h5 : IV ga sa ta gd sd td false) (hw : LawW w) :
    Calls Tryz.prog 17 #[.agg #[.bool ga, .string sa, .string ta, .bool gb, .string sb, .string tb], .agg #[.bool gc, .string sc, .string tc, .bool gd, .string sd, .string td]] w fun e w' => e = .returned (.tuple #[.agg #[.bool false, .string ⟨#[]⟩, .string ⟨#[]⟩, .bool false, .string ⟨#[]⟩, .string ⟨#[]⟩], .bool false]) ∧ Below w.heap.size w w' := by
  unfold IV at h1
  have Hh1 := hide h1
  unfold IV at h2
  have Hh2 := hide h2
  unfold XL at h3
  have Hh3 := hide h3
  unfold XL at h4
  have Hh4 := hide h4
  unfold IV at h5
  have Hh5 := hide h5
  have HW := hide hw
  have HV0 : Hid (VB w w []) := VB.nil w
  clear h1 h2 h3 h4 h5 hw 
  go_enter Tryz.func17, Tryz.ntmps17
  have HV0_ := hide (HV0.out.push6 (b := w.heap.size) (by simp) (.bool ga) (.string sa) (.string ta) (.bool gb) (.string sb) (.string tb) 26)
  clear HV0
  have HV0__ := hide (HV0_.out.push6 (b := w.heap.size + 1) (by simp) (.bool gc) (.string sc) (.string tc) (.bool gd) (.string sd) (.string td) 26)
  clear HV0_
  have HV0___ := hide (HV0__.out.push6 (b := w.heap.size + 2) (by simp) (.bool false) (.string ⟨#[]⟩) (.string ⟨#[]⟩) (.bool false) (.string ⟨#[]⟩) (.string ⟨#[]⟩) 26)
  clear HV0__
  obtain ⟨c1, c2, c3, c4, c5, c6⟩ := HV0___.out.at6 2 rfl
  go_wp2_with fail
  clear c1 c2 c3 c4 c5 c6
  refine (Hh1.out _ (HV0___.out.law HW.out)).mono ?_
  rintro e w1 ⟨rfl, hb⟩
  have HV1 := hide (HV0___.out.below hb)
  clear hb HV0___
  obtain ⟨c7, c8, c9, c10, c11, c12⟩ := HV1.out.at6 1 rfl
  go_wp2_with fail
  clear c7 c8 c9 c10 c11 c12
  refine (Hh2.out _ (HV1.out.law HW.out)).mono ?_
  rintro e w2 ⟨rfl, hb⟩
  have HV2 := hide (HV1.out.below hb)
  clear hb HV1
  obtain ⟨c13, c14, c15, c16, c17, c18⟩ := HV2.out.at6 2 rfl
  have HV2_ := hide (HV2.out.push6 (b := w2.heap.size) (by simp) (.bool ga) (.string sa) (.string ta) (.bool gb) (.string sb) (.string tb) 26)
  clear HV2
  obtain ⟨c19, c20, c21, c22, c23, c24⟩ := HV2_.out.at6 0 rfl
  obtain ⟨c25, c26, c27, c28, c29, c30⟩ := HV2_.out.at6 2 rfl
  go_wp2_with fail
  clear c13 c14 c15 c16 c17 c18 c19 c20 c21 c22 c23 c24 c25 c26 c27 c28 c29 c30
  refine (Hh3.out _ (HV2_.out.law HW.out)).mono ?_
  rintro e w3 ⟨rfl, hb⟩
  have HV3 := hide (HV2_.out.below hb)
  clear hb HV2_
  obtain ⟨c31, c32, c33, c34, c35, c36⟩ := HV3.out.at6 2 rfl
  obtain ⟨c37, c38, c39, c40, c41, c42⟩ := HV3.out.at6 0 rfl
  go_wp2_with fail
  clear c31 c32 c33 c34 c35 c36 c37 c38 c39 c40 c41 c42
  refine (Hh4.out _ (HV3.out.law HW.out)).mono ?_
  rintro e w4 ⟨rfl, hb⟩
  have HV4 := hide (HV3.out.below hb)
  clear hb HV3
  obtain ⟨c43, c44, c45, c46, c47, c48⟩ := HV4.out.at6 2 rfl
  obtain ⟨c49, c50, c51, c52, c53, c54⟩ := HV4.out.at6 0 rfl
  obtain ⟨fc49, fc50, fc51, fc52, fc53, fc54⟩ := HV4.out.fz6 0 rfl
  have HV4_ : Hid (VB w (w4.setCell ⟨w2.heap.size, 3, none⟩ (.bool gd)) [(w2.heap.size, [.bool ga, .string sa, .string ta, .bool gd, .string sb, .string tb]), (w.heap.size + 2, [.bool false, .string ⟨#[]⟩, .string ⟨#[]⟩, .bool false, .string ⟨#[]⟩, .string ⟨#[]⟩]), (w.heap.size + 1, [.bool gc, .string sc, .string tc, .bool gd, .string sd, .string td]), (w.heap.size, [.bool ga, .string sa, .string ta, .bool gb, .string sb, .string tb])]) := HV4.out.set 0 (show 0 < 4 by decide) 3 (show 3 < 6 by decide) (.bool gd)
  clear HV4
  have HV4__ : Hid (VB w ((w4.setCell ⟨w2.heap.size, 3, none⟩ (.bool gd)).setCell ⟨w2.heap.size, 4, none⟩ (.string sd)) [(w2.heap.size, [.bool ga, .string sa, .string ta, .bool gd, .string sd, .string tb]), (w.heap.size + 2, [.bool false, .string ⟨#[]⟩, .string ⟨#[]⟩, .bool false, .string ⟨#[]⟩, .string ⟨#[]⟩]), (w.heap.size + 1, [.bool gc, .string sc, .string tc, .bool gd, .string sd, .string td]), (w.heap.size, [.bool ga, .string sa, .string ta, .bool gb, .string sb, .string tb])]) := HV4_.out.set 0 (show 0 < 4 by decide) 4 (show 4 < 6 by decide) (.string sd)
  clear HV4_
  have HV4___ : Hid (VB w (((w4.setCell ⟨w2.heap.size, 3, none⟩ (.bool gd)).setCell ⟨w2.heap.size, 4, none⟩ (.string sd)).setCell ⟨w2.heap.size, 5, none⟩ (.string td)) [(w2.heap.size, [.bool ga, .string sa, .string ta, .bool gd, .string sd, .string td]), (w.heap.size + 2, [.bool false, .string ⟨#[]⟩, .string ⟨#[]⟩, .bool false, .string ⟨#[]⟩, .string ⟨#[]⟩]), (w.heap.size + 1, [.bool gc, .string sc, .string tc, .bool gd, .string sd, .string td]), (w.heap.size, [.bool ga, .string sa, .string ta, .bool gb, .string sb, .string tb])]) := HV4__.out.set 0 (show 0 < 4 by decide) 5 (show 5 < 6 by decide) (.string td)
  clear HV4__
  obtain ⟨c55, c56, c57, c58, c59, c60⟩ := HV4___.out.at6 0 rfl
  go_wp2_with fail
  clear c43 c44 c45 c46 c47 c48 c49 c50 c51 c52 c53 c54 fc49 fc50 fc51 fc52 fc53 fc54 c55 c56 c57 c58 c59 c60
  refine (Hh5.out _ (HV4___.out.law HW.out)).mono ?_
  rintro e w5 ⟨rfl, hb⟩
  have HV5 := hide (HV4___.out.below hb)
  clear hb HV4___
  obtain ⟨c61, c62, c63, c64, c65, c66⟩ := HV5.out.at6 0 rfl
  obtain ⟨c67, c68, c69, c70, c71, c72⟩ := HV5.out.at6 1 rfl
  obtain ⟨fc67, fc68, fc69, fc70, fc71, fc72⟩ := HV5.out.fz6 1 rfl
  have HV5_ := hide (HV5.out.put6 1 rfl (.bool false) (.string ⟨#[]⟩) (.string ⟨#[]⟩) (.bool false) (.string ⟨#[]⟩) (.string ⟨#[]⟩))
  clear HV5
  go_wp2_with fail
  clear c61 c62 c63 c64 c65 c66 c67 c68 c69 c70 c71 c72 fc67 fc68 fc69 fc70 fc71 fc72
  obtain ⟨d0, d1, d2, d3, d4, d5⟩ := HV5_.out.at6 1 rfl
  exact bodyPost_ret (v := .tuple #[.agg #[.bool false, .string ⟨#[]⟩, .string ⟨#[]⟩, .bool false, .string ⟨#[]⟩, .string ⟨#[]⟩], .bool false]) (by simp [results, Tryz.results17, go_sem, d0, d1, d2, d3, d4, d5]) rfl ⟨rfl, HV5_.out.bel⟩
set_option maxHeartbeats 4000000 in
set_option maxRecDepth 100000 in
theorem iv_meet3fft (ga : Bool) (sa ta : ByteArray) (gb : Bool) (sb tb : ByteArray) (gc : Bool) (sc tc : ByteArray) (gd : Bool) (sd td : ByteArray) (w : World) (h1 : IV ga sa ta gb sb tb true) (h2 : IV gc sc tc gd sd td true) (h3 : XL ga sa ta gc sc tc false) (h4 : XL gd sd td gb sb tb false) (h5 : IV ga sa ta gb sb tb true) (hw : LawW w) :
    Calls Tryz.prog 17 #[.agg #[.bool ga, .string sa, .string ta, .bool gb, .string sb, .string tb], .agg #[.bool gc, .string sc, .string tc, .bool gd, .string sd, .string td]] w fun e w' => e = .returned (.tuple #[.agg #[.bool ga, .string sa, .string ta, .bool gb, .string sb, .string tb], .bool true]) ∧ Below w.heap.size w w' := by
  unfold IV at h1
  have Hh1 := hide h1
  unfold IV at h2
  have Hh2 := hide h2
  unfold XL at h3
  have Hh3 := hide h3
  unfold XL at h4
  have Hh4 := hide h4
  unfold IV at h5
  have Hh5 := hide h5
  have HW := hide hw
  have HV0 : Hid (VB w w []) := VB.nil w
  clear h1 h2 h3 h4 h5 hw 
  go_enter Tryz.func17, Tryz.ntmps17
  have HV0_ := hide (HV0.out.push6 (b := w.heap.size) (by simp) (.bool ga) (.string sa) (.string ta) (.bool gb) (.string sb) (.string tb) 26)
  clear HV0
  have HV0__ := hide (HV0_.out.push6 (b := w.heap.size + 1) (by simp) (.bool gc) (.string sc) (.string tc) (.bool gd) (.string sd) (.string td) 26)
  clear HV0_
  have HV0___ := hide (HV0__.out.push6 (b := w.heap.size + 2) (by simp) (.bool false) (.string ⟨#[]⟩) (.string ⟨#[]⟩) (.bool false) (.string ⟨#[]⟩) (.string ⟨#[]⟩) 26)
  clear HV0__
  obtain ⟨c1, c2, c3, c4, c5, c6⟩ := HV0___.out.at6 2 rfl
  go_wp2_with fail
  clear c1 c2 c3 c4 c5 c6
  refine (Hh1.out _ (HV0___.out.law HW.out)).mono ?_
  rintro e w1 ⟨rfl, hb⟩
  have HV1 := hide (HV0___.out.below hb)
  clear hb HV0___
  obtain ⟨c7, c8, c9, c10, c11, c12⟩ := HV1.out.at6 1 rfl
  go_wp2_with fail
  clear c7 c8 c9 c10 c11 c12
  refine (Hh2.out _ (HV1.out.law HW.out)).mono ?_
  rintro e w2 ⟨rfl, hb⟩
  have HV2 := hide (HV1.out.below hb)
  clear hb HV1
  obtain ⟨c13, c14, c15, c16, c17, c18⟩ := HV2.out.at6 2 rfl
  have HV2_ := hide (HV2.out.push6 (b := w2.heap.size) (by simp) (.bool ga) (.string sa) (.string ta) (.bool gb) (.string sb) (.string tb) 26)
  clear HV2
  obtain ⟨c19, c20, c21, c22, c23, c24⟩ := HV2_.out.at6 0 rfl
  obtain ⟨c25, c26, c27, c28, c29, c30⟩ := HV2_.out.at6 2 rfl
  go_wp2_with fail
  clear c13 c14 c15 c16 c17 c18 c19 c20 c21 c22 c23 c24 c25 c26 c27 c28 c29 c30
  refine (Hh3.out _ (HV2_.out.law HW.out)).mono ?_
  rintro e w3 ⟨rfl, hb⟩
  have HV3 := hide (HV2_.out.below hb)
  clear hb HV2_
  obtain ⟨c31, c32, c33, c34, c35, c36⟩ := HV3.out.at6 2 rfl
  obtain ⟨c37, c38, c39, c40, c41, c42⟩ := HV3.out.at6 0 rfl
  go_wp2_with fail
  clear c31 c32 c33 c34 c35 c36 c37 c38 c39 c40 c41 c42
  refine (Hh4.out _ (HV3.out.law HW.out)).mono ?_
  rintro e w4 ⟨rfl, hb⟩
  have HV4 := hide (HV3.out.below hb)
  clear hb HV3
  obtain ⟨c43, c44, c45, c46, c47, c48⟩ := HV4.out.at6 0 rfl
  go_wp2_with fail
  clear c43 c44 c45 c46 c47 c48
  refine (Hh5.out _ (HV4.out.law HW.out)).mono ?_
  rintro e w5 ⟨rfl, hb⟩
  have HV5 := hide (HV4.out.below hb)
  clear hb HV4
  obtain ⟨c49, c50, c51, c52, c53, c54⟩ := HV5.out.at6 0 rfl
  obtain ⟨c55, c56, c57, c58, c59, c60⟩ := HV5.out.at6 1 rfl
  obtain ⟨fc55, fc56, fc57, fc58, fc59, fc60⟩ := HV5.out.fz6 1 rfl
  have HV5_ := hide (HV5.out.put6 1 rfl (.bool ga) (.string sa) (.string ta) (.bool gb) (.string sb) (.string tb))
  clear HV5
  go_wp2_with fail
  clear c49 c50 c51 c52 c53 c54 c55 c56 c57 c58 c59 c60 fc55 fc56 fc57 fc58 fc59 fc60
  obtain ⟨d0, d1, d2, d3, d4, d5⟩ := HV5_.out.at6 1 rfl
  exact bodyPost_ret (v := .tuple #[.agg #[.bool ga, .string sa, .string ta, .bool gb, .string sb, .string tb], .bool true]) (by simp [results, Tryz.results17, go_sem, d0, d1, d2, d3, d4, d5]) rfl ⟨rfl, HV5_.out.bel⟩
set_option maxHeartbeats 4000000 in
set_option maxRecDepth 100000 in
theorem iv_meet3fff (ga : Bool) (sa ta : ByteArray) (gb : Bool) (sb tb : ByteArray) (gc : Bool) (sc tc : ByteArray) (gd : Bool) (sd td : ByteArray) (w : World) (h1 : IV ga sa ta gb sb tb true) (h2 : IV gc sc tc gd sd td true) (h3 : XL ga sa ta gc sc tc false) (h4 : XL gd sd td gb sb tb false) (h5 : IV ga sa ta gb sb tb false) (hw : LawW w) :
    Calls Tryz.prog 17 #[.agg #[.bool ga, .string sa, .string ta, .bool gb, .string sb, .string tb], .agg #[.bool gc, .string sc, .string tc, .bool gd, .string sd, .string td]] w fun e w' => e = .returned (.tuple #[.agg #[.bool false, .string ⟨#[]⟩, .string ⟨#[]⟩, .bool false, .string ⟨#[]⟩, .string ⟨#[]⟩], .bool false]) ∧ Below w.heap.size w w' := by
  unfold IV at h1
  have Hh1 := hide h1
  unfold IV at h2
  have Hh2 := hide h2
  unfold XL at h3
  have Hh3 := hide h3
  unfold XL at h4
  have Hh4 := hide h4
  unfold IV at h5
  have Hh5 := hide h5
  have HW := hide hw
  have HV0 : Hid (VB w w []) := VB.nil w
  clear h1 h2 h3 h4 h5 hw 
  go_enter Tryz.func17, Tryz.ntmps17
  have HV0_ := hide (HV0.out.push6 (b := w.heap.size) (by simp) (.bool ga) (.string sa) (.string ta) (.bool gb) (.string sb) (.string tb) 26)
  clear HV0
  have HV0__ := hide (HV0_.out.push6 (b := w.heap.size + 1) (by simp) (.bool gc) (.string sc) (.string tc) (.bool gd) (.string sd) (.string td) 26)
  clear HV0_
  have HV0___ := hide (HV0__.out.push6 (b := w.heap.size + 2) (by simp) (.bool false) (.string ⟨#[]⟩) (.string ⟨#[]⟩) (.bool false) (.string ⟨#[]⟩) (.string ⟨#[]⟩) 26)
  clear HV0__
  obtain ⟨c1, c2, c3, c4, c5, c6⟩ := HV0___.out.at6 2 rfl
  go_wp2_with fail
  clear c1 c2 c3 c4 c5 c6
  refine (Hh1.out _ (HV0___.out.law HW.out)).mono ?_
  rintro e w1 ⟨rfl, hb⟩
  have HV1 := hide (HV0___.out.below hb)
  clear hb HV0___
  obtain ⟨c7, c8, c9, c10, c11, c12⟩ := HV1.out.at6 1 rfl
  go_wp2_with fail
  clear c7 c8 c9 c10 c11 c12
  refine (Hh2.out _ (HV1.out.law HW.out)).mono ?_
  rintro e w2 ⟨rfl, hb⟩
  have HV2 := hide (HV1.out.below hb)
  clear hb HV1
  obtain ⟨c13, c14, c15, c16, c17, c18⟩ := HV2.out.at6 2 rfl
  have HV2_ := hide (HV2.out.push6 (b := w2.heap.size) (by simp) (.bool ga) (.string sa) (.string ta) (.bool gb) (.string sb) (.string tb) 26)
  clear HV2
  obtain ⟨c19, c20, c21, c22, c23, c24⟩ := HV2_.out.at6 0 rfl
  obtain ⟨c25, c26, c27, c28, c29, c30⟩ := HV2_.out.at6 2 rfl
  go_wp2_with fail
  clear c13 c14 c15 c16 c17 c18 c19 c20 c21 c22 c23 c24 c25 c26 c27 c28 c29 c30
  refine (Hh3.out _ (HV2_.out.law HW.out)).mono ?_
  rintro e w3 ⟨rfl, hb⟩
  have HV3 := hide (HV2_.out.below hb)
  clear hb HV2_
  obtain ⟨c31, c32, c33, c34, c35, c36⟩ := HV3.out.at6 2 rfl
  obtain ⟨c37, c38, c39, c40, c41, c42⟩ := HV3.out.at6 0 rfl
  go_wp2_with fail
  clear c31 c32 c33 c34 c35 c36 c37 c38 c39 c40 c41 c42
  refine (Hh4.out _ (HV3.out.law HW.out)).mono ?_
  rintro e w4 ⟨rfl, hb⟩
  have HV4 := hide (HV3.out.below hb)
  clear hb HV3
  obtain ⟨c43, c44, c45, c46, c47, c48⟩ := HV4.out.at6 0 rfl
  go_wp2_with fail
  clear c43 c44 c45 c46 c47 c48
  refine (Hh5.out _ (HV4.out.law HW.out)).mono ?_
  rintro e w5 ⟨rfl, hb⟩
  have HV5 := hide (HV4.out.below hb)
  clear hb HV4
  obtain ⟨c49, c50, c51, c52, c53, c54⟩ := HV5.out.at6 0 rfl
  obtain ⟨c55, c56, c57, c58, c59, c60⟩ := HV5.out.at6 1 rfl
  obtain ⟨fc55, fc56, fc57, fc58, fc59, fc60⟩ := HV5.out.fz6 1 rfl
  have HV5_ := hide (HV5.out.put6 1 rfl (.bool false) (.string ⟨#[]⟩) (.string ⟨#[]⟩) (.bool false) (.string ⟨#[]⟩) (.string ⟨#[]⟩))
  clear HV5
  go_wp2_with fail
  clear c49 c50 c51 c52 c53 c54 c55 c56 c57 c58 c59 c60 fc55 fc56 fc57 fc58 fc59 fc60
  obtain ⟨d0, d1, d2, d3, d4, d5⟩ := HV5_.out.at6 1 rfl
  exact bodyPost_ret (v := .tuple #[.agg #[.bool false, .string ⟨#[]⟩, .string ⟨#[]⟩, .bool false, .string ⟨#[]⟩, .string ⟨#[]⟩], .bool false]) (by simp [results, Tryz.results17, go_sem, d0, d1, d2, d3, d4, d5]) rfl ⟨rfl, HV5_.out.bel⟩
end Go.Proofs.YtbojlmnajndleaaGreatDoor
/- interval: least, span. -/
namespace Go.Proofs.YtbojlmnajndleaaGreatDoor
open Go.RowKit Go.Sort

def XR (K : FuncId) (x y : Bool × ByteArray × ByteArray) (b : Bool) : Prop := ∀ W, LawW W → Calls Tryz.prog K #[.agg #[.bool x.1, .string x.2.1, .string x.2.2], .agg #[.bool y.1, .string y.2.1, .string y.2.2]] W fun e w' => e = .returned (.bool b) ∧ Below W.heap.size W w'
theorem VB.tail {w W : World} {L : List (Nat × List Value)} {x : Nat × List Value} (h : VB w W (x :: L)) : VB w W L :=
  ⟨h.bel, fun y hy => h.all y (List.mem_cons_of_mem _ hy), fun y hy => h.lt y (List.mem_cons_of_mem _ hy), fun y hy => h.lo y (List.mem_cons_of_mem _ hy), (List.pairwise_cons.1 h.ord).2⟩
/-- A function that compares two numbers of a list. -/
def XF (K : FuncId) (l : List (Bool × ByteArray × ByteArray)) (R : Bool × ByteArray × ByteArray → Bool × ByteArray × ByteArray → Bool) : Prop := ∀ x ∈ l, ∀ y ∈ l, XR K x y (R x y)
/-- Element x is one of the first k of a list, and none of them comes before it. -/
def LeastI (R : Bool × ByteArray × ByteArray → Bool × ByteArray × ByteArray → Bool) (l : List (Bool × ByteArray × ByteArray)) (k : Nat) (x : Bool × ByteArray × ByteArray) : Prop := ∃ j, ∃ (h : j < l.length), j < k ∧ l[j] = x ∧ ∀ i (hi : i < l.length), i < k → R l[i] x = false
theorem q3 {w : World} {b off : Nat} {l : List (Bool × ByteArray × ByteArray)} (h : ∀ i (h : i < l.length) j u, (vQ l[i])[j]? = some u → w.cell? ⟨b, off + i * 3 + j, none⟩ = some u) {k : Nat} (hk : k < l.length) {x : Bool × ByteArray × ByteArray} (e : l[k] = x) :
    w.cell? ⟨b, off + k * 3, none⟩ = some (.bool x.1) ∧ w.cell? ⟨b, off + k * 3 + 1, none⟩ = some (.string x.2.1) ∧ w.cell? ⟨b, off + k * 3 + 2, none⟩ = some (.string x.2.2) := by
  subst e
  exact ⟨h k hk 0 _ rfl, h k hk 1 _ rfl, h k hk 2 _ rfl⟩
theorem LeastI.keep {R : Bool × ByteArray × ByteArray → Bool × ByteArray × ByteArray → Bool} {l : List (Bool × ByteArray × ByteArray)} {k : Nat} {x y : Bool × ByteArray × ByteArray} (h : LeastI R l (k + 1) x) (hk : k + 1 < l.length) (e : l[k + 1] = y) (hr : R y x = false) : LeastI R l (k + 2) x := by
  obtain ⟨j, hj, h1, h2, h3⟩ := h
  refine ⟨j, hj, by omega, h2, fun i hi hik => ?_⟩
  by_cases hi2 : i = k + 1
  · subst hi2; rw [e]; exact hr
  · exact h3 i hi (by omega)
theorem LeastI.take {R : Bool × ByteArray × ByteArray → Bool × ByteArray × ByteArray → Bool} {l : List (Bool × ByteArray × ByteArray)} {k : Nat} {x y : Bool × ByteArray × ByteArray} (h : LeastI R l (k + 1) x) (hk : k + 1 < l.length) (e : l[k + 1] = y) (hr : R y x = true)
    (ht : ∀ x ∈ l, ∀ y ∈ l, ∀ z ∈ l, R x y = false → R z y = true → R x z = false) (hs : ∀ x ∈ l, R x x = false) : LeastI R l (k + 2) y := by
  obtain ⟨j, hj, h1, h2, h3⟩ := h
  have hx : x ∈ l := by rw [← h2]; exact List.getElem_mem hj
  have hy : y ∈ l := by rw [← e]; exact List.getElem_mem hk
  refine ⟨k + 1, hk, by omega, e, fun i hi hik => ?_⟩
  by_cases hi2 : i = k + 1
  · subst hi2; rw [e]; exact hs y hy
  · exact ht _ (List.getElem_mem hi) _ hx _ hy (h3 i hi (by omega)) hr

set_option maxHeartbeats 8000000 in
set_option maxRecDepth 100000 in
theorem iv_least_less (l : List (Bool × ByteArray × ByteArray)) (v : Value) (R : Bool × ByteArray × ByteArray → Bool × ByteArray × ByteArray → Bool) (w : World) (hv : SliceOf vQ 3 w v l) (h0 : 0 < l.length) (hl : l.length ≤ 3000) (hu : XF 35 l R)
    (ht : ∀ x ∈ l, ∀ y ∈ l, ∀ z ∈ l, R x y = false → R z y = true → R x z = false) (hr : ∀ x ∈ l, R x x = false) (hw : LawW w) :
    Calls Tryz.prog 53 #[v, .func (.func 35) #[] #[]] w fun e w' => ∃ g s t, e = .returned (.agg #[.bool g, .string s, .string t]) ∧ LeastI R l l.length (g, s, t) ∧ Below w.heap.size w w' := by
  have hv' := hv.below (bAlloc (Below.refl w.heap.size w) (.cells #[.bool false, .string ⟨#[]⟩, .string ⟨#[]⟩] 24))
  obtain ⟨b, off, cap, rfl, hb, hlc, hcm, hc⟩ := hv.some_of_pos h0
  obtain ⟨b', off', cap', hve, hb', hlc', hcm', hc'⟩ := hv'.some_of_pos h0
  simp only [Value.slice.injEq, Option.some.injEq, Addr.mk.injEq, and_true, true_and] at hve
  obtain ⟨⟨rfl, rfl⟩, rfl⟩ := hve
  obtain ⟨x0, hx0⟩ : ∃ x, l[0] = x := ⟨_, rfl⟩
  have hc0 := q3 hc' h0 hx0
  rw [Nat.zero_mul, Nat.add_zero] at hc0
  obtain ⟨g0, s0, t0⟩ := x0
  obtain ⟨a0, a1, a2⟩ := hc0
  have HC := hide hc
  have HX0 := hide hx0
  have HK := hide hu
  have HT := hide ht
  have HRR := hide hr
  have HW := hide hw
  have HB := hide hb
  have HV0 : Hid (VB w w []) := VB.nil w
  have HV1 := hide ((HV0.out.push (b := w.heap.size) (by simp) [.bool false, .string ⟨#[]⟩, .string ⟨#[]⟩] 24).push (b := w.heap.size + 1) (by simp) [.bool g0, .string s0, .string t0] 24)
  have i0 : (0 : Int) < (l.length : Int) := by omega
  have i1 : (1 : Int) ≤ (l.length : Int) := by omega
  have i2 : (l.length : Int) ≤ (cap : Int) := by omega
  clear hc hx0 hu ht hr hw hv hb hb' hlc' hcm' hc' hv' HV0
  go_enter Tryz.func53, Tryz.ntmps53
  go_wp2_with fail
  case inl =>
    clear a0 a1 a2
    go_loopw [14] (fun x wx => ∃ (k : Nat) (g : Bool) (s t : ByteArray), k + 1 ≤ l.length ∧ x = .int .i64 (k : Int) ∧ LeastI R l (k + 1) (g, s, t) ∧ VB w wx [(w.heap.size + 1, [.bool g, .string s, .string t]), (w.heap.size, [.bool false, .string ⟨#[]⟩, .string ⟨#[]⟩])]) (fun x _ => l.length - (intOf x).toNat)
    case atStart =>
      refine ⟨0, g0, s0, t0, h0, rfl, ⟨0, h0, by omega, HX0.out, fun i hi hk => ?_⟩, HV1.out⟩
      obtain rfl : i = 0 := by omega
      have := HRR.out _ (List.getElem_mem hi)
      rwa [HX0.out] at this ⊢
    case round =>
      obtain ⟨k, g, s, t, hk, rfl, hL, hvb⟩ := hrel
      have HL := hide hL
      have HV := hide hvb
      clear hL hvb HV1
      have q0 : IntKind.i64.wrap ((k : Int) + 1) = (k : Int) + 1 := IntWalk.i64_in _ (by omega)
      by_cases hkl : k + 1 < l.length
      · exfalso; omega
      · have hkI : (l.length : Int) - 1 ≤ (k : Int) := by omega
        have hkn : ¬ k < l.length - 1 := by omega
        have hkd : decide (k < l.length - 1) = false := decide_eq_false hkn
        have HLL : Hid (LeastI R l l.length (g, s, t)) := by
          show LeastI R l l.length (g, s, t)
          have e : k + 1 = l.length := by omega
          rw [← e]; exact HL.out
        have m0 : wr.cell? ⟨w.heap.size + 1, 0, none⟩ = some (.bool g) := (HV.out.at (b := w.heap.size + 1) (vs := [.bool g, .string s, .string t]) (by simp) 0 (show 0 < 3 by decide)).1
        have m1 : wr.cell? ⟨w.heap.size + 1, 1, none⟩ = some (.string s) := (HV.out.at (b := w.heap.size + 1) (vs := [.bool g, .string s, .string t]) (by simp) 1 (show 1 < 3 by decide)).1
        have m2 : wr.cell? ⟨w.heap.size + 1, 2, none⟩ = some (.string t) := (HV.out.at (b := w.heap.size + 1) (vs := [.bool g, .string s, .string t]) (by simp) 2 (show 2 < 3 by decide)).1
        have z0 : wr.cell? ⟨w.heap.size, 0, none⟩ = some (.bool false) := (HV.out.at (b := w.heap.size) (vs := [.bool false, .string ⟨#[]⟩, .string ⟨#[]⟩]) (by simp) 0 (show 0 < 3 by decide)).1
        have fz0 : wr.frozen? ⟨w.heap.size, 0, none⟩ = false := (HV.out.at (b := w.heap.size) (vs := [.bool false, .string ⟨#[]⟩, .string ⟨#[]⟩]) (by simp) 0 (show 0 < 3 by decide)).2
        have z1 : wr.cell? ⟨w.heap.size, 1, none⟩ = some (.string ⟨#[]⟩) := (HV.out.at (b := w.heap.size) (vs := [.bool false, .string ⟨#[]⟩, .string ⟨#[]⟩]) (by simp) 1 (show 1 < 3 by decide)).1
        have fz1 : wr.frozen? ⟨w.heap.size, 1, none⟩ = false := (HV.out.at (b := w.heap.size) (vs := [.bool false, .string ⟨#[]⟩, .string ⟨#[]⟩]) (by simp) 1 (show 1 < 3 by decide)).2
        have z2 : wr.cell? ⟨w.heap.size, 2, none⟩ = some (.string ⟨#[]⟩) := (HV.out.at (b := w.heap.size) (vs := [.bool false, .string ⟨#[]⟩, .string ⟨#[]⟩]) (by simp) 2 (show 2 < 3 by decide)).1
        have fz2 : wr.frozen? ⟨w.heap.size, 2, none⟩ = false := (HV.out.at (b := w.heap.size) (vs := [.bool false, .string ⟨#[]⟩, .string ⟨#[]⟩]) (by simp) 2 (show 2 < 3 by decide)).2
        have HV5a : Hid (VB w (wr.setCell ⟨w.heap.size, 0, none⟩ (.bool g)) [(w.heap.size + 1, [.bool g, .string s, .string t]), (w.heap.size, [.bool g, .string ⟨#[]⟩, .string ⟨#[]⟩])]) := HV.out.set 1 (show 1 < 2 by decide) 0 (show 0 < 3 by decide) (.bool g)
        have HV5b : Hid (VB w ((wr.setCell ⟨w.heap.size, 0, none⟩ (.bool g)).setCell ⟨w.heap.size, 1, none⟩ (.string s)) [(w.heap.size + 1, [.bool g, .string s, .string t]), (w.heap.size, [.bool g, .string s, .string ⟨#[]⟩])]) := HV5a.out.set 1 (show 1 < 2 by decide) 1 (show 1 < 3 by decide) (.string s)
        have HV5c : Hid (VB w (((wr.setCell ⟨w.heap.size, 0, none⟩ (.bool g)).setCell ⟨w.heap.size, 1, none⟩ (.string s)).setCell ⟨w.heap.size, 2, none⟩ (.string t)) [(w.heap.size + 1, [.bool g, .string s, .string t]), (w.heap.size, [.bool g, .string s, .string t])]) := HV5b.out.set 1 (show 1 < 2 by decide) 2 (show 2 < 3 by decide) (.string t)
        go_wp2_with fail
        have y0 : (((wr.setCell ⟨w.heap.size, 0, none⟩ (.bool g)).setCell ⟨w.heap.size, 1, none⟩ (.string s)).setCell ⟨w.heap.size, 2, none⟩ (.string t)).cell? ⟨w.heap.size, 0, none⟩ = some (.bool g) := (HV5c.out.at (b := w.heap.size) (vs := [.bool g, .string s, .string t]) (by simp) 0 (show 0 < 3 by decide)).1
        have y1 : (((wr.setCell ⟨w.heap.size, 0, none⟩ (.bool g)).setCell ⟨w.heap.size, 1, none⟩ (.string s)).setCell ⟨w.heap.size, 2, none⟩ (.string t)).cell? ⟨w.heap.size, 1, none⟩ = some (.string s) := (HV5c.out.at (b := w.heap.size) (vs := [.bool g, .string s, .string t]) (by simp) 1 (show 1 < 3 by decide)).1
        have y2 : (((wr.setCell ⟨w.heap.size, 0, none⟩ (.bool g)).setCell ⟨w.heap.size, 1, none⟩ (.string s)).setCell ⟨w.heap.size, 2, none⟩ (.string t)).cell? ⟨w.heap.size, 2, none⟩ = some (.string t) := (HV5c.out.at (b := w.heap.size) (vs := [.bool g, .string s, .string t]) (by simp) 2 (show 2 < 3 by decide)).1
        exact bodyPost_ret (v := .agg #[.bool g, .string s, .string t]) (by simp [results, Tryz.results53, go_sem, y0, y1, y2]) rfl ⟨g, s, t, rfl, HLL.out, HV5c.out.bel⟩
  case inr =>
    clear a0 a1 a2
    go_loopw [14] (fun x wx => ∃ (k : Nat) (g : Bool) (s t : ByteArray), k + 1 ≤ l.length ∧ x = .int .i64 (k : Int) ∧ LeastI R l (k + 1) (g, s, t) ∧ VB w wx [(w.heap.size + 1, [.bool g, .string s, .string t]), (w.heap.size, [.bool false, .string ⟨#[]⟩, .string ⟨#[]⟩])]) (fun x _ => l.length - (intOf x).toNat)
    case atStart =>
      refine ⟨0, g0, s0, t0, h0, rfl, ⟨0, h0, by omega, HX0.out, fun i hi hk => ?_⟩, HV1.out⟩
      obtain rfl : i = 0 := by omega
      have := HRR.out _ (List.getElem_mem hi)
      rwa [HX0.out] at this ⊢
    case round =>
      obtain ⟨k, g, s, t, hk, rfl, hL, hvb⟩ := hrel
      have HL := hide hL
      have HV := hide hvb
      clear hL hvb HV1
      have q0 : IntKind.i64.wrap ((k : Int) + 1) = (k : Int) + 1 := IntWalk.i64_in _ (by omega)
      by_cases hkl : k + 1 < l.length
      · have hkI : (k : Int) < (l.length : Int) - 1 := by omega
        have hkn : k < l.length - 1 := by omega
        have hkd : decide (k < l.length - 1) = true := decide_eq_true hkn
        have hk0 : (0 : Int) ≤ (k : Int) := by omega
        obtain ⟨x1, hx1⟩ : ∃ x, l[k + 1] = x := ⟨_, rfl⟩
        have hc1 := q3 HC.out hkl hx1
        rw [show off + (k + 1) * 3 = off + 3 + k * 3 by omega] at hc1
        obtain ⟨a0, a1, a2⟩ := hc1
        have b0 := (HV.out.bel.cell (p := ⟨b, off + 3 + k * 3, none⟩) HB.out).trans a0
        have b1 := (HV.out.bel.cell (p := ⟨b, off + 3 + k * 3 + 1, none⟩) HB.out).trans a1
        have b2 := (HV.out.bel.cell (p := ⟨b, off + 3 + k * 3 + 2, none⟩) HB.out).trans a2
        obtain ⟨g1, s1, t1⟩ := x1
        simp only at b0 b1 b2
        clear a0 a1 a2
        have HX1 := hide hx1
        have HCL : Hid (XR 35 (g1, s1, t1) (g, s, t) (R (g1, s1, t1) (g, s, t))) := by
          obtain ⟨j, hj, h1, h2, h3⟩ := HL.out
          exact HK.out _ (by rw [← HX1.out]; exact List.getElem_mem hkl) _ (by rw [← h2]; exact List.getElem_mem hj)
        have HNO := hide (fun h => LeastI.keep (y := (g1, s1, t1)) HL.out hkl HX1.out h)
        have HYE := hide (fun h => LeastI.take (y := (g1, s1, t1)) HL.out hkl HX1.out h HT.out HRR.out)
        obtain ⟨r, hr⟩ : ∃ r, R (g1, s1, t1) (g, s, t) = r := ⟨_, rfl⟩
        rw [hr] at HCL HNO HYE
        unfold XR at HCL
        have HV2 := hide (HV.out.push (b := wr.heap.size) (by simp) [.bool g1, .string s1, .string t1] 24)
        have d0 : (wr.alloc (.cells #[.bool g1, .string s1, .string t1] 24)).cell? ⟨w.heap.size + 1, 0, none⟩ = some (.bool g) := (HV2.out.at (b := w.heap.size + 1) (vs := [.bool g, .string s, .string t]) (by simp) 0 (show 0 < 3 by decide)).1
        have d1 : (wr.alloc (.cells #[.bool g1, .string s1, .string t1] 24)).cell? ⟨w.heap.size + 1, 1, none⟩ = some (.string s) := (HV2.out.at (b := w.heap.size + 1) (vs := [.bool g, .string s, .string t]) (by simp) 1 (show 1 < 3 by decide)).1
        have d2 : (wr.alloc (.cells #[.bool g1, .string s1, .string t1] 24)).cell? ⟨w.heap.size + 1, 2, none⟩ = some (.string t) := (HV2.out.at (b := w.heap.size + 1) (vs := [.bool g, .string s, .string t]) (by simp) 2 (show 2 < 3 by decide)).1
        clear hx1 hr
        go_wp2_with fail
        clear b0 b1 b2 d0 d1 d2
        refine (HCL.out _ (HV2.out.law HW.out)).mono ?_
        rintro e w5 ⟨rfl, hb⟩
        have HV3 := hide (HV2.out.below hb)
        have n0 : w5.cell? ⟨wr.heap.size, 0, none⟩ = some (.bool g1) := (HV3.out.at (b := wr.heap.size) (vs := [.bool g1, .string s1, .string t1]) (by simp) 0 (show 0 < 3 by decide)).1
        have n1 : w5.cell? ⟨wr.heap.size, 1, none⟩ = some (.string s1) := (HV3.out.at (b := wr.heap.size) (vs := [.bool g1, .string s1, .string t1]) (by simp) 1 (show 1 < 3 by decide)).1
        have n2 : w5.cell? ⟨wr.heap.size, 2, none⟩ = some (.string t1) := (HV3.out.at (b := wr.heap.size) (vs := [.bool g1, .string s1, .string t1]) (by simp) 2 (show 2 < 3 by decide)).1
        have e0 : w5.cell? ⟨w.heap.size + 1, 0, none⟩ = some (.bool g) := (HV3.out.at (b := w.heap.size + 1) (vs := [.bool g, .string s, .string t]) (by simp) 0 (show 0 < 3 by decide)).1
        have fe0 : w5.frozen? ⟨w.heap.size + 1, 0, none⟩ = false := (HV3.out.at (b := w.heap.size + 1) (vs := [.bool g, .string s, .string t]) (by simp) 0 (show 0 < 3 by decide)).2
        have e1 : w5.cell? ⟨w.heap.size + 1, 1, none⟩ = some (.string s) := (HV3.out.at (b := w.heap.size + 1) (vs := [.bool g, .string s, .string t]) (by simp) 1 (show 1 < 3 by decide)).1
        have fe1 : w5.frozen? ⟨w.heap.size + 1, 1, none⟩ = false := (HV3.out.at (b := w.heap.size + 1) (vs := [.bool g, .string s, .string t]) (by simp) 1 (show 1 < 3 by decide)).2
        have e2 : w5.cell? ⟨w.heap.size + 1, 2, none⟩ = some (.string t) := (HV3.out.at (b := w.heap.size + 1) (vs := [.bool g, .string s, .string t]) (by simp) 2 (show 2 < 3 by decide)).1
        have fe2 : w5.frozen? ⟨w.heap.size + 1, 2, none⟩ = false := (HV3.out.at (b := w.heap.size + 1) (vs := [.bool g, .string s, .string t]) (by simp) 2 (show 2 < 3 by decide)).2
        clear hb
        cases r
        · go_wp2_with fail
          go_roundw
          case rel => exact ⟨k + 1, g, s, t, by omega, by go_num, HNO.out (by first | rfl | trivial), VB.tail HV3.out⟩
          case measure => (simp [intOf]; try omega)
        · have HV4a : Hid (VB w (w5.setCell ⟨w.heap.size + 1, 0, none⟩ (.bool g1)) [(wr.heap.size, [.bool g1, .string s1, .string t1]), (w.heap.size + 1, [.bool g1, .string s, .string t]), (w.heap.size, [.bool false, .string ⟨#[]⟩, .string ⟨#[]⟩])]) := HV3.out.set 1 (show 1 < 3 by decide) 0 (show 0 < 3 by decide) (.bool g1)
          have HV4b : Hid (VB w ((w5.setCell ⟨w.heap.size + 1, 0, none⟩ (.bool g1)).setCell ⟨w.heap.size + 1, 1, none⟩ (.string s1)) [(wr.heap.size, [.bool g1, .string s1, .string t1]), (w.heap.size + 1, [.bool g1, .string s1, .string t]), (w.heap.size, [.bool false, .string ⟨#[]⟩, .string ⟨#[]⟩])]) := HV4a.out.set 1 (show 1 < 3 by decide) 1 (show 1 < 3 by decide) (.string s1)
          have HV4c : Hid (VB w (((w5.setCell ⟨w.heap.size + 1, 0, none⟩ (.bool g1)).setCell ⟨w.heap.size + 1, 1, none⟩ (.string s1)).setCell ⟨w.heap.size + 1, 2, none⟩ (.string t1)) [(wr.heap.size, [.bool g1, .string s1, .string t1]), (w.heap.size + 1, [.bool g1, .string s1, .string t1]), (w.heap.size, [.bool false, .string ⟨#[]⟩, .string ⟨#[]⟩])]) := HV4b.out.set 1 (show 1 < 3 by decide) 2 (show 2 < 3 by decide) (.string t1)
          have HV4 := HV4c
          go_wp2_with fail
          go_roundw
          case rel => exact ⟨k + 1, g1, s1, t1, by omega, by go_num, HYE.out (by first | rfl | trivial), VB.tail HV4.out⟩
          case measure => (simp [intOf]; try omega)
      · have hkI : (l.length : Int) - 1 ≤ (k : Int) := by omega
        have hkn : ¬ k < l.length - 1 := by omega
        have hkd : decide (k < l.length - 1) = false := decide_eq_false hkn
        have HLL : Hid (LeastI R l l.length (g, s, t)) := by
          show LeastI R l l.length (g, s, t)
          have e : k + 1 = l.length := by omega
          rw [← e]; exact HL.out
        have m0 : wr.cell? ⟨w.heap.size + 1, 0, none⟩ = some (.bool g) := (HV.out.at (b := w.heap.size + 1) (vs := [.bool g, .string s, .string t]) (by simp) 0 (show 0 < 3 by decide)).1
        have m1 : wr.cell? ⟨w.heap.size + 1, 1, none⟩ = some (.string s) := (HV.out.at (b := w.heap.size + 1) (vs := [.bool g, .string s, .string t]) (by simp) 1 (show 1 < 3 by decide)).1
        have m2 : wr.cell? ⟨w.heap.size + 1, 2, none⟩ = some (.string t) := (HV.out.at (b := w.heap.size + 1) (vs := [.bool g, .string s, .string t]) (by simp) 2 (show 2 < 3 by decide)).1
        have z0 : wr.cell? ⟨w.heap.size, 0, none⟩ = some (.bool false) := (HV.out.at (b := w.heap.size) (vs := [.bool false, .string ⟨#[]⟩, .string ⟨#[]⟩]) (by simp) 0 (show 0 < 3 by decide)).1
        have fz0 : wr.frozen? ⟨w.heap.size, 0, none⟩ = false := (HV.out.at (b := w.heap.size) (vs := [.bool false, .string ⟨#[]⟩, .string ⟨#[]⟩]) (by simp) 0 (show 0 < 3 by decide)).2
        have z1 : wr.cell? ⟨w.heap.size, 1, none⟩ = some (.string ⟨#[]⟩) := (HV.out.at (b := w.heap.size) (vs := [.bool false, .string ⟨#[]⟩, .string ⟨#[]⟩]) (by simp) 1 (show 1 < 3 by decide)).1
        have fz1 : wr.frozen? ⟨w.heap.size, 1, none⟩ = false := (HV.out.at (b := w.heap.size) (vs := [.bool false, .string ⟨#[]⟩, .string ⟨#[]⟩]) (by simp) 1 (show 1 < 3 by decide)).2
        have z2 : wr.cell? ⟨w.heap.size, 2, none⟩ = some (.string ⟨#[]⟩) := (HV.out.at (b := w.heap.size) (vs := [.bool false, .string ⟨#[]⟩, .string ⟨#[]⟩]) (by simp) 2 (show 2 < 3 by decide)).1
        have fz2 : wr.frozen? ⟨w.heap.size, 2, none⟩ = false := (HV.out.at (b := w.heap.size) (vs := [.bool false, .string ⟨#[]⟩, .string ⟨#[]⟩]) (by simp) 2 (show 2 < 3 by decide)).2
        have HV5a : Hid (VB w (wr.setCell ⟨w.heap.size, 0, none⟩ (.bool g)) [(w.heap.size + 1, [.bool g, .string s, .string t]), (w.heap.size, [.bool g, .string ⟨#[]⟩, .string ⟨#[]⟩])]) := HV.out.set 1 (show 1 < 2 by decide) 0 (show 0 < 3 by decide) (.bool g)
        have HV5b : Hid (VB w ((wr.setCell ⟨w.heap.size, 0, none⟩ (.bool g)).setCell ⟨w.heap.size, 1, none⟩ (.string s)) [(w.heap.size + 1, [.bool g, .string s, .string t]), (w.heap.size, [.bool g, .string s, .string ⟨#[]⟩])]) := HV5a.out.set 1 (show 1 < 2 by decide) 1 (show 1 < 3 by decide) (.string s)
        have HV5c : Hid (VB w (((wr.setCell ⟨w.heap.size, 0, none⟩ (.bool g)).setCell ⟨w.heap.size, 1, none⟩ (.string s)).setCell ⟨w.heap.size, 2, none⟩ (.string t)) [(w.heap.size + 1, [.bool g, .string s, .string t]), (w.heap.size, [.bool g, .string s, .string t])]) := HV5b.out.set 1 (show 1 < 2 by decide) 2 (show 2 < 3 by decide) (.string t)
        go_wp2_with fail
        have y0 : (((wr.setCell ⟨w.heap.size, 0, none⟩ (.bool g)).setCell ⟨w.heap.size, 1, none⟩ (.string s)).setCell ⟨w.heap.size, 2, none⟩ (.string t)).cell? ⟨w.heap.size, 0, none⟩ = some (.bool g) := (HV5c.out.at (b := w.heap.size) (vs := [.bool g, .string s, .string t]) (by simp) 0 (show 0 < 3 by decide)).1
        have y1 : (((wr.setCell ⟨w.heap.size, 0, none⟩ (.bool g)).setCell ⟨w.heap.size, 1, none⟩ (.string s)).setCell ⟨w.heap.size, 2, none⟩ (.string t)).cell? ⟨w.heap.size, 1, none⟩ = some (.string s) := (HV5c.out.at (b := w.heap.size) (vs := [.bool g, .string s, .string t]) (by simp) 1 (show 1 < 3 by decide)).1
        have y2 : (((wr.setCell ⟨w.heap.size, 0, none⟩ (.bool g)).setCell ⟨w.heap.size, 1, none⟩ (.string s)).setCell ⟨w.heap.size, 2, none⟩ (.string t)).cell? ⟨w.heap.size, 2, none⟩ = some (.string t) := (HV5c.out.at (b := w.heap.size) (vs := [.bool g, .string s, .string t]) (by simp) 2 (show 2 < 3 by decide)).1
        exact bodyPost_ret (v := .agg #[.bool g, .string s, .string t]) (by simp [results, Tryz.results53, go_sem, y0, y1, y2]) rfl ⟨g, s, t, rfl, HLL.out, HV5c.out.bel⟩
set_option maxHeartbeats 8000000 in
set_option maxRecDepth 100000 in
theorem iv_least_more (l : List (Bool × ByteArray × ByteArray)) (v : Value) (R : Bool × ByteArray × ByteArray → Bool × ByteArray × ByteArray → Bool) (w : World) (hv : SliceOf vQ 3 w v l) (h0 : 0 < l.length) (hl : l.length ≤ 3000) (hu : XF 54 l R)
    (ht : ∀ x ∈ l, ∀ y ∈ l, ∀ z ∈ l, R x y = false → R z y = true → R x z = false) (hr : ∀ x ∈ l, R x x = false) (hw : LawW w) :
    Calls Tryz.prog 53 #[v, .func (.func 54) #[] #[]] w fun e w' => ∃ g s t, e = .returned (.agg #[.bool g, .string s, .string t]) ∧ LeastI R l l.length (g, s, t) ∧ Below w.heap.size w w' := by
  have hv' := hv.below (bAlloc (Below.refl w.heap.size w) (.cells #[.bool false, .string ⟨#[]⟩, .string ⟨#[]⟩] 24))
  obtain ⟨b, off, cap, rfl, hb, hlc, hcm, hc⟩ := hv.some_of_pos h0
  obtain ⟨b', off', cap', hve, hb', hlc', hcm', hc'⟩ := hv'.some_of_pos h0
  simp only [Value.slice.injEq, Option.some.injEq, Addr.mk.injEq, and_true, true_and] at hve
  obtain ⟨⟨rfl, rfl⟩, rfl⟩ := hve
  obtain ⟨x0, hx0⟩ : ∃ x, l[0] = x := ⟨_, rfl⟩
  have hc0 := q3 hc' h0 hx0
  rw [Nat.zero_mul, Nat.add_zero] at hc0
  obtain ⟨g0, s0, t0⟩ := x0
  obtain ⟨a0, a1, a2⟩ := hc0
  have HC := hide hc
  have HX0 := hide hx0
  have HK := hide hu
  have HT := hide ht
  have HRR := hide hr
  have HW := hide hw
  have HB := hide hb
  have HV0 : Hid (VB w w []) := VB.nil w
  have HV1 := hide ((HV0.out.push (b := w.heap.size) (by simp) [.bool false, .string ⟨#[]⟩, .string ⟨#[]⟩] 24).push (b := w.heap.size + 1) (by simp) [.bool g0, .string s0, .string t0] 24)
  have i0 : (0 : Int) < (l.length : Int) := by omega
  have i1 : (1 : Int) ≤ (l.length : Int) := by omega
  have i2 : (l.length : Int) ≤ (cap : Int) := by omega
  clear hc hx0 hu ht hr hw hv hb hb' hlc' hcm' hc' hv' HV0
  go_enter Tryz.func53, Tryz.ntmps53
  go_wp2_with fail
  case inl =>
    clear a0 a1 a2
    go_loopw [14] (fun x wx => ∃ (k : Nat) (g : Bool) (s t : ByteArray), k + 1 ≤ l.length ∧ x = .int .i64 (k : Int) ∧ LeastI R l (k + 1) (g, s, t) ∧ VB w wx [(w.heap.size + 1, [.bool g, .string s, .string t]), (w.heap.size, [.bool false, .string ⟨#[]⟩, .string ⟨#[]⟩])]) (fun x _ => l.length - (intOf x).toNat)
    case atStart =>
      refine ⟨0, g0, s0, t0, h0, rfl, ⟨0, h0, by omega, HX0.out, fun i hi hk => ?_⟩, HV1.out⟩
      obtain rfl : i = 0 := by omega
      have := HRR.out _ (List.getElem_mem hi)
      rwa [HX0.out] at this ⊢
    case round =>
      obtain ⟨k, g, s, t, hk, rfl, hL, hvb⟩ := hrel
      have HL := hide hL
      have HV := hide hvb
      clear hL hvb HV1
      have q0 : IntKind.i64.wrap ((k : Int) + 1) = (k : Int) + 1 := IntWalk.i64_in _ (by omega)
      by_cases hkl : k + 1 < l.length
      · exfalso; omega
      · have hkI : (l.length : Int) - 1 ≤ (k : Int) := by omega
        have hkn : ¬ k < l.length - 1 := by omega
        have hkd : decide (k < l.length - 1) = false := decide_eq_false hkn
        have HLL : Hid (LeastI R l l.length (g, s, t)) := by
          show LeastI R l l.length (g, s, t)
          have e : k + 1 = l.length := by omega
          rw [← e]; exact HL.out
        have m0 : wr.cell? ⟨w.heap.size + 1, 0, none⟩ = some (.bool g) := (HV.out.at (b := w.heap.size + 1) (vs := [.bool g, .string s, .string t]) (by simp) 0 (show 0 < 3 by decide)).1
        have m1 : wr.cell? ⟨w.heap.size + 1, 1, none⟩ = some (.string s) := (HV.out.at (b := w.heap.size + 1) (vs := [.bool g, .string s, .string t]) (by simp) 1 (show 1 < 3 by decide)).1
        have m2 : wr.cell? ⟨w.heap.size + 1, 2, none⟩ = some (.string t) := (HV.out.at (b := w.heap.size + 1) (vs := [.bool g, .string s, .string t]) (by simp) 2 (show 2 < 3 by decide)).1
        have z0 : wr.cell? ⟨w.heap.size, 0, none⟩ = some (.bool false) := (HV.out.at (b := w.heap.size) (vs := [.bool false, .string ⟨#[]⟩, .string ⟨#[]⟩]) (by simp) 0 (show 0 < 3 by decide)).1
        have fz0 : wr.frozen? ⟨w.heap.size, 0, none⟩ = false := (HV.out.at (b := w.heap.size) (vs := [.bool false, .string ⟨#[]⟩, .string ⟨#[]⟩]) (by simp) 0 (show 0 < 3 by decide)).2
        have z1 : wr.cell? ⟨w.heap.size, 1, none⟩ = some (.string ⟨#[]⟩) := (HV.out.at (b := w.heap.size) (vs := [.bool false, .string ⟨#[]⟩, .string ⟨#[]⟩]) (by simp) 1 (show 1 < 3 by decide)).1
        have fz1 : wr.frozen? ⟨w.heap.size, 1, none⟩ = false := (HV.out.at (b := w.heap.size) (vs := [.bool false, .string ⟨#[]⟩, .string ⟨#[]⟩]) (by simp) 1 (show 1 < 3 by decide)).2
        have z2 : wr.cell? ⟨w.heap.size, 2, none⟩ = some (.string ⟨#[]⟩) := (HV.out.at (b := w.heap.size) (vs := [.bool false, .string ⟨#[]⟩, .string ⟨#[]⟩]) (by simp) 2 (show 2 < 3 by decide)).1
        have fz2 : wr.frozen? ⟨w.heap.size, 2, none⟩ = false := (HV.out.at (b := w.heap.size) (vs := [.bool false, .string ⟨#[]⟩, .string ⟨#[]⟩]) (by simp) 2 (show 2 < 3 by decide)).2
        have HV5a : Hid (VB w (wr.setCell ⟨w.heap.size, 0, none⟩ (.bool g)) [(w.heap.size + 1, [.bool g, .string s, .string t]), (w.heap.size, [.bool g, .string ⟨#[]⟩, .string ⟨#[]⟩])]) := HV.out.set 1 (show 1 < 2 by decide) 0 (show 0 < 3 by decide) (.bool g)
        have HV5b : Hid (VB w ((wr.setCell ⟨w.heap.size, 0, none⟩ (.bool g)).setCell ⟨w.heap.size, 1, none⟩ (.string s)) [(w.heap.size + 1, [.bool g, .string s, .string t]), (w.heap.size, [.bool g, .string s, .string ⟨#[]⟩])]) := HV5a.out.set 1 (show 1 < 2 by decide) 1 (show 1 < 3 by decide) (.string s)
        have HV5c : Hid (VB w (((wr.setCell ⟨w.heap.size, 0, none⟩ (.bool g)).setCell ⟨w.heap.size, 1, none⟩ (.string s)).setCell ⟨w.heap.size, 2, none⟩ (.string t)) [(w.heap.size + 1, [.bool g, .string s, .string t]), (w.heap.size, [.bool g, .string s, .string t])]) := HV5b.out.set 1 (show 1 < 2 by decide) 2 (show 2 < 3 by decide) (.string t)
        go_wp2_with fail
        have y0 : (((wr.setCell ⟨w.heap.size, 0, none⟩ (.bool g)).setCell ⟨w.heap.size, 1, none⟩ (.string s)).setCell ⟨w.heap.size, 2, none⟩ (.string t)).cell? ⟨w.heap.size, 0, none⟩ = some (.bool g) := (HV5c.out.at (b := w.heap.size) (vs := [.bool g, .string s, .string t]) (by simp) 0 (show 0 < 3 by decide)).1
        have y1 : (((wr.setCell ⟨w.heap.size, 0, none⟩ (.bool g)).setCell ⟨w.heap.size, 1, none⟩ (.string s)).setCell ⟨w.heap.size, 2, none⟩ (.string t)).cell? ⟨w.heap.size, 1, none⟩ = some (.string s) := (HV5c.out.at (b := w.heap.size) (vs := [.bool g, .string s, .string t]) (by simp) 1 (show 1 < 3 by decide)).1
        have y2 : (((wr.setCell ⟨w.heap.size, 0, none⟩ (.bool g)).setCell ⟨w.heap.size, 1, none⟩ (.string s)).setCell ⟨w.heap.size, 2, none⟩ (.string t)).cell? ⟨w.heap.size, 2, none⟩ = some (.string t) := (HV5c.out.at (b := w.heap.size) (vs := [.bool g, .string s, .string t]) (by simp) 2 (show 2 < 3 by decide)).1
        exact bodyPost_ret (v := .agg #[.bool g, .string s, .string t]) (by simp [results, Tryz.results53, go_sem, y0, y1, y2]) rfl ⟨g, s, t, rfl, HLL.out, HV5c.out.bel⟩
  case inr =>
    clear a0 a1 a2
    go_loopw [14] (fun x wx => ∃ (k : Nat) (g : Bool) (s t : ByteArray), k + 1 ≤ l.length ∧ x = .int .i64 (k : Int) ∧ LeastI R l (k + 1) (g, s, t) ∧ VB w wx [(w.heap.size + 1, [.bool g, .string s, .string t]), (w.heap.size, [.bool false, .string ⟨#[]⟩, .string ⟨#[]⟩])]) (fun x _ => l.length - (intOf x).toNat)
    case atStart =>
      refine ⟨0, g0, s0, t0, h0, rfl, ⟨0, h0, by omega, HX0.out, fun i hi hk => ?_⟩, HV1.out⟩
      obtain rfl : i = 0 := by omega
      have := HRR.out _ (List.getElem_mem hi)
      rwa [HX0.out] at this ⊢
    case round =>
      obtain ⟨k, g, s, t, hk, rfl, hL, hvb⟩ := hrel
      have HL := hide hL
      have HV := hide hvb
      clear hL hvb HV1
      have q0 : IntKind.i64.wrap ((k : Int) + 1) = (k : Int) + 1 := IntWalk.i64_in _ (by omega)
      by_cases hkl : k + 1 < l.length
      · have hkI : (k : Int) < (l.length : Int) - 1 := by omega
        have hkn : k < l.length - 1 := by omega
        have hkd : decide (k < l.length - 1) = true := decide_eq_true hkn
        have hk0 : (0 : Int) ≤ (k : Int) := by omega
        obtain ⟨x1, hx1⟩ : ∃ x, l[k + 1] = x := ⟨_, rfl⟩
        have hc1 := q3 HC.out hkl hx1
        rw [show off + (k + 1) * 3 = off + 3 + k * 3 by omega] at hc1
        obtain ⟨a0, a1, a2⟩ := hc1
        have b0 := (HV.out.bel.cell (p := ⟨b, off + 3 + k * 3, none⟩) HB.out).trans a0
        have b1 := (HV.out.bel.cell (p := ⟨b, off + 3 + k * 3 + 1, none⟩) HB.out).trans a1
        have b2 := (HV.out.bel.cell (p := ⟨b, off + 3 + k * 3 + 2, none⟩) HB.out).trans a2
        obtain ⟨g1, s1, t1⟩ := x1
        simp only at b0 b1 b2
        clear a0 a1 a2
        have HX1 := hide hx1
        have HCL : Hid (XR 54 (g1, s1, t1) (g, s, t) (R (g1, s1, t1) (g, s, t))) := by
          obtain ⟨j, hj, h1, h2, h3⟩ := HL.out
          exact HK.out _ (by rw [← HX1.out]; exact List.getElem_mem hkl) _ (by rw [← h2]; exact List.getElem_mem hj)
        have HNO := hide (fun h => LeastI.keep (y := (g1, s1, t1)) HL.out hkl HX1.out h)
        have HYE := hide (fun h => LeastI.take (y := (g1, s1, t1)) HL.out hkl HX1.out h HT.out HRR.out)
        obtain ⟨r, hr⟩ : ∃ r, R (g1, s1, t1) (g, s, t) = r := ⟨_, rfl⟩
        rw [hr] at HCL HNO HYE
        unfold XR at HCL
        have HV2 := hide (HV.out.push (b := wr.heap.size) (by simp) [.bool g1, .string s1, .string t1] 24)
        have d0 : (wr.alloc (.cells #[.bool g1, .string s1, .string t1] 24)).cell? ⟨w.heap.size + 1, 0, none⟩ = some (.bool g) := (HV2.out.at (b := w.heap.size + 1) (vs := [.bool g, .string s, .string t]) (by simp) 0 (show 0 < 3 by decide)).1
        have d1 : (wr.alloc (.cells #[.bool g1, .string s1, .string t1] 24)).cell? ⟨w.heap.size + 1, 1, none⟩ = some (.string s) := (HV2.out.at (b := w.heap.size + 1) (vs := [.bool g, .string s, .string t]) (by simp) 1 (show 1 < 3 by decide)).1
        have d2 : (wr.alloc (.cells #[.bool g1, .string s1, .string t1] 24)).cell? ⟨w.heap.size + 1, 2, none⟩ = some (.string t) := (HV2.out.at (b := w.heap.size + 1) (vs := [.bool g, .string s, .string t]) (by simp) 2 (show 2 < 3 by decide)).1
        clear hx1 hr
        go_wp2_with fail
        clear b0 b1 b2 d0 d1 d2
        refine (HCL.out _ (HV2.out.law HW.out)).mono ?_
        rintro e w5 ⟨rfl, hb⟩
        have HV3 := hide (HV2.out.below hb)
        have n0 : w5.cell? ⟨wr.heap.size, 0, none⟩ = some (.bool g1) := (HV3.out.at (b := wr.heap.size) (vs := [.bool g1, .string s1, .string t1]) (by simp) 0 (show 0 < 3 by decide)).1
        have n1 : w5.cell? ⟨wr.heap.size, 1, none⟩ = some (.string s1) := (HV3.out.at (b := wr.heap.size) (vs := [.bool g1, .string s1, .string t1]) (by simp) 1 (show 1 < 3 by decide)).1
        have n2 : w5.cell? ⟨wr.heap.size, 2, none⟩ = some (.string t1) := (HV3.out.at (b := wr.heap.size) (vs := [.bool g1, .string s1, .string t1]) (by simp) 2 (show 2 < 3 by decide)).1
        have e0 : w5.cell? ⟨w.heap.size + 1, 0, none⟩ = some (.bool g) := (HV3.out.at (b := w.heap.size + 1) (vs := [.bool g, .string s, .string t]) (by simp) 0 (show 0 < 3 by decide)).1
        have fe0 : w5.frozen? ⟨w.heap.size + 1, 0, none⟩ = false := (HV3.out.at (b := w.heap.size + 1) (vs := [.bool g, .string s, .string t]) (by simp) 0 (show 0 < 3 by decide)).2
        have e1 : w5.cell? ⟨w.heap.size + 1, 1, none⟩ = some (.string s) := (HV3.out.at (b := w.heap.size + 1) (vs := [.bool g, .string s, .string t]) (by simp) 1 (show 1 < 3 by decide)).1
        have fe1 : w5.frozen? ⟨w.heap.size + 1, 1, none⟩ = false := (HV3.out.at (b := w.heap.size + 1) (vs := [.bool g, .string s, .string t]) (by simp) 1 (show 1 < 3 by decide)).2
        have e2 : w5.cell? ⟨w.heap.size + 1, 2, none⟩ = some (.string t) := (HV3.out.at (b := w.heap.size + 1) (vs := [.bool g, .string s, .string t]) (by simp) 2 (show 2 < 3 by decide)).1
        have fe2 : w5.frozen? ⟨w.heap.size + 1, 2, none⟩ = false := (HV3.out.at (b := w.heap.size + 1) (vs := [.bool g, .string s, .string t]) (by simp) 2 (show 2 < 3 by decide)).2
        clear hb
        cases r
        · go_wp2_with fail
          go_roundw
          case rel => exact ⟨k + 1, g, s, t, by omega, by go_num, HNO.out (by first | rfl | trivial), VB.tail HV3.out⟩
          case measure => (simp [intOf]; try omega)
        · have HV4a : Hid (VB w (w5.setCell ⟨w.heap.size + 1, 0, none⟩ (.bool g1)) [(wr.heap.size, [.bool g1, .string s1, .string t1]), (w.heap.size + 1, [.bool g1, .string s, .string t]), (w.heap.size, [.bool false, .string ⟨#[]⟩, .string ⟨#[]⟩])]) := HV3.out.set 1 (show 1 < 3 by decide) 0 (show 0 < 3 by decide) (.bool g1)
          have HV4b : Hid (VB w ((w5.setCell ⟨w.heap.size + 1, 0, none⟩ (.bool g1)).setCell ⟨w.heap.size + 1, 1, none⟩ (.string s1)) [(wr.heap.size, [.bool g1, .string s1, .string t1]), (w.heap.size + 1, [.bool g1, .string s1, .string t]), (w.heap.size, [.bool false, .string ⟨#[]⟩, .string ⟨#[]⟩])]) := HV4a.out.set 1 (show 1 < 3 by decide) 1 (show 1 < 3 by decide) (.string s1)
          have HV4c : Hid (VB w (((w5.setCell ⟨w.heap.size + 1, 0, none⟩ (.bool g1)).setCell ⟨w.heap.size + 1, 1, none⟩ (.string s1)).setCell ⟨w.heap.size + 1, 2, none⟩ (.string t1)) [(wr.heap.size, [.bool g1, .string s1, .string t1]), (w.heap.size + 1, [.bool g1, .string s1, .string t1]), (w.heap.size, [.bool false, .string ⟨#[]⟩, .string ⟨#[]⟩])]) := HV4b.out.set 1 (show 1 < 3 by decide) 2 (show 2 < 3 by decide) (.string t1)
          have HV4 := HV4c
          go_wp2_with fail
          go_roundw
          case rel => exact ⟨k + 1, g1, s1, t1, by omega, by go_num, HYE.out (by first | rfl | trivial), VB.tail HV4.out⟩
          case measure => (simp [intOf]; try omega)
      · have hkI : (l.length : Int) - 1 ≤ (k : Int) := by omega
        have hkn : ¬ k < l.length - 1 := by omega
        have hkd : decide (k < l.length - 1) = false := decide_eq_false hkn
        have HLL : Hid (LeastI R l l.length (g, s, t)) := by
          show LeastI R l l.length (g, s, t)
          have e : k + 1 = l.length := by omega
          rw [← e]; exact HL.out
        have m0 : wr.cell? ⟨w.heap.size + 1, 0, none⟩ = some (.bool g) := (HV.out.at (b := w.heap.size + 1) (vs := [.bool g, .string s, .string t]) (by simp) 0 (show 0 < 3 by decide)).1
        have m1 : wr.cell? ⟨w.heap.size + 1, 1, none⟩ = some (.string s) := (HV.out.at (b := w.heap.size + 1) (vs := [.bool g, .string s, .string t]) (by simp) 1 (show 1 < 3 by decide)).1
        have m2 : wr.cell? ⟨w.heap.size + 1, 2, none⟩ = some (.string t) := (HV.out.at (b := w.heap.size + 1) (vs := [.bool g, .string s, .string t]) (by simp) 2 (show 2 < 3 by decide)).1
        have z0 : wr.cell? ⟨w.heap.size, 0, none⟩ = some (.bool false) := (HV.out.at (b := w.heap.size) (vs := [.bool false, .string ⟨#[]⟩, .string ⟨#[]⟩]) (by simp) 0 (show 0 < 3 by decide)).1
        have fz0 : wr.frozen? ⟨w.heap.size, 0, none⟩ = false := (HV.out.at (b := w.heap.size) (vs := [.bool false, .string ⟨#[]⟩, .string ⟨#[]⟩]) (by simp) 0 (show 0 < 3 by decide)).2
        have z1 : wr.cell? ⟨w.heap.size, 1, none⟩ = some (.string ⟨#[]⟩) := (HV.out.at (b := w.heap.size) (vs := [.bool false, .string ⟨#[]⟩, .string ⟨#[]⟩]) (by simp) 1 (show 1 < 3 by decide)).1
        have fz1 : wr.frozen? ⟨w.heap.size, 1, none⟩ = false := (HV.out.at (b := w.heap.size) (vs := [.bool false, .string ⟨#[]⟩, .string ⟨#[]⟩]) (by simp) 1 (show 1 < 3 by decide)).2
        have z2 : wr.cell? ⟨w.heap.size, 2, none⟩ = some (.string ⟨#[]⟩) := (HV.out.at (b := w.heap.size) (vs := [.bool false, .string ⟨#[]⟩, .string ⟨#[]⟩]) (by simp) 2 (show 2 < 3 by decide)).1
        have fz2 : wr.frozen? ⟨w.heap.size, 2, none⟩ = false := (HV.out.at (b := w.heap.size) (vs := [.bool false, .string ⟨#[]⟩, .string ⟨#[]⟩]) (by simp) 2 (show 2 < 3 by decide)).2
        have HV5a : Hid (VB w (wr.setCell ⟨w.heap.size, 0, none⟩ (.bool g)) [(w.heap.size + 1, [.bool g, .string s, .string t]), (w.heap.size, [.bool g, .string ⟨#[]⟩, .string ⟨#[]⟩])]) := HV.out.set 1 (show 1 < 2 by decide) 0 (show 0 < 3 by decide) (.bool g)
        have HV5b : Hid (VB w ((wr.setCell ⟨w.heap.size, 0, none⟩ (.bool g)).setCell ⟨w.heap.size, 1, none⟩ (.string s)) [(w.heap.size + 1, [.bool g, .string s, .string t]), (w.heap.size, [.bool g, .string s, .string ⟨#[]⟩])]) := HV5a.out.set 1 (show 1 < 2 by decide) 1 (show 1 < 3 by decide) (.string s)
        have HV5c : Hid (VB w (((wr.setCell ⟨w.heap.size, 0, none⟩ (.bool g)).setCell ⟨w.heap.size, 1, none⟩ (.string s)).setCell ⟨w.heap.size, 2, none⟩ (.string t)) [(w.heap.size + 1, [.bool g, .string s, .string t]), (w.heap.size, [.bool g, .string s, .string t])]) := HV5b.out.set 1 (show 1 < 2 by decide) 2 (show 2 < 3 by decide) (.string t)
        go_wp2_with fail
        have y0 : (((wr.setCell ⟨w.heap.size, 0, none⟩ (.bool g)).setCell ⟨w.heap.size, 1, none⟩ (.string s)).setCell ⟨w.heap.size, 2, none⟩ (.string t)).cell? ⟨w.heap.size, 0, none⟩ = some (.bool g) := (HV5c.out.at (b := w.heap.size) (vs := [.bool g, .string s, .string t]) (by simp) 0 (show 0 < 3 by decide)).1
        have y1 : (((wr.setCell ⟨w.heap.size, 0, none⟩ (.bool g)).setCell ⟨w.heap.size, 1, none⟩ (.string s)).setCell ⟨w.heap.size, 2, none⟩ (.string t)).cell? ⟨w.heap.size, 1, none⟩ = some (.string s) := (HV5c.out.at (b := w.heap.size) (vs := [.bool g, .string s, .string t]) (by simp) 1 (show 1 < 3 by decide)).1
        have y2 : (((wr.setCell ⟨w.heap.size, 0, none⟩ (.bool g)).setCell ⟨w.heap.size, 1, none⟩ (.string s)).setCell ⟨w.heap.size, 2, none⟩ (.string t)).cell? ⟨w.heap.size, 2, none⟩ = some (.string t) := (HV5c.out.at (b := w.heap.size) (vs := [.bool g, .string s, .string t]) (by simp) 2 (show 2 < 3 by decide)).1
        exact bodyPost_ret (v := .agg #[.bool g, .string s, .string t]) (by simp [results, Tryz.results53, go_sem, y0, y1, y2]) rfl ⟨g, s, t, rfl, HLL.out, HV5c.out.bel⟩
end Go.Proofs.YtbojlmnajndleaaGreatDoor
/- interval: span, Hull. -/
namespace Go.Proofs.YtbojlmnajndleaaGreatDoor
open Go.RowKit Go.Sort

abbrev Q3 := Bool × ByteArray × ByteArray
def vIv (x : Q3 × Q3) : List Value := [.bool x.1.1, .string x.1.2.1, .string x.1.2.2, .bool x.2.1, .string x.2.2.1, .string x.2.2.2]
theorem vIv_len (x : Q3 × Q3) : (vIv x).length = 6 := rfl
theorem vQ_one (x : Q3) : ∀ u ∈ vQ x, u.oneCell' = true := by
  intro u hu
  simp [vQ] at hu
  rcases hu with rfl | rfl | rfl <;> rfl
theorem vIv_one (x : Q3 × Q3) : ∀ u ∈ vIv x, u.oneCell' = true := by
  intro u hu
  simp [vIv] at hu
  rcases hu with rfl | rfl | rfl | rfl | rfl | rfl <;> rfl
theorem q6 {w : World} {b off : Nat} {l : List (Q3 × Q3)} (h : ∀ i (h : i < l.length) j u, (vIv l[i])[j]? = some u → w.cell? ⟨b, off + i * 6 + j, none⟩ = some u) {k : Nat} (hk : k < l.length) {x : Q3 × Q3} (e : l[k] = x) :
    w.cell? ⟨b, off + k * 6, none⟩ = some (.bool x.1.1) ∧ w.cell? ⟨b, off + k * 6 + 1, none⟩ = some (.string x.1.2.1) ∧ w.cell? ⟨b, off + k * 6 + 2, none⟩ = some (.string x.1.2.2) ∧ w.cell? ⟨b, off + k * 6 + 3, none⟩ = some (.bool x.2.1) ∧ w.cell? ⟨b, off + k * 6 + 4, none⟩ = some (.string x.2.2.1) ∧ w.cell? ⟨b, off + k * 6 + 5, none⟩ = some (.string x.2.2.2) := by
  subst e
  exact ⟨h k hk 0 _ rfl, h k hk 1 _ rfl, h k hk 2 _ rfl, h k hk 3 _ rfl, h k hk 4 _ rfl, h k hk 5 _ rfl⟩
theorem slice_lit_iv {α : Type} {f : α → List Value} {size : Nat} (hf : ∀ a, (f a).length = size) (w : World) (l : List α) (T : TypeId) (h : l.length ≤ maxLen) {s n : Nat} (hs : w.heap.size = s) (hn : l.length = n) {cs : Array Value} (hc : (flatV f l).toArray = cs) : SliceOf f size (w.alloc (.cells cs T)) (.slice (some ⟨s, 0, none⟩) n n) l := by
  subst hs hn hc
  exact slice_lit hf w l T h
theorem VB.belowB {w W W' : World} {L : List (Nat × List Value)} {B : Nat} (h : VB w W L) (hb : Below B W W') (hB : w.heap.size ≤ B) (hl : ∀ x ∈ L, x.1 < B) : VB w W' L :=
  ⟨h.bel.trans (hb.mono hB), fun x hx i hi => ⟨(hb.cell (p := ⟨x.1, i, none⟩) (hl x hx)).trans (h.all x hx i hi).1, (hb.frozen (p := ⟨x.1, i, none⟩) (hl x hx)).trans (h.all x hx i hi).2⟩, fun x hx => Nat.lt_of_lt_of_le (h.lt x hx) hb.size, h.lo, h.ord⟩
/-- Whether an interval is valid. -/
def IVx (x : Q3 × Q3) (b : Bool) : Prop := IV x.1.1 x.1.2.1 x.1.2.2 x.2.1 x.2.2.1 x.2.2.2 b
theorem Tryz.infoQ3 : (Tryz.prog.info? 24).map (fun i => (i.zero, i.size, i.bytes)) = some (some (.agg #[.bool false, .string ⟨#[]⟩, .string ⟨#[]⟩]), 3, 40) := by kernel_rfl

set_option maxHeartbeats 4000000 in
set_option maxRecDepth 100000 in
theorem iv_span (l : List Q3) (v : Value) (R S : Q3 → Q3 → Bool) (w : World) (hv : SliceOf vQ 3 w v l) (h0 : 0 < l.length) (hl : l.length ≤ 3000) (hR : XF 35 l R) (hS : XF 54 l S)
    (ht : ∀ x ∈ l, ∀ y ∈ l, ∀ z ∈ l, R x y = false → R z y = true → R x z = false) (hr : ∀ x ∈ l, R x x = false) (ht' : ∀ x ∈ l, ∀ y ∈ l, ∀ z ∈ l, S x y = false → S z y = true → S x z = false) (hr' : ∀ x ∈ l, S x x = false) (hw : LawW w) :
    Calls Tryz.prog 30 #[v] w fun e w' => ∃ g s t h u q, e = .returned (.agg #[.bool g, .string s, .string t, .bool h, .string u, .string q]) ∧ LeastI R l l.length (g, s, t) ∧ LeastI S l l.length (h, u, q) ∧ Below w.heap.size w w' := by
  have H1 : Hid (∀ W, LawW W → SliceOf vQ 3 W v l → Calls Tryz.prog 53 #[v, .func (.func 35) #[] #[]] W fun e w' => ∃ g s t, e = .returned (.agg #[.bool g, .string s, .string t]) ∧ LeastI R l l.length (g, s, t) ∧ Below W.heap.size W w') := fun W hW hs => iv_least_less l v R W hs h0 hl hR ht hr hW
  have H2 : Hid (∀ W, LawW W → SliceOf vQ 3 W v l → Calls Tryz.prog 53 #[v, .func (.func 54) #[] #[]] W fun e w' => ∃ g s t, e = .returned (.agg #[.bool g, .string s, .string t]) ∧ LeastI S l l.length (g, s, t) ∧ Below W.heap.size W w') := fun W hW hs => iv_least_more l v S W hs h0 hl hS ht' hr' hW
  have HS := hide hv
  have HW := hide hw
  have HV0 : Hid (VB w w []) := VB.nil w
  have HV1 := hide (HV0.out.push (b := w.heap.size) (by simp) [.bool false, .string ⟨#[]⟩, .string ⟨#[]⟩, .bool false, .string ⟨#[]⟩, .string ⟨#[]⟩] 26)
  clear hv hR hS ht hr ht' hr' hw HV0
  go_enter Tryz.func30, Tryz.ntmps30
  go_wp2_with fail
  refine (H1.out _ (HV1.out.law HW.out) (HS.out.below HV1.out.bel)).mono ?_
  rintro e w1 ⟨g, s, t, rfl, hL1, hb⟩
  have HV2 := hide (HV1.out.below hb)
  have HL1 := hide hL1
  clear hb hL1
  go_wp2_with fail
  refine (H2.out _ (HV2.out.law HW.out) (HS.out.below HV2.out.bel)).mono ?_
  rintro e w2 ⟨h, u, q, rfl, hL2, hb⟩
  have HV3 := hide (HV2.out.below hb)
  have HL2 := hide hL2
  clear hb hL2
  obtain ⟨c1, c2, c3, c4, c5, c6⟩ := HV3.out.at6 0 rfl
  obtain ⟨fc1, fc2, fc3, fc4, fc5, fc6⟩ := HV3.out.fz6 0 rfl
  have HV3_ := hide (HV3.out.put6 0 rfl (.bool g) (.string s) (.string t) (.bool h) (.string u) (.string q))
  clear HV3
  go_wp2_with fail
  clear c1 c2 c3 c4 c5 c6 fc1 fc2 fc3 fc4 fc5 fc6
  obtain ⟨d0, d1, d2, d3, d4, d5⟩ := HV3_.out.at6 0 rfl
  exact bodyPost_ret (v := .agg #[.bool g, .string s, .string t, .bool h, .string u, .string q]) (by simp [results, Tryz.results30, go_sem, d0, d1, d2, d3, d4, d5]) rfl ⟨g, s, t, h, u, q, rfl, HL1.out, HL2.out, HV3_.out.bel⟩
set_option maxHeartbeats 4000000 in
set_option maxRecDepth 100000 in
theorem iv_hull1 (ga : Bool) (sa ta : ByteArray) (gb : Bool) (sb tb : ByteArray) (b : Bool) (w : World) (h1 : IV ga sa ta gb sb tb b) (hw : LawW w) :
    Calls Tryz.prog 34 #[.agg #[.bool ga, .string sa, .string ta, .bool gb, .string sb, .string tb]] w fun e w' => e = .returned (.bool (!b)) ∧ Below w.heap.size w w' := by
  unfold IV at h1
  have Hh1 := hide h1
  have HW := hide hw
  have HV0 : Hid (VB w w []) := VB.nil w
  clear h1 hw 
  go_enter Tryz.func34, Tryz.ntmps34
  have HV0_ := hide (HV0.out.push6 (b := w.heap.size) (by simp) (.bool ga) (.string sa) (.string ta) (.bool gb) (.string sb) (.string tb) 26)
  clear HV0
  obtain ⟨c1, c2, c3, c4, c5, c6⟩ := HV0_.out.at6 0 rfl
  go_wp2_with fail
  clear c1 c2 c3 c4 c5 c6
  refine (Hh1.out _ (HV0_.out.law HW.out)).mono ?_
  rintro e w1 ⟨rfl, hb⟩
  have HV1 := hide (HV0_.out.below hb)
  clear hb HV0_
  go_wp2_with fail
  go_ret
  exact ⟨rfl, HV1.out.bel⟩
set_option maxHeartbeats 4000000 in
set_option maxRecDepth 100000 in
theorem iv_index (l : List (Q3 × Q3)) (v : Value) (vld : Q3 × Q3 → Bool) (w : World) (hv : SliceOf vIv 6 w v l) (hl : l.length ≤ 1000) (hV : ∀ x ∈ l, IVx x (vld x)) (hw : LawW w) :
    Calls Tryz.prog 56 #[v, .func (.func 34) #[] #[]] w fun e w' => ∃ z : Int, e = .returned (.int .i64 z) ∧ decide (0 ≤ z) = (l.any fun x => !vld x) ∧ Below w.heap.size w w' := by
  have HS := hide hv
  have HX := hide hV
  have HW := hide hw
  obtain ⟨ao, cp, rfl⟩ := hv.shape
  clear hv hV hw
  go_enter Tryz.func56, Tryz.ntmps56
  go_wp2_with fail
  go_loopw [8] (fun x wx => ∃ k : Nat, k ≤ l.length ∧ x = .int .i64 (k : Int) ∧ (∀ j (hj : j < l.length), j < k → vld l[j] = true) ∧ Below w.heap.size w wx) (fun x _ => l.length - (intOf x).toNat)
  case atStart => exact ⟨0, Nat.zero_le _, rfl, fun j hj h => by omega, Below.refl _ _⟩
  case round =>
    obtain ⟨k, hk, rfl, hall, hbl⟩ := hrel
    have HA := hide hall
    have HB := hide hbl
    have q0 : IntKind.i64.wrap ((k : Int) + 1) = (k : Int) + 1 := IntWalk.i64_in _ (by omega)
    clear hall hbl
    by_cases hkl : k < l.length
    · have hkI : (k : Int) < (l.length : Int) := by omega
      have hk0 : (0 : Int) ≤ (k : Int) := by omega
      obtain ⟨b, off, cap, e1, hb, _, _, hc⟩ := (HS.out.below HB.out).some_of_pos (by omega)
      simp only [Value.slice.injEq] at e1
      obtain ⟨rfl, _, rfl⟩ := e1
      obtain ⟨x, hx⟩ : ∃ x, l[k] = x := ⟨_, rfl⟩
      have hc0 := q6 hc hkl hx
      have hxm : x ∈ l := by rw [← hx]; exact List.getElem_mem hkl
      have HV := hide (HX.out x hxm)
      unfold IVx at HV
      obtain ⟨r, hr⟩ : ∃ r, vld x = r := ⟨_, rfl⟩
      rw [hr] at HV
      have HYE : Hid (r = true → ∀ j (hj : j < l.length), j < k + 1 → vld l[j] = true) := fun h j hj hjk => by
        by_cases e : j = k
        · subst e; rw [hx, hr]; exact h
        · exact HA.out j hj (by omega)
      have HNO : Hid (r = false → (l.any fun x => !vld x) = true) := fun h => by
        rw [List.any_eq_true]; exact ⟨x, hxm, by rw [hr, h]; rfl⟩
      obtain ⟨⟨g1, s1, t1⟩, ⟨g2, s2, t2⟩⟩ := x
      obtain ⟨a0, a1, a2, a3, a4, a5⟩ := hc0
      clear hx hr hc hxm hb
      go_wp2_with fail
      refine (iv_hull1 g1 s1 t1 g2 s2 t2 r _ HV.out (HW.out.below HB.out)).mono ?_
      rintro e w5 ⟨rfl, hb⟩
      have HB5 := hide (bStep HB.out hb)
      clear hb a0 a1 a2 a3 a4 a5
      cases r
      · go_wp2_with fail
        go_ret
        exact ⟨(k : Int), rfl, by rw [HNO.out (by first | rfl | trivial)]; exact decide_eq_true hk0, HB5.out⟩
      · go_wp2_with fail
        go_roundw
        case rel => exact ⟨k + 1, by omega, by go_num, HYE.out (by first | rfl | trivial), HB5.out⟩
        case measure => (simp [intOf]; try omega)
    · have hkI : (l.length : Int) ≤ (k : Int) := by omega
      have HF : Hid ((l.any fun x => !vld x) = false) := by
        show _ = _
        rw [List.any_eq_false]
        intro x hx
        obtain ⟨j, hj, rfl⟩ := List.getElem_of_mem hx
        rw [HA.out j hj (by omega)]; simp
      go_wp2_with fail
      go_ret
      exact ⟨-1, rfl, by rw [HF.out]; rfl, HB.out⟩
set_option maxHeartbeats 4000000 in
set_option maxRecDepth 100000 in
theorem iv_some (l : List (Q3 × Q3)) (v : Value) (vld : Q3 × Q3 → Bool) (w : World) (hv : SliceOf vIv 6 w v l) (hl : l.length ≤ 1000) (hV : ∀ x ∈ l, IVx x (vld x)) (hw : LawW w) :
    Calls Tryz.prog 33 #[v, .func (.func 34) #[] #[]] w fun e w' => e = .returned (.bool (l.any fun x => !vld x)) ∧ Below w.heap.size w w' := by
  have H := hide (iv_index l v vld w hv hl hV hw)
  clear hv hV hw
  go_enter Tryz.func33, Tryz.ntmps33
  go_wp2_with fail
  refine H.out.mono ?_
  rintro e w1 ⟨z, rfl, hz, hb⟩
  have HB := hide hb
  have HZ := hide hz
  obtain ⟨r, hr⟩ : ∃ r, decide (0 ≤ z) = r := ⟨_, rfl⟩
  clear hb hz
  go_wp2_with fail
  go_ret
  exact ⟨by rw [← HZ.out]; first | rfl | (rw [hr]; rfl), HB.out⟩
set_option maxHeartbeats 4000000 in
set_option maxRecDepth 100000 in
theorem iv_hull_bad (l : List (Q3 × Q3)) (v : Value) (vld : Q3 × Q3 → Bool) (w : World) (hs : SliceOf vIv 6 w v l) (hl : l.length ≤ 1000) (hV : ∀ x ∈ l, IVx x (vld x)) (hb : (l.any fun x => !vld x) = true) (hw : LawW w) :
    Calls Tryz.prog 15 #[v] w fun e w' => e = .returned (.tuple #[.agg #[.bool false, .string ⟨#[]⟩, .string ⟨#[]⟩, .bool false, .string ⟨#[]⟩, .string ⟨#[]⟩], .int .i64 1]) ∧ Below w.heap.size w w' := by
  have HW := hide hw
  have HC := hide (fun W (hb : Below w.heap.size w W) hW => iv_some l v vld W (hs.below hb) hl hV hW)
  rw [hb] at HC
  obtain ⟨ao, cp, rfl⟩ := hs.shape
  have i0 : (l.length : Int) ≤ 1000 := by omega
  have i1 : ¬ 1000 < l.length := by omega
  have HV0 : Hid (VB w w []) := VB.nil w
  clear hw hs hV hb
  go_enter Tryz.func15, Tryz.ntmps15
  have HV0_ := hide (HV0.out.push6 (b := w.heap.size) (by simp) (.bool false) (.string ⟨#[]⟩) (.string ⟨#[]⟩) (.bool false) (.string ⟨#[]⟩) (.string ⟨#[]⟩) 26)
  clear HV0
  go_wp2_with fail
  refine (HC.out _ HV0_.out.bel (HV0_.out.law HW.out)).mono ?_
  rintro e w1 ⟨rfl, hb⟩
  have HV1 := hide (HV0_.out.below hb)
  clear hb HV0_
  obtain ⟨c1, c2, c3, c4, c5, c6⟩ := HV1.out.at6 0 rfl
  obtain ⟨fc1, fc2, fc3, fc4, fc5, fc6⟩ := HV1.out.fz6 0 rfl
  have HV1_ := hide (HV1.out.put6 0 rfl (.bool false) (.string ⟨#[]⟩) (.string ⟨#[]⟩) (.bool false) (.string ⟨#[]⟩) (.string ⟨#[]⟩))
  clear HV1
  go_wp2_with fail
  clear c1 c2 c3 c4 c5 c6 fc1 fc2 fc3 fc4 fc5 fc6
  obtain ⟨d0, d1, d2, d3, d4, d5⟩ := HV1_.out.at6 0 rfl
  exact bodyPost_ret (v := .tuple #[.agg #[.bool false, .string ⟨#[]⟩, .string ⟨#[]⟩, .bool false, .string ⟨#[]⟩, .string ⟨#[]⟩], .int .i64 1]) (by simp [results, Tryz.results15, go_sem, d0, d1, d2, d3, d4, d5]) rfl ⟨rfl, HV1_.out.bel⟩
set_option maxHeartbeats 4000000 in
set_option maxRecDepth 100000 in
theorem iv_hull_nil (ao : Option Addr) (cp : Nat) (w : World) (hs : SliceOf vIv 6 w (.slice ao 0 cp) []) (hw : LawW w) :
    Calls Tryz.prog 15 #[.slice ao 0 cp] w fun e w' => e = .returned (.tuple #[.agg #[.bool false, .string ⟨#[]⟩, .string ⟨#[]⟩, .bool false, .string ⟨#[]⟩, .string ⟨#[]⟩], .int .i64 10]) ∧ Below w.heap.size w w' := by
  have HW := hide hw
  have HC := hide (fun W (hb : Below w.heap.size w W) hW => iv_some [] (.slice ao 0 cp) (fun _ => true) W (hs.below hb) (by simp) (by simp) hW)
  rw [List.any_nil] at HC
  have HV0 : Hid (VB w w []) := VB.nil w
  clear hw hs
  go_enter Tryz.func15, Tryz.ntmps15
  have HV0_ := hide (HV0.out.push6 (b := w.heap.size) (by simp) (.bool false) (.string ⟨#[]⟩) (.string ⟨#[]⟩) (.bool false) (.string ⟨#[]⟩) (.string ⟨#[]⟩) 26)
  clear HV0
  go_wp2_with fail
  refine (HC.out _ HV0_.out.bel (HV0_.out.law HW.out)).mono ?_
  rintro e w1 ⟨rfl, hb⟩
  have HV1 := hide (HV0_.out.below hb)
  clear hb HV0_
  obtain ⟨c1, c2, c3, c4, c5, c6⟩ := HV1.out.at6 0 rfl
  obtain ⟨fc1, fc2, fc3, fc4, fc5, fc6⟩ := HV1.out.fz6 0 rfl
  have HV1_ := hide (HV1.out.put6 0 rfl (.bool false) (.string ⟨#[]⟩) (.string ⟨#[]⟩) (.bool false) (.string ⟨#[]⟩) (.string ⟨#[]⟩))
  clear HV1
  go_wp2_with fail
  clear c1 c2 c3 c4 c5 c6 fc1 fc2 fc3 fc4 fc5 fc6
  obtain ⟨d0, d1, d2, d3, d4, d5⟩ := HV1_.out.at6 0 rfl
  exact bodyPost_ret (v := .tuple #[.agg #[.bool false, .string ⟨#[]⟩, .string ⟨#[]⟩, .bool false, .string ⟨#[]⟩, .string ⟨#[]⟩], .int .i64 10]) (by simp [results, Tryz.results15, go_sem, d0, d1, d2, d3, d4, d5]) rfl ⟨rfl, HV1_.out.bel⟩
def ends (l : List (Q3 × Q3)) : List Q3 := l.flatMap fun x => [x.1, x.2]
theorem ends_take {l : List (Q3 × Q3)} {k : Nat} (hk : k < l.length) {x : Q3 × Q3} (e : l[k] = x) : ends (l.take (k + 1)) = ends (l.take k) ++ [x.1, x.2] := by
  unfold ends
  rw [List.take_succ_eq_append_getElem hk, List.flatMap_append, e]
  simp
theorem ends_len (l : List (Q3 × Q3)) : (ends l).length = 2 * l.length := by
  unfold ends
  induction l with
  | nil => rfl
  | cons x l ih => rw [List.flatMap_cons, List.length_append, ih, List.length_cons]; simp; omega
theorem flatV_two (x y : Q3) : flatV vQ [x, y] = [.bool x.1, .string x.2.1, .string x.2.2, .bool y.1, .string y.2.1, .string y.2.2] := rfl
set_option maxHeartbeats 8000000 in
set_option maxRecDepth 100000 in
theorem iv_hull_ok (l : List (Q3 × Q3)) (v : Value) (R S : Q3 → Q3 → Bool) (w : World) (hv : SliceOf vIv 6 w v l) (h0 : 0 < l.length) (hl : l.length ≤ 1000) (hV : ∀ x ∈ l, IVx x true) (hR : XF 35 (ends l) R) (hS : XF 54 (ends l) S)
    (ht : ∀ x ∈ ends l, ∀ y ∈ ends l, ∀ z ∈ ends l, R x y = false → R z y = true → R x z = false) (hr : ∀ x ∈ ends l, R x x = false) (ht' : ∀ x ∈ ends l, ∀ y ∈ ends l, ∀ z ∈ ends l, S x y = false → S z y = true → S x z = false) (hr' : ∀ x ∈ ends l, S x x = false) (hw : LawW w) :
    Calls Tryz.prog 15 #[v] w fun e w' => ∃ g s t h u q, e = .returned (.tuple #[.agg #[.bool g, .string s, .string t, .bool h, .string u, .string q], .int .i64 0]) ∧ LeastI R (ends l) (ends l).length (g, s, t) ∧ LeastI S (ends l) (ends l).length (h, u, q) ∧ Below w.heap.size w w' := by
  have HC := hide (fun W (hb : Below w.heap.size w W) hW => iv_some l v (fun _ => true) W (hv.below hb) hl hV hW)
  rw [show (l.any fun x => !(fun _ => true) x) = false by simp] at HC
  have HSP := hide (fun W (u : Value) (hu : SliceOf vQ 3 W u (ends l)) hW => iv_span (ends l) u R S W hu (by rw [ends_len]; omega) (by rw [ends_len]; omega) hR hS ht hr ht' hr' hW)
  have HSL := hide hv
  have HW := hide hw
  obtain ⟨i0, hi, hz0, hz1, hz2⟩ := info_parts Tryz.infoQ3
  obtain ⟨ao, cp, rfl⟩ := hv.shape
  have j0 : (l.length : Int) ≤ 1000 := by omega
  have j1 : ¬ 1000 < l.length := by omega
  have j2 : ¬ l.length = 0 := by omega
  have j3 : ((l.length : Int) == 0) = false := beq_eq_false_iff_ne.2 (by omega)
  have HV0 : Hid (VB w w []) := VB.nil w
  have HV1 := hide (HV0.out.push (b := w.heap.size) (by simp) [.bool false, .string ⟨#[]⟩, .string ⟨#[]⟩, .bool false, .string ⟨#[]⟩, .string ⟨#[]⟩] 26)
  clear hv hV hR hS ht hr ht' hr' hw HV0
  go_enter Tryz.func15, Tryz.ntmps15
  go_wp2_with fail
  refine (HC.out _ HV1.out.bel (HV1.out.law HW.out)).mono ?_
  rintro e w1 ⟨rfl, hb⟩
  have HV2 := hide (HV1.out.below hb)
  clear hb HV1
  go_wp2_with fail
  go_loopw [4, 23] (fun u x wx => ∃ k : Nat, k ≤ l.length ∧ x = .int .i64 (k : Int) ∧ OwnS wx (w.heap.size + 1) 3 u (ends (l.take k)).length (flatV vQ (ends (l.take k))) ∧ VB w wx [(w.heap.size, [.bool false, .string ⟨#[]⟩, .string ⟨#[]⟩, .bool false, .string ⟨#[]⟩, .string ⟨#[]⟩])]) (fun _ x _ => l.length - (intOf x).toNat)
  case atStart => exact ⟨0, Nat.zero_le _, rfl, OwnS.nil _ _ _, HV2.out⟩
  case round =>
    obtain ⟨k, hk, rfl, hown, hvb⟩ := hrel
    have HO := hide hown
    have HV := hide hvb
    have q0 : IntKind.i64.wrap ((k : Int) + 1) = (k : Int) + 1 := IntWalk.i64_in _ (by omega)
    clear hown hvb HV2
    by_cases hkl : k < l.length
    · have hkI : (k : Int) < (l.length : Int) := by omega
      have hk0 : (0 : Int) ≤ (k : Int) := by omega
      obtain ⟨b, off, cap, e1, hb, _, _, hc⟩ := (HSL.out.below HV.out.bel).some_of_pos (by omega)
      simp only [Value.slice.injEq] at e1
      obtain ⟨rfl, _, rfl⟩ := e1
      obtain ⟨x, hx⟩ : ∃ x, l[k] = x := ⟨_, rfl⟩
      have hc0 := q6 hc hkl hx
      have HX := hide hx
      obtain ⟨⟨g1, s1, t1⟩, ⟨g2, s2, t2⟩⟩ := x
      obtain ⟨a0, a1, a2, a3, a4, a5⟩ := hc0
      have hlit : SliceOf vQ 3 ((wr.alloc (.cells #[.bool g1, .string s1, .string t1, .bool g2, .string s2, .string t2] 26)).alloc (.cells #[.bool g1, .string s1, .string t1, .bool g2, .string s2, .string t2] 24)) (.slice (some ⟨wr.heap.size + 1, 0, none⟩) 2 2) [(g1, s1, t1), (g2, s2, t2)] := slice_lit_iv vQ_len (wr.alloc (.cells #[.bool g1, .string s1, .string t1, .bool g2, .string s2, .string t2] 26)) [(g1, s1, t1), (g2, s2, t2)] _ (show 2 ≤ maxLen by decide) (by simp) rfl rfl
      have HLIT := hide hlit
      have hln := ends_len (l.take k)
      rw [List.length_take] at hln
      have hln2 : (ends (l.take k)).length ≤ 2000 := by omega
      have hbytes : ((ends (l.take k)).length + 2) * 40 ≤ 140737488355328 := by omega
      have hmax : (ends (l.take k)).length + 2 ≤ maxLen := by unfold maxLen; omega
      have HE := hide (ends_take hkl HX.out)
      have HSZ : Hid (w.heap.size + 1 ≤ wr.heap.size) := by
        have := HV.out.lt (w.heap.size, [.bool false, .string ⟨#[]⟩, .string ⟨#[]⟩, .bool false, .string ⟨#[]⟩, .string ⟨#[]⟩]) (by simp)
        exact this
      have HLT := hide hb
      obtain ⟨n, hn⟩ : ∃ n, (ends (l.take k)).length = n := ⟨_, rfl⟩
      obtain ⟨xs, hxs⟩ : ∃ n, flatV vQ (ends (l.take k)) = n := ⟨_, rfl⟩
      rw [hn, hxs] at HO
      rw [hn] at hbytes hmax
      have HXS := hide hxs
      have HN := hide hn
      clear hc hx hb hlit hln hln2 hn hxs
      go_wp2_with (at_builtin; refine wpList_append_slice (by rfl) _ _ 42 rfl (w.heap.size + 1) 24 i0 (.agg #[.bool false, .string ⟨#[]⟩, .string ⟨#[]⟩]) 3 40 Tryz.underlying42 hi hz0 hz1 hz2 rfl (by decide) vQ_len vQ_one _ n xs rfl ((HO.out.alloc _).alloc _) _ [(g1, s1, t1), (g2, s2, t2)] rfl HLIT.out hmax hbytes (by have := HSZ.out; simp; omega) ?_)
      intro ao' cap' w4 hown4 hg4 hb4
      have HV4 := hide (((HV.out.anon (.cells #[.bool g1, .string s1, .string t1, .bool g2, .string s2, .string t2] 26)).anon (.cells #[.bool g1, .string s1, .string t1, .bool g2, .string s2, .string t2] 24)).belowB hb4 (by omega) (by simp))
      have HO4 : Hid (OwnS w4 (w.heap.size + 1) 3 (.slice ao' (n + 2) cap') (ends (l.take (k + 1))).length (flatV vQ (ends (l.take (k + 1))))) := by
        show OwnS _ _ _ _ _ _
        rw [HE.out, List.length_append, flatV_append, HN.out, HXS.out]
        exact hown4
      clear hown4 hg4 hb4 a0 a1 a2 a3 a4 a5
      go_wp2_with fail
      go_roundw
      case rel => exact ⟨k + 1, by omega, by go_num, HO4.out, HV4.out⟩
      case measure => (simp [intOf]; try omega)
    · obtain rfl : k = l.length := by omega
      have hkI : ¬ (l.length : Int) < (l.length : Int) := by omega
      have hs := HO.out
      rw [List.take_length] at hs
      have HSE := hide (OwnS.slice vQ_len hs)
      clear hs
      go_wp2_with fail
      refine (HSP.out _ _ HSE.out (HV.out.law HW.out)).mono ?_
      rintro e w5 ⟨g, s, t, h, u, q, rfl, hL1, hL2, hb⟩
      have HV5 := hide (HV.out.below hb)
      have HL1 := hide hL1
      have HL2 := hide hL2
      clear hb hL1 hL2
      obtain ⟨c1, c2, c3, c4, c5, c6⟩ := HV5.out.at6 0 rfl
      obtain ⟨fc1, fc2, fc3, fc4, fc5, fc6⟩ := HV5.out.fz6 0 rfl
      have HV5_ := hide (HV5.out.put6 0 rfl (.bool g) (.string s) (.string t) (.bool h) (.string u) (.string q))
      clear HV5
      go_wp2_with fail
      clear c1 c2 c3 c4 c5 c6 fc1 fc2 fc3 fc4 fc5 fc6
      obtain ⟨d0, d1, d2, d3, d4, d5⟩ := HV5_.out.at6 0 rfl
      exact bodyPost_ret (v := .tuple #[.agg #[.bool g, .string s, .string t, .bool h, .string u, .string q], .int .i64 0]) (by simp [results, Tryz.results15, go_sem, d0, d1, d2, d3, d4, d5]) rfl ⟨g, s, t, h, u, q, rfl, HL1.out, HL2.out, HV5_.out.bel⟩
end Go.Proofs.YtbojlmnajndleaaGreatDoor
/- interval: products, which is an iterator, and Mul, which ranges over it. -/
namespace Go.Proofs.YtbojlmnajndleaaGreatDoor
open Go.RowKit Go.Sort Go.Shelf
attribute [local go_sem] Oper.semAt_some

/-- The block in which the slice of variable A lies. -/
def rowB (W : World) (A : Nat) : Option Nat := (W.cell? ⟨A, 0, none⟩).bind Value.ownBlock
/-- What a round keeps that appends to the slice of variable A. -/
structure KpA (n₀ A : Nat) (W W' : World) : Prop where
  sz : W.heap.size ≤ W'.heap.size
  bel : Below n₀ W W'
  keep : ∀ (p : Addr) (v : Value), p.block ≠ A → rowB W A ≠ some p.block → W.cell? p = some v → W'.cell? p = some v
  row : rowB W' A = rowB W A ∨ ∃ g, rowB W' A = some g ∧ W.heap.size ≤ g
  lt : (∀ g, rowB W A = some g → g < W.heap.size) → ∀ g, rowB W' A = some g → g < W'.heap.size
  aA : (∃ v, W.cell? ⟨A, 0, none⟩ = some v) → ∃ v, W'.cell? ⟨A, 0, none⟩ = some v
theorem KpA.trans {n₀ A : Nat} {W W' W2 : World} (h : KpA n₀ A W W') (k : KpA n₀ A W' W2) : KpA n₀ A W W2 := by
  refine ⟨Nat.le_trans h.sz k.sz, h.bel.trans k.bel, fun p v hp hr hc => ?_, ?_, fun hl => k.lt (h.lt hl), fun ha => k.aA (h.aA ha)⟩
  · have hlt := World.block_lt_of_cell? _ _ hc
    refine k.keep p v hp (fun e => ?_) (h.keep p v hp hr hc)
    rcases h.row with e' | ⟨g, e', hg⟩
    · exact hr (e'.symm.trans e)
    · rw [e'] at e
      have : g = p.block := by simpa using e
      omega
  · rcases k.row with e' | ⟨g, e', hg⟩
    · rw [e']; exact h.row
    · exact .inr ⟨g, e', Nat.le_trans h.sz hg⟩
theorem cell_putObj {W : World} {l : Nat} {o o' : Obj} (h : W.heap[l]? = some o) (hc : o.isCells = false) {p : Addr} {v : Value} (hp : W.cell? p = some v) : (W.putObj l o').cell? p = some v := by
  have hne : p.block ≠ l := fun e => by
    unfold World.cell? at hp
    rw [e, h] at hp
    cases o <;> simp_all [Obj.isCells]
  rw [World.cell?_of_block (w := W) (a := p) (World.putObj_heap_other hne)]
  exact hp
theorem KpA.book {n₀ A : Nat} {w : World} (hA : A < w.heap.size) (hn : n₀ ≤ w.heap.size) (W : World) (l : Nat) (o o' : Obj) (hl : w.heap.size ≤ l) (h : W.heap[l]? = some o) (hc : o.isCells = false) (hk : o.isWalk = false) : KpA n₀ A W (W.putObj l o') := by
  have e : rowB (W.putObj l o') A = rowB W A := by
    unfold rowB
    rw [World.cell?_of_block (w := W) (a := ⟨A, 0, none⟩) (World.putObj_heap_other (show A ≠ l by omega))]
  refine ⟨by simp, belowK_b hn W l o o' hl h hc hk, fun p v _ _ hp => cell_putObj h hc hp, .inl e, fun hlt g hg => ?_, fun ⟨v, hv⟩ => ⟨v, cell_putObj h hc hv⟩⟩
  rw [e] at hg
  have := hlt g hg
  simpa using this
/-- What the iterator knows of its variables. -/
structure IT (n₀ A : Nat) (w0 W : World) (L : List (Nat × List Value)) : Prop where
  bel : Below n₀ w0 W
  all : ∀ x ∈ L, ∀ i (h : i < x.2.length), W.cell? ⟨x.1, i, none⟩ = some x.2[i]
  ne : ∀ x ∈ L, x.1 ≠ A
  row : ∀ x ∈ L, rowB W A ≠ some x.1
  rlt : ∀ g, rowB W A = some g → g < W.heap.size
  aA : ∃ v, W.cell? ⟨A, 0, none⟩ = some v
  lt : ∀ x ∈ L, x.1 < W.heap.size
section
variable {n₀ A : Nat} {w0 W W' : World} {L : List (Nat × List Value)}
theorem IT.below (h : IT n₀ A w0 W L) (hb : Below W.heap.size W W') (hn : n₀ ≤ W.heap.size) : IT n₀ A w0 W' L := by
  obtain ⟨v, hv⟩ := h.aA
  have e : rowB W' A = rowB W A := by unfold rowB; rw [hv, keep_cell hb hv]
  refine ⟨h.bel.trans (hb.mono hn), fun x hx i hi => keep_cell hb (h.all x hx i hi), h.ne, fun x hx => by rw [e]; exact h.row x hx, fun g hg => ?_, ⟨v, keep_cell hb hv⟩, fun x hx => Nat.lt_of_lt_of_le (h.lt x hx) hb.size⟩
  rw [e] at hg
  exact Nat.lt_of_lt_of_le (h.rlt g hg) hb.size
theorem IT.push (h : IT n₀ A w0 W L) (hn : n₀ ≤ W.heap.size) {b : Nat} (hb : W.heap.size = b) (vs : List Value) (T : TypeId) : IT n₀ A w0 (W.alloc (.cells vs.toArray T)) ((b, vs) :: L) := by
  subst hb
  have h2 := h.below (bAlloc (Below.refl _ _) (.cells vs.toArray T)) hn
  obtain ⟨v, hv⟩ := h.aA
  have hlt := World.block_lt_of_cell? _ _ hv
  have e : rowB (W.alloc (.cells vs.toArray T)) A = rowB W A := by unfold rowB; rw [hv, keep_cell (bAlloc (Below.refl _ _) _) hv]
  refine ⟨h2.bel, fun x hx => ?_, fun x hx => ?_, fun x hx => ?_, h2.rlt, h2.aA, fun x hx => ?_⟩
  · rcases List.mem_cons.1 hx with rfl | hx
    · intro i hi
      rw [World.cell?_alloc_new]
      simp [show i < vs.length from hi]
    · exact h2.all x hx
  · rcases List.mem_cons.1 hx with rfl | hx
    · intro e; simp only at e; simp only at hlt; omega
    · exact h2.ne x hx
  · rcases List.mem_cons.1 hx with rfl | hx
    · intro e2
      rw [e] at e2
      have := h.rlt _ e2
      omega
    · exact h2.row x hx
  · rcases List.mem_cons.1 hx with rfl | hx
    · simp
    · exact h2.lt x hx
theorem IT.round (h : IT n₀ A w0 W L) (k : KpA n₀ A W W') : IT n₀ A w0 W' L := by
  refine ⟨h.bel.trans k.bel, fun x hx i hi => k.keep _ _ (h.ne x hx) (h.row x hx) (h.all x hx i hi), h.ne, fun x hx e => ?_, k.lt h.rlt, k.aA h.aA, fun x hx => Nat.lt_of_lt_of_le (h.lt x hx) k.sz⟩
  rcases k.row with e' | ⟨g, e', hg⟩
  · exact h.row x hx (e'.symm.trans e)
  · rw [e'] at e
    have e2 : g = x.1 := by simpa using e
    have := h.lt x hx
    omega
theorem IT.tail {x : Nat × List Value} (h : IT n₀ A w0 W (x :: L)) : IT n₀ A w0 W L :=
  ⟨h.bel, fun y hy => h.all y (List.mem_cons_of_mem _ hy), fun y hy => h.ne y (List.mem_cons_of_mem _ hy), fun y hy => h.row y (List.mem_cons_of_mem _ hy), h.rlt, h.aA, fun y hy => h.lt y (List.mem_cons_of_mem _ hy)⟩
theorem IT.mem2 {x y z : Nat × List Value} (h : IT n₀ A w0 W [x, y, z]) : IT n₀ A w0 W [x, z] :=
  ⟨h.bel, fun u hu => h.all u (by simp at hu ⊢; rcases hu with e | e <;> simp [e]), fun u hu => h.ne u (by simp at hu ⊢; rcases hu with e | e <;> simp [e]), fun u hu => h.row u (by simp at hu ⊢; rcases hu with e | e <;> simp [e]), h.rlt, h.aA, fun u hu => h.lt u (by simp at hu ⊢; rcases hu with e | e <;> simp [e])⟩
theorem IT.n (h : IT n₀ A w0 W L) (hn : n₀ = w0.heap.size) : n₀ ≤ W.heap.size := by rw [hn]; have := h.bel.size; exact this
theorem abides_below {β : Type} {B : Nat} {J : β → World → Prop} (hJ : AbidesFrom B J) {x : β} (h : J x W) (hb : Below W.heap.size W W') : J x W' :=
  hJ x W W' none h ⟨hb.os, hb.tape, hb.output, hb.size, fun k hk _ => hb.block k hk⟩ (fun r e => by cases e)
end

def XM (a b m : Q3) : Prop := ∀ W, LawW W → Calls Tryz.prog 24 #[.agg #[.bool a.1, .string a.2.1, .string a.2.2], .agg #[.bool b.1, .string b.2.1, .string b.2.2]] W fun e w' => e = .returned (.tuple #[.agg #[.bool m.1, .string m.2.1, .string m.2.2], .int .i64 0]) ∧ Below W.heap.size W w'
set_option maxHeartbeats 8000000 in
set_option maxRecDepth 100000 in
theorem iv_prods (n l A Ba Bb : Nat) (hn : 1 ≤ n) (a1 a2 b1 b2 m0 m1 m2 m3 : Q3) (w0 W : World) (hw : LawW w0) (h0 : XM a1 b1 m0) (h1 : XM a1 b2 m1) (h2 : XM a2 b1 m2) (h3 : XM a2 b2 m3)
    (J Jx : List Q3 → World → Prop) (hJ : AbidesFrom W.heap.size J)
    (hY : ∀ pre x W1, J pre W1 → pre.length < 4 → YieldAt Fence.wide (n - 1) Tryz.prog l #[.agg #[.bool x.1, .string x.2.1, .string x.2.2], .int .i64 0] W1 fun e W' => (e = .returned (.bool true) ∧ J (pre ++ [x]) W' ∧ KpA w0.heap.size A W1 W') ∨ (e = .returned (.bool false) ∧ Jx (pre ++ [x]) W'))
    (hit : IT w0.heap.size A w0 W [(Ba, [.bool a1.1, .string a1.2.1, .string a1.2.2, .bool a2.1, .string a2.2.1, .string a2.2.2]), (Bb, [.bool b1.1, .string b1.2.1, .string b1.2.2, .bool b2.1, .string b2.2.1, .string b2.2.2])]) (hj : J [] W) :
    CallsIn Fence.wide n Tryz.prog 52 #[.func (.yield l) #[] #[], .pointer (some ⟨Ba, 0, none⟩), .pointer (some ⟨Bb, 0, none⟩)] W fun e W' => (∃ v, e = .returned v) ∧ ((∃ xs, xs = [m0, m1, m2, m3] ∧ J xs W') ∨ (∃ pre, True ∧ Jx pre W')) := by
  have H0 := hide h0
  have H1 := hide h1
  have H2 := hide h2
  have H3 := hide h3
  unfold XM at H0 H1 H2 H3
  have HJ := hide hJ
  have HY := hide hY
  have HW := hide hw
  have HI := hide hit
  have HJ0 := hide hj
  clear h0 h1 h2 h3 hJ hY hw hit hj
  have a0_ : W.cell? ⟨Ba, 0, none⟩ = some (.bool a1.1) := HI.out.all (Ba, [.bool a1.1, .string a1.2.1, .string a1.2.2, .bool a2.1, .string a2.2.1, .string a2.2.2]) (by simp) 0 (show 0 < 6 by decide)
  have a1_ : W.cell? ⟨Ba, 1, none⟩ = some (.string a1.2.1) := HI.out.all (Ba, [.bool a1.1, .string a1.2.1, .string a1.2.2, .bool a2.1, .string a2.2.1, .string a2.2.2]) (by simp) 1 (show 1 < 6 by decide)
  have a2_ : W.cell? ⟨Ba, 2, none⟩ = some (.string a1.2.2) := HI.out.all (Ba, [.bool a1.1, .string a1.2.1, .string a1.2.2, .bool a2.1, .string a2.2.1, .string a2.2.2]) (by simp) 2 (show 2 < 6 by decide)
  have a3_ : W.cell? ⟨Ba, 3, none⟩ = some (.bool a2.1) := HI.out.all (Ba, [.bool a1.1, .string a1.2.1, .string a1.2.2, .bool a2.1, .string a2.2.1, .string a2.2.2]) (by simp) 3 (show 3 < 6 by decide)
  have a4_ : W.cell? ⟨Ba, 4, none⟩ = some (.string a2.2.1) := HI.out.all (Ba, [.bool a1.1, .string a1.2.1, .string a1.2.2, .bool a2.1, .string a2.2.1, .string a2.2.2]) (by simp) 4 (show 4 < 6 by decide)
  have a5_ : W.cell? ⟨Ba, 5, none⟩ = some (.string a2.2.2) := HI.out.all (Ba, [.bool a1.1, .string a1.2.1, .string a1.2.2, .bool a2.1, .string a2.2.1, .string a2.2.2]) (by simp) 5 (show 5 < 6 by decide)
  refine callsIn_of_wp Tryz.func52 rfl trivial ?_ rfl
  simp only [Tryz.ntmps52, List.size_toArray, List.length_cons, List.length_nil, Nat.reduceAdd, Nat.reduceSub, Array.replicate_succ, Array.replicate_zero, List.push_toArray, List.append_toArray, List.nil_append, List.cons_append]
  gi_wp2
  have HI1 : Hid (IT w0.heap.size A w0 (W.alloc (.cells #[.bool a1.1, .string a1.2.1, .string a1.2.2, .bool a2.1, .string a2.2.1, .string a2.2.2] 24)) [(W.heap.size, [.bool a1.1, .string a1.2.1, .string a1.2.2, .bool a2.1, .string a2.2.1, .string a2.2.2]), (Bb, [.bool b1.1, .string b1.2.1, .string b1.2.2, .bool b2.1, .string b2.2.1, .string b2.2.2])]) := (HI.out.push (HI.out.n rfl) (b := W.heap.size) rfl [.bool a1.1, .string a1.2.1, .string a1.2.2, .bool a2.1, .string a2.2.1, .string a2.2.2] 24).mem2
  have HJ1 : Hid (J [] (W.alloc (.cells #[.bool a1.1, .string a1.2.1, .string a1.2.2, .bool a2.1, .string a2.2.1, .string a2.2.2] 24))) := abides_below HJ.out HJ0.out (bAlloc (Below.refl _ _) _)
  clear a0_ a1_ a2_ a3_ a4_ a5_ HI HJ0
  gi_loopw [14] (fun i wr => ∃ k : Nat, k ≤ 2 ∧ i = .int .i64 (k : Int) ∧ J ([m0, m1, m2, m3].take (2 * k)) wr ∧ IT w0.heap.size A w0 wr [(W.heap.size, [.bool a1.1, .string a1.2.1, .string a1.2.2, .bool a2.1, .string a2.2.1, .string a2.2.2]), (Bb, [.bool b1.1, .string b1.2.1, .string b1.2.2, .bool b2.1, .string b2.2.1, .string b2.2.2])]) (fun i _ => 2 - (intOf i).toNat)
  case atStart => exact ⟨0, by omega, rfl, HJ1.out, HI1.out⟩
  case round =>
    obtain ⟨k, hk, rfl, hj, hit⟩ := hrel
    clear HI1 HJ1
    obtain ⟨wo, rfl⟩ : ∃ x, x = wr := ⟨_, rfl⟩
    have HI := hide hit
    clear hit
    obtain rfl | rfl | rfl : k = 0 ∨ k = 1 ∨ k = 2 := by omega
    · have HJa : Hid (J [] wo) := hj
      clear hj
      have x0 : wo.cell? ⟨W.heap.size, 0, none⟩ = some (.bool a1.1) := HI.out.all (W.heap.size, [.bool a1.1, .string a1.2.1, .string a1.2.2, .bool a2.1, .string a2.2.1, .string a2.2.2]) (by simp) 0 (show 0 < 6 by decide)
      have x1 : wo.cell? ⟨W.heap.size, 1, none⟩ = some (.string a1.2.1) := HI.out.all (W.heap.size, [.bool a1.1, .string a1.2.1, .string a1.2.2, .bool a2.1, .string a2.2.1, .string a2.2.2]) (by simp) 1 (show 1 < 6 by decide)
      have x2 : wo.cell? ⟨W.heap.size, 2, none⟩ = some (.string a1.2.2) := HI.out.all (W.heap.size, [.bool a1.1, .string a1.2.1, .string a1.2.2, .bool a2.1, .string a2.2.1, .string a2.2.2]) (by simp) 2 (show 2 < 6 by decide)
      have HIa := hide (HI.out.push (HI.out.n rfl) (b := wo.heap.size) rfl [.bool a1.1, .string a1.2.1, .string a1.2.2] 24)
      have y0 : (wo.alloc (.cells #[.bool a1.1, .string a1.2.1, .string a1.2.2] 24)).cell? ⟨Bb, 0, none⟩ = some (.bool b1.1) := HIa.out.all (Bb, [.bool b1.1, .string b1.2.1, .string b1.2.2, .bool b2.1, .string b2.2.1, .string b2.2.2]) (by simp) 0 (show 0 < 6 by decide)
      have y1 : (wo.alloc (.cells #[.bool a1.1, .string a1.2.1, .string a1.2.2] 24)).cell? ⟨Bb, 1, none⟩ = some (.string b1.2.1) := HIa.out.all (Bb, [.bool b1.1, .string b1.2.1, .string b1.2.2, .bool b2.1, .string b2.2.1, .string b2.2.2]) (by simp) 1 (show 1 < 6 by decide)
      have y2 : (wo.alloc (.cells #[.bool a1.1, .string a1.2.1, .string a1.2.2] 24)).cell? ⟨Bb, 2, none⟩ = some (.string b1.2.2) := HIa.out.all (Bb, [.bool b1.1, .string b1.2.1, .string b1.2.2, .bool b2.1, .string b2.2.1, .string b2.2.2]) (by simp) 2 (show 2 < 6 by decide)
      have y3 : (wo.alloc (.cells #[.bool a1.1, .string a1.2.1, .string a1.2.2] 24)).cell? ⟨Bb, 3, none⟩ = some (.bool b2.1) := HIa.out.all (Bb, [.bool b1.1, .string b1.2.1, .string b1.2.2, .bool b2.1, .string b2.2.1, .string b2.2.2]) (by simp) 3 (show 3 < 6 by decide)
      have y4 : (wo.alloc (.cells #[.bool a1.1, .string a1.2.1, .string a1.2.2] 24)).cell? ⟨Bb, 4, none⟩ = some (.string b2.2.1) := HIa.out.all (Bb, [.bool b1.1, .string b1.2.1, .string b1.2.2, .bool b2.1, .string b2.2.1, .string b2.2.2]) (by simp) 4 (show 4 < 6 by decide)
      have y5 : (wo.alloc (.cells #[.bool a1.1, .string a1.2.1, .string a1.2.2] 24)).cell? ⟨Bb, 5, none⟩ = some (.string b2.2.2) := HIa.out.all (Bb, [.bool b1.1, .string b1.2.1, .string b1.2.2, .bool b2.1, .string b2.2.1, .string b2.2.2]) (by simp) 5 (show 5 < 6 by decide)
      have HIb := hide (HIa.out.push (HIa.out.n rfl) (b := wo.heap.size + 1) (by simp) [.bool b1.1, .string b1.2.1, .string b1.2.2, .bool b2.1, .string b2.2.1, .string b2.2.2] 24)
      have HJb : Hid (J [] ((wo.alloc (.cells #[.bool a1.1, .string a1.2.1, .string a1.2.2] 24)).alloc (.cells #[.bool b1.1, .string b1.2.1, .string b1.2.2, .bool b2.1, .string b2.2.1, .string b2.2.2] 24))) := abides_below HJ.out (abides_below HJ.out HJa.out (bAlloc (Below.refl _ _) _)) (bAlloc (Below.refl _ _) _)
      clear HJa HIa HI
      gi_wp2
      clear x0 x1 x2 y0 y1 y2 y3 y4 y5
      gi_loopw [24] (fun i wx => ∃ j : Nat, j ≤ 2 ∧ i = .int .i64 (j : Int) ∧ J ([m0, m1, m2, m3].take (0 + j)) wx ∧ IT w0.heap.size A w0 wx [(wo.heap.size + 1, [.bool b1.1, .string b1.2.1, .string b1.2.2, .bool b2.1, .string b2.2.1, .string b2.2.2]), (wo.heap.size, [.bool a1.1, .string a1.2.1, .string a1.2.2]), (W.heap.size, [.bool a1.1, .string a1.2.1, .string a1.2.2, .bool a2.1, .string a2.2.1, .string a2.2.2]), (Bb, [.bool b1.1, .string b1.2.1, .string b1.2.2, .bool b2.1, .string b2.2.1, .string b2.2.2])]) (fun i _ => 2 - (intOf i).toNat)
      case atStart => exact ⟨0, by omega, rfl, HJb.out, HIb.out⟩
      case round =>
        obtain ⟨j, hj, rfl, hjj, hit⟩ := hrel
        clear HIb HJb
        have HI := hide hit
        clear hit
        obtain rfl | rfl | rfl : j = 0 ∨ j = 1 ∨ j = 2 := by omega
        · have HJa : Hid (J [] wr) := hjj
          clear hjj
          have x0 : wr.cell? ⟨wo.heap.size + 1, 0, none⟩ = some (.bool b1.1) := HI.out.all (wo.heap.size + 1, [.bool b1.1, .string b1.2.1, .string b1.2.2, .bool b2.1, .string b2.2.1, .string b2.2.2]) (by simp) 0 (show 0 < 6 by decide)
          have x1 : wr.cell? ⟨wo.heap.size + 1, 1, none⟩ = some (.string b1.2.1) := HI.out.all (wo.heap.size + 1, [.bool b1.1, .string b1.2.1, .string b1.2.2, .bool b2.1, .string b2.2.1, .string b2.2.2]) (by simp) 1 (show 1 < 6 by decide)
          have x2 : wr.cell? ⟨wo.heap.size + 1, 2, none⟩ = some (.string b1.2.2) := HI.out.all (wo.heap.size + 1, [.bool b1.1, .string b1.2.1, .string b1.2.2, .bool b2.1, .string b2.2.1, .string b2.2.2]) (by simp) 2 (show 2 < 6 by decide)
          have HIa := hide (HI.out.push (HI.out.n rfl) (b := wr.heap.size) rfl [.bool b1.1, .string b1.2.1, .string b1.2.2] 24)
          have HJc : Hid (J [] (wr.alloc (.cells #[.bool b1.1, .string b1.2.1, .string b1.2.2] 24))) := abides_below HJ.out HJa.out (bAlloc (Below.refl _ _) _)
          have y0 : (wr.alloc (.cells #[.bool b1.1, .string b1.2.1, .string b1.2.2] 24)).cell? ⟨wo.heap.size, 0, none⟩ = some (.bool a1.1) := HIa.out.all (wo.heap.size, [.bool a1.1, .string a1.2.1, .string a1.2.2]) (by simp) 0 (show 0 < 3 by decide)
          have y1 : (wr.alloc (.cells #[.bool b1.1, .string b1.2.1, .string b1.2.2] 24)).cell? ⟨wo.heap.size, 1, none⟩ = some (.string a1.2.1) := HIa.out.all (wo.heap.size, [.bool a1.1, .string a1.2.1, .string a1.2.2]) (by simp) 1 (show 1 < 3 by decide)
          have y2 : (wr.alloc (.cells #[.bool b1.1, .string b1.2.1, .string b1.2.2] 24)).cell? ⟨wo.heap.size, 2, none⟩ = some (.string a1.2.2) := HIa.out.all (wo.heap.size, [.bool a1.1, .string a1.2.1, .string a1.2.2]) (by simp) 2 (show 2 < 3 by decide)
          gi_wp2_with (refine ⟨trivial, ?_⟩; gi_at_call 24; refine (callsIn_wide.2 (H0.out _ (HW.out.below HIa.out.bel))).mono ?_; rintro e w5 ⟨rfl, hb⟩; have HI5 := hide ((HIa.out.below hb (HIa.out.n rfl)).tail); have HJ5 := hide (abides_below HJ.out HJc.out hb); clear hb; obtain ⟨fn, tmps, assign, body, hy, hR⟩ := HY.out _ m0 w5 HJ5.out (show 0 < 4 by decide))
          refine hR.mono ?_
          rintro e W3 (⟨rfl, hJ3, hk3⟩ | ⟨rfl, hJx3⟩)
          · have HI6 := hide (HI5.out.round hk3)
            gi_wp2
            refine ⟨?_, ?_⟩
            · repeat apply Exists.intro
              refine ⟨?_, rfl⟩
              exact ⟨1, by omega, by go_num, hJ3, HI6.out⟩
            · (simp [intOf]; try omega)
          · gi_wp2
            refine bodyPost_ret (results_none rfl _ _ _) rfl ?_
            exact ⟨⟨_, rfl⟩, .inr ⟨_, trivial, hJx3⟩⟩
        · have HJa : Hid (J [m0] wr) := hjj
          clear hjj
          have x0 : wr.cell? ⟨wo.heap.size + 1, 3, none⟩ = some (.bool b2.1) := HI.out.all (wo.heap.size + 1, [.bool b1.1, .string b1.2.1, .string b1.2.2, .bool b2.1, .string b2.2.1, .string b2.2.2]) (by simp) 3 (show 3 < 6 by decide)
          have x1 : wr.cell? ⟨wo.heap.size + 1, 4, none⟩ = some (.string b2.2.1) := HI.out.all (wo.heap.size + 1, [.bool b1.1, .string b1.2.1, .string b1.2.2, .bool b2.1, .string b2.2.1, .string b2.2.2]) (by simp) 4 (show 4 < 6 by decide)
          have x2 : wr.cell? ⟨wo.heap.size + 1, 5, none⟩ = some (.string b2.2.2) := HI.out.all (wo.heap.size + 1, [.bool b1.1, .string b1.2.1, .string b1.2.2, .bool b2.1, .string b2.2.1, .string b2.2.2]) (by simp) 5 (show 5 < 6 by decide)
          have HIa := hide (HI.out.push (HI.out.n rfl) (b := wr.heap.size) rfl [.bool b2.1, .string b2.2.1, .string b2.2.2] 24)
          have HJc : Hid (J [m0] (wr.alloc (.cells #[.bool b2.1, .string b2.2.1, .string b2.2.2] 24))) := abides_below HJ.out HJa.out (bAlloc (Below.refl _ _) _)
          have y0 : (wr.alloc (.cells #[.bool b2.1, .string b2.2.1, .string b2.2.2] 24)).cell? ⟨wo.heap.size, 0, none⟩ = some (.bool a1.1) := HIa.out.all (wo.heap.size, [.bool a1.1, .string a1.2.1, .string a1.2.2]) (by simp) 0 (show 0 < 3 by decide)
          have y1 : (wr.alloc (.cells #[.bool b2.1, .string b2.2.1, .string b2.2.2] 24)).cell? ⟨wo.heap.size, 1, none⟩ = some (.string a1.2.1) := HIa.out.all (wo.heap.size, [.bool a1.1, .string a1.2.1, .string a1.2.2]) (by simp) 1 (show 1 < 3 by decide)
          have y2 : (wr.alloc (.cells #[.bool b2.1, .string b2.2.1, .string b2.2.2] 24)).cell? ⟨wo.heap.size, 2, none⟩ = some (.string a1.2.2) := HIa.out.all (wo.heap.size, [.bool a1.1, .string a1.2.1, .string a1.2.2]) (by simp) 2 (show 2 < 3 by decide)
          gi_wp2_with (refine ⟨trivial, ?_⟩; gi_at_call 24; refine (callsIn_wide.2 (H1.out _ (HW.out.below HIa.out.bel))).mono ?_; rintro e w5 ⟨rfl, hb⟩; have HI5 := hide ((HIa.out.below hb (HIa.out.n rfl)).tail); have HJ5 := hide (abides_below HJ.out HJc.out hb); clear hb; obtain ⟨fn, tmps, assign, body, hy, hR⟩ := HY.out _ m1 w5 HJ5.out (show 1 < 4 by decide))
          refine hR.mono ?_
          rintro e W3 (⟨rfl, hJ3, hk3⟩ | ⟨rfl, hJx3⟩)
          · have HI6 := hide (HI5.out.round hk3)
            gi_wp2
            refine ⟨?_, ?_⟩
            · repeat apply Exists.intro
              refine ⟨?_, rfl⟩
              exact ⟨2, by omega, by go_num, hJ3, HI6.out⟩
            · (simp [intOf]; try omega)
          · gi_wp2
            refine bodyPost_ret (results_none rfl _ _ _) rfl ?_
            exact ⟨⟨_, rfl⟩, .inr ⟨_, trivial, hJx3⟩⟩
        · have HJa : Hid (J [m0, m1] wr) := hjj
          have HI6 := hide HI.out.tail.tail
          clear hjj
          gi_wp2
          refine ⟨?_, ?_⟩
          · exact ⟨1, by omega, by go_num, HJa.out, HI6.out⟩
          · (simp [intOf]; try omega)
    · have HJa : Hid (J [m0, m1] wo) := hj
      clear hj
      have x0 : wo.cell? ⟨W.heap.size, 3, none⟩ = some (.bool a2.1) := HI.out.all (W.heap.size, [.bool a1.1, .string a1.2.1, .string a1.2.2, .bool a2.1, .string a2.2.1, .string a2.2.2]) (by simp) 3 (show 3 < 6 by decide)
      have x1 : wo.cell? ⟨W.heap.size, 4, none⟩ = some (.string a2.2.1) := HI.out.all (W.heap.size, [.bool a1.1, .string a1.2.1, .string a1.2.2, .bool a2.1, .string a2.2.1, .string a2.2.2]) (by simp) 4 (show 4 < 6 by decide)
      have x2 : wo.cell? ⟨W.heap.size, 5, none⟩ = some (.string a2.2.2) := HI.out.all (W.heap.size, [.bool a1.1, .string a1.2.1, .string a1.2.2, .bool a2.1, .string a2.2.1, .string a2.2.2]) (by simp) 5 (show 5 < 6 by decide)
      have HIa := hide (HI.out.push (HI.out.n rfl) (b := wo.heap.size) rfl [.bool a2.1, .string a2.2.1, .string a2.2.2] 24)
      have y0 : (wo.alloc (.cells #[.bool a2.1, .string a2.2.1, .string a2.2.2] 24)).cell? ⟨Bb, 0, none⟩ = some (.bool b1.1) := HIa.out.all (Bb, [.bool b1.1, .string b1.2.1, .string b1.2.2, .bool b2.1, .string b2.2.1, .string b2.2.2]) (by simp) 0 (show 0 < 6 by decide)
      have y1 : (wo.alloc (.cells #[.bool a2.1, .string a2.2.1, .string a2.2.2] 24)).cell? ⟨Bb, 1, none⟩ = some (.string b1.2.1) := HIa.out.all (Bb, [.bool b1.1, .string b1.2.1, .string b1.2.2, .bool b2.1, .string b2.2.1, .string b2.2.2]) (by simp) 1 (show 1 < 6 by decide)
      have y2 : (wo.alloc (.cells #[.bool a2.1, .string a2.2.1, .string a2.2.2] 24)).cell? ⟨Bb, 2, none⟩ = some (.string b1.2.2) := HIa.out.all (Bb, [.bool b1.1, .string b1.2.1, .string b1.2.2, .bool b2.1, .string b2.2.1, .string b2.2.2]) (by simp) 2 (show 2 < 6 by decide)
      have y3 : (wo.alloc (.cells #[.bool a2.1, .string a2.2.1, .string a2.2.2] 24)).cell? ⟨Bb, 3, none⟩ = some (.bool b2.1) := HIa.out.all (Bb, [.bool b1.1, .string b1.2.1, .string b1.2.2, .bool b2.1, .string b2.2.1, .string b2.2.2]) (by simp) 3 (show 3 < 6 by decide)
      have y4 : (wo.alloc (.cells #[.bool a2.1, .string a2.2.1, .string a2.2.2] 24)).cell? ⟨Bb, 4, none⟩ = some (.string b2.2.1) := HIa.out.all (Bb, [.bool b1.1, .string b1.2.1, .string b1.2.2, .bool b2.1, .string b2.2.1, .string b2.2.2]) (by simp) 4 (show 4 < 6 by decide)
      have y5 : (wo.alloc (.cells #[.bool a2.1, .string a2.2.1, .string a2.2.2] 24)).cell? ⟨Bb, 5, none⟩ = some (.string b2.2.2) := HIa.out.all (Bb, [.bool b1.1, .string b1.2.1, .string b1.2.2, .bool b2.1, .string b2.2.1, .string b2.2.2]) (by simp) 5 (show 5 < 6 by decide)
      have HIb := hide (HIa.out.push (HIa.out.n rfl) (b := wo.heap.size + 1) (by simp) [.bool b1.1, .string b1.2.1, .string b1.2.2, .bool b2.1, .string b2.2.1, .string b2.2.2] 24)
      have HJb : Hid (J [m0, m1] ((wo.alloc (.cells #[.bool a2.1, .string a2.2.1, .string a2.2.2] 24)).alloc (.cells #[.bool b1.1, .string b1.2.1, .string b1.2.2, .bool b2.1, .string b2.2.1, .string b2.2.2] 24))) := abides_below HJ.out (abides_below HJ.out HJa.out (bAlloc (Below.refl _ _) _)) (bAlloc (Below.refl _ _) _)
      clear HJa HIa HI
      gi_wp2
      clear x0 x1 x2 y0 y1 y2 y3 y4 y5
      gi_loopw [24] (fun i wx => ∃ j : Nat, j ≤ 2 ∧ i = .int .i64 (j : Int) ∧ J ([m0, m1, m2, m3].take (2 + j)) wx ∧ IT w0.heap.size A w0 wx [(wo.heap.size + 1, [.bool b1.1, .string b1.2.1, .string b1.2.2, .bool b2.1, .string b2.2.1, .string b2.2.2]), (wo.heap.size, [.bool a2.1, .string a2.2.1, .string a2.2.2]), (W.heap.size, [.bool a1.1, .string a1.2.1, .string a1.2.2, .bool a2.1, .string a2.2.1, .string a2.2.2]), (Bb, [.bool b1.1, .string b1.2.1, .string b1.2.2, .bool b2.1, .string b2.2.1, .string b2.2.2])]) (fun i _ => 2 - (intOf i).toNat)
      case atStart => exact ⟨0, by omega, rfl, HJb.out, HIb.out⟩
      case round =>
        obtain ⟨j, hj, rfl, hjj, hit⟩ := hrel
        clear HIb HJb
        have HI := hide hit
        clear hit
        obtain rfl | rfl | rfl : j = 0 ∨ j = 1 ∨ j = 2 := by omega
        · have HJa : Hid (J [m0, m1] wr) := hjj
          clear hjj
          have x0 : wr.cell? ⟨wo.heap.size + 1, 0, none⟩ = some (.bool b1.1) := HI.out.all (wo.heap.size + 1, [.bool b1.1, .string b1.2.1, .string b1.2.2, .bool b2.1, .string b2.2.1, .string b2.2.2]) (by simp) 0 (show 0 < 6 by decide)
          have x1 : wr.cell? ⟨wo.heap.size + 1, 1, none⟩ = some (.string b1.2.1) := HI.out.all (wo.heap.size + 1, [.bool b1.1, .string b1.2.1, .string b1.2.2, .bool b2.1, .string b2.2.1, .string b2.2.2]) (by simp) 1 (show 1 < 6 by decide)
          have x2 : wr.cell? ⟨wo.heap.size + 1, 2, none⟩ = some (.string b1.2.2) := HI.out.all (wo.heap.size + 1, [.bool b1.1, .string b1.2.1, .string b1.2.2, .bool b2.1, .string b2.2.1, .string b2.2.2]) (by simp) 2 (show 2 < 6 by decide)
          have HIa := hide (HI.out.push (HI.out.n rfl) (b := wr.heap.size) rfl [.bool b1.1, .string b1.2.1, .string b1.2.2] 24)
          have HJc : Hid (J [m0, m1] (wr.alloc (.cells #[.bool b1.1, .string b1.2.1, .string b1.2.2] 24))) := abides_below HJ.out HJa.out (bAlloc (Below.refl _ _) _)
          have y0 : (wr.alloc (.cells #[.bool b1.1, .string b1.2.1, .string b1.2.2] 24)).cell? ⟨wo.heap.size, 0, none⟩ = some (.bool a2.1) := HIa.out.all (wo.heap.size, [.bool a2.1, .string a2.2.1, .string a2.2.2]) (by simp) 0 (show 0 < 3 by decide)
          have y1 : (wr.alloc (.cells #[.bool b1.1, .string b1.2.1, .string b1.2.2] 24)).cell? ⟨wo.heap.size, 1, none⟩ = some (.string a2.2.1) := HIa.out.all (wo.heap.size, [.bool a2.1, .string a2.2.1, .string a2.2.2]) (by simp) 1 (show 1 < 3 by decide)
          have y2 : (wr.alloc (.cells #[.bool b1.1, .string b1.2.1, .string b1.2.2] 24)).cell? ⟨wo.heap.size, 2, none⟩ = some (.string a2.2.2) := HIa.out.all (wo.heap.size, [.bool a2.1, .string a2.2.1, .string a2.2.2]) (by simp) 2 (show 2 < 3 by decide)
          gi_wp2_with (refine ⟨trivial, ?_⟩; gi_at_call 24; refine (callsIn_wide.2 (H2.out _ (HW.out.below HIa.out.bel))).mono ?_; rintro e w5 ⟨rfl, hb⟩; have HI5 := hide ((HIa.out.below hb (HIa.out.n rfl)).tail); have HJ5 := hide (abides_below HJ.out HJc.out hb); clear hb; obtain ⟨fn, tmps, assign, body, hy, hR⟩ := HY.out _ m2 w5 HJ5.out (show 2 < 4 by decide))
          refine hR.mono ?_
          rintro e W3 (⟨rfl, hJ3, hk3⟩ | ⟨rfl, hJx3⟩)
          · have HI6 := hide (HI5.out.round hk3)
            gi_wp2
            refine ⟨?_, ?_⟩
            · repeat apply Exists.intro
              refine ⟨?_, rfl⟩
              exact ⟨1, by omega, by go_num, hJ3, HI6.out⟩
            · (simp [intOf]; try omega)
          · gi_wp2
            refine bodyPost_ret (results_none rfl _ _ _) rfl ?_
            exact ⟨⟨_, rfl⟩, .inr ⟨_, trivial, hJx3⟩⟩
        · have HJa : Hid (J [m0, m1, m2] wr) := hjj
          clear hjj
          have x0 : wr.cell? ⟨wo.heap.size + 1, 3, none⟩ = some (.bool b2.1) := HI.out.all (wo.heap.size + 1, [.bool b1.1, .string b1.2.1, .string b1.2.2, .bool b2.1, .string b2.2.1, .string b2.2.2]) (by simp) 3 (show 3 < 6 by decide)
          have x1 : wr.cell? ⟨wo.heap.size + 1, 4, none⟩ = some (.string b2.2.1) := HI.out.all (wo.heap.size + 1, [.bool b1.1, .string b1.2.1, .string b1.2.2, .bool b2.1, .string b2.2.1, .string b2.2.2]) (by simp) 4 (show 4 < 6 by decide)
          have x2 : wr.cell? ⟨wo.heap.size + 1, 5, none⟩ = some (.string b2.2.2) := HI.out.all (wo.heap.size + 1, [.bool b1.1, .string b1.2.1, .string b1.2.2, .bool b2.1, .string b2.2.1, .string b2.2.2]) (by simp) 5 (show 5 < 6 by decide)
          have HIa := hide (HI.out.push (HI.out.n rfl) (b := wr.heap.size) rfl [.bool b2.1, .string b2.2.1, .string b2.2.2] 24)
          have HJc : Hid (J [m0, m1, m2] (wr.alloc (.cells #[.bool b2.1, .string b2.2.1, .string b2.2.2] 24))) := abides_below HJ.out HJa.out (bAlloc (Below.refl _ _) _)
          have y0 : (wr.alloc (.cells #[.bool b2.1, .string b2.2.1, .string b2.2.2] 24)).cell? ⟨wo.heap.size, 0, none⟩ = some (.bool a2.1) := HIa.out.all (wo.heap.size, [.bool a2.1, .string a2.2.1, .string a2.2.2]) (by simp) 0 (show 0 < 3 by decide)
          have y1 : (wr.alloc (.cells #[.bool b2.1, .string b2.2.1, .string b2.2.2] 24)).cell? ⟨wo.heap.size, 1, none⟩ = some (.string a2.2.1) := HIa.out.all (wo.heap.size, [.bool a2.1, .string a2.2.1, .string a2.2.2]) (by simp) 1 (show 1 < 3 by decide)
          have y2 : (wr.alloc (.cells #[.bool b2.1, .string b2.2.1, .string b2.2.2] 24)).cell? ⟨wo.heap.size, 2, none⟩ = some (.string a2.2.2) := HIa.out.all (wo.heap.size, [.bool a2.1, .string a2.2.1, .string a2.2.2]) (by simp) 2 (show 2 < 3 by decide)
          gi_wp2_with (refine ⟨trivial, ?_⟩; gi_at_call 24; refine (callsIn_wide.2 (H3.out _ (HW.out.below HIa.out.bel))).mono ?_; rintro e w5 ⟨rfl, hb⟩; have HI5 := hide ((HIa.out.below hb (HIa.out.n rfl)).tail); have HJ5 := hide (abides_below HJ.out HJc.out hb); clear hb; obtain ⟨fn, tmps, assign, body, hy, hR⟩ := HY.out _ m3 w5 HJ5.out (show 3 < 4 by decide))
          refine hR.mono ?_
          rintro e W3 (⟨rfl, hJ3, hk3⟩ | ⟨rfl, hJx3⟩)
          · have HI6 := hide (HI5.out.round hk3)
            gi_wp2
            refine ⟨?_, ?_⟩
            · repeat apply Exists.intro
              refine ⟨?_, rfl⟩
              exact ⟨2, by omega, by go_num, hJ3, HI6.out⟩
            · (simp [intOf]; try omega)
          · gi_wp2
            refine bodyPost_ret (results_none rfl _ _ _) rfl ?_
            exact ⟨⟨_, rfl⟩, .inr ⟨_, trivial, hJx3⟩⟩
        · have HJa : Hid (J [m0, m1, m2, m3] wr) := hjj
          have HI6 := hide HI.out.tail.tail
          clear hjj
          gi_wp2
          refine ⟨?_, ?_⟩
          · exact ⟨2, by omega, by go_num, HJa.out, HI6.out⟩
          · (simp [intOf]; try omega)
    · have HJa : Hid (J [m0, m1, m2, m3] wo) := hj
      clear hj
      gi_wp2
      go_end0
      exact ⟨⟨_, rfl⟩, .inl ⟨_, rfl, HJa.out⟩⟩

end Go.Proofs.YtbojlmnajndleaaGreatDoor
/- interval: Mul. -/
namespace Go.Proofs.YtbojlmnajndleaaGreatDoor
open Go.RowKit Go.Sort Go.Shelf
attribute [local go_sem] Oper.semAt_some

/-- 'append(out, x)' of one element in a round of a loop over an iterator. -/
theorem wpListIn_appendS {F : Fence} {m : Nat} {P : Program} {w0 : World} {ops : Array Oper} {rest : List Oper} {o : Oper} {a : Act} {Q : Exit → Act → World → Prop} (hgd : o.guard = none) (s x : Operand) (t : TypeId)
    (ho : o.op = .call { callee := .builtin .append, args := #[s, x], argTypes := #[t, t] })
    (B : Nat) (e : TypeId) (i : TypeInfo) (z : Value) (size bytes : Nat) (ht : P.underlying t = some (.slice e)) (hi : P.info? e = some i) (hz : i.zero = some z)
    (hsize : i.size = size) (hby : i.bytes = bytes) (hzs : z.cells.size = size) (hsz : 0 < size)
    (v : Value) (n : Nat) (xs : List Value) (hs : a.eval s = v) (hown : OwnS w0 B size v n xs)
    (cs : Array Value) (T : TypeId) (c : Nat) (hx : a.eval x = .slice (some ⟨w0.heap.size, 0, none⟩) 1 c) (hl : cs.size = size) (h1 : ∀ u ∈ cs.toList, u.oneCell' = true)
    (hbytes : (n + 1) * bytes ≤ 140737488355328) (hb0 : 0 < bytes) (hbase : B ≤ w0.heap.size)
    (h : ∀ g off cap w', OwnS w' B size (.slice (some ⟨g, off, none⟩) (n + 1) cap) (n + 1) (xs ++ cs.toList) → w0.grownBy w' v.ownBlock → (v.ownBlock = some g ∨ w0.heap.size ≤ g) → wpListIn F m P ops Q rest (a.put o.dst (.slice (some ⟨g, off, none⟩) (n + 1) cap)) w') : wpListIn F m P ops Q (o :: rest) a (w0.alloc (.cells cs T)) := by
  have hmx : n + 1 ≤ maxLen := by
    have h2 : (n + 1) * 1 ≤ (n + 1) * bytes := Nat.mul_le_mul_left _ hb0
    unfold maxLen; omega
  obtain ⟨g, off, cap, w', hrun, h2, hg, hat⟩ := run_append_S (P := P) (w0.alloc (.cells cs T)) t o.type B e i z size bytes ht hi hz hsize hby hzs hsz v n xs (hown.alloc _) ⟨w0.heap.size, 0, none⟩ 1 c cs.toList (by simp [hl])
    (by intro j u hj; rw [addr_add, Nat.zero_add, World.cell?_alloc_at _ _ _ _ rfl]; simpa using hj) h1 (by omega) hmx hbytes (by simp; omega)
  have hg' : w0.grownBy w' v.ownBlock := ⟨hg.os, hg.tape, hg.output, Nat.le_trans (by simp) hg.size, fun k hk hne => (hg.block k (by simp; omega) hne).trans (Below.heap_alloc w0 _ k hk)⟩
  refine wpListIn_plain hgd fun K hK' => ?_
  unfold Oper.wpIn
  refine ⟨?_, ?_⟩
  · simp [Oper.about, ho, resolve, Target.leads, Sem.run_pure]
  · rw [Oper.semAt_plain F _ _ (by rw [ho]; intro c hc'; cases hc')]
    simp [execOp, ho, resolve, invoke, builtin, hs, hx, hrun, Result.andThen]
    exact hK' _ _ (h g off cap w' h2 hg' (hat.imp id fun h => Nat.le_trans (by simp) h))
theorem OwnS.turn {B size n : Nat} {v : Value} {xs : List Value} {W W' : World} (h : OwnS W B size v n xs) (hs : W.heap.size ≤ W'.heap.size) (hc : ∀ (p : Addr) (u : Value), W.cell? p = some u → W'.cell? p = some u ∧ W'.frozen? p = W.frozen? p) : OwnS W' B size v n xs := by
  refine ⟨h.1, ?_⟩
  rcases h.2 with ⟨ao, h1, h2, h3⟩ | ⟨g, off, cap, hv, hb, hlt, hn, hm, hcc, hx⟩
  · exact .inl ⟨ao, h1, h2, fun a ha => ⟨(h3 a ha).1, Nat.lt_of_lt_of_le (h3 a ha).2 hs⟩⟩
  · refine .inr ⟨g, off, cap, hv, hb, Nat.lt_of_lt_of_le hlt hs, hn, hm, fun j hj => ?_, fun j u hu => (hc _ _ (hx j u hu)).1⟩
    obtain ⟨a, b⟩ := hcc j hj
    obtain ⟨u, hu⟩ := Option.isSome_iff_exists.1 a
    exact ⟨by rw [(hc _ _ hu).1]; rfl, (hc _ _ hu).2.trans b⟩
/-- A turn of a block that holds no cells. -/
theorem turn_cell {W W' : World} {row : Option Nat} (hg : W.grownBy W' row) (hr : ∀ r, row = some r → ∃ o : Obj, W.heap[r]? = some o ∧ o.isCells = false) {p : Addr} {u : Value} (h : W.cell? p = some u) : W'.cell? p = some u ∧ W'.frozen? p = W.frozen? p := by
  have hlt := World.block_lt_of_cell? _ _ h
  have hne : some p.block ≠ row := fun e => by
    obtain ⟨o, ho, hc⟩ := hr p.block e.symm
    unfold World.cell? at h
    rw [ho] at h
    cases o <;> simp_all [Obj.isCells]
  have e := hg.block p.block hlt hne
  exact ⟨(World.cell?_of_block (w := W) (a := p) e).trans h, World.frozen?_of_block (w := W) (a := p) e⟩
theorem VB.turn {w W W' : World} {L : List (Nat × List Value)} {row : Option Nat} {B : Nat} (h : VB w W L) (hB : w.heap.size ≤ B) (hg : W.grownBy W' row) (hr : ∀ r, row = some r → B ≤ r ∧ ∃ o : Obj, W.heap[r]? = some o ∧ o.isCells = false) : VB w W' L :=
  ⟨h.bel.grown hg h.bel.size (fun k e => Nat.le_trans hB (hr k e).1), fun x hx i hi => by
    obtain ⟨a, b⟩ := h.all x hx i hi
    obtain ⟨c, d⟩ := turn_cell hg (fun r e => (hr r e).2) a
    exact ⟨c, d.trans b⟩, fun x hx => Nat.lt_of_lt_of_le (h.lt x hx) hg.size, h.lo, h.ord⟩
/-- What a round of Mul keeps: one element appended to the slice in variable A. -/
theorem KpA.app {w W w1 : World} {A : Nat} {v v' : Value} {g : Nat} (hA : W.cell? ⟨A, 0, none⟩ = some v) (hn : w.heap.size ≤ A) (hv : ∀ k, v.ownBlock = some k → A < k ∧ k < W.heap.size) (hg : W.grownBy w1 v.ownBlock) (hv' : v'.ownBlock = some g) (hg1 : g < w1.heap.size) (hat : v.ownBlock = some g ∨ W.heap.size ≤ g) : KpA w.heap.size A W (w1.setCell ⟨A, 0, none⟩ v') := by
  have hAl := World.block_lt_of_cell? _ _ hA
  simp only at hAl
  have hAr : some A ≠ v.ownBlock := fun e => by have := (hv A e.symm).1; omega
  have hA1 : w1.cell? ⟨A, 0, none⟩ = some v := (World.cell?_of_block (w := W) (a := ⟨A, 0, none⟩) (hg.block A hAl hAr)).trans hA
  have hr0 : rowB W A = v.ownBlock := by unfold rowB; rw [hA]; rfl
  have hr1 : rowB (w1.setCell ⟨A, 0, none⟩ v') A = some g := by
    unfold rowB
    rw [World.cell?_setCell_same _ _ _ hA1]
    exact hv'
  refine ⟨by simpa using hg.size, ((Below.refl w.heap.size W).grown hg (by omega) (fun k e => by have := (hv k e).1; omega)).setCell (p := ⟨A, 0, none⟩) hn _, fun p u hp hr hc => ?_, ?_, fun _ k hk => ?_, fun _ => ⟨v', World.cell?_setCell_same _ _ _ hA1⟩⟩
  · have hlt := World.block_lt_of_cell? _ _ hc
    rw [World.cell?_setCell_other _ _ _ _ (fun e => hp (by rw [← e]))]
    exact (World.cell?_of_block (w := W) (a := p) (hg.block p.block hlt (fun e => hr (hr0.trans e.symm)))).trans hc
  · rw [hr0, hr1]
    rcases hat with e | e
    · exact .inl e.symm
    · exact .inr ⟨g, rfl, e⟩
  · rw [hr1] at hk
    have : g = k := by simpa using hk
    subst this
    simpa using hg1

theorem KpA.of_below {n₀ A : Nat} {W W' : World} (hb : Below W.heap.size W W') (hn : n₀ ≤ W.heap.size) (hA : ∃ v, W.cell? ⟨A, 0, none⟩ = some v) : KpA n₀ A W W' := by
  obtain ⟨v, hv⟩ := hA
  have e : rowB W' A = rowB W A := by unfold rowB; rw [hv, keep_cell hb hv]
  refine ⟨hb.size, hb.mono hn, fun p u _ _ hc => (hb.cell (p := p) (World.block_lt_of_cell? _ _ hc)).trans hc, .inl e, fun hl g hg => ?_, fun _ => ⟨v, keep_cell hb hv⟩⟩
  rw [e] at hg
  exact Nat.lt_of_lt_of_le (hl g hg) hb.size
/-- Between two rounds of Mul: what has come is in the slice of variable A. -/
structure MI (w : World) (A E Z : Nat) (pre : List Q3) (W : World) (v : Value) : Prop where
  vb : VB w W [(A, [v]), (E, [.int .i64 0]), (Z, [.bool false, .string ⟨#[]⟩, .string ⟨#[]⟩, .bool false, .string ⟨#[]⟩, .string ⟨#[]⟩])]
  own : OwnS W (A + 1) 3 v pre.length (flatV vQ pre)
  cel : ∀ k, v.ownBlock = some k → ∃ (p : Addr) (u : Value), p.block = k ∧ W.cell? p = some u
theorem MI.turn {w W W' : World} {A E Z B : Nat} {pre : List Q3} {v : Value} {row : Option Nat} (h : MI w A E Z pre W v) (hB : w.heap.size ≤ B) (hg : W.grownBy W' row) (hr : ∀ r, row = some r → B ≤ r ∧ ∃ o : Obj, W.heap[r]? = some o ∧ o.isCells = false) : MI w A E Z pre W' v :=
  ⟨h.vb.turn hB hg hr, h.own.turn hg.size (fun p u hp => turn_cell hg (fun r e => (hr r e).2) hp), fun k hk => by
    obtain ⟨p, u, hp, hc⟩ := h.cel k hk
    exact ⟨p, u, hp, (turn_cell hg (fun r e => (hr r e).2) hc).1⟩⟩
theorem MI.below {w W W' : World} {A E Z : Nat} {pre : List Q3} {v : Value} (h : MI w A E Z pre W v) (hb : Below W.heap.size W W') : MI w A E Z pre W' v :=
  ⟨h.vb.below hb, h.own.below hb, fun k hk => by
    obtain ⟨p, u, hp, hc⟩ := h.cel k hk
    exact ⟨p, u, hp, (hb.cell (p := p) (World.block_lt_of_cell? _ _ hc)).trans hc⟩⟩
/-- A number in a variable of a round. -/
def BX (W : World) (b : Nat) (x : Q3) : Prop := W.cell? ⟨b, 0, none⟩ = some (.bool x.1) ∧ W.cell? ⟨b, 1, none⟩ = some (.string x.2.1) ∧ W.cell? ⟨b, 2, none⟩ = some (.string x.2.2)
theorem BX.turn {W W' : World} {b : Nat} {x : Q3} {row : Option Nat} (h : BX W b x) (hg : W.grownBy W' row) (hr : ∀ r, row = some r → ∃ o : Obj, W.heap[r]? = some o ∧ o.isCells = false) : BX W' b x :=
  ⟨(turn_cell hg hr h.1).1, (turn_cell hg hr h.2.1).1, (turn_cell hg hr h.2.2).1⟩
/-- One more number. -/
theorem MI.app {w W w1 : World} {A E Z : Nat} {pre : List Q3} {v : Value} {x : Q3} {g off cap : Nat} (h : MI w A E Z pre W v) (hEA : E < A) (hZE : Z < E) (hown : OwnS w1 (A + 1) 3 (.slice (some ⟨g, off, none⟩) (pre.length + 1) cap) (pre.length + 1) (flatV vQ pre ++ vQ x)) (hg : W.grownBy w1 v.ownBlock) :
    MI w A E Z (pre ++ [x]) (w1.setCell ⟨A, 0, none⟩ (.slice (some ⟨g, off, none⟩) (pre.length + 1) cap)) (.slice (some ⟨g, off, none⟩) (pre.length + 1) cap) := by
  have hA : w.heap.size ≤ A := h.vb.lo (A, [v]) (by simp)
  have hAl : A < W.heap.size := h.vb.lt (A, [v]) (by simp)
  have hB : Below (A + 1) W w1 := (Below.refl (A + 1) W).grown hg (by omega) (fun k e => (h.own.lt k e).1)
  have h2 := (h.vb.belowB hB (by omega) (by simp; omega)).set 0 (show 0 < 3 by decide) 0 (show 0 < 1 by decide) (.slice (some ⟨g, off, none⟩) (pre.length + 1) cap)
  have h3 : OwnS (w1.setCell ⟨A, 0, none⟩ (.slice (some ⟨g, off, none⟩) (pre.length + 1) cap)) (A + 1) 3 (.slice (some ⟨g, off, none⟩) (pre.length + 1) cap) (pre ++ [x]).length (flatV vQ (pre ++ [x])) := by
    rw [List.length_append, flatV_append, flatV_one]
    exact hown.setCell (p := ⟨A, 0, none⟩) (Nat.lt_succ_self A) _
  refine ⟨h2, h3, fun k hk => ?_⟩
  have hgk : g = k := by simpa [Value.ownBlock] using hk
  subst hgk
  rcases h3.2 with ⟨ao, h1, h4, _⟩ | ⟨g', off', cap', hv, hb, hlt, hn, hm, hcc, hx⟩
  · rw [List.length_append] at h4; simp at h4
  · simp only [Value.slice.injEq, Option.some.injEq, Addr.mk.injEq, and_true] at hv
    obtain ⟨⟨rfl, rfl⟩, _, rfl⟩ := hv
    rw [List.length_append] at hn
    have := (hcc 0 (by simp at hn; omega)).1
    obtain ⟨u, hu⟩ := Option.isSome_iff_exists.1 this
    exact ⟨⟨g, off + 0, none⟩, u, rfl, hu⟩
theorem keeps_app {W w1 : World} {B A : Nat} {v v' : Value} (hg : W.grownBy w1 v.ownBlock) (hc : ∀ k, v.ownBlock = some k → ∃ (p : Addr) (u : Value), p.block = k ∧ W.cell? p = some u) (hA : ∃ u, W.cell? ⟨A, 0, none⟩ = some u) : KeepsFrom B W (w1.setCell ⟨A, 0, none⟩ v') := by
  have nc : ∀ (k : Nat) (o : Obj), W.heap[k]? = some o → o.isCells = false → ∀ (p : Addr) (u : Value), p.block = k → W.cell? p = some u → False := fun k o ho hoc p u hp hcu => by
    unfold World.cell? at hcu
    rw [hp, ho] at hcu
    cases o <;> simp_all [Obj.isCells]
  refine ⟨by simpa using hg.size, fun k o _ hk ho => ?_⟩
  have hlt := (Array.getElem?_eq_some_iff.1 hk).1
  have h1 : w1.heap[k]? = some o := (hg.block k hlt (fun e => by
    obtain ⟨p, u, hp, hcu⟩ := hc k e.symm
    exact nc k o hk ho p u hp hcu)).trans hk
  refine (Below.heap_setCell _ _ _ _ (fun e => ?_)).trans h1
  obtain ⟨u, hu⟩ := hA
  exact nc k o hk ho ⟨A, 0, none⟩ u e.symm hu

set_option maxRecDepth 100000 in
theorem iv_products (ga : Bool) (sa ta : ByteArray) (gb : Bool) (sb tb : ByteArray) (gc : Bool) (sc tc : ByteArray) (gd : Bool) (sd td : ByteArray) (w : World) : Calls Tryz.prog 29 #[.agg #[.bool ga, .string sa, .string ta, .bool gb, .string sb, .string tb], .agg #[.bool gc, .string sc, .string tc, .bool gd, .string sd, .string td]] w fun e w' => e = .returned (.func (.func 52) #[] #[.pointer (some ⟨w.heap.size, 0, none⟩), .pointer (some ⟨w.heap.size + 1, 0, none⟩)]) ∧ w' = (w.alloc (.cells #[.bool ga, .string sa, .string ta, .bool gb, .string sb, .string tb] 26)).alloc (.cells #[.bool gc, .string sc, .string tc, .bool gd, .string sd, .string td] 26) := by
  go_enter Tryz.func29, Tryz.ntmps29
  go_wp2_with fail
  go_ret
  exact ⟨rfl, rfl⟩
theorem grown_cell {W w1 : World} {row : Option Nat} {p : Addr} {u : Value} (hg : W.grownBy w1 row) (h : W.cell? p = some u) (hr : ∀ k, row = some k → k ≠ p.block) : w1.cell? p = some u ∧ w1.frozen? p = W.frozen? p := by
  have e := hg.block p.block (World.block_lt_of_cell? _ _ h) (fun e => hr p.block e.symm rfl)
  exact ⟨(World.cell?_of_block (w := W) (a := p) e).trans h, World.frozen?_of_block (w := W) (a := p) e⟩
set_option maxHeartbeats 4000000 in
set_option maxRecDepth 100000 in
theorem iv_mul1 (ga : Bool) (sa ta : ByteArray) (gb : Bool) (sb tb : ByteArray) (gc : Bool) (sc tc : ByteArray) (gd : Bool) (sd td : ByteArray) (w : World) (h1 : IV ga sa ta gb sb tb false) (hw : LawW w) :
    Calls Tryz.prog 13 #[.agg #[.bool ga, .string sa, .string ta, .bool gb, .string sb, .string tb], .agg #[.bool gc, .string sc, .string tc, .bool gd, .string sd, .string td]] w fun e w' => e = .returned (.tuple #[.agg #[.bool false, .string ⟨#[]⟩, .string ⟨#[]⟩, .bool false, .string ⟨#[]⟩, .string ⟨#[]⟩], .int .i64 1]) ∧ Below w.heap.size w w' := by
  unfold IV at h1
  have Hh1 := hide h1
  have HW := hide hw
  have HV0 : Hid (VB w w []) := VB.nil w
  clear h1 hw 
  go_enter Tryz.func13, Tryz.ntmps13
  have HV0_ := hide (HV0.out.push6 (b := w.heap.size) (by simp) (.bool ga) (.string sa) (.string ta) (.bool gb) (.string sb) (.string tb) 26)
  clear HV0
  have HV0__ := hide (HV0_.out.push6 (b := w.heap.size + 1) (by simp) (.bool gc) (.string sc) (.string tc) (.bool gd) (.string sd) (.string td) 26)
  clear HV0_
  have HV0___ := hide (HV0__.out.push6 (b := w.heap.size + 2) (by simp) (.bool false) (.string ⟨#[]⟩) (.string ⟨#[]⟩) (.bool false) (.string ⟨#[]⟩) (.string ⟨#[]⟩) 26)
  clear HV0__
  have HV0____ := hide (HV0___.out.push (b := w.heap.size + 3) (by simp) [.int .i64 0] 30)
  clear HV0___
  obtain ⟨c1, c2, c3, c4, c5, c6⟩ := HV0____.out.at6 3 rfl
  go_wp2_with fail
  clear c1 c2 c3 c4 c5 c6
  refine (Hh1.out _ (HV0____.out.law HW.out)).mono ?_
  rintro e w1 ⟨rfl, hb⟩
  have HV1 := hide (HV0____.out.below hb)
  clear hb HV0____
  obtain ⟨c7, c8, c9, c10, c11, c12⟩ := HV1.out.at6 1 rfl
  obtain ⟨fc7, fc8, fc9, fc10, fc11, fc12⟩ := HV1.out.fz6 1 rfl
  have HV1_ := hide (HV1.out.put6 1 rfl (.bool false) (.string ⟨#[]⟩) (.string ⟨#[]⟩) (.bool false) (.string ⟨#[]⟩) (.string ⟨#[]⟩))
  clear HV1
  have c13 : ((((((w1.setCell ⟨w.heap.size + 2, 0, none⟩ (.bool false)).setCell ⟨w.heap.size + 2, 1, none⟩ (.string ⟨#[]⟩)).setCell ⟨w.heap.size + 2, 2, none⟩ (.string ⟨#[]⟩)).setCell ⟨w.heap.size + 2, 3, none⟩ (.bool false)).setCell ⟨w.heap.size + 2, 4, none⟩ (.string ⟨#[]⟩)).setCell ⟨w.heap.size + 2, 5, none⟩ (.string ⟨#[]⟩)).cell? ⟨w.heap.size + 3, 0, none⟩ = some (.int .i64 0) := (HV1_.out.at (b := w.heap.size + 3) (vs := [.int .i64 0]) (by simp) 0 (show 0 < 1 by decide)).1
  have fc13 : ((((((w1.setCell ⟨w.heap.size + 2, 0, none⟩ (.bool false)).setCell ⟨w.heap.size + 2, 1, none⟩ (.string ⟨#[]⟩)).setCell ⟨w.heap.size + 2, 2, none⟩ (.string ⟨#[]⟩)).setCell ⟨w.heap.size + 2, 3, none⟩ (.bool false)).setCell ⟨w.heap.size + 2, 4, none⟩ (.string ⟨#[]⟩)).setCell ⟨w.heap.size + 2, 5, none⟩ (.string ⟨#[]⟩)).frozen? ⟨w.heap.size + 3, 0, none⟩ = false := (HV1_.out.at (b := w.heap.size + 3) (vs := [.int .i64 0]) (by simp) 0 (show 0 < 1 by decide)).2
  have HV1__ : Hid (VB w (((((((w1.setCell ⟨w.heap.size + 2, 0, none⟩ (.bool false)).setCell ⟨w.heap.size + 2, 1, none⟩ (.string ⟨#[]⟩)).setCell ⟨w.heap.size + 2, 2, none⟩ (.string ⟨#[]⟩)).setCell ⟨w.heap.size + 2, 3, none⟩ (.bool false)).setCell ⟨w.heap.size + 2, 4, none⟩ (.string ⟨#[]⟩)).setCell ⟨w.heap.size + 2, 5, none⟩ (.string ⟨#[]⟩)).setCell ⟨w.heap.size + 3, 0, none⟩ (.int .i64 1)) [(w.heap.size + 3, [.int .i64 1]), (w.heap.size + 2, [.bool false, .string ⟨#[]⟩, .string ⟨#[]⟩, .bool false, .string ⟨#[]⟩, .string ⟨#[]⟩]), (w.heap.size + 1, [.bool gc, .string sc, .string tc, .bool gd, .string sd, .string td]), (w.heap.size, [.bool ga, .string sa, .string ta, .bool gb, .string sb, .string tb])]) := HV1_.out.set 0 (show 0 < 4 by decide) 0 (show 0 < 1 by decide) (.int .i64 1)
  clear HV1_
  go_wp2_with fail
  clear c7 c8 c9 c10 c11 c12 fc7 fc8 fc9 fc10 fc11 fc12 c13 fc13
  have d0 : (((((((w1.setCell ⟨w.heap.size + 2, 0, none⟩ (.bool false)).setCell ⟨w.heap.size + 2, 1, none⟩ (.string ⟨#[]⟩)).setCell ⟨w.heap.size + 2, 2, none⟩ (.string ⟨#[]⟩)).setCell ⟨w.heap.size + 2, 3, none⟩ (.bool false)).setCell ⟨w.heap.size + 2, 4, none⟩ (.string ⟨#[]⟩)).setCell ⟨w.heap.size + 2, 5, none⟩ (.string ⟨#[]⟩)).setCell ⟨w.heap.size + 3, 0, none⟩ (.int .i64 1)).cell? ⟨w.heap.size + 2, 0, none⟩ = some (.bool false) := (HV1__.out.at (b := w.heap.size + 2) (vs := [.bool false, .string ⟨#[]⟩, .string ⟨#[]⟩, .bool false, .string ⟨#[]⟩, .string ⟨#[]⟩]) (by simp) 0 (show 0 < 6 by decide)).1
  have d1 : (((((((w1.setCell ⟨w.heap.size + 2, 0, none⟩ (.bool false)).setCell ⟨w.heap.size + 2, 1, none⟩ (.string ⟨#[]⟩)).setCell ⟨w.heap.size + 2, 2, none⟩ (.string ⟨#[]⟩)).setCell ⟨w.heap.size + 2, 3, none⟩ (.bool false)).setCell ⟨w.heap.size + 2, 4, none⟩ (.string ⟨#[]⟩)).setCell ⟨w.heap.size + 2, 5, none⟩ (.string ⟨#[]⟩)).setCell ⟨w.heap.size + 3, 0, none⟩ (.int .i64 1)).cell? ⟨w.heap.size + 2, 1, none⟩ = some (.string ⟨#[]⟩) := (HV1__.out.at (b := w.heap.size + 2) (vs := [.bool false, .string ⟨#[]⟩, .string ⟨#[]⟩, .bool false, .string ⟨#[]⟩, .string ⟨#[]⟩]) (by simp) 1 (show 1 < 6 by decide)).1
  have d2 : (((((((w1.setCell ⟨w.heap.size + 2, 0, none⟩ (.bool false)).setCell ⟨w.heap.size + 2, 1, none⟩ (.string ⟨#[]⟩)).setCell ⟨w.heap.size + 2, 2, none⟩ (.string ⟨#[]⟩)).setCell ⟨w.heap.size + 2, 3, none⟩ (.bool false)).setCell ⟨w.heap.size + 2, 4, none⟩ (.string ⟨#[]⟩)).setCell ⟨w.heap.size + 2, 5, none⟩ (.string ⟨#[]⟩)).setCell ⟨w.heap.size + 3, 0, none⟩ (.int .i64 1)).cell? ⟨w.heap.size + 2, 2, none⟩ = some (.string ⟨#[]⟩) := (HV1__.out.at (b := w.heap.size + 2) (vs := [.bool false, .string ⟨#[]⟩, .string ⟨#[]⟩, .bool false, .string ⟨#[]⟩, .string ⟨#[]⟩]) (by simp) 2 (show 2 < 6 by decide)).1
  have d3 : (((((((w1.setCell ⟨w.heap.size + 2, 0, none⟩ (.bool false)).setCell ⟨w.heap.size + 2, 1, none⟩ (.string ⟨#[]⟩)).setCell ⟨w.heap.size + 2, 2, none⟩ (.string ⟨#[]⟩)).setCell ⟨w.heap.size + 2, 3, none⟩ (.bool false)).setCell ⟨w.heap.size + 2, 4, none⟩ (.string ⟨#[]⟩)).setCell ⟨w.heap.size + 2, 5, none⟩ (.string ⟨#[]⟩)).setCell ⟨w.heap.size + 3, 0, none⟩ (.int .i64 1)).cell? ⟨w.heap.size + 2, 3, none⟩ = some (.bool false) := (HV1__.out.at (b := w.heap.size + 2) (vs := [.bool false, .string ⟨#[]⟩, .string ⟨#[]⟩, .bool false, .string ⟨#[]⟩, .string ⟨#[]⟩]) (by simp) 3 (show 3 < 6 by decide)).1
  have d4 : (((((((w1.setCell ⟨w.heap.size + 2, 0, none⟩ (.bool false)).setCell ⟨w.heap.size + 2, 1, none⟩ (.string ⟨#[]⟩)).setCell ⟨w.heap.size + 2, 2, none⟩ (.string ⟨#[]⟩)).setCell ⟨w.heap.size + 2, 3, none⟩ (.bool false)).setCell ⟨w.heap.size + 2, 4, none⟩ (.string ⟨#[]⟩)).setCell ⟨w.heap.size + 2, 5, none⟩ (.string ⟨#[]⟩)).setCell ⟨w.heap.size + 3, 0, none⟩ (.int .i64 1)).cell? ⟨w.heap.size + 2, 4, none⟩ = some (.string ⟨#[]⟩) := (HV1__.out.at (b := w.heap.size + 2) (vs := [.bool false, .string ⟨#[]⟩, .string ⟨#[]⟩, .bool false, .string ⟨#[]⟩, .string ⟨#[]⟩]) (by simp) 4 (show 4 < 6 by decide)).1
  have d5 : (((((((w1.setCell ⟨w.heap.size + 2, 0, none⟩ (.bool false)).setCell ⟨w.heap.size + 2, 1, none⟩ (.string ⟨#[]⟩)).setCell ⟨w.heap.size + 2, 2, none⟩ (.string ⟨#[]⟩)).setCell ⟨w.heap.size + 2, 3, none⟩ (.bool false)).setCell ⟨w.heap.size + 2, 4, none⟩ (.string ⟨#[]⟩)).setCell ⟨w.heap.size + 2, 5, none⟩ (.string ⟨#[]⟩)).setCell ⟨w.heap.size + 3, 0, none⟩ (.int .i64 1)).cell? ⟨w.heap.size + 2, 5, none⟩ = some (.string ⟨#[]⟩) := (HV1__.out.at (b := w.heap.size + 2) (vs := [.bool false, .string ⟨#[]⟩, .string ⟨#[]⟩, .bool false, .string ⟨#[]⟩, .string ⟨#[]⟩]) (by simp) 5 (show 5 < 6 by decide)).1
  have d6 : (((((((w1.setCell ⟨w.heap.size + 2, 0, none⟩ (.bool false)).setCell ⟨w.heap.size + 2, 1, none⟩ (.string ⟨#[]⟩)).setCell ⟨w.heap.size + 2, 2, none⟩ (.string ⟨#[]⟩)).setCell ⟨w.heap.size + 2, 3, none⟩ (.bool false)).setCell ⟨w.heap.size + 2, 4, none⟩ (.string ⟨#[]⟩)).setCell ⟨w.heap.size + 2, 5, none⟩ (.string ⟨#[]⟩)).setCell ⟨w.heap.size + 3, 0, none⟩ (.int .i64 1)).cell? ⟨w.heap.size + 3, 0, none⟩ = some (.int .i64 1) := (HV1__.out.at (b := w.heap.size + 3) (vs := [.int .i64 1]) (by simp) 0 (show 0 < 1 by decide)).1
  exact bodyPost_ret (v := .tuple #[.agg #[.bool false, .string ⟨#[]⟩, .string ⟨#[]⟩, .bool false, .string ⟨#[]⟩, .string ⟨#[]⟩], .int .i64 1]) (by simp [results, Tryz.results13, go_sem, d0, d1, d2, d3, d4, d5, d6]) rfl ⟨rfl, HV1__.out.bel⟩
set_option maxHeartbeats 4000000 in
set_option maxRecDepth 100000 in
theorem iv_mul2 (ga : Bool) (sa ta : ByteArray) (gb : Bool) (sb tb : ByteArray) (gc : Bool) (sc tc : ByteArray) (gd : Bool) (sd td : ByteArray) (w : World) (h1 : IV ga sa ta gb sb tb true) (h2 : IV gc sc tc gd sd td false) (hw : LawW w) :
    Calls Tryz.prog 13 #[.agg #[.bool ga, .string sa, .string ta, .bool gb, .string sb, .string tb], .agg #[.bool gc, .string sc, .string tc, .bool gd, .string sd, .string td]] w fun e w' => e = .returned (.tuple #[.agg #[.bool false, .string ⟨#[]⟩, .string ⟨#[]⟩, .bool false, .string ⟨#[]⟩, .string ⟨#[]⟩], .int .i64 1]) ∧ Below w.heap.size w w' := by
  unfold IV at h1
  have Hh1 := hide h1
  unfold IV at h2
  have Hh2 := hide h2
  have HW := hide hw
  have HV0 : Hid (VB w w []) := VB.nil w
  clear h1 h2 hw 
  go_enter Tryz.func13, Tryz.ntmps13
  have HV0_ := hide (HV0.out.push6 (b := w.heap.size) (by simp) (.bool ga) (.string sa) (.string ta) (.bool gb) (.string sb) (.string tb) 26)
  clear HV0
  have HV0__ := hide (HV0_.out.push6 (b := w.heap.size + 1) (by simp) (.bool gc) (.string sc) (.string tc) (.bool gd) (.string sd) (.string td) 26)
  clear HV0_
  have HV0___ := hide (HV0__.out.push6 (b := w.heap.size + 2) (by simp) (.bool false) (.string ⟨#[]⟩) (.string ⟨#[]⟩) (.bool false) (.string ⟨#[]⟩) (.string ⟨#[]⟩) 26)
  clear HV0__
  have HV0____ := hide (HV0___.out.push (b := w.heap.size + 3) (by simp) [.int .i64 0] 30)
  clear HV0___
  obtain ⟨c1, c2, c3, c4, c5, c6⟩ := HV0____.out.at6 3 rfl
  go_wp2_with fail
  clear c1 c2 c3 c4 c5 c6
  refine (Hh1.out _ (HV0____.out.law HW.out)).mono ?_
  rintro e w1 ⟨rfl, hb⟩
  have HV1 := hide (HV0____.out.below hb)
  clear hb HV0____
  obtain ⟨c7, c8, c9, c10, c11, c12⟩ := HV1.out.at6 2 rfl
  go_wp2_with fail
  clear c7 c8 c9 c10 c11 c12
  refine (Hh2.out _ (HV1.out.law HW.out)).mono ?_
  rintro e w2 ⟨rfl, hb⟩
  have HV2 := hide (HV1.out.below hb)
  clear hb HV1
  obtain ⟨c13, c14, c15, c16, c17, c18⟩ := HV2.out.at6 1 rfl
  obtain ⟨fc13, fc14, fc15, fc16, fc17, fc18⟩ := HV2.out.fz6 1 rfl
  have HV2_ := hide (HV2.out.put6 1 rfl (.bool false) (.string ⟨#[]⟩) (.string ⟨#[]⟩) (.bool false) (.string ⟨#[]⟩) (.string ⟨#[]⟩))
  clear HV2
  have c19 : ((((((w2.setCell ⟨w.heap.size + 2, 0, none⟩ (.bool false)).setCell ⟨w.heap.size + 2, 1, none⟩ (.string ⟨#[]⟩)).setCell ⟨w.heap.size + 2, 2, none⟩ (.string ⟨#[]⟩)).setCell ⟨w.heap.size + 2, 3, none⟩ (.bool false)).setCell ⟨w.heap.size + 2, 4, none⟩ (.string ⟨#[]⟩)).setCell ⟨w.heap.size + 2, 5, none⟩ (.string ⟨#[]⟩)).cell? ⟨w.heap.size + 3, 0, none⟩ = some (.int .i64 0) := (HV2_.out.at (b := w.heap.size + 3) (vs := [.int .i64 0]) (by simp) 0 (show 0 < 1 by decide)).1
  have fc19 : ((((((w2.setCell ⟨w.heap.size + 2, 0, none⟩ (.bool false)).setCell ⟨w.heap.size + 2, 1, none⟩ (.string ⟨#[]⟩)).setCell ⟨w.heap.size + 2, 2, none⟩ (.string ⟨#[]⟩)).setCell ⟨w.heap.size + 2, 3, none⟩ (.bool false)).setCell ⟨w.heap.size + 2, 4, none⟩ (.string ⟨#[]⟩)).setCell ⟨w.heap.size + 2, 5, none⟩ (.string ⟨#[]⟩)).frozen? ⟨w.heap.size + 3, 0, none⟩ = false := (HV2_.out.at (b := w.heap.size + 3) (vs := [.int .i64 0]) (by simp) 0 (show 0 < 1 by decide)).2
  have HV2__ : Hid (VB w (((((((w2.setCell ⟨w.heap.size + 2, 0, none⟩ (.bool false)).setCell ⟨w.heap.size + 2, 1, none⟩ (.string ⟨#[]⟩)).setCell ⟨w.heap.size + 2, 2, none⟩ (.string ⟨#[]⟩)).setCell ⟨w.heap.size + 2, 3, none⟩ (.bool false)).setCell ⟨w.heap.size + 2, 4, none⟩ (.string ⟨#[]⟩)).setCell ⟨w.heap.size + 2, 5, none⟩ (.string ⟨#[]⟩)).setCell ⟨w.heap.size + 3, 0, none⟩ (.int .i64 1)) [(w.heap.size + 3, [.int .i64 1]), (w.heap.size + 2, [.bool false, .string ⟨#[]⟩, .string ⟨#[]⟩, .bool false, .string ⟨#[]⟩, .string ⟨#[]⟩]), (w.heap.size + 1, [.bool gc, .string sc, .string tc, .bool gd, .string sd, .string td]), (w.heap.size, [.bool ga, .string sa, .string ta, .bool gb, .string sb, .string tb])]) := HV2_.out.set 0 (show 0 < 4 by decide) 0 (show 0 < 1 by decide) (.int .i64 1)
  clear HV2_
  go_wp2_with fail
  clear c13 c14 c15 c16 c17 c18 fc13 fc14 fc15 fc16 fc17 fc18 c19 fc19
  have d0 : (((((((w2.setCell ⟨w.heap.size + 2, 0, none⟩ (.bool false)).setCell ⟨w.heap.size + 2, 1, none⟩ (.string ⟨#[]⟩)).setCell ⟨w.heap.size + 2, 2, none⟩ (.string ⟨#[]⟩)).setCell ⟨w.heap.size + 2, 3, none⟩ (.bool false)).setCell ⟨w.heap.size + 2, 4, none⟩ (.string ⟨#[]⟩)).setCell ⟨w.heap.size + 2, 5, none⟩ (.string ⟨#[]⟩)).setCell ⟨w.heap.size + 3, 0, none⟩ (.int .i64 1)).cell? ⟨w.heap.size + 2, 0, none⟩ = some (.bool false) := (HV2__.out.at (b := w.heap.size + 2) (vs := [.bool false, .string ⟨#[]⟩, .string ⟨#[]⟩, .bool false, .string ⟨#[]⟩, .string ⟨#[]⟩]) (by simp) 0 (show 0 < 6 by decide)).1
  have d1 : (((((((w2.setCell ⟨w.heap.size + 2, 0, none⟩ (.bool false)).setCell ⟨w.heap.size + 2, 1, none⟩ (.string ⟨#[]⟩)).setCell ⟨w.heap.size + 2, 2, none⟩ (.string ⟨#[]⟩)).setCell ⟨w.heap.size + 2, 3, none⟩ (.bool false)).setCell ⟨w.heap.size + 2, 4, none⟩ (.string ⟨#[]⟩)).setCell ⟨w.heap.size + 2, 5, none⟩ (.string ⟨#[]⟩)).setCell ⟨w.heap.size + 3, 0, none⟩ (.int .i64 1)).cell? ⟨w.heap.size + 2, 1, none⟩ = some (.string ⟨#[]⟩) := (HV2__.out.at (b := w.heap.size + 2) (vs := [.bool false, .string ⟨#[]⟩, .string ⟨#[]⟩, .bool false, .string ⟨#[]⟩, .string ⟨#[]⟩]) (by simp) 1 (show 1 < 6 by decide)).1
  have d2 : (((((((w2.setCell ⟨w.heap.size + 2, 0, none⟩ (.bool false)).setCell ⟨w.heap.size + 2, 1, none⟩ (.string ⟨#[]⟩)).setCell ⟨w.heap.size + 2, 2, none⟩ (.string ⟨#[]⟩)).setCell ⟨w.heap.size + 2, 3, none⟩ (.bool false)).setCell ⟨w.heap.size + 2, 4, none⟩ (.string ⟨#[]⟩)).setCell ⟨w.heap.size + 2, 5, none⟩ (.string ⟨#[]⟩)).setCell ⟨w.heap.size + 3, 0, none⟩ (.int .i64 1)).cell? ⟨w.heap.size + 2, 2, none⟩ = some (.string ⟨#[]⟩) := (HV2__.out.at (b := w.heap.size + 2) (vs := [.bool false, .string ⟨#[]⟩, .string ⟨#[]⟩, .bool false, .string ⟨#[]⟩, .string ⟨#[]⟩]) (by simp) 2 (show 2 < 6 by decide)).1
  have d3 : (((((((w2.setCell ⟨w.heap.size + 2, 0, none⟩ (.bool false)).setCell ⟨w.heap.size + 2, 1, none⟩ (.string ⟨#[]⟩)).setCell ⟨w.heap.size + 2, 2, none⟩ (.string ⟨#[]⟩)).setCell ⟨w.heap.size + 2, 3, none⟩ (.bool false)).setCell ⟨w.heap.size + 2, 4, none⟩ (.string ⟨#[]⟩)).setCell ⟨w.heap.size + 2, 5, none⟩ (.string ⟨#[]⟩)).setCell ⟨w.heap.size + 3, 0, none⟩ (.int .i64 1)).cell? ⟨w.heap.size + 2, 3, none⟩ = some (.bool false) := (HV2__.out.at (b := w.heap.size + 2) (vs := [.bool false, .string ⟨#[]⟩, .string ⟨#[]⟩, .bool false, .string ⟨#[]⟩, .string ⟨#[]⟩]) (by simp) 3 (show 3 < 6 by decide)).1
  have d4 : (((((((w2.setCell ⟨w.heap.size + 2, 0, none⟩ (.bool false)).setCell ⟨w.heap.size + 2, 1, none⟩ (.string ⟨#[]⟩)).setCell ⟨w.heap.size + 2, 2, none⟩ (.string ⟨#[]⟩)).setCell ⟨w.heap.size + 2, 3, none⟩ (.bool false)).setCell ⟨w.heap.size + 2, 4, none⟩ (.string ⟨#[]⟩)).setCell ⟨w.heap.size + 2, 5, none⟩ (.string ⟨#[]⟩)).setCell ⟨w.heap.size + 3, 0, none⟩ (.int .i64 1)).cell? ⟨w.heap.size + 2, 4, none⟩ = some (.string ⟨#[]⟩) := (HV2__.out.at (b := w.heap.size + 2) (vs := [.bool false, .string ⟨#[]⟩, .string ⟨#[]⟩, .bool false, .string ⟨#[]⟩, .string ⟨#[]⟩]) (by simp) 4 (show 4 < 6 by decide)).1
  have d5 : (((((((w2.setCell ⟨w.heap.size + 2, 0, none⟩ (.bool false)).setCell ⟨w.heap.size + 2, 1, none⟩ (.string ⟨#[]⟩)).setCell ⟨w.heap.size + 2, 2, none⟩ (.string ⟨#[]⟩)).setCell ⟨w.heap.size + 2, 3, none⟩ (.bool false)).setCell ⟨w.heap.size + 2, 4, none⟩ (.string ⟨#[]⟩)).setCell ⟨w.heap.size + 2, 5, none⟩ (.string ⟨#[]⟩)).setCell ⟨w.heap.size + 3, 0, none⟩ (.int .i64 1)).cell? ⟨w.heap.size + 2, 5, none⟩ = some (.string ⟨#[]⟩) := (HV2__.out.at (b := w.heap.size + 2) (vs := [.bool false, .string ⟨#[]⟩, .string ⟨#[]⟩, .bool false, .string ⟨#[]⟩, .string ⟨#[]⟩]) (by simp) 5 (show 5 < 6 by decide)).1
  have d6 : (((((((w2.setCell ⟨w.heap.size + 2, 0, none⟩ (.bool false)).setCell ⟨w.heap.size + 2, 1, none⟩ (.string ⟨#[]⟩)).setCell ⟨w.heap.size + 2, 2, none⟩ (.string ⟨#[]⟩)).setCell ⟨w.heap.size + 2, 3, none⟩ (.bool false)).setCell ⟨w.heap.size + 2, 4, none⟩ (.string ⟨#[]⟩)).setCell ⟨w.heap.size + 2, 5, none⟩ (.string ⟨#[]⟩)).setCell ⟨w.heap.size + 3, 0, none⟩ (.int .i64 1)).cell? ⟨w.heap.size + 3, 0, none⟩ = some (.int .i64 1) := (HV2__.out.at (b := w.heap.size + 3) (vs := [.int .i64 1]) (by simp) 0 (show 0 < 1 by decide)).1
  exact bodyPost_ret (v := .tuple #[.agg #[.bool false, .string ⟨#[]⟩, .string ⟨#[]⟩, .bool false, .string ⟨#[]⟩, .string ⟨#[]⟩], .int .i64 1]) (by simp [results, Tryz.results13, go_sem, d0, d1, d2, d3, d4, d5, d6]) rfl ⟨rfl, HV2__.out.bel⟩
set_option maxHeartbeats 8000000 in
set_option maxRecDepth 100000 in
theorem iv_mul3 (ga : Bool) (sa ta : ByteArray) (gb : Bool) (sb tb : ByteArray) (gc : Bool) (sc tc : ByteArray) (gd : Bool) (sd td : ByteArray) (m0 m1 m2 m3 : Q3) (w : World) (h1 : IV ga sa ta gb sb tb true) (h2 : IV gc sc tc gd sd td true) (k0 : XM (ga, sa, ta) (gc, sc, tc) m0) (k1 : XM (ga, sa, ta) (gd, sd, td) m1) (k2 : XM (gb, sb, tb) (gc, sc, tc) m2) (k3 : XM (gb, sb, tb) (gd, sd, td) m3)
    (R S : Q3 → Q3 → Bool) (hR : XF 35 [m0, m1, m2, m3] R) (hS : XF 54 [m0, m1, m2, m3] S)
    (ht : ∀ x ∈ [m0, m1, m2, m3], ∀ y ∈ [m0, m1, m2, m3], ∀ z ∈ [m0, m1, m2, m3], R x y = false → R z y = true → R x z = false) (hr : ∀ x ∈ [m0, m1, m2, m3], R x x = false) (ht' : ∀ x ∈ [m0, m1, m2, m3], ∀ y ∈ [m0, m1, m2, m3], ∀ z ∈ [m0, m1, m2, m3], S x y = false → S z y = true → S x z = false) (hr' : ∀ x ∈ [m0, m1, m2, m3], S x x = false) (hw : LawW w) :
    Calls Tryz.prog 13 #[.agg #[.bool ga, .string sa, .string ta, .bool gb, .string sb, .string tb], .agg #[.bool gc, .string sc, .string tc, .bool gd, .string sd, .string td]] w fun e w' => ∃ g s t h u q, e = .returned (.tuple #[.agg #[.bool g, .string s, .string t, .bool h, .string u, .string q], .int .i64 0]) ∧ LeastI R [m0, m1, m2, m3] 4 (g, s, t) ∧ LeastI S [m0, m1, m2, m3] 4 (h, u, q) ∧ Below w.heap.size w w' := by
  have HSP := hide (fun W (u : Value) (hu : SliceOf vQ 3 W u [m0, m1, m2, m3]) hW => iv_span [m0, m1, m2, m3] u R S W hu (show 0 < 4 by decide) (show 4 ≤ 3000 by decide) hR hS ht hr ht' hr' hW)
  unfold IV at h1 h2
  have H1 := hide h1
  have H2 := hide h2
  have HK0 := hide k0
  have HK1 := hide k1
  have HK2 := hide k2
  have HK3 := hide k3
  have HW := hide hw
  have HV0 : Hid (VB w w []) := VB.nil w
  clear h1 h2 k0 k1 k2 k3 hR hS ht hr ht' hr' hw
  refine (callsIn_wide (n := 6)).1 ?_
  refine callsIn_of_wp_marks Tryz.func13 rfl trivial ?_ rfl
  simp only [Tryz.ntmps13, List.size_toArray, List.length_cons, List.length_nil, Nat.reduceAdd, Nat.reduceSub, Array.replicate_succ, Array.replicate_zero, List.push_toArray, List.append_toArray, List.nil_append, List.cons_append]
  have HV0_ := hide (HV0.out.push6 (b := w.heap.size) (by simp) (.bool ga) (.string sa) (.string ta) (.bool gb) (.string sb) (.string tb) 26)
  clear HV0
  have HV0__ := hide (HV0_.out.push6 (b := w.heap.size + 1) (by simp) (.bool gc) (.string sc) (.string tc) (.bool gd) (.string sd) (.string td) 26)
  clear HV0_
  have HV0___ := hide (HV0__.out.push6 (b := w.heap.size + 2) (by simp) (.bool false) (.string ⟨#[]⟩) (.string ⟨#[]⟩) (.bool false) (.string ⟨#[]⟩) (.string ⟨#[]⟩) 26)
  clear HV0__
  have HV0____ := hide (HV0___.out.push (b := w.heap.size + 3) (by simp) [.int .i64 0] 30)
  clear HV0___
  obtain ⟨c1, c2, c3, c4, c5, c6⟩ := HV0____.out.at6 3 rfl
  gi_wp2_with (refine ⟨trivial, ?_⟩; gi_at_call 19; refine (callsIn_wide.2 (H1.out _ (HV0____.out.law HW.out))).mono ?_; rintro e w1 ⟨rfl, hb⟩; have HV1 := hide (HV0____.out.below hb); clear hb H1; obtain ⟨c107, c108, c109, c110, c111, c112⟩ := HV1.out.at6 2 rfl)
  gi_wp2_with (refine ⟨trivial, ?_⟩; gi_at_call 19; refine (callsIn_wide.2 (H2.out _ (HV1.out.law HW.out))).mono ?_; rintro e w2 ⟨rfl, hb⟩; have HV2 := hide (HV1.out.below hb); clear hb H2; have HV2_ := hide (HV2.out.push (b := w2.heap.size) (by simp) [.slice none 0 0] 42); clear HV2; obtain ⟨c213, c214, c215, c216, c217, c218⟩ := HV2_.out.at6 4 rfl; obtain ⟨c219, c220, c221, c222, c223, c224⟩ := HV2_.out.at6 3 rfl)
  gi_wp2_with (refine ⟨trivial, ?_⟩; gi_at_call 29; refine (callsIn_wide.2 (iv_products ga sa ta gb sb tb gc sc tc gd sd td _)).mono ?_; rintro e w3 ⟨rfl, rfl⟩)
  have HVx := hide ((HV2_.out.push (b := w2.heap.size + 1) (by simp) [.bool ga, .string sa, .string ta, .bool gb, .string sb, .string tb] 26).push (b := w2.heap.size + 1 + 1) (by simp) [.bool gc, .string sc, .string tc, .bool gd, .string sd, .string td] 26)
  clear HV2_
  have hA0 : w2.heap.size + 1 + 1 < (((w2.alloc (.cells #[.slice none 0 0] 42)).alloc (.cells #[.bool ga, .string sa, .string ta, .bool gb, .string sb, .string tb] 26)).alloc (.cells #[.bool gc, .string sc, .string tc, .bool gd, .string sd, .string td] 26)).heap.size := by simp
  have hwe : w.heap.size ≤ w2.heap.size := HVx.out.lo (w2.heap.size, [.slice none 0 0]) (by simp)
  have he3 : w.heap.size + 3 < w2.heap.size := by
    have := HVx.out.ord
    simp at this
    omega
  obtain ⟨wl, hwl⟩ : ∃ x, (((w2.alloc (.cells #[.slice none 0 0] 42)).alloc (.cells #[.bool ga, .string sa, .string ta, .bool gb, .string sb, .string tb] 26)).alloc (.cells #[.bool gc, .string sc, .string tc, .bool gd, .string sd, .string td] 26)) = x := ⟨_, rfl⟩
  rw [hwl] at HVx hA0 ⊢
  clear hwl
  obtain ⟨i0, hi, hz0, hz1, hz2⟩ := info_parts Tryz.infoQ3
  have HM0 : Hid (MI w w2.heap.size (w.heap.size + 3) (w.heap.size + 2) [] wl (.slice none 0 0)) := ⟨⟨HVx.out.bel, fun x hx => HVx.out.all x (by simp at hx ⊢; rcases hx with e | e | e <;> simp [e]), fun x hx => HVx.out.lt x (by simp at hx ⊢; rcases hx with e | e | e <;> simp [e]), fun x hx => HVx.out.lo x (by simp at hx ⊢; rcases hx with e | e | e <;> simp [e]), by simp; omega⟩, OwnS.nil _ _ _, fun k hk => by cases hk⟩
  have HIT : Hid (IT w.heap.size w2.heap.size w wl [(w2.heap.size + 1, [.bool ga, .string sa, .string ta, .bool gb, .string sb, .string tb]), (w2.heap.size + 1 + 1, [.bool gc, .string sc, .string tc, .bool gd, .string sd, .string td])]) := by
    have hAc := (HVx.out.at (b := w2.heap.size) (vs := [.slice none 0 0]) (by simp) 0 (show 0 < 1 by decide)).1
    have hr : rowB wl w2.heap.size = none := by unfold rowB; rw [hAc]; rfl
    refine ⟨HVx.out.bel, fun x hx i hi => ?_, fun x hx => ?_, fun x hx => ?_, fun g hg => ?_, ⟨_, hAc⟩, fun x hx => ?_⟩
    · exact (HVx.out.all x (by simp at hx ⊢; rcases hx with e | e <;> simp [e]) i hi).1
    · simp at hx; rcases hx with e | e <;> (simp only [e]; omega)
    · rw [hr]; simp
    · rw [hr] at hg; cases hg
    · simp at hx; rcases hx with e | e <;> (simp only [e]; omega)
  clear HVx
  refine wpIn_rangeFunc_ownH rfl (show 1 ≤ 6 by decide) (gf := 52) (lb := #[.pointer (some ⟨w2.heap.size + 1, 0, none⟩), .pointer (some ⟨w2.heap.size + 1 + 1, 0, none⟩)]) rfl trivial (enters_of Tryz.func52 (by kernel_rfl) rfl)
    (encs := fun x : Q3 => #[.agg #[.bool x.1, .string x.2.1, .string x.2.2], .int .i64 0]) (Kp := KpA w.heap.size w2.heap.size) (S := fun xs => xs = [m0, m1, m2, m3]) (Sp := fun _ => True) (N := 4) (w0 := wl)
    (fun l J Jx W hW hJ _ hY h0 => iv_prods 5 l w2.heap.size (w2.heap.size + 1) (w2.heap.size + 1 + 1) (by omega) (ga, sa, ta) (gb, sb, tb) (gc, sc, tc) (gd, sd, td) m0 m1 m2 m3 w W HW.out HK0.out HK1.out HK2.out HK3.out J Jx hJ hY (HIT.out.below hW (HIT.out.n rfl)) h0)
    KpA.trans (KpA.book (by omega) (by omega)) (Below.refl _ _) (fun _ => rfl)
    (fun pre W => ∃ v, MI w w2.heap.size (w.heap.size + 3) (w.heap.size + 2) pre W v)
    (fun _ _ _ => False)
    (fun pre X Y row hs hg hr => by obtain ⟨v, hv⟩ := hs; exact ⟨v, hv.turn (by omega) hg hr⟩)
    (fun _ _ _ _ _ hs _ _ => hs)
    ⟨_, HM0.out⟩
    (fun x a' W => ∃ Bx, BX W Bx x ∧ a' = { tmps := #[.agg #[.bool ga, .string sa, .string ta, .bool gb, .string sb, .string tb], .agg #[.bool gc, .string sc, .string tc, .bool gd, .string sd, .string td], .pointer (some ⟨w.heap.size, 0, none⟩), .pointer (some ⟨w.heap.size + 1, 0, none⟩), .pointer (some ⟨w.heap.size + 1 + 1, 0, none⟩), .pointer (some ⟨w.heap.size + 1 + 1 + 1, 0, none⟩), .pointer (some ⟨w2.heap.size, 0, none⟩), .pointer (some ⟨Bx, 0, none⟩), .int .i64 0, .agg #[.bool ga, .string sa, .string ta, .bool gb, .string sb, .string tb], .bool true, .bool false, .bool false, .agg #[.bool gc, .string sc, .string tc, .bool gd, .string sd, .string td], .bool true, .bool false, .bool false, undef, .agg #[.bool ga, .string sa, .string ta, .bool gb, .string sb, .string tb], .agg #[.bool gc, .string sc, .string tc, .bool gd, .string sd, .string td], .func (.func 52) #[] #[.pointer (some ⟨w2.heap.size + 1, 0, none⟩), .pointer (some ⟨w2.heap.size + 1 + 1, 0, none⟩)], .agg #[.bool x.1, .string x.2.1, .string x.2.2], .int .i64 0, undef, undef, undef, undef, undef, undef, undef, undef, undef], defers := [] })
    (fun x a' _ X Y row hs hg hr => by obtain ⟨Bx, h2, h3⟩ := hs; exact ⟨Bx, h2.turn hg (fun r e => (hr r e).2), h3⟩)
    ?assign ?body ?done ?stop
  case assign =>
    rintro l pre x W K ⟨v, hm⟩ hK
    gi_wp2
    have hcA : W.cell? ⟨w2.heap.size, 0, none⟩ = some v := (hm.vb.at (b := w2.heap.size) (vs := [v]) (by simp) 0 (show 0 < 1 by decide)).1
    exact hK _ _ ((KeepsOthers.alloc _ _).from _) (KpA.of_below (bAlloc (Below.refl _ _) _) hm.vb.bel.size ⟨v, hcA⟩) ⟨v, hm.below (bAlloc (Below.refl _ _) _)⟩ ⟨W.heap.size, ⟨by simp, by simp, by simp⟩, rfl⟩
  case body =>
    rintro l pre x a' W hl ⟨r, hr⟩ ⟨v, hm⟩ ⟨Bx, ⟨x0, x1, x2⟩, rfl⟩ hlt
    have hcA : W.cell? ⟨w2.heap.size, 0, none⟩ = some v := (hm.vb.at (b := w2.heap.size) (vs := [v]) (by simp) 0 (show 0 < 1 by decide)).1
    have hAl : w2.heap.size < W.heap.size := hm.vb.lt (w2.heap.size, [v]) (by simp)
    have hbytes : (pre.length + 1) * 40 ≤ 140737488355328 := by omega
    have hvl : ∀ k, v.ownBlock = some k → w2.heap.size < k ∧ k < W.heap.size := fun k hk => by have := hm.own.lt k hk; omega
    have hone : ∀ u ∈ (#[Value.bool x.1, Value.string x.2.1, Value.string x.2.2] : Array Value).toList, u.oneCell' = true := vQ_one x
    gi_wp2_with (gi_at_builtin; refine wpListIn_appendS rfl _ _ 42 rfl (w2.heap.size + 1) 24 i0 (.agg #[.bool false, .string ⟨#[]⟩, .string ⟨#[]⟩]) 3 40 Tryz.underlying42 hi hz0 hz1 hz2 rfl (by decide) v pre.length (flatV vQ pre) rfl hm.own #[.bool x.1, .string x.2.1, .string x.2.2] 24 1 rfl rfl hone hbytes (by decide) (by omega) ?_; intro g off cap w1 hown1 hg1 hat1; obtain ⟨hA1, fA1⟩ := grown_cell hg1 hcA (fun k hk => by have := hvl k hk; simp only; omega); have fA2 := fA1.trans (hm.vb.at (b := w2.heap.size) (vs := [v]) (by simp) 0 (show 0 < 1 by decide)).2; clear fA1)
    exact ⟨keeps_app hg1 hm.cel ⟨v, hcA⟩, KpA.app hcA (by omega) hvl hg1 rfl (hown1.lt g rfl).2 hat1, ⟨_, hm.app (x := x) he3 (by omega) hown1 hg1⟩⟩
  case done =>
    rintro D xs W hD rfl ⟨v, hm⟩ hK
    have hcA : W.cell? ⟨w2.heap.size, 0, none⟩ = some v := (hm.vb.at (b := w2.heap.size) (vs := [v]) (by simp) 0 (show 0 < 1 by decide)).1
    have hsl : SliceOf vQ 3 W v [m0, m1, m2, m3] := OwnS.slice vQ_len hm.own
    have HVB := hide hm.vb
    gi_wp2_with (refine ⟨trivial, ?_⟩; gi_at_call 30; refine (callsIn_wide.2 (HSP.out W v hsl (hm.vb.law HW.out))).mono ?_; rintro e w5 ⟨g, s, t, h, u, q, rfl, hL1, hL2, hb⟩; have HV5 := hide (HVB.out.below hb); have hK5 := (hb.block D (Array.getElem?_eq_some_iff.1 hK).1).trans hK; clear hb HSP; obtain ⟨c501, c502, c503, c504, c505, c506⟩ := HV5.out.at6 2 rfl; obtain ⟨fc501, fc502, fc503, fc504, fc505, fc506⟩ := HV5.out.fz6 2 rfl; have HV5_ := hide (HV5.out.put6 2 rfl (.bool g) (.string s) (.string t) (.bool h) (.string u) (.string q)); clear HV5; have c507 : ((((((w5.setCell ⟨w.heap.size + 2, 0, none⟩ (.bool g)).setCell ⟨w.heap.size + 2, 1, none⟩ (.string s)).setCell ⟨w.heap.size + 2, 2, none⟩ (.string t)).setCell ⟨w.heap.size + 2, 3, none⟩ (.bool h)).setCell ⟨w.heap.size + 2, 4, none⟩ (.string u)).setCell ⟨w.heap.size + 2, 5, none⟩ (.string q)).cell? ⟨w.heap.size + 3, 0, none⟩ = some (.int .i64 0) := (HV5_.out.at (b := w.heap.size + 3) (vs := [.int .i64 0]) (by simp) 0 (show 0 < 1 by decide)).1; have fc507 : ((((((w5.setCell ⟨w.heap.size + 2, 0, none⟩ (.bool g)).setCell ⟨w.heap.size + 2, 1, none⟩ (.string s)).setCell ⟨w.heap.size + 2, 2, none⟩ (.string t)).setCell ⟨w.heap.size + 2, 3, none⟩ (.bool h)).setCell ⟨w.heap.size + 2, 4, none⟩ (.string u)).setCell ⟨w.heap.size + 2, 5, none⟩ (.string q)).frozen? ⟨w.heap.size + 3, 0, none⟩ = false := (HV5_.out.at (b := w.heap.size + 3) (vs := [.int .i64 0]) (by simp) 0 (show 0 < 1 by decide)).2)
    have c508 : ((((((w5.setCell ⟨w.heap.size + 2, 0, none⟩ (.bool g)).setCell ⟨w.heap.size + 2, 1, none⟩ (.string s)).setCell ⟨w.heap.size + 2, 2, none⟩ (.string t)).setCell ⟨w.heap.size + 2, 3, none⟩ (.bool h)).setCell ⟨w.heap.size + 2, 4, none⟩ (.string u)).setCell ⟨w.heap.size + 2, 5, none⟩ (.string q)).cell? ⟨w.heap.size + 3, 0, none⟩ = some (.int .i64 0) := (HV5_.out.at (b := w.heap.size + 3) (vs := [.int .i64 0]) (by simp) 0 (show 0 < 1 by decide)).1
    have fc508 : ((((((w5.setCell ⟨w.heap.size + 2, 0, none⟩ (.bool g)).setCell ⟨w.heap.size + 2, 1, none⟩ (.string s)).setCell ⟨w.heap.size + 2, 2, none⟩ (.string t)).setCell ⟨w.heap.size + 2, 3, none⟩ (.bool h)).setCell ⟨w.heap.size + 2, 4, none⟩ (.string u)).setCell ⟨w.heap.size + 2, 5, none⟩ (.string q)).frozen? ⟨w.heap.size + 3, 0, none⟩ = false := (HV5_.out.at (b := w.heap.size + 3) (vs := [.int .i64 0]) (by simp) 0 (show 0 < 1 by decide)).2
    have HV5__ : Hid (VB w (((((((w5.setCell ⟨w.heap.size + 2, 0, none⟩ (.bool g)).setCell ⟨w.heap.size + 2, 1, none⟩ (.string s)).setCell ⟨w.heap.size + 2, 2, none⟩ (.string t)).setCell ⟨w.heap.size + 2, 3, none⟩ (.bool h)).setCell ⟨w.heap.size + 2, 4, none⟩ (.string u)).setCell ⟨w.heap.size + 2, 5, none⟩ (.string q)).setCell ⟨w.heap.size + 3, 0, none⟩ (.int .i64 0)) [(w2.heap.size, [v]), (w.heap.size + 3, [.int .i64 0]), (w.heap.size + 2, [.bool g, .string s, .string t, .bool h, .string u, .string q])]) := HV5_.out.set 1 (show 1 < 3 by decide) 0 (show 0 < 1 by decide) (.int .i64 0)
    clear HV5_
    obtain ⟨WF, hWF⟩ : ∃ x, (((((((w5.setCell ⟨w.heap.size + 2, 0, none⟩ (.bool g)).setCell ⟨w.heap.size + 2, 1, none⟩ (.string s)).setCell ⟨w.heap.size + 2, 2, none⟩ (.string t)).setCell ⟨w.heap.size + 2, 3, none⟩ (.bool h)).setCell ⟨w.heap.size + 2, 4, none⟩ (.string u)).setCell ⟨w.heap.size + 2, 5, none⟩ (.string q)).setCell ⟨w.heap.size + 3, 0, none⟩ (.int .i64 0)) = x := ⟨_, rfl⟩
    have hKF : WF.heap[D]? = some (.deferred (some [])) := by
      rw [← hWF]
      exact (Below.heap_setCell _ _ _ _ (by simp only; omega)).trans ((Below.heap_setCell _ _ _ _ (by simp only; omega)).trans ((Below.heap_setCell _ _ _ _ (by simp only; omega)).trans ((Below.heap_setCell _ _ _ _ (by simp only; omega)).trans ((Below.heap_setCell _ _ _ _ (by simp only; omega)).trans ((Below.heap_setCell _ _ _ _ (by simp only; omega)).trans ((Below.heap_setCell _ _ _ _ (by simp only; omega)).trans hK5))))))
    have HVF : Hid (VB w WF [(w2.heap.size, [v]), (w.heap.size + 3, [.int .i64 0]), (w.heap.size + 2, [.bool g, .string s, .string t, .bool h, .string u, .string q])]) := by
      show VB w WF _
      rw [← hWF]; exact HV5__.out
    have hDn : w.heap.size ≤ D := by omega
    rw [hWF]
    clear hWF
    have d0 : (WF.putObj D (.deferred none)).cell? ⟨w.heap.size + 2, 0, none⟩ = some (.bool g) := cell_putObj hKF rfl (HVF.out.at (b := w.heap.size + 2) (vs := [.bool g, .string s, .string t, .bool h, .string u, .string q]) (by simp) 0 (show 0 < 6 by decide)).1
    have d1 : (WF.putObj D (.deferred none)).cell? ⟨w.heap.size + 2, 1, none⟩ = some (.string s) := cell_putObj hKF rfl (HVF.out.at (b := w.heap.size + 2) (vs := [.bool g, .string s, .string t, .bool h, .string u, .string q]) (by simp) 1 (show 1 < 6 by decide)).1
    have d2 : (WF.putObj D (.deferred none)).cell? ⟨w.heap.size + 2, 2, none⟩ = some (.string t) := cell_putObj hKF rfl (HVF.out.at (b := w.heap.size + 2) (vs := [.bool g, .string s, .string t, .bool h, .string u, .string q]) (by simp) 2 (show 2 < 6 by decide)).1
    have d3 : (WF.putObj D (.deferred none)).cell? ⟨w.heap.size + 2, 3, none⟩ = some (.bool h) := cell_putObj hKF rfl (HVF.out.at (b := w.heap.size + 2) (vs := [.bool g, .string s, .string t, .bool h, .string u, .string q]) (by simp) 3 (show 3 < 6 by decide)).1
    have d4 : (WF.putObj D (.deferred none)).cell? ⟨w.heap.size + 2, 4, none⟩ = some (.string u) := cell_putObj hKF rfl (HVF.out.at (b := w.heap.size + 2) (vs := [.bool g, .string s, .string t, .bool h, .string u, .string q]) (by simp) 4 (show 4 < 6 by decide)).1
    have d5 : (WF.putObj D (.deferred none)).cell? ⟨w.heap.size + 2, 5, none⟩ = some (.string q) := cell_putObj hKF rfl (HVF.out.at (b := w.heap.size + 2) (vs := [.bool g, .string s, .string t, .bool h, .string u, .string q]) (by simp) 5 (show 5 < 6 by decide)).1
    have d6 : (WF.putObj D (.deferred none)).cell? ⟨w.heap.size + 3, 0, none⟩ = some (.int .i64 0) := cell_putObj hKF rfl (HVF.out.at (b := w.heap.size + 3) (vs := [.int .i64 0]) (by simp) 0 (show 0 < 1 by decide)).1
    refine ⟨by simp, .inl ⟨_, _, rfl, run_takeDeferred hKF, ?_⟩⟩
    exact ⟨.tuple #[.agg #[.bool g, .string s, .string t, .bool h, .string u, .string q], .int .i64 0], by simp [results, Tryz.results13, go_sem, d0, d1, d2, d3, d4, d5, d6], g, s, t, h, u, q, rfl, hL1, hL2, HVF.out.bel.trans (belowK_b (w := w) (Nat.le_refl _) WF D _ _ hDn hKF rfl rfl)⟩
  case stop =>
    rintro D c pre W _ _ h _
    exact h.elim
end Go.Proofs.YtbojlmnajndleaaGreatDoor
/- interval: its functions by numbers. -/
namespace Go.Proofs.YtbojlmnajndleaaGreatDoor
open Go.RowKit Go.Sort

/-- The number of three parts. -/
def qv (x : Q3) : Rat := mkQ x.1 (nval x.2.1.data.toList) (nval x.2.2.data.toList)
theorem IsQ.parts' {q : Rat} {g : Bool} {s t : ByteArray} (e : IsQ q g s t) : ngQ q = g ∧ natS (nmQ q) = s ∧ natS q.den = t := by
  unfold IsQ rqV at e
  simpa only [Value.agg.injEq, Array.mk.injEq, List.cons.injEq, Value.bool.injEq, Value.string.injEq, and_true] using e
theorem qv_of {q : Rat} {g : Bool} {s t : ByteArray} (e : IsQ q g s t) : qv (g, s, t) = q := by
  obtain ⟨rfl, rfl, rfl⟩ := e.parts'
  unfold qv
  simp only [natS_toList, nval_dec]
  exact mkQ_self q
/-- Three parts of a number of at most k digits. -/
def IsX (k : Nat) (x : Q3) : Prop := ∃ q, IsQ q x.1 x.2.1 x.2.2 ∧ Sz k q
theorem IsX.q {k : Nat} {x : Q3} (h : IsX k x) : IsQ (qv x) x.1 x.2.1 x.2.2 := by
  obtain ⟨q, e, _⟩ := h
  rw [show qv x = q from qv_of e]; exact e
theorem IsX.sz {k : Nat} {x : Q3} (h : IsX k x) : Sz k (qv x) := by
  obtain ⟨q, e, s⟩ := h
  rw [show qv x = q from qv_of e]; exact s
theorem IsX.of {k : Nat} {q : Rat} {g : Bool} {s t : ByteArray} (e : IsQ q g s t) (h : Sz k q) : IsX k (g, s, t) := ⟨q, e, h⟩
theorem IsX.mono {j k : Nat} {x : Q3} (h : IsX j x) (hk : j ≤ k) : IsX k x := by
  obtain ⟨q, e, s⟩ := h
  exact ⟨q, e, s.mono hk⟩
theorem IsX.eq {j k : Nat} {x y : Q3} (hx : IsX j x) (hy : IsX k y) (h : qv x = qv y) : x = y := by
  have a := hx.q.parts'
  have b := hy.q.parts'
  rw [h] at a
  obtain ⟨a1, a2, a3⟩ := a
  obtain ⟨b1, b2, b3⟩ := b
  obtain ⟨x1, x2, x3⟩ := x
  obtain ⟨y1, y2, y3⟩ := y
  simp only at a1 a2 a3 b1 b2 b3
  rw [← a1, ← a2, ← a3, b1, b2, b3]
/-- A number is there for every value. -/
theorem IsX.get {k : Nat} {q : Rat} (h : Sz k q) : ∃ x : Q3, IsX k x ∧ qv x = q := by
  obtain ⟨g, s, t, e⟩ := IsQ.get q
  exact ⟨(g, s, t), ⟨q, e, h⟩, qv_of e⟩
theorem xv_ok {k : Nat} {x : Q3} (h : IsX k x) (hk : k ≤ 1000) : XV x.1 x.2.1 x.2.2 true := fun W hW => valid_okq h.sz hk h.q W hW
theorem xc_ok {j k : Nat} {x y : Q3} (hx : IsX j x) (hy : IsX k y) (hj : j ≤ 1000) (hk : k ≤ 1000) : XC x.1 x.2.1 x.2.2 y.1 y.2.1 y.2.2 (cmpQ (qv x) (qv y)) := fun W hW => cmp_okq hx.sz hy.sz hj hk hx.q hy.q W hW
theorem xl_ok {j k : Nat} {x y : Q3} (hx : IsX j x) (hy : IsX k y) (hj : j ≤ 1000) (hk : k ≤ 1000) : XL x.1 x.2.1 x.2.2 y.1 y.2.1 y.2.2 (decide (qv x < qv y)) := fun W hW => by
  have h := iv_less x.1 x.2.1 x.2.2 y.1 y.2.1 y.2.2 _ W (xc_ok hx hy hj hk) hW
  rw [show decide (cmpQ (qv x) (qv y) < 0) = decide (qv x < qv y) from decide_eq_decide.2 cmpQ_neg] at h
  exact h
def ltX (x y : Q3) : Bool := decide (qv x < qv y)
def gtX (x y : Q3) : Bool := decide (qv y < qv x)
theorem xf_less {k : Nat} {l : List Q3} (h : ∀ x ∈ l, IsX k x) (hk : k ≤ 1000) : XF 35 l ltX := fun x hx y hy W hW => xl_ok (h x hx) (h y hy) hk hk W hW
theorem xf_more {k : Nat} {l : List Q3} (h : ∀ x ∈ l, IsX k x) (hk : k ≤ 1000) : XF 54 l gtX := fun x hx y hy W hW => iv_more _ _ _ _ _ _ _ W (xl_ok (h y hy) (h x hx) hk hk) hW
theorem ltX_tr (l : List Q3) : ∀ x ∈ l, ∀ y ∈ l, ∀ z ∈ l, ltX x y = false → ltX z y = true → ltX x z = false := fun x _ y _ z _ h1 h2 => by
  unfold ltX at *
  have a := of_decide_eq_false h1
  have b := of_decide_eq_true h2
  exact decide_eq_false (by grind)
theorem ltX_ir (l : List Q3) : ∀ x ∈ l, ltX x x = false := fun x _ => decide_eq_false Rat.lt_irrefl
theorem gtX_tr (l : List Q3) : ∀ x ∈ l, ∀ y ∈ l, ∀ z ∈ l, gtX x y = false → gtX z y = true → gtX x z = false := fun x _ y _ z _ h1 h2 => by
  unfold gtX at *
  have a := of_decide_eq_false h1
  have b := of_decide_eq_true h2
  exact decide_eq_false (by grind)
theorem gtX_ir (l : List Q3) : ∀ x ∈ l, gtX x x = false := fun x _ => decide_eq_false Rat.lt_irrefl
/-- x is the least number of a list; the greatest. -/
def MinX (l : List Q3) (x : Q3) : Prop := x ∈ l ∧ ∀ y ∈ l, qv x ≤ qv y
def MaxX (l : List Q3) (x : Q3) : Prop := x ∈ l ∧ ∀ y ∈ l, qv y ≤ qv x
theorem minX_of {l : List Q3} {x : Q3} (h : LeastI ltX l l.length x) : MinX l x := by
  obtain ⟨j, hj, _, e, hall⟩ := h
  refine ⟨by rw [← e]; exact List.getElem_mem hj, fun y hy => ?_⟩
  obtain ⟨i, hi, rfl⟩ := List.getElem_of_mem hy
  have := of_decide_eq_false (hall i hi hi)
  grind
theorem maxX_of {l : List Q3} {x : Q3} (h : LeastI gtX l l.length x) : MaxX l x := by
  obtain ⟨j, hj, _, e, hall⟩ := h
  refine ⟨by rw [← e]; exact List.getElem_mem hj, fun y hy => ?_⟩
  obtain ⟨i, hi, rfl⟩ := List.getElem_of_mem hy
  have := of_decide_eq_false (hall i hi hi)
  grind
theorem MinX.uniq {k : Nat} {l : List Q3} {x y : Q3} (hl : ∀ x ∈ l, IsX k x) (hx : MinX l x) (hy : MinX l y) : x = y :=
  (hl x hx.1).eq (hl y hy.1) (by have a := hx.2 y hy.1; have b := hy.2 x hx.1; grind)
theorem MaxX.uniq {k : Nat} {l : List Q3} {x y : Q3} (hl : ∀ x ∈ l, IsX k x) (hx : MaxX l x) (hy : MaxX l y) : x = y :=
  (hl x hx.1).eq (hl y hy.1) (by have a := hx.2 y hy.1; have b := hy.2 x hx.1; grind)
/-- A valid interval of numbers of at most k digits. -/
structure IvOk (k : Nat) (a : Q3 × Q3) : Prop where
  lo : IsX k a.1
  hi : IsX k a.2
  le : qv a.1 ≤ qv a.2
def iArg (a : Q3 × Q3) : Value := .agg #[.bool a.1.1, .string a.1.2.1, .string a.1.2.2, .bool a.2.1, .string a.2.2.1, .string a.2.2.2]
def qArg (x : Q3) : Value := .agg #[.bool x.1, .string x.2.1, .string x.2.2]
def zI : Value := .agg #[.bool false, .string ⟨#[]⟩, .string ⟨#[]⟩, .bool false, .string ⟨#[]⟩, .string ⟨#[]⟩]
/-- What a call returns. -/
def RetC (F : FuncId) (args : Array Value) (v : Value) : Prop := ∀ W, LawW W → Calls Tryz.prog F args W fun e w' => e = .returned v ∧ Below W.heap.size W w'
theorem ivx_ok {k : Nat} {a : Q3 × Q3} (h : IvOk k a) (hk : k ≤ 1000) : IVx a true := fun W hW => by
  have := iv_valid3 a.1.1 a.1.2.1 a.1.2.2 a.2.1 a.2.2.1 a.2.2.2 _ W (xv_ok h.lo hk) (xv_ok h.hi hk) (xc_ok h.lo h.hi hk hk) hW
  rw [decide_eq_true (cmpQ_le.2 h.le)] at this
  exact this
/-- Every interval of short strings is valid, or Valid says no. -/
theorem ivx_cases (a : Q3 × Q3) (h1 : a.1.2.1.size ≤ 60) (h2 : a.1.2.2.size ≤ 60) (h3 : a.2.2.1.size ≤ 60) (h4 : a.2.2.2.size ≤ 60) : IvOk 60 a ∨ (¬ IvOk 60 a ∧ IVx a false) := by
  have m1 : a.1.2.1.size ≤ maxLen := by unfold maxLen; omega
  have m2 : a.1.2.2.size ≤ maxLen := by unfold maxLen; omega
  have m3 : a.2.2.1.size ≤ maxLen := by unfold maxLen; omega
  have m4 : a.2.2.2.size ≤ maxLen := by unfold maxLen; omega
  have nv : ∀ (x : Q3), IsX 60 x → vldR x.1 x.2.1 x.2.2 = true := fun x hx => by
    obtain ⟨p1, p2, p3⟩ := hx.q.parts'
    rw [← p1, ← p2, ← p3]; exact vldR_q (hx.sz.fit (by omega))
  have xa : ∀ W, LawW W → Calls Tryz.prog 36 #[.agg #[.bool a.1.1, .string a.1.2.1, .string a.1.2.2]] W fun e w' => e = .returned (.bool (vldR a.1.1 a.1.2.1 a.1.2.2)) ∧ Below W.heap.size W w' := fun W hW => rat_valid _ _ _ W m1 m2 hW
  have xb : ∀ W, LawW W → Calls Tryz.prog 36 #[.agg #[.bool a.2.1, .string a.2.2.1, .string a.2.2.2]] W fun e w' => e = .returned (.bool (vldR a.2.1 a.2.2.1 a.2.2.2)) ∧ Below W.heap.size W w' := fun W hW => rat_valid _ _ _ W m3 m4 hW
  rcases Bool.eq_false_or_eq_true (vldR a.1.1 a.1.2.1 a.1.2.2) with va | va
  · rw [va] at xa
    obtain ⟨p, ep, hp⟩ := few_q (k := 60) (by omega) h1 h2 va
    rcases Bool.eq_false_or_eq_true (vldR a.2.1 a.2.2.1 a.2.2.2) with vb | vb
    · rw [vb] at xb
      obtain ⟨q, eq, hq⟩ := few_q (k := 60) (by omega) h3 h4 vb
      have lx : IsX 60 a.1 := ⟨p, ep, hp⟩
      have ly : IsX 60 a.2 := ⟨q, eq, hq⟩
      by_cases hle : qv a.1 ≤ qv a.2
      · exact .inl ⟨lx, ly, hle⟩
      · refine .inr ⟨fun h => hle h.le, fun W hW => ?_⟩
        have := iv_valid3 a.1.1 a.1.2.1 a.1.2.2 a.2.1 a.2.2.1 a.2.2.2 _ W xa xb (xc_ok lx ly (by omega) (by omega)) hW
        rw [decide_eq_false (fun h => hle (cmpQ_le.1 h))] at this
        exact this
    · rw [vb] at xb
      exact .inr ⟨fun h => (by rw [nv _ h.hi] at vb; cases vb), fun W hW => iv_valid2 _ _ _ _ _ _ W xa xb hW⟩
  · rw [va] at xa
    exact .inr ⟨fun h => (by rw [nv _ h.lo] at va; cases va), fun W hW => iv_valid1 _ _ _ _ _ _ W xa hW⟩
theorem c_add {j k : Nat} {a c : Q3 × Q3} (ha : IvOk j a) (hc : IvOk k c) (hjk : j + k + 1 ≤ 1000) {x y : Q3} (hx : IsX (j + k + 1) x) (hy : IsX (j + k + 1) y) (ex : qv x = qv a.1 + qv c.1) (ey : qv y = qv a.2 + qv c.2) :
    RetC 11 #[iArg a, iArg c] (.tuple #[iArg (x, y), .int .i64 0]) := fun W hW =>
  iv_add3 _ _ _ _ _ _ _ _ _ _ _ _ _ _ _ _ _ _ W (ivx_ok ha (by omega)) (ivx_ok hc (by omega)) (fun X hX => add_okq ha.lo.sz hc.lo.sz hjk ex.symm ha.lo.q hc.lo.q hx.q X hX) (fun X hX => add_okq ha.hi.sz hc.hi.sz hjk ey.symm ha.hi.q hc.hi.q hy.q X hX) hW
theorem c_add_bad {a c : Q3 × Q3} (h : IVx a false ∨ (IVx a true ∧ IVx c false)) : RetC 11 #[iArg a, iArg c] (.tuple #[zI, .int .i64 1]) := fun W hW => by
  rcases h with h | ⟨h, h'⟩
  · exact iv_add1 _ _ _ _ _ _ _ _ _ _ _ _ W h hW
  · exact iv_add2 _ _ _ _ _ _ _ _ _ _ _ _ W h h' hW
theorem c_mul_bad {a c : Q3 × Q3} (h : IVx a false ∨ (IVx a true ∧ IVx c false)) : RetC 13 #[iArg a, iArg c] (.tuple #[zI, .int .i64 1]) := fun W hW => by
  rcases h with h | ⟨h, h'⟩
  · exact iv_mul1 _ _ _ _ _ _ _ _ _ _ _ _ W h hW
  · exact iv_mul2 _ _ _ _ _ _ _ _ _ _ _ _ W h h' hW
/-- The four products of the ends of two intervals. -/
structure Prods (k : Nat) (a c : Q3 × Q3) (l : List Q3) : Prop where
  all : ∃ m0 m1 m2 m3, l = [m0, m1, m2, m3] ∧ (IsX k m0 ∧ IsX k m1 ∧ IsX k m2 ∧ IsX k m3) ∧ qv m0 = qv a.1 * qv c.1 ∧ qv m1 = qv a.1 * qv c.2 ∧ qv m2 = qv a.2 * qv c.1 ∧ qv m3 = qv a.2 * qv c.2
theorem Prods.get {j k : Nat} {a c : Q3 × Q3} (ha : IvOk j a) (hc : IvOk k c) : ∃ l, Prods (j + k) a c l := by
  obtain ⟨m0, x0, e0⟩ := IsX.get (ha.lo.sz.mul hc.lo.sz)
  obtain ⟨m1, x1, e1⟩ := IsX.get (ha.lo.sz.mul hc.hi.sz)
  obtain ⟨m2, x2, e2⟩ := IsX.get (ha.hi.sz.mul hc.lo.sz)
  obtain ⟨m3, x3, e3⟩ := IsX.get (ha.hi.sz.mul hc.hi.sz)
  exact ⟨_, ⟨m0, m1, m2, m3, rfl, ⟨x0, x1, x2, x3⟩, e0, e1, e2, e3⟩⟩
theorem Prods.isx {k : Nat} {a c : Q3 × Q3} {l : List Q3} (h : Prods k a c l) : ∀ x ∈ l, IsX k x := by
  obtain ⟨m0, m1, m2, m3, rfl, ⟨x0, x1, x2, x3⟩, _⟩ := h.all
  intro x hx
  simp only [List.mem_cons, List.not_mem_nil, or_false] at hx
  rcases hx with rfl | rfl | rfl | rfl <;> assumption
theorem min_ex : ∀ (l : List Q3), l ≠ [] → ∃ x, MinX l x
  | [], h => absurd rfl h
  | [a], _ => ⟨a, by simp, fun y hy => by simp at hy; subst hy; exact Rat.le_refl⟩
  | a :: b :: l, _ => by
    obtain ⟨x, h1, h2⟩ := min_ex (b :: l) (by simp)
    by_cases h : qv a ≤ qv x
    · exact ⟨a, by simp, fun y hy => by
        rcases List.mem_cons.1 hy with rfl | hy
        · exact Rat.le_refl
        · exact Rat.le_trans h (h2 y hy)⟩
    · exact ⟨x, List.mem_cons_of_mem _ h1, fun y hy => by
        rcases List.mem_cons.1 hy with rfl | hy
        · grind
        · exact h2 y hy⟩
theorem max_ex : ∀ (l : List Q3), l ≠ [] → ∃ x, MaxX l x
  | [], h => absurd rfl h
  | [a], _ => ⟨a, by simp, fun y hy => by simp at hy; subst hy; exact Rat.le_refl⟩
  | a :: b :: l, _ => by
    obtain ⟨x, h1, h2⟩ := max_ex (b :: l) (by simp)
    by_cases h : qv x ≤ qv a
    · exact ⟨a, by simp, fun y hy => by
        rcases List.mem_cons.1 hy with rfl | hy
        · exact Rat.le_refl
        · exact Rat.le_trans (h2 y hy) h⟩
    · exact ⟨x, List.mem_cons_of_mem _ h1, fun y hy => by
        rcases List.mem_cons.1 hy with rfl | hy
        · grind
        · exact h2 y hy⟩
theorem c_mul {j k : Nat} {a c : Q3 × Q3} (ha : IvOk j a) (hc : IvOk k c) (hjk : j + k ≤ 1000) {l : List Q3} (hl : Prods (j + k) a c l) {x y : Q3} (hx : MinX l x) (hy : MaxX l y) :
    RetC 13 #[iArg a, iArg c] (.tuple #[iArg (x, y), .int .i64 0]) := fun W hW => by
  have hall := hl.isx
  obtain ⟨m0, m1, m2, m3, rfl, ⟨x0, x1, x2, x3⟩, e0, e1, e2, e3⟩ := hl.all
  have xm : ∀ (u v m : Q3), IsX j u → IsX k v → IsX (j + k) m → qv m = qv u * qv v → XM u v m := fun u v m hu hv hm e X hX => mul_okq hu.sz hv.sz hjk e.symm hu.q hv.q hm.q X hX
  refine (iv_mul3 _ _ _ _ _ _ _ _ _ _ _ _ m0 m1 m2 m3 W (ivx_ok ha (by omega)) (ivx_ok hc (by omega)) (xm _ _ _ ha.lo hc.lo x0 e0) (xm _ _ _ ha.lo hc.hi x1 e1) (xm _ _ _ ha.hi hc.lo x2 e2) (xm _ _ _ ha.hi hc.hi x3 e3) ltX gtX
    (xf_less hall hjk) (xf_more hall hjk) (ltX_tr _) (ltX_ir _) (gtX_tr _) (gtX_ir _) hW).mono ?_
  rintro e w' ⟨g, s, t, h, u, q, rfl, h1, h2, hb⟩
  have u1 := MinX.uniq hall hx (minX_of h1)
  have u2 := MaxX.uniq hall hy (maxX_of h2)
  subst u1 u2
  exact ⟨rfl, hb⟩
theorem c_hull {k : Nat} {l : List (Q3 × Q3)} (hl : ∀ a ∈ l, IvOk k a) (h0 : 0 < l.length) (hn : l.length ≤ 1000) (hk : k ≤ 1000) {v : Value} {x y : Q3} (hx : MinX (ends l) x) (hy : MaxX (ends l) y) (W : World) (hv : SliceOf vIv 6 W v l) (hW : LawW W) :
    Calls Tryz.prog 15 #[v] W fun e w' => e = .returned (.tuple #[iArg (x, y), .int .i64 0]) ∧ Below W.heap.size W w' := by
  have hall : ∀ x ∈ ends l, IsX k x := fun x hx => by
    unfold ends at hx
    obtain ⟨a, ha, hx⟩ := List.mem_flatMap.1 hx
    simp only [List.mem_cons, List.not_mem_nil, or_false] at hx
    rcases hx with rfl | rfl
    · exact (hl a ha).lo
    · exact (hl a ha).hi
  refine (iv_hull_ok l v ltX gtX W hv h0 hn (fun a ha => ivx_ok (hl a ha) hk) (xf_less hall hk) (xf_more hall hk) (ltX_tr _) (ltX_ir _) (gtX_tr _) (gtX_ir _) hW).mono ?_
  rintro e w' ⟨g, s, t, h, u, q, rfl, h1, h2, hb⟩
  have u1 := MinX.uniq hall hx (minX_of h1)
  have u2 := MaxX.uniq hall hy (maxX_of h2)
  subst u1 u2
  exact ⟨rfl, hb⟩
/-- Whether an interval contains a number. -/
theorem c_contains {j k : Nat} {a : Q3 × Q3} {r : Q3} (ha : IvOk j a) (hr : IsX k r) (hj : j ≤ 1000) (hk : k ≤ 1000) : RetC 21 #[iArg a, qArg r] (.bool (decide (qv a.1 ≤ qv r ∧ qv r ≤ qv a.2))) := fun W hW => by
  by_cases h1 : qv a.1 ≤ qv r
  · have h := iv_contains4 _ _ _ _ _ _ _ _ _ _ _ W (ivx_ok ha hj) (xv_ok hr hk) (xc_ok ha.lo hr hj hk) (decide_eq_true (cmpQ_le.2 h1)) (xc_ok hr ha.hi hk hj) hW
    rw [show decide (cmpQ (qv r) (qv a.2) ≤ 0) = decide (qv a.1 ≤ qv r ∧ qv r ≤ qv a.2) from decide_eq_decide.2 (cmpQ_le.trans ⟨fun h => ⟨h1, h⟩, fun h => h.2⟩)] at h
    exact h
  · have h := iv_contains3 _ _ _ _ _ _ _ _ _ _ W (ivx_ok ha hj) (xv_ok hr hk) (xc_ok ha.lo hr hj hk) (decide_eq_false (fun h => h1 (cmpQ_le.1 h))) hW
    rw [decide_eq_false (fun h => h1 h.1)]
    exact h
theorem c_contains_bad {a : Q3 × Q3} {r : Q3} (h : IVx a false ∨ (IVx a true ∧ XV r.1 r.2.1 r.2.2 false)) : RetC 21 #[iArg a, qArg r] (.bool false) := fun W hW => by
  rcases h with h | ⟨h, h'⟩
  · exact iv_contains1 _ _ _ _ _ _ _ _ _ W h hW
  · exact iv_contains2 _ _ _ _ _ _ _ _ _ W h h' hW
set_option maxRecDepth 100000 in
/-- The common part. -/
theorem c_meet {j k : Nat} {a c : Q3 × Q3} (ha : IvOk j a) (hc : IvOk k c) (hj : j ≤ 1000) (hk : k ≤ 1000) {x y : Q3} (hx : x = if qv a.1 < qv c.1 then c.1 else a.1) (hy : y = if qv c.2 < qv a.2 then c.2 else a.2) :
    RetC 17 #[iArg a, iArg c] (if qv x ≤ qv y then .tuple #[iArg (x, y), .bool true] else .tuple #[zI, .bool false]) := fun W hW => by
  have m1 := ha.lo.mono (Nat.le_max_left j k)
  have m2 := ha.hi.mono (Nat.le_max_left j k)
  have m3 := hc.lo.mono (Nat.le_max_right j k)
  have m4 := hc.hi.mono (Nat.le_max_right j k)
  have hm : max j k ≤ 1000 := Nat.max_le.2 ⟨hj, hk⟩
  have ix : IsX (max j k) x := by rw [hx]; split <;> assumption
  have iy : IsX (max j k) y := by rw [hy]; split <;> assumption
  have va := ivx_ok ha hj
  have vc := ivx_ok hc hk
  have l1 := xl_ok ha.lo hc.lo hj hk
  have l2 := xl_ok hc.hi ha.hi hk hj
  have hv : IVx (x, y) (decide (qv x ≤ qv y)) := fun X hX => by
    have := iv_valid3 x.1 x.2.1 x.2.2 y.1 y.2.1 y.2.2 _ X (xv_ok ix hm) (xv_ok iy hm) (xc_ok ix iy hm hm) hX
    rw [show decide (cmpQ (qv x) (qv y) ≤ 0) = decide (qv x ≤ qv y) from decide_eq_decide.2 cmpQ_le] at this
    exact this
  unfold IVx at hv va vc
  by_cases h1 : qv a.1 < qv c.1
  · rw [if_pos h1] at hx
    rw [decide_eq_true h1] at l1
    subst hx
    by_cases h2 : qv c.2 < qv a.2
    · rw [if_pos h2] at hy
      rw [decide_eq_true h2] at l2
      subst hy
      by_cases h3 : qv c.1 ≤ qv c.2
      · rw [decide_eq_true h3] at hv
        rw [if_pos h3]
        exact iv_meet3ttt _ _ _ _ _ _ _ _ _ _ _ _ W va vc l1 l2 hv hW
      · rw [decide_eq_false h3] at hv
        rw [if_neg h3]
        exact iv_meet3ttf _ _ _ _ _ _ _ _ _ _ _ _ W va vc l1 l2 hv hW
    · rw [if_neg h2] at hy
      rw [decide_eq_false h2] at l2
      subst hy
      by_cases h3 : qv c.1 ≤ qv a.2
      · rw [decide_eq_true h3] at hv
        rw [if_pos h3]
        exact iv_meet3tft _ _ _ _ _ _ _ _ _ _ _ _ W va vc l1 l2 hv hW
      · rw [decide_eq_false h3] at hv
        rw [if_neg h3]
        exact iv_meet3tff _ _ _ _ _ _ _ _ _ _ _ _ W va vc l1 l2 hv hW
  · rw [if_neg h1] at hx
    rw [decide_eq_false h1] at l1
    subst hx
    by_cases h2 : qv c.2 < qv a.2
    · rw [if_pos h2] at hy
      rw [decide_eq_true h2] at l2
      subst hy
      by_cases h3 : qv a.1 ≤ qv c.2
      · rw [decide_eq_true h3] at hv
        rw [if_pos h3]
        exact iv_meet3ftt _ _ _ _ _ _ _ _ _ _ _ _ W va vc l1 l2 hv hW
      · rw [decide_eq_false h3] at hv
        rw [if_neg h3]
        exact iv_meet3ftf _ _ _ _ _ _ _ _ _ _ _ _ W va vc l1 l2 hv hW
    · rw [if_neg h2] at hy
      rw [decide_eq_false h2] at l2
      subst hy
      by_cases h3 : qv a.1 ≤ qv a.2
      · rw [decide_eq_true h3] at hv
        rw [if_pos h3]
        exact iv_meet3fft _ _ _ _ _ _ _ _ _ _ _ _ W va vc l1 l2 hv hW
      · rw [decide_eq_false h3] at hv
        rw [if_neg h3]
        exact iv_meet3fff _ _ _ _ _ _ _ _ _ _ _ _ W va vc l1 l2 hv hW
theorem c_meet_bad {a c : Q3 × Q3} (h : IVx a false ∨ (IVx a true ∧ IVx c false)) : RetC 17 #[iArg a, iArg c] (.tuple #[zI, .bool false]) := fun W hW => by
  rcases h with h | ⟨h, h'⟩
  · exact iv_meet1 _ _ _ _ _ _ _ _ _ _ _ _ W h hW
  · exact iv_meet2 _ _ _ _ _ _ _ _ _ _ _ _ W h h' hW
end Go.Proofs.YtbojlmnajndleaaGreatDoor
