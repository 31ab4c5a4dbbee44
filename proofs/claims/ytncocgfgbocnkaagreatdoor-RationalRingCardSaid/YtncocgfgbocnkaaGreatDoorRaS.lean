/- RationalRing: the state of its variables; its closures. -/
import Derived.Test.YtncocgfgbocnkaaGreatDoorRaN
set_option linter.unusedVariables false
set_option linter.unusedSimpArgs false
namespace Go.Proofs.YtncocgfgbocnkaaGreatDoor
open Go.RowKit Go.Sort

/-- The world of RationalRing: its numbers, and ok in block O. -/
structure RS (w : World) (O N : Nat) (W : World) (L : List (Nat × Bool × ByteArray × ByteArray)) : Prop where
  vs : VS w N W L
  oN : O < N
  lo : w.heap.size ≤ O
  ne : ∀ x ∈ L, x.1 ≠ O
  ok : W.cell? ⟨O, 0, none⟩ = some (.bool true)
  froz : W.frozen? ⟨O, 0, none⟩ = false
section
variable {w W W' : World} {O N : Nat} {L : List (Nat × Bool × ByteArray × ByteArray)}
theorem RS.cells3 (h : RS w O N W L) {b : Nat} {g : Bool} {s t : ByteArray} (hm : (b, g, s, t) ∈ L) : W.cell? ⟨b, 0, none⟩ = some (.bool g) ∧ W.cell? ⟨b, 1, none⟩ = some (.string s) ∧ W.cell? ⟨b, 2, none⟩ = some (.string t) := VL.cells3 h.vs.vl hm
theorem RS.law (h : RS w O N W L) (hw : LawW w) : LawW W := h.vs.law hw
theorem RS.below (h : RS w O N W L) (hb : Below W.heap.size W W') : RS w O N W' L :=
  ⟨h.vs.below hb, h.oN, h.lo, h.ne, keep_cell hb h.ok, (hb.frozen (p := ⟨O, 0, none⟩) (World.block_lt_of_cell? _ _ h.ok)).trans h.froz⟩
theorem RS.alloc (h : RS w O N W L) (o : Obj) : RS w O N (W.alloc o) L := h.below (bAlloc (Below.refl _ _) o)
theorem RS.drew (h : RS w O N W L) : RS w O N W.drew L := h.below (Below.refl _ _).drew
theorem RS.only (h : RS w O N W L) {b : Nat} (hb : Below w.heap.size w W') (ho : Only2 W W' b none) (hN : N ≤ b) : RS w O N W' L := by
  have hO : O < W.heap.size := World.block_lt_of_cell? _ _ h.ok
  have e := ho.block O hO (by have := h.oN; omega) (by simp)
  exact ⟨⟨hb, fun v hv => (h.vs.vl v hv).only ho (by have := h.vs.lt v hv; omega), Nat.le_trans h.vs.le ho.size, h.vs.lt, h.vs.lo⟩, h.oN, h.lo, h.ne,
    by rw [World.cell?_of_block (w := W) (a := ⟨O, 0, none⟩) e]; exact h.ok, by rw [World.frozen?_of_block (w := W) (a := ⟨O, 0, none⟩) e]; exact h.froz⟩
theorem RS.set3 (h : RS w O N W L) {b : Nat} (hN : N ≤ b) (x y z : Value) : RS w O N (((W.setCell ⟨b, 0, none⟩ x).setCell ⟨b, 1, none⟩ y).setCell ⟨b, 2, none⟩ z) L :=
  h.only (b := b) (bset3 h.vs.bel (Nat.le_trans h.vs.lo hN) _ _ _) (Only2.set3 _ _ _ _ _) hN
theorem RS.setO (h : RS w O N W L) : RS w O N (W.setCell ⟨O, 0, none⟩ (.bool true)) L :=
  ⟨⟨h.vs.bel.setCell (p := ⟨O, 0, none⟩) h.lo _, fun v hv => (h.vs.vl v hv).only ((Only2.refl _ _ _).setCell 0 _) (h.ne v hv), by simpa using h.vs.le, h.vs.lt, h.vs.lo⟩, h.oN, h.lo, h.ne,
    World.cell?_setCell_same _ _ _ h.ok, by rw [World.frozen?_setCell]; exact h.froz⟩
end
set_option maxHeartbeats 4000000 in
set_option maxRecDepth 100000 in
theorem ring_add (w : World) (O N : Nat) (L : List (Nat × Bool × ByteArray × ByteArray)) (g g1 g2 : Bool) (s t s1 t1 s2 t2 : ByteArray) (W : World) (h : RS w O N W L) (hw : LawW w)
    (H : ∀ W, LawW W → Calls Tryz.prog 25 #[.agg #[.bool g1, .string s1, .string t1], .agg #[.bool g2, .string s2, .string t2]] W fun e w' => e = .returned (.tuple #[.agg #[.bool g, .string s, .string t], .int .i64 0]) ∧ Below W.heap.size W w') :
    Calls Tryz.prog 33 #[.agg #[.bool g1, .string s1, .string t1], .agg #[.bool g2, .string s2, .string t2], .pointer (some ⟨O, 0, none⟩)] W fun e w' => e = .returned (.agg #[.bool g, .string s, .string t]) ∧ RS w O N w' L := by
  have HW := hide hw
  have HC := hide H
  have HV0 : Hid (VL W []) := VL.nil W
  have HV1 := hide (HV0.out.pushAt (b := W.heap.size) (by simp) g1 s1 t1 24)
  have HV2 := hide (HV1.out.pushAt (b := W.heap.size + 1) (by simp) g2 s2 t2 24)
  have HV3 := hide (HV2.out.pushAt (b := W.heap.size + 1 + 1) (by simp) false ⟨#[]⟩ ⟨#[]⟩ 24)
  have HR3 := hide (((h.alloc (.cells #[.bool g1, .string s1, .string t1] 24)).alloc (.cells #[.bool g2, .string s2, .string t2] 24)).alloc (.cells #[.bool false, .string ⟨#[]⟩, .string ⟨#[]⟩] 24))
  have hON : O < W.heap.size := World.block_lt_of_cell? _ _ h.ok
  have HN := hide h.vs.le
  obtain ⟨c1, c2, c3⟩ := VL.cells3 (b := W.heap.size) (g := g1) (s := s1) (t := t1) HV3.out (by simp)
  obtain ⟨c4, c5, c6⟩ := VL.cells3 (b := W.heap.size + 1) (g := g2) (s := s2) (t := t2) HV3.out (by simp)
  clear h hw H HV0 HV1 HV2
  go_enter Tryz.func33, Tryz.ntmps33
  go_wp2_with fail
  clear c1 c2 c3 c4 c5 c6
  refine (HC.out _ (HR3.out.law HW.out)).mono ?_
  rintro e w1 ⟨rfl, hb⟩
  have HV4 := hide ((HV3.out.below hb).pushAt (b := w1.heap.size) (by simp) g s t 24)
  have HR4 := hide ((HR3.out.below hb).alloc (.cells #[.bool g, .string s, .string t] 24))
  have hO1 : O < w1.heap.size := by have := hb.size; simp at this; omega
  have r1 := (HV4.out.get (b := w1.heap.size) (g := g) (s := s) (t := t) (by simp)).only ((Only2.refl _ O none).setCell 0 (.bool true)) (by omega)
  have r2 := (HV4.out.get (b := W.heap.size + 1 + 1) (g := false) (s := ⟨#[]⟩) (t := ⟨#[]⟩) (by simp)).only ((Only2.refl _ O none).setCell 0 (.bool true)) (by omega)
  have ho := HR4.out.ok
  have hf := HR4.out.froz
  have HR5 := hide (HR4.out.setO.set3 (b := W.heap.size + 1 + 1) (by have := HN.out; omega) (.bool g) (.string s) (.string t))
  have r3 := r2.set3 g s t
  obtain ⟨d1, d2, d3, _, _, _⟩ := r1
  obtain ⟨d4, d5, d6, d7, d8, d9⟩ := r2
  obtain ⟨e1, e2, e3, _, _, _⟩ := r3
  clear hb HV3 HR3 HV4 HR4 HN HC HW hON hO1
  go_wp2_with fail
  exact bodyPost_ret (v := .agg #[.bool g, .string s, .string t]) (by simp [results, Tryz.results33, go_sem, e1, e2, e3]) rfl ⟨rfl, HR5.out⟩
set_option maxHeartbeats 4000000 in
set_option maxRecDepth 100000 in
theorem ring_mul (w : World) (O N : Nat) (L : List (Nat × Bool × ByteArray × ByteArray)) (g g1 g2 : Bool) (s t s1 t1 s2 t2 : ByteArray) (W : World) (h : RS w O N W L) (hw : LawW w)
    (H : ∀ W, LawW W → Calls Tryz.prog 29 #[.agg #[.bool g1, .string s1, .string t1], .agg #[.bool g2, .string s2, .string t2]] W fun e w' => e = .returned (.tuple #[.agg #[.bool g, .string s, .string t], .int .i64 0]) ∧ Below W.heap.size W w') :
    Calls Tryz.prog 34 #[.agg #[.bool g1, .string s1, .string t1], .agg #[.bool g2, .string s2, .string t2], .pointer (some ⟨O, 0, none⟩)] W fun e w' => e = .returned (.agg #[.bool g, .string s, .string t]) ∧ RS w O N w' L := by
  have HW := hide hw
  have HC := hide H
  have HV0 : Hid (VL W []) := VL.nil W
  have HV1 := hide (HV0.out.pushAt (b := W.heap.size) (by simp) g1 s1 t1 24)
  have HV2 := hide (HV1.out.pushAt (b := W.heap.size + 1) (by simp) g2 s2 t2 24)
  have HV3 := hide (HV2.out.pushAt (b := W.heap.size + 1 + 1) (by simp) false ⟨#[]⟩ ⟨#[]⟩ 24)
  have HR3 := hide (((h.alloc (.cells #[.bool g1, .string s1, .string t1] 24)).alloc (.cells #[.bool g2, .string s2, .string t2] 24)).alloc (.cells #[.bool false, .string ⟨#[]⟩, .string ⟨#[]⟩] 24))
  have hON : O < W.heap.size := World.block_lt_of_cell? _ _ h.ok
  have HN := hide h.vs.le
  obtain ⟨c1, c2, c3⟩ := VL.cells3 (b := W.heap.size) (g := g1) (s := s1) (t := t1) HV3.out (by simp)
  obtain ⟨c4, c5, c6⟩ := VL.cells3 (b := W.heap.size + 1) (g := g2) (s := s2) (t := t2) HV3.out (by simp)
  clear h hw H HV0 HV1 HV2
  go_enter Tryz.func34, Tryz.ntmps34
  go_wp2_with fail
  clear c1 c2 c3 c4 c5 c6
  refine (HC.out _ (HR3.out.law HW.out)).mono ?_
  rintro e w1 ⟨rfl, hb⟩
  have HV4 := hide ((HV3.out.below hb).pushAt (b := w1.heap.size) (by simp) g s t 24)
  have HR4 := hide ((HR3.out.below hb).alloc (.cells #[.bool g, .string s, .string t] 24))
  have hO1 : O < w1.heap.size := by have := hb.size; simp at this; omega
  have r1 := (HV4.out.get (b := w1.heap.size) (g := g) (s := s) (t := t) (by simp)).only ((Only2.refl _ O none).setCell 0 (.bool true)) (by omega)
  have r2 := (HV4.out.get (b := W.heap.size + 1 + 1) (g := false) (s := ⟨#[]⟩) (t := ⟨#[]⟩) (by simp)).only ((Only2.refl _ O none).setCell 0 (.bool true)) (by omega)
  have ho := HR4.out.ok
  have hf := HR4.out.froz
  have HR5 := hide (HR4.out.setO.set3 (b := W.heap.size + 1 + 1) (by have := HN.out; omega) (.bool g) (.string s) (.string t))
  have r3 := r2.set3 g s t
  obtain ⟨d1, d2, d3, _, _, _⟩ := r1
  obtain ⟨d4, d5, d6, d7, d8, d9⟩ := r2
  obtain ⟨e1, e2, e3, _, _, _⟩ := r3
  clear hb HV3 HR3 HV4 HR4 HN HC HW hON hO1
  go_wp2_with fail
  exact bodyPost_ret (v := .agg #[.bool g, .string s, .string t]) (by simp [results, Tryz.results34, go_sem, e1, e2, e3]) rfl ⟨rfl, HR5.out⟩
end Go.Proofs.YtncocgfgbocnkaaGreatDoor
