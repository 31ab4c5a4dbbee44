/- law 04: head. -/
import Derived.Test.YtncocgfgbocnkaaGreatDoorRaI
set_option linter.unusedVariables false
set_option linter.unusedSimpArgs false
namespace Go.Proofs.YtncocgfgbocnkaaGreatDoor
open Go.RowKit

/-- The numbers in the variables of a law. -/
def VL (W : World) (L : List (Nat × Bool × ByteArray × ByteArray)) : Prop := ∀ x ∈ L, RC W x.1 x.2.1 x.2.2.1 x.2.2.2
theorem VL.below {W W' : World} {L : List (Nat × Bool × ByteArray × ByteArray)} (h : VL W L) (hb : Below W.heap.size W W') : VL W' L := fun x hx => (h x hx).below hb
theorem VL.nil (W : World) : VL W [] := fun x hx => by simp at hx
theorem VL.cons {W : World} {L : List (Nat × Bool × ByteArray × ByteArray)} {b : Nat} {g : Bool} {s t : ByteArray} (h : VL W L) (r : RC W b g s t) : VL W ((b, g, s, t) :: L) := fun x hx => by
  rcases List.mem_cons.1 hx with e | e
  · rw [e]; exact r
  · exact h x e
theorem VL.push {W W' : World} {L : List (Nat × Bool × ByteArray × ByteArray)} (h : VL W L) (hb : Below W.heap.size W W') (g : Bool) (s t : ByteArray) (T : TypeId) : VL (W'.alloc (.cells #[.bool g, .string s, .string t] T)) ((W'.heap.size, g, s, t) :: L) :=
  ((h.below hb).below (bAlloc (Below.refl _ _) _)).cons (RC.new W' g s t T)
theorem VL.pushAt {W : World} {L : List (Nat × Bool × ByteArray × ByteArray)} (h : VL W L) {b : Nat} (hb : W.heap.size = b) (g : Bool) (s t : ByteArray) (T : TypeId) : VL (W.alloc (.cells #[.bool g, .string s, .string t] T)) ((b, g, s, t) :: L) :=
  (h.below (bAlloc (Below.refl _ _) _)).cons (RC.new_at W g s t T hb)
theorem VL.cells3 {W : World} {L : List (Nat × Bool × ByteArray × ByteArray)} (h : VL W L) {b : Nat} {g : Bool} {s t : ByteArray} (hm : (b, g, s, t) ∈ L) : W.cell? ⟨b, 0, none⟩ = some (.bool g) ∧ W.cell? ⟨b, 1, none⟩ = some (.string s) ∧ W.cell? ⟨b, 2, none⟩ = some (.string t) :=
  ⟨(h _ hm).c0, (h _ hm).c1, (h _ hm).c2⟩
/-- The world of a law with its variables, all below block N. -/
structure VS (w : World) (N : Nat) (W : World) (L : List (Nat × Bool × ByteArray × ByteArray)) : Prop where
  bel : Below w.heap.size w W
  vl : VL W L
  le : N ≤ W.heap.size
  lt : ∀ x ∈ L, x.1 < N
  lo : w.heap.size ≤ N
theorem VS.start {w W : World} {L : List (Nat × Bool × ByteArray × ByteArray)} (hb : Below w.heap.size w W) (hv : VL W L) : VS w W.heap.size W L := ⟨hb, hv, Nat.le_refl _, fun x hx => (hv x hx).lt, hb.size⟩
theorem VS.below {w W W' : World} {N : Nat} {L : List (Nat × Bool × ByteArray × ByteArray)} (h : VS w N W L) (hb : Below W.heap.size W W') : VS w N W' L := ⟨bStep h.bel hb, h.vl.below hb, Nat.le_trans h.le hb.size, h.lt, h.lo⟩
theorem VS.alloc {w W : World} {N : Nat} {L : List (Nat × Bool × ByteArray × ByteArray)} (h : VS w N W L) (o : Obj) : VS w N (W.alloc o) L := h.below (bAlloc (Below.refl _ _) o)
theorem VS.drew {w W : World} {N : Nat} {L : List (Nat × Bool × ByteArray × ByteArray)} (h : VS w N W L) : VS w N W.drew L := h.below (Below.refl _ _).drew
theorem VS.law {w W : World} {N : Nat} {L : List (Nat × Bool × ByteArray × ByteArray)} (h : VS w N W L) (hw : LawW w) : LawW W := hw.below h.bel
/-- A variable that a region makes, before it is set. -/
def ZC (N : Nat) (W : World) (b : Nat) : Prop := RC W b false ⟨#[]⟩ ⟨#[]⟩ ∧ N ≤ b
theorem ZC.new {w W : World} {N : Nat} {L : List (Nat × Bool × ByteArray × ByteArray)} (h : VS w N W L) (T : TypeId) : ZC N (W.alloc (.cells #[.bool false, .string ⟨#[]⟩, .string ⟨#[]⟩] T)) W.heap.size := ⟨RC.new _ _ _ _ _, h.le⟩
theorem ZC.newd {w W : World} {N : Nat} {L : List (Nat × Bool × ByteArray × ByteArray)} (h : VS w N W L) (T : TypeId) : ZC N (W.alloc (.cells #[.bool false, .string ⟨#[]⟩, .string ⟨#[]⟩] T)).drew W.heap.size := ⟨(RC.new _ _ _ _ _).below (Below.refl _ _).drew, h.le⟩
theorem ZC.below {N : Nat} {W W' : World} {b : Nat} (h : ZC N W b) (hb : Below W.heap.size W W') : ZC N W' b := ⟨h.1.below hb, h.2⟩
theorem VS.setZ {w W : World} {N b : Nat} {L : List (Nat × Bool × ByteArray × ByteArray)} (h : VS w N W L) (hz : ZC N W b) (x y z : Value) : VS w N (((W.setCell ⟨b, 0, none⟩ x).setCell ⟨b, 1, none⟩ y).setCell ⟨b, 2, none⟩ z) L :=
  ⟨bset3 h.bel (Nat.le_trans h.lo hz.2) _ _ _, fun v hv => (h.vl v hv).only (Only2.set3 _ _ _ _ _) (by have := h.lt v hv; have := hz.2; omega), by simpa using h.le, h.lt, h.lo⟩
theorem VL.get {W : World} {L : List (Nat × Bool × ByteArray × ByteArray)} (h : VL W L) {b : Nat} {g : Bool} {s t : ByteArray} (hm : (b, g, s, t) ∈ L) : RC W b g s t := h _ hm
def refL : List ByteArray := [⟨#[54, 47, 56]⟩, ⟨#[53, 47, 49]⟩, ⟨#[45, 48]⟩, ⟨#[]⟩, ⟨#[49, 47, 48]⟩, ⟨#[47, 50]⟩, ⟨#[48, 49]⟩]
def refC : Array Value := #[.string ⟨#[54, 47, 56]⟩, .string ⟨#[53, 47, 49]⟩, .string ⟨#[45, 48]⟩, .string ⟨#[]⟩, .string ⟨#[49, 47, 48]⟩, .string ⟨#[47, 50]⟩, .string ⟨#[48, 49]⟩]
theorem hd_R (k : Nat) (hk : k < refL.length) (w : World) (hw : LawW w) : Calls Tryz.prog 19 #[.string (refL[k]'hk)] w fun e w' => e = .returned (.tuple #[.agg #[.bool false, .string ⟨#[]⟩, .string ⟨#[]⟩], .int .i64 5]) ∧ Below w.heap.size w w' := by
  match k, hk with
  | 0, _ => exact hd_R0 w hw
  | 1, _ => exact hd_R1 w hw
  | 2, _ => exact hd_R2 w hw
  | 3, _ => exact hd_R3 w hw
  | 4, _ => exact hd_R4 w hw
  | 5, _ => exact hd_R5 w hw
  | 6, _ => exact hd_R6 w hw
set_option maxHeartbeats 8000000 in
set_option maxRecDepth 100000 in
theorem law04_head (w : World) (hw : LawW w) : Calls Tryz.prog 11 #[] w fun e w' => e = .returned (.bool true) ∧ Below w.heap.size w w' := by
  have HW := hide hw
  have HB0 : Hid (Below w.heap.size w w) := Below.refl _ _
  have HV0 : Hid (VL w []) := VL.nil w
  clear hw
  go_enter Tryz.func11, Tryz.ntmps11
  go_wp2_with fail
  refine (law04_rat _ _ _ _).mono ?_
  rintro e w1 ⟨rfl, hb⟩
  have HB1 := hide (bStep HB0.out hb)
  have HV1 := hide (HV0.out.below hb)
  clear hb HB0 HV0
  go_wp2_with fail
  refine (law04_rat _ _ _ _).mono ?_
  rintro e w2 ⟨rfl, hb⟩
  have HB2 := hide (bStep HB1.out hb)
  have HV2 := hide (HV1.out.below hb)
  clear hb HB1 HV1
  have HV2_ := hide (HV2.out.pushAt (b := w2.heap.size) (by simp) false ⟨#[49]⟩ ⟨#[50]⟩ 24)
  have HB2_ := hide (bAlloc HB2.out (.cells #[.bool false, .string ⟨#[49]⟩, .string ⟨#[50]⟩] 24))
  clear HB2 HV2
  have HV2__ := hide (HV2_.out.pushAt (b := w2.heap.size + 1) (by simp) false ⟨#[49]⟩ ⟨#[51]⟩ 24)
  have HB2__ := hide (bAlloc HB2_.out (.cells #[.bool false, .string ⟨#[49]⟩, .string ⟨#[51]⟩] 24))
  clear HB2_ HV2_
  go_wp2_with fail
  refine (hd_A _ (HW.out.below HB2__.out)).mono ?_
  rintro e w3 ⟨rfl, hb⟩
  have HB3 := hide (bStep HB2__.out hb)
  have HV3 := hide (HV2__.out.below hb)
  clear hb HB2__ HV2__
  have HV3_ := hide (HV3.out.pushAt (b := w3.heap.size) (by simp) true ⟨#[51]⟩ ⟨#[52]⟩ 24)
  have HB3_ := hide (bAlloc HB3.out (.cells #[.bool true, .string ⟨#[51]⟩, .string ⟨#[52]⟩] 24))
  clear HB3 HV3
  go_wp2_with fail
  refine (hd_B _ (HW.out.below HB3_.out)).mono ?_
  rintro e w4 ⟨rfl, hb⟩
  have HB4 := hide (bStep HB3_.out hb)
  have HV4 := hide (HV3_.out.below hb)
  clear hb HB3_ HV3_
  have HV4_ := hide (HV4.out.pushAt (b := w4.heap.size) (by simp) false ⟨#[48]⟩ ⟨#[49]⟩ 24)
  have HB4_ := hide (bAlloc HB4.out (.cells #[.bool false, .string ⟨#[48]⟩, .string ⟨#[49]⟩] 24))
  clear HB4 HV4
  go_wp2_with fail
  refine (hd_G _ (HW.out.below HB4_.out)).mono ?_
  rintro e w5 ⟨rfl, hb⟩
  have HB5 := hide (bStep HB4_.out hb)
  have HV5 := hide (HV4_.out.below hb)
  clear hb HB4_ HV4_
  have HV5_ := hide (HV5.out.pushAt (b := w5.heap.size) (by simp) false ⟨#[]⟩ ⟨#[]⟩ 24)
  have HB5_ := hide (bAlloc HB5.out (.cells #[.bool false, .string ⟨#[]⟩, .string ⟨#[]⟩] 24))
  clear HB5 HV5
  obtain ⟨c3, c4, c5⟩ := VL.cells3 (b := w2.heap.size) (g := false) (s := ⟨#[49]⟩) (t := ⟨#[50]⟩) HV5_.out (by simp)
  obtain ⟨c6, c7, c8⟩ := VL.cells3 (b := w2.heap.size + 1) (g := false) (s := ⟨#[49]⟩) (t := ⟨#[51]⟩) HV5_.out (by simp)
  go_wp2_with fail
  clear c3 c4 c5 c6 c7 c8
  refine (hd_C _ (HW.out.below HB5_.out)).mono ?_
  rintro e w6 ⟨rfl, hb⟩
  have HB6 := hide (bStep HB5_.out hb)
  have HV6 := hide (HV5_.out.below hb)
  clear hb HB5_ HV5_
  have HV6_ := hide (HV6.out.pushAt (b := w6.heap.size) (by simp) false ⟨#[53]⟩ ⟨#[54]⟩ 24)
  have HB6_ := hide (bAlloc HB6.out (.cells #[.bool false, .string ⟨#[53]⟩, .string ⟨#[54]⟩] 24))
  clear HB6 HV6
  obtain ⟨c9, c10, c11⟩ := VL.cells3 (b := w2.heap.size) (g := false) (s := ⟨#[49]⟩) (t := ⟨#[50]⟩) HV6_.out (by simp)
  go_wp2_with fail
  clear c9 c10 c11
  refine (hd_D _ (HW.out.below HB6_.out)).mono ?_
  rintro e w7 ⟨rfl, hb⟩
  have HB7 := hide (bStep HB6_.out hb)
  have HV7 := hide (HV6_.out.below hb)
  clear hb HB6_ HV6_
  have HV7_ := hide (HV7.out.pushAt (b := w7.heap.size) (by simp) false ⟨#[48]⟩ ⟨#[49]⟩ 24)
  have HB7_ := hide (bAlloc HB7.out (.cells #[.bool false, .string ⟨#[48]⟩, .string ⟨#[49]⟩] 24))
  clear HB7 HV7
  go_wp2_with fail
  refine (law04_rat _ _ _ _).mono ?_
  rintro e w8 ⟨rfl, hb⟩
  have HB8 := hide (bStep HB7_.out hb)
  have HV8 := hide (HV7_.out.below hb)
  clear hb HB7_ HV7_
  go_wp2_with fail
  refine (law04_rat _ _ _ _).mono ?_
  rintro e w9 ⟨rfl, hb⟩
  have HB9 := hide (bStep HB8.out hb)
  have HV9 := hide (HV8.out.below hb)
  clear hb HB8 HV8
  go_wp2_with fail
  refine (hd_X _ (HW.out.below HB9.out)).mono ?_
  rintro e w10 ⟨rfl, hb⟩
  have HB10 := hide (bStep HB9.out hb)
  have HV10 := hide (HV9.out.below hb)
  clear hb HB9 HV9
  have HV10_ := hide (HV10.out.pushAt (b := w10.heap.size) (by simp) true ⟨#[50]⟩ ⟨#[51]⟩ 24)
  have HB10_ := hide (bAlloc HB10.out (.cells #[.bool true, .string ⟨#[50]⟩, .string ⟨#[51]⟩] 24))
  clear HB10 HV10
  go_wp2_with fail
  obtain ⟨NA, hsA⟩ : ∃ N, VS w N (w10.alloc (.cells #[.bool true, .string ⟨#[50]⟩, .string ⟨#[51]⟩] 24)) [(w10.heap.size, true, ⟨#[50]⟩, ⟨#[51]⟩), (w7.heap.size, false, ⟨#[48]⟩, ⟨#[49]⟩), (w6.heap.size, false, ⟨#[53]⟩, ⟨#[54]⟩), (w5.heap.size, false, ⟨#[]⟩, ⟨#[]⟩), (w4.heap.size, false, ⟨#[48]⟩, ⟨#[49]⟩), (w3.heap.size, true, ⟨#[51]⟩, ⟨#[52]⟩), (w2.heap.size + 1, false, ⟨#[49]⟩, ⟨#[51]⟩), (w2.heap.size, false, ⟨#[49]⟩, ⟨#[50]⟩)] := ⟨_, VS.start HB10_.out HV10_.out⟩
  obtain ⟨wA, hwA⟩ : ∃ x, (w10.alloc (.cells #[.bool true, .string ⟨#[50]⟩, .string ⟨#[51]⟩] 24)) = x := ⟨_, rfl⟩
  rw [hwA] at hsA ⊢
  clear hwA
  clear HB10_ HV10_
  have HSA : Hid (∀ W, VS w NA W [(w10.heap.size, true, ⟨#[50]⟩, ⟨#[51]⟩), (w7.heap.size, false, ⟨#[48]⟩, ⟨#[49]⟩), (w6.heap.size, false, ⟨#[53]⟩, ⟨#[54]⟩), (w5.heap.size, false, ⟨#[]⟩, ⟨#[]⟩), (w4.heap.size, false, ⟨#[48]⟩, ⟨#[49]⟩), (w3.heap.size, true, ⟨#[51]⟩, ⟨#[52]⟩), (w2.heap.size + 1, false, ⟨#[49]⟩, ⟨#[51]⟩), (w2.heap.size, false, ⟨#[49]⟩, ⟨#[50]⟩)] → (W.cell? ⟨w2.heap.size, 0, none⟩ = some (.bool false) ∧ W.cell? ⟨w2.heap.size, 1, none⟩ = some (.string ⟨#[49]⟩) ∧ W.cell? ⟨w2.heap.size, 2, none⟩ = some (.string ⟨#[50]⟩))) := fun W h => VL.cells3 h.vl (by simp)
  go_cut [16] (fun z16 wx => z16 = .int .i64 14 ∧ VS w NA wx [(w10.heap.size, true, ⟨#[50]⟩, ⟨#[51]⟩), (w7.heap.size, false, ⟨#[48]⟩, ⟨#[49]⟩), (w6.heap.size, false, ⟨#[53]⟩, ⟨#[54]⟩), (w5.heap.size, false, ⟨#[]⟩, ⟨#[]⟩), (w4.heap.size, false, ⟨#[48]⟩, ⟨#[49]⟩), (w3.heap.size, true, ⟨#[51]⟩, ⟨#[52]⟩), (w2.heap.size + 1, false, ⟨#[49]⟩, ⟨#[51]⟩), (w2.heap.size, false, ⟨#[49]⟩, ⟨#[50]⟩)])
  case first =>
    have hd := hsA.drew
    go_region_held3 (fun w' => (w'.cell? ⟨w2.heap.size, 0, none⟩ = some (.bool false) ∧ w'.cell? ⟨w2.heap.size, 1, none⟩ = some (.string ⟨#[49]⟩) ∧ w'.cell? ⟨w2.heap.size, 2, none⟩ = some (.string ⟨#[50]⟩)))
      (first | exact HSA.out _ (by assumption) | exact HSA.out _ (VS.alloc (by assumption) _) | exact HSA.out _ (VS.setZ (by assumption) (by assumption) _ _ _))
      ((first
        | (go_at_call 35; (with_reducible refine (law04_rat _ _ _ _).mono ?_); rintro e wa ⟨rfl, hb⟩; have hd := VS.below (w := w) (N := NA) (L := [(w10.heap.size, true, ⟨#[50]⟩, ⟨#[51]⟩), (w7.heap.size, false, ⟨#[48]⟩, ⟨#[49]⟩), (w6.heap.size, false, ⟨#[53]⟩, ⟨#[54]⟩), (w5.heap.size, false, ⟨#[]⟩, ⟨#[]⟩), (w4.heap.size, false, ⟨#[48]⟩, ⟨#[49]⟩), (w3.heap.size, true, ⟨#[51]⟩, ⟨#[52]⟩), (w2.heap.size + 1, false, ⟨#[49]⟩, ⟨#[51]⟩), (w2.heap.size, false, ⟨#[49]⟩, ⟨#[50]⟩)]) (by first | assumption | exact VS.alloc (by assumption) _) hb; (first | have hz := (ZC.new (w := w) (N := NA) (L := [(w10.heap.size, true, ⟨#[50]⟩, ⟨#[51]⟩), (w7.heap.size, false, ⟨#[48]⟩, ⟨#[49]⟩), (w6.heap.size, false, ⟨#[53]⟩, ⟨#[54]⟩), (w5.heap.size, false, ⟨#[]⟩, ⟨#[]⟩), (w4.heap.size, false, ⟨#[48]⟩, ⟨#[49]⟩), (w3.heap.size, true, ⟨#[51]⟩, ⟨#[52]⟩), (w2.heap.size + 1, false, ⟨#[49]⟩, ⟨#[51]⟩), (w2.heap.size, false, ⟨#[49]⟩, ⟨#[50]⟩)]) (by assumption) _).below hb | have hz := (ZC.newd (w := w) (N := NA) (L := [(w10.heap.size, true, ⟨#[50]⟩, ⟨#[51]⟩), (w7.heap.size, false, ⟨#[48]⟩, ⟨#[49]⟩), (w6.heap.size, false, ⟨#[53]⟩, ⟨#[54]⟩), (w5.heap.size, false, ⟨#[]⟩, ⟨#[]⟩), (w4.heap.size, false, ⟨#[48]⟩, ⟨#[49]⟩), (w3.heap.size, true, ⟨#[51]⟩, ⟨#[52]⟩), (w2.heap.size + 1, false, ⟨#[49]⟩, ⟨#[51]⟩), (w2.heap.size, false, ⟨#[49]⟩, ⟨#[50]⟩)]) (by assumption) _).below hb | have hz := ZC.below (by assumption) hb | skip); (try obtain ⟨⟨z0, z1, z2, fz0, fz1, fz2⟩, _⟩ := id hz); clear hb)
        | (go_at_call 31; (with_reducible refine (hd_K _ (VS.law (by first | assumption | exact VS.alloc (by assumption) _) HW.out)).mono ?_); rintro e wa ⟨rfl, hb⟩; have hd := VS.below (w := w) (N := NA) (L := [(w10.heap.size, true, ⟨#[50]⟩, ⟨#[51]⟩), (w7.heap.size, false, ⟨#[48]⟩, ⟨#[49]⟩), (w6.heap.size, false, ⟨#[53]⟩, ⟨#[54]⟩), (w5.heap.size, false, ⟨#[]⟩, ⟨#[]⟩), (w4.heap.size, false, ⟨#[48]⟩, ⟨#[49]⟩), (w3.heap.size, true, ⟨#[51]⟩, ⟨#[52]⟩), (w2.heap.size + 1, false, ⟨#[49]⟩, ⟨#[51]⟩), (w2.heap.size, false, ⟨#[49]⟩, ⟨#[50]⟩)]) (by first | assumption | exact VS.alloc (by assumption) _) hb; (first | have hz := (ZC.new (w := w) (N := NA) (L := [(w10.heap.size, true, ⟨#[50]⟩, ⟨#[51]⟩), (w7.heap.size, false, ⟨#[48]⟩, ⟨#[49]⟩), (w6.heap.size, false, ⟨#[53]⟩, ⟨#[54]⟩), (w5.heap.size, false, ⟨#[]⟩, ⟨#[]⟩), (w4.heap.size, false, ⟨#[48]⟩, ⟨#[49]⟩), (w3.heap.size, true, ⟨#[51]⟩, ⟨#[52]⟩), (w2.heap.size + 1, false, ⟨#[49]⟩, ⟨#[51]⟩), (w2.heap.size, false, ⟨#[49]⟩, ⟨#[50]⟩)]) (by assumption) _).below hb | have hz := (ZC.newd (w := w) (N := NA) (L := [(w10.heap.size, true, ⟨#[50]⟩, ⟨#[51]⟩), (w7.heap.size, false, ⟨#[48]⟩, ⟨#[49]⟩), (w6.heap.size, false, ⟨#[53]⟩, ⟨#[54]⟩), (w5.heap.size, false, ⟨#[]⟩, ⟨#[]⟩), (w4.heap.size, false, ⟨#[48]⟩, ⟨#[49]⟩), (w3.heap.size, true, ⟨#[51]⟩, ⟨#[52]⟩), (w2.heap.size + 1, false, ⟨#[49]⟩, ⟨#[51]⟩), (w2.heap.size, false, ⟨#[49]⟩, ⟨#[50]⟩)]) (by assumption) _).below hb | have hz := ZC.below (by assumption) hb | skip); (try obtain ⟨⟨z0, z1, z2, fz0, fz1, fz2⟩, _⟩ := id hz); clear hb)
        ))
    all_goals
      go_wp2_with fail
      go_meet
      first
      | exact ⟨rfl, by assumption⟩
      | exact ⟨rfl, VS.alloc (by assumption) _⟩
      | exact ⟨rfl, VS.setZ (by assumption) (by assumption) _ _ _⟩
  case rest =>
  obtain ⟨rfl, hscA⟩ := hcut
  have HBcA := hide hscA.bel
  have HVcA := hide hscA.vl
  clear hsA hscA HSA
  obtain ⟨wq, rfl⟩ : ∃ x, x = wc := ⟨_, rfl⟩
  go_wp2_with fail
  refine (hd_P _ (HW.out.below HBcA.out)).mono ?_
  rintro e w11 ⟨rfl, hb⟩
  have HB11 := hide (bStep HBcA.out hb)
  have HV11 := hide (HVcA.out.below hb)
  clear hb HBcA HVcA
  have HV11_ := hide (HV11.out.pushAt (b := w11.heap.size) (by simp) true ⟨#[51]⟩ ⟨#[52]⟩ 24)
  have HB11_ := hide (bAlloc HB11.out (.cells #[.bool true, .string ⟨#[51]⟩, .string ⟨#[52]⟩] 24))
  clear HB11 HV11
  go_wp2_with fail
  refine (law04_rat _ _ _ _).mono ?_
  rintro e w12 ⟨rfl, hb⟩
  have HB12 := hide (bStep HB11_.out hb)
  have HV12 := hide (HV11_.out.below hb)
  clear hb HB11_ HV11_
  go_wp2_with fail
  refine (hd_S _ (HW.out.below HB12.out)).mono ?_
  rintro e w13 ⟨rfl, hb⟩
  have HB13 := hide (bStep HB12.out hb)
  have HV13 := hide (HV12.out.below hb)
  clear hb HB12 HV12
  obtain ⟨c12, c13, c14⟩ := VL.cells3 (b := w2.heap.size) (g := false) (s := ⟨#[49]⟩) (t := ⟨#[50]⟩) HV13.out (by simp)
  go_wp2_with fail
  clear c12 c13 c14
  obtain ⟨NB, hsB⟩ : ∃ N, VS w N w13 [(w11.heap.size, true, ⟨#[51]⟩, ⟨#[52]⟩), (w10.heap.size, true, ⟨#[50]⟩, ⟨#[51]⟩), (w7.heap.size, false, ⟨#[48]⟩, ⟨#[49]⟩), (w6.heap.size, false, ⟨#[53]⟩, ⟨#[54]⟩), (w5.heap.size, false, ⟨#[]⟩, ⟨#[]⟩), (w4.heap.size, false, ⟨#[48]⟩, ⟨#[49]⟩), (w3.heap.size, true, ⟨#[51]⟩, ⟨#[52]⟩), (w2.heap.size + 1, false, ⟨#[49]⟩, ⟨#[51]⟩), (w2.heap.size, false, ⟨#[49]⟩, ⟨#[50]⟩)] := ⟨_, VS.start HB13.out HV13.out⟩
  obtain ⟨wB, hwB⟩ : ∃ x, w13 = x := ⟨_, rfl⟩
  rw [hwB] at hsB ⊢
  clear hwB
  clear HB13 HV13
  have HSB : Hid (∀ W, VS w NB W [(w11.heap.size, true, ⟨#[51]⟩, ⟨#[52]⟩), (w10.heap.size, true, ⟨#[50]⟩, ⟨#[51]⟩), (w7.heap.size, false, ⟨#[48]⟩, ⟨#[49]⟩), (w6.heap.size, false, ⟨#[53]⟩, ⟨#[54]⟩), (w5.heap.size, false, ⟨#[]⟩, ⟨#[]⟩), (w4.heap.size, false, ⟨#[48]⟩, ⟨#[49]⟩), (w3.heap.size, true, ⟨#[51]⟩, ⟨#[52]⟩), (w2.heap.size + 1, false, ⟨#[49]⟩, ⟨#[51]⟩), (w2.heap.size, false, ⟨#[49]⟩, ⟨#[50]⟩)] → (W.cell? ⟨w3.heap.size, 0, none⟩ = some (.bool true) ∧ W.cell? ⟨w3.heap.size, 1, none⟩ = some (.string ⟨#[51]⟩) ∧ W.cell? ⟨w3.heap.size, 2, none⟩ = some (.string ⟨#[52]⟩)) ∧ (W.cell? ⟨w4.heap.size, 0, none⟩ = some (.bool false) ∧ W.cell? ⟨w4.heap.size, 1, none⟩ = some (.string ⟨#[48]⟩) ∧ W.cell? ⟨w4.heap.size, 2, none⟩ = some (.string ⟨#[49]⟩)) ∧ (W.cell? ⟨w6.heap.size, 0, none⟩ = some (.bool false) ∧ W.cell? ⟨w6.heap.size, 1, none⟩ = some (.string ⟨#[53]⟩) ∧ W.cell? ⟨w6.heap.size, 2, none⟩ = some (.string ⟨#[54]⟩)) ∧ (W.cell? ⟨w7.heap.size, 0, none⟩ = some (.bool false) ∧ W.cell? ⟨w7.heap.size, 1, none⟩ = some (.string ⟨#[48]⟩) ∧ W.cell? ⟨w7.heap.size, 2, none⟩ = some (.string ⟨#[49]⟩))) := fun W h => ⟨VL.cells3 h.vl (by simp), VL.cells3 h.vl (by simp), VL.cells3 h.vl (by simp), VL.cells3 h.vl (by simp)⟩
  go_cut [21] (fun z21 wx => z21 = .bool true ∧ VS w NB wx [(w11.heap.size, true, ⟨#[51]⟩, ⟨#[52]⟩), (w10.heap.size, true, ⟨#[50]⟩, ⟨#[51]⟩), (w7.heap.size, false, ⟨#[48]⟩, ⟨#[49]⟩), (w6.heap.size, false, ⟨#[53]⟩, ⟨#[54]⟩), (w5.heap.size, false, ⟨#[]⟩, ⟨#[]⟩), (w4.heap.size, false, ⟨#[48]⟩, ⟨#[49]⟩), (w3.heap.size, true, ⟨#[51]⟩, ⟨#[52]⟩), (w2.heap.size + 1, false, ⟨#[49]⟩, ⟨#[51]⟩), (w2.heap.size, false, ⟨#[49]⟩, ⟨#[50]⟩)])
  case first =>
    have hd := hsB.drew
    go_region_held3 (fun w' => (w'.cell? ⟨w3.heap.size, 0, none⟩ = some (.bool true) ∧ w'.cell? ⟨w3.heap.size, 1, none⟩ = some (.string ⟨#[51]⟩) ∧ w'.cell? ⟨w3.heap.size, 2, none⟩ = some (.string ⟨#[52]⟩)) ∧ (w'.cell? ⟨w4.heap.size, 0, none⟩ = some (.bool false) ∧ w'.cell? ⟨w4.heap.size, 1, none⟩ = some (.string ⟨#[48]⟩) ∧ w'.cell? ⟨w4.heap.size, 2, none⟩ = some (.string ⟨#[49]⟩)) ∧ (w'.cell? ⟨w6.heap.size, 0, none⟩ = some (.bool false) ∧ w'.cell? ⟨w6.heap.size, 1, none⟩ = some (.string ⟨#[53]⟩) ∧ w'.cell? ⟨w6.heap.size, 2, none⟩ = some (.string ⟨#[54]⟩)) ∧ (w'.cell? ⟨w7.heap.size, 0, none⟩ = some (.bool false) ∧ w'.cell? ⟨w7.heap.size, 1, none⟩ = some (.string ⟨#[48]⟩) ∧ w'.cell? ⟨w7.heap.size, 2, none⟩ = some (.string ⟨#[49]⟩)))
      (first | exact HSB.out _ (by assumption) | exact HSB.out _ (VS.alloc (by assumption) _) | exact HSB.out _ (VS.setZ (by assumption) (by assumption) _ _ _))
      ((first
        | (go_at_call 35; (with_reducible refine (law04_rat _ _ _ _).mono ?_); rintro e wa ⟨rfl, hb⟩; have hd := VS.below (w := w) (N := NB) (L := [(w11.heap.size, true, ⟨#[51]⟩, ⟨#[52]⟩), (w10.heap.size, true, ⟨#[50]⟩, ⟨#[51]⟩), (w7.heap.size, false, ⟨#[48]⟩, ⟨#[49]⟩), (w6.heap.size, false, ⟨#[53]⟩, ⟨#[54]⟩), (w5.heap.size, false, ⟨#[]⟩, ⟨#[]⟩), (w4.heap.size, false, ⟨#[48]⟩, ⟨#[49]⟩), (w3.heap.size, true, ⟨#[51]⟩, ⟨#[52]⟩), (w2.heap.size + 1, false, ⟨#[49]⟩, ⟨#[51]⟩), (w2.heap.size, false, ⟨#[49]⟩, ⟨#[50]⟩)]) (by first | assumption | exact VS.alloc (by assumption) _) hb; (first | have hz := (ZC.new (w := w) (N := NB) (L := [(w11.heap.size, true, ⟨#[51]⟩, ⟨#[52]⟩), (w10.heap.size, true, ⟨#[50]⟩, ⟨#[51]⟩), (w7.heap.size, false, ⟨#[48]⟩, ⟨#[49]⟩), (w6.heap.size, false, ⟨#[53]⟩, ⟨#[54]⟩), (w5.heap.size, false, ⟨#[]⟩, ⟨#[]⟩), (w4.heap.size, false, ⟨#[48]⟩, ⟨#[49]⟩), (w3.heap.size, true, ⟨#[51]⟩, ⟨#[52]⟩), (w2.heap.size + 1, false, ⟨#[49]⟩, ⟨#[51]⟩), (w2.heap.size, false, ⟨#[49]⟩, ⟨#[50]⟩)]) (by assumption) _).below hb | have hz := (ZC.newd (w := w) (N := NB) (L := [(w11.heap.size, true, ⟨#[51]⟩, ⟨#[52]⟩), (w10.heap.size, true, ⟨#[50]⟩, ⟨#[51]⟩), (w7.heap.size, false, ⟨#[48]⟩, ⟨#[49]⟩), (w6.heap.size, false, ⟨#[53]⟩, ⟨#[54]⟩), (w5.heap.size, false, ⟨#[]⟩, ⟨#[]⟩), (w4.heap.size, false, ⟨#[48]⟩, ⟨#[49]⟩), (w3.heap.size, true, ⟨#[51]⟩, ⟨#[52]⟩), (w2.heap.size + 1, false, ⟨#[49]⟩, ⟨#[51]⟩), (w2.heap.size, false, ⟨#[49]⟩, ⟨#[50]⟩)]) (by assumption) _).below hb | have hz := ZC.below (by assumption) hb | skip); (try obtain ⟨⟨z0, z1, z2, fz0, fz1, fz2⟩, _⟩ := id hz); clear hb)
        ))
    all_goals
      go_wp2_with fail
      go_meet
      first
      | exact ⟨rfl, by assumption⟩
      | exact ⟨rfl, VS.alloc (by assumption) _⟩
      | exact ⟨rfl, VS.setZ (by assumption) (by assumption) _ _ _⟩
  case rest =>
  obtain ⟨rfl, hscB⟩ := hcut
  have HBcB := hide hscB.bel
  have HVcB := hide hscB.vl
  clear hsB hscB HSB
  obtain ⟨wr2, rfl⟩ : ∃ x, x = wc := ⟨_, rfl⟩
  obtain ⟨NC, hsC⟩ : ∃ N, VS w N wr2 [(w11.heap.size, true, ⟨#[51]⟩, ⟨#[52]⟩), (w10.heap.size, true, ⟨#[50]⟩, ⟨#[51]⟩), (w7.heap.size, false, ⟨#[48]⟩, ⟨#[49]⟩), (w6.heap.size, false, ⟨#[53]⟩, ⟨#[54]⟩), (w5.heap.size, false, ⟨#[]⟩, ⟨#[]⟩), (w4.heap.size, false, ⟨#[48]⟩, ⟨#[49]⟩), (w3.heap.size, true, ⟨#[51]⟩, ⟨#[52]⟩), (w2.heap.size + 1, false, ⟨#[49]⟩, ⟨#[51]⟩), (w2.heap.size, false, ⟨#[49]⟩, ⟨#[50]⟩)] := ⟨_, VS.start HBcB.out HVcB.out⟩
  obtain ⟨wC, hwC⟩ : ∃ x, wr2 = x := ⟨_, rfl⟩
  rw [hwC] at hsC ⊢
  clear hwC
  clear HBcB HVcB
  have HSC : Hid (∀ W, VS w NC W [(w11.heap.size, true, ⟨#[51]⟩, ⟨#[52]⟩), (w10.heap.size, true, ⟨#[50]⟩, ⟨#[51]⟩), (w7.heap.size, false, ⟨#[48]⟩, ⟨#[49]⟩), (w6.heap.size, false, ⟨#[53]⟩, ⟨#[54]⟩), (w5.heap.size, false, ⟨#[]⟩, ⟨#[]⟩), (w4.heap.size, false, ⟨#[48]⟩, ⟨#[49]⟩), (w3.heap.size, true, ⟨#[51]⟩, ⟨#[52]⟩), (w2.heap.size + 1, false, ⟨#[49]⟩, ⟨#[51]⟩), (w2.heap.size, false, ⟨#[49]⟩, ⟨#[50]⟩)] → (W.cell? ⟨w10.heap.size, 0, none⟩ = some (.bool true) ∧ W.cell? ⟨w10.heap.size, 1, none⟩ = some (.string ⟨#[50]⟩) ∧ W.cell? ⟨w10.heap.size, 2, none⟩ = some (.string ⟨#[51]⟩)) ∧ (W.cell? ⟨w11.heap.size, 0, none⟩ = some (.bool true) ∧ W.cell? ⟨w11.heap.size, 1, none⟩ = some (.string ⟨#[51]⟩) ∧ W.cell? ⟨w11.heap.size, 2, none⟩ = some (.string ⟨#[52]⟩)) ∧ (W.cell? ⟨w3.heap.size, 0, none⟩ = some (.bool true) ∧ W.cell? ⟨w3.heap.size, 1, none⟩ = some (.string ⟨#[51]⟩) ∧ W.cell? ⟨w3.heap.size, 2, none⟩ = some (.string ⟨#[52]⟩)) ∧ (W.cell? ⟨w2.heap.size + 1, 0, none⟩ = some (.bool false) ∧ W.cell? ⟨w2.heap.size + 1, 1, none⟩ = some (.string ⟨#[49]⟩) ∧ W.cell? ⟨w2.heap.size + 1, 2, none⟩ = some (.string ⟨#[51]⟩))) := fun W h => ⟨VL.cells3 h.vl (by simp), VL.cells3 h.vl (by simp), VL.cells3 h.vl (by simp), VL.cells3 h.vl (by simp)⟩
  go_upto_region 12 with fail
  go_cut [22] (fun z22 wx => z22 = .bool true ∧ VS w NC wx [(w11.heap.size, true, ⟨#[51]⟩, ⟨#[52]⟩), (w10.heap.size, true, ⟨#[50]⟩, ⟨#[51]⟩), (w7.heap.size, false, ⟨#[48]⟩, ⟨#[49]⟩), (w6.heap.size, false, ⟨#[53]⟩, ⟨#[54]⟩), (w5.heap.size, false, ⟨#[]⟩, ⟨#[]⟩), (w4.heap.size, false, ⟨#[48]⟩, ⟨#[49]⟩), (w3.heap.size, true, ⟨#[51]⟩, ⟨#[52]⟩), (w2.heap.size + 1, false, ⟨#[49]⟩, ⟨#[51]⟩), (w2.heap.size, false, ⟨#[49]⟩, ⟨#[50]⟩)])
  case first =>
    have hd := hsC.drew
    go_region_held3 (fun w' => (w'.cell? ⟨w10.heap.size, 0, none⟩ = some (.bool true) ∧ w'.cell? ⟨w10.heap.size, 1, none⟩ = some (.string ⟨#[50]⟩) ∧ w'.cell? ⟨w10.heap.size, 2, none⟩ = some (.string ⟨#[51]⟩)) ∧ (w'.cell? ⟨w11.heap.size, 0, none⟩ = some (.bool true) ∧ w'.cell? ⟨w11.heap.size, 1, none⟩ = some (.string ⟨#[51]⟩) ∧ w'.cell? ⟨w11.heap.size, 2, none⟩ = some (.string ⟨#[52]⟩)) ∧ (w'.cell? ⟨w3.heap.size, 0, none⟩ = some (.bool true) ∧ w'.cell? ⟨w3.heap.size, 1, none⟩ = some (.string ⟨#[51]⟩) ∧ w'.cell? ⟨w3.heap.size, 2, none⟩ = some (.string ⟨#[52]⟩)) ∧ (w'.cell? ⟨w2.heap.size + 1, 0, none⟩ = some (.bool false) ∧ w'.cell? ⟨w2.heap.size + 1, 1, none⟩ = some (.string ⟨#[49]⟩) ∧ w'.cell? ⟨w2.heap.size + 1, 2, none⟩ = some (.string ⟨#[51]⟩)))
      (first | exact HSC.out _ (by assumption) | exact HSC.out _ (VS.alloc (by assumption) _) | exact HSC.out _ (VS.setZ (by assumption) (by assumption) _ _ _))
      ((first
        | (go_at_call 35; (with_reducible refine (law04_rat _ _ _ _).mono ?_); rintro e wa ⟨rfl, hb⟩; have hd := VS.below (w := w) (N := NC) (L := [(w11.heap.size, true, ⟨#[51]⟩, ⟨#[52]⟩), (w10.heap.size, true, ⟨#[50]⟩, ⟨#[51]⟩), (w7.heap.size, false, ⟨#[48]⟩, ⟨#[49]⟩), (w6.heap.size, false, ⟨#[53]⟩, ⟨#[54]⟩), (w5.heap.size, false, ⟨#[]⟩, ⟨#[]⟩), (w4.heap.size, false, ⟨#[48]⟩, ⟨#[49]⟩), (w3.heap.size, true, ⟨#[51]⟩, ⟨#[52]⟩), (w2.heap.size + 1, false, ⟨#[49]⟩, ⟨#[51]⟩), (w2.heap.size, false, ⟨#[49]⟩, ⟨#[50]⟩)]) (by first | assumption | exact VS.alloc (by assumption) _) hb; (first | have hz := (ZC.new (w := w) (N := NC) (L := [(w11.heap.size, true, ⟨#[51]⟩, ⟨#[52]⟩), (w10.heap.size, true, ⟨#[50]⟩, ⟨#[51]⟩), (w7.heap.size, false, ⟨#[48]⟩, ⟨#[49]⟩), (w6.heap.size, false, ⟨#[53]⟩, ⟨#[54]⟩), (w5.heap.size, false, ⟨#[]⟩, ⟨#[]⟩), (w4.heap.size, false, ⟨#[48]⟩, ⟨#[49]⟩), (w3.heap.size, true, ⟨#[51]⟩, ⟨#[52]⟩), (w2.heap.size + 1, false, ⟨#[49]⟩, ⟨#[51]⟩), (w2.heap.size, false, ⟨#[49]⟩, ⟨#[50]⟩)]) (by assumption) _).below hb | have hz := (ZC.newd (w := w) (N := NC) (L := [(w11.heap.size, true, ⟨#[51]⟩, ⟨#[52]⟩), (w10.heap.size, true, ⟨#[50]⟩, ⟨#[51]⟩), (w7.heap.size, false, ⟨#[48]⟩, ⟨#[49]⟩), (w6.heap.size, false, ⟨#[53]⟩, ⟨#[54]⟩), (w5.heap.size, false, ⟨#[]⟩, ⟨#[]⟩), (w4.heap.size, false, ⟨#[48]⟩, ⟨#[49]⟩), (w3.heap.size, true, ⟨#[51]⟩, ⟨#[52]⟩), (w2.heap.size + 1, false, ⟨#[49]⟩, ⟨#[51]⟩), (w2.heap.size, false, ⟨#[49]⟩, ⟨#[50]⟩)]) (by assumption) _).below hb | have hz := ZC.below (by assumption) hb | skip); (try obtain ⟨⟨z0, z1, z2, fz0, fz1, fz2⟩, _⟩ := id hz); clear hb)
        | (go_at_call 23; (with_reducible refine (hd_Q1 _ (VS.law (by first | assumption | exact VS.alloc (by assumption) _) HW.out)).mono ?_); rintro e wa ⟨rfl, hb⟩; have hd := VS.below (w := w) (N := NC) (L := [(w11.heap.size, true, ⟨#[51]⟩, ⟨#[52]⟩), (w10.heap.size, true, ⟨#[50]⟩, ⟨#[51]⟩), (w7.heap.size, false, ⟨#[48]⟩, ⟨#[49]⟩), (w6.heap.size, false, ⟨#[53]⟩, ⟨#[54]⟩), (w5.heap.size, false, ⟨#[]⟩, ⟨#[]⟩), (w4.heap.size, false, ⟨#[48]⟩, ⟨#[49]⟩), (w3.heap.size, true, ⟨#[51]⟩, ⟨#[52]⟩), (w2.heap.size + 1, false, ⟨#[49]⟩, ⟨#[51]⟩), (w2.heap.size, false, ⟨#[49]⟩, ⟨#[50]⟩)]) (by first | assumption | exact VS.alloc (by assumption) _) hb; (first | have hz := (ZC.new (w := w) (N := NC) (L := [(w11.heap.size, true, ⟨#[51]⟩, ⟨#[52]⟩), (w10.heap.size, true, ⟨#[50]⟩, ⟨#[51]⟩), (w7.heap.size, false, ⟨#[48]⟩, ⟨#[49]⟩), (w6.heap.size, false, ⟨#[53]⟩, ⟨#[54]⟩), (w5.heap.size, false, ⟨#[]⟩, ⟨#[]⟩), (w4.heap.size, false, ⟨#[48]⟩, ⟨#[49]⟩), (w3.heap.size, true, ⟨#[51]⟩, ⟨#[52]⟩), (w2.heap.size + 1, false, ⟨#[49]⟩, ⟨#[51]⟩), (w2.heap.size, false, ⟨#[49]⟩, ⟨#[50]⟩)]) (by assumption) _).below hb | have hz := (ZC.newd (w := w) (N := NC) (L := [(w11.heap.size, true, ⟨#[51]⟩, ⟨#[52]⟩), (w10.heap.size, true, ⟨#[50]⟩, ⟨#[51]⟩), (w7.heap.size, false, ⟨#[48]⟩, ⟨#[49]⟩), (w6.heap.size, false, ⟨#[53]⟩, ⟨#[54]⟩), (w5.heap.size, false, ⟨#[]⟩, ⟨#[]⟩), (w4.heap.size, false, ⟨#[48]⟩, ⟨#[49]⟩), (w3.heap.size, true, ⟨#[51]⟩, ⟨#[52]⟩), (w2.heap.size + 1, false, ⟨#[49]⟩, ⟨#[51]⟩), (w2.heap.size, false, ⟨#[49]⟩, ⟨#[50]⟩)]) (by assumption) _).below hb | have hz := ZC.below (by assumption) hb | skip); (try obtain ⟨⟨z0, z1, z2, fz0, fz1, fz2⟩, _⟩ := id hz); clear hb)
        | (go_at_call 23; (with_reducible refine (hd_Q2 _ (VS.law (by first | assumption | exact VS.alloc (by assumption) _) HW.out)).mono ?_); rintro e wa ⟨rfl, hb⟩; have hd := VS.below (w := w) (N := NC) (L := [(w11.heap.size, true, ⟨#[51]⟩, ⟨#[52]⟩), (w10.heap.size, true, ⟨#[50]⟩, ⟨#[51]⟩), (w7.heap.size, false, ⟨#[48]⟩, ⟨#[49]⟩), (w6.heap.size, false, ⟨#[53]⟩, ⟨#[54]⟩), (w5.heap.size, false, ⟨#[]⟩, ⟨#[]⟩), (w4.heap.size, false, ⟨#[48]⟩, ⟨#[49]⟩), (w3.heap.size, true, ⟨#[51]⟩, ⟨#[52]⟩), (w2.heap.size + 1, false, ⟨#[49]⟩, ⟨#[51]⟩), (w2.heap.size, false, ⟨#[49]⟩, ⟨#[50]⟩)]) (by first | assumption | exact VS.alloc (by assumption) _) hb; (first | have hz := (ZC.new (w := w) (N := NC) (L := [(w11.heap.size, true, ⟨#[51]⟩, ⟨#[52]⟩), (w10.heap.size, true, ⟨#[50]⟩, ⟨#[51]⟩), (w7.heap.size, false, ⟨#[48]⟩, ⟨#[49]⟩), (w6.heap.size, false, ⟨#[53]⟩, ⟨#[54]⟩), (w5.heap.size, false, ⟨#[]⟩, ⟨#[]⟩), (w4.heap.size, false, ⟨#[48]⟩, ⟨#[49]⟩), (w3.heap.size, true, ⟨#[51]⟩, ⟨#[52]⟩), (w2.heap.size + 1, false, ⟨#[49]⟩, ⟨#[51]⟩), (w2.heap.size, false, ⟨#[49]⟩, ⟨#[50]⟩)]) (by assumption) _).below hb | have hz := (ZC.newd (w := w) (N := NC) (L := [(w11.heap.size, true, ⟨#[51]⟩, ⟨#[52]⟩), (w10.heap.size, true, ⟨#[50]⟩, ⟨#[51]⟩), (w7.heap.size, false, ⟨#[48]⟩, ⟨#[49]⟩), (w6.heap.size, false, ⟨#[53]⟩, ⟨#[54]⟩), (w5.heap.size, false, ⟨#[]⟩, ⟨#[]⟩), (w4.heap.size, false, ⟨#[48]⟩, ⟨#[49]⟩), (w3.heap.size, true, ⟨#[51]⟩, ⟨#[52]⟩), (w2.heap.size + 1, false, ⟨#[49]⟩, ⟨#[51]⟩), (w2.heap.size, false, ⟨#[49]⟩, ⟨#[50]⟩)]) (by assumption) _).below hb | have hz := ZC.below (by assumption) hb | skip); (try obtain ⟨⟨z0, z1, z2, fz0, fz1, fz2⟩, _⟩ := id hz); clear hb)
        ))
    all_goals
      go_wp2_with fail
      go_meet
      first
      | exact ⟨rfl, by assumption⟩
      | exact ⟨rfl, VS.alloc (by assumption) _⟩
      | exact ⟨rfl, VS.setZ (by assumption) (by assumption) _ _ _⟩
  case rest =>
  obtain ⟨rfl, hscC⟩ := hcut
  have HBcC := hide hscC.bel
  have HVcC := hide hscC.vl
  clear hsC HSC
  have hsl : SliceOf vSt 1 (wc.alloc (.cells refC 9)) (.slice (some ⟨wc.heap.size, 0, none⟩) 7 7) refL := slice_lit vSt_len wc refL 9 (by decide)
  have HSL := hide hsl
  have HVS : Hid (VS w NC (wc.alloc (.cells refC 9)) [(w11.heap.size, true, ⟨#[51]⟩, ⟨#[52]⟩), (w10.heap.size, true, ⟨#[50]⟩, ⟨#[51]⟩), (w7.heap.size, false, ⟨#[48]⟩, ⟨#[49]⟩), (w6.heap.size, false, ⟨#[53]⟩, ⟨#[54]⟩), (w5.heap.size, false, ⟨#[]⟩, ⟨#[]⟩), (w4.heap.size, false, ⟨#[48]⟩, ⟨#[49]⟩), (w3.heap.size, true, ⟨#[51]⟩, ⟨#[52]⟩), (w2.heap.size + 1, false, ⟨#[49]⟩, ⟨#[51]⟩), (w2.heap.size, false, ⟨#[49]⟩, ⟨#[50]⟩)]) := VS.alloc hscC _
  clear hsl
  unfold refC at HSL HVS
  go_wp2_with fail
  go_loopw [24] (fun x wx => ∃ k : Nat, k ≤ 7 ∧ x = .int .i64 (k : Int) ∧ SliceOf vSt 1 wx (.slice (some ⟨wc.heap.size, 0, none⟩) 7 7) refL ∧ VS w NC wx [(w11.heap.size, true, ⟨#[51]⟩, ⟨#[52]⟩), (w10.heap.size, true, ⟨#[50]⟩, ⟨#[51]⟩), (w7.heap.size, false, ⟨#[48]⟩, ⟨#[49]⟩), (w6.heap.size, false, ⟨#[53]⟩, ⟨#[54]⟩), (w5.heap.size, false, ⟨#[]⟩, ⟨#[]⟩), (w4.heap.size, false, ⟨#[48]⟩, ⟨#[49]⟩), (w3.heap.size, true, ⟨#[51]⟩, ⟨#[52]⟩), (w2.heap.size + 1, false, ⟨#[49]⟩, ⟨#[51]⟩), (w2.heap.size, false, ⟨#[49]⟩, ⟨#[50]⟩)]) (fun x _ => 7 - (intOf x).toNat)
  case atStart => exact ⟨0, by omega, rfl, HSL.out, HVS.out⟩
  case round =>
    obtain ⟨k, hk, rfl, hsl, hvs⟩ := hrel
    have HS2 := hide hsl
    have HV2 := hide hvs
    by_cases hkl : k < 7
    · have hkI : (k : Int) < 7 := by omega
      have hk0 : (0 : Int) ≤ (k : Int) := by omega
      have f1 : decide ((k : Int) < 7) = true := decide_eq_true hkI
      obtain ⟨bb, off, cap, e1, _, _, _, hc⟩ := hsl.some_of_pos (by decide)
      simp only [Value.slice.injEq, Option.some.injEq, Addr.mk.injEq, and_true] at e1
      obtain ⟨⟨rfl, rfl⟩, -, rfl⟩ := e1
      have c1 := st_cell hc (show k < refL.length from hkl)
      rw [Nat.zero_add] at c1
      have hkr : k < refL.length := hkl
      have HP := hide (fun W hW => hd_R k hkr W hW)
      obtain ⟨s, hs⟩ : ∃ s, refL[k]'hkr = s := ⟨_, rfl⟩
      rw [hs] at c1 HP
      clear hs hc hsl hvs HSL HVS hkr
      go_wp2_with fail
      refine (HP.out _ (HV2.out.law HW.out)).mono ?_
      rintro e w20 ⟨rfl, hb⟩
      have HV3 := hide ((HV2.out.below hb).alloc (.cells #[.bool false, .string ⟨#[]⟩, .string ⟨#[]⟩] 24))
      have HS3 := hide ((HS2.out.below hb).below (bAlloc (Below.refl _ _) (.cells #[.bool false, .string ⟨#[]⟩, .string ⟨#[]⟩] 24)))
      clear hb
      go_wp2_with fail
      go_roundw
      case rel => exact ⟨k + 1, by omega, by go_num, HS3.out, HV3.out⟩
      case measure => (simp [intOf]; try omega)
    · obtain rfl : k = 7 := by omega
      have f1 : decide (((7 : Nat) : Int) < 7) = false := by decide
      have HBx := hide hvs.bel
      have HVx := hide hvs.vl
      clear hsl hvs
      obtain ⟨c15, c16, c17⟩ := VL.cells3 (b := w2.heap.size) (g := false) (s := ⟨#[49]⟩) (t := ⟨#[50]⟩) HVx.out (by simp)
      go_wp2_with fail
      clear c15 c16 c17
      refine (hd_V1 _ (HW.out.below HBx.out)).mono ?_
      rintro e w31 ⟨rfl, hb⟩
      have HB31 := hide (bStep HBx.out hb)
      have HV31 := hide (HVx.out.below hb)
      clear hb HBx HVx
      go_wp2_with fail
      refine (hd_V2 _ (HW.out.below HB31.out)).mono ?_
      rintro e w32 ⟨rfl, hb⟩
      have HB32 := hide (bStep HB31.out hb)
      have HV32 := hide (HV31.out.below hb)
      clear hb HB31 HV31
      go_wp2_with fail
      refine (law04_rat _ _ _ _).mono ?_
      rintro e w33 ⟨rfl, hb⟩
      have HB33 := hide (bStep HB32.out hb)
      have HV33 := hide (HV32.out.below hb)
      clear hb HB32 HV32
      go_wp2_with fail
      refine (hd_V3 _ (HW.out.below HB33.out)).mono ?_
      rintro e w34 ⟨rfl, hb⟩
      have HB34 := hide (bStep HB33.out hb)
      have HV34 := hide (HV33.out.below hb)
      clear hb HB33 HV33
      go_wp2_with fail
      go_ret
      exact ⟨rfl, HB34.out⟩
end Go.Proofs.YtncocgfgbocnkaaGreatDoor
