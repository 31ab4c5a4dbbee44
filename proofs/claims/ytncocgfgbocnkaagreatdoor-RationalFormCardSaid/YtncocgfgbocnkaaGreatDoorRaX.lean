/- RationalForm. -/
import Derived.Test.YtncocgfgbocnkaaGreatDoorRaN
import Derived.BigGuard
set_option linter.unusedVariables false
set_option linter.unusedSimpArgs false
namespace Go.Proofs.YtncocgfgbocnkaaGreatDoor
open Go.RowKit Go.Sort

/-- Rows of numbers, and of errors, each in a block of its own. -/
def AR (W : World) (A : Nat) (R : List (Bool × ByteArray × ByteArray)) : Prop := ∀ i (h : i < R.length), (W.cell? ⟨A, i * 3, none⟩ = some (.bool R[i].1) ∧ W.cell? ⟨A, i * 3 + 1, none⟩ = some (.string R[i].2.1) ∧ W.cell? ⟨A, i * 3 + 2, none⟩ = some (.string R[i].2.2)) ∧ W.frozen? ⟨A, i * 3, none⟩ = false ∧ W.frozen? ⟨A, i * 3 + 1, none⟩ = false ∧ W.frozen? ⟨A, i * 3 + 2, none⟩ = false
def ER (W : World) (E : Nat) (K : List Int) : Prop := ∀ i (h : i < K.length), W.cell? ⟨E, i, none⟩ = some (.int .i64 K[i]) ∧ W.frozen? ⟨E, i, none⟩ = false
theorem AR.lt {W : World} {A : Nat} {R : List (Bool × ByteArray × ByteArray)} (h : AR W A R) (h0 : 0 < R.length) : A < W.heap.size := World.block_lt_of_cell? _ _ (h 0 h0).1.1
theorem ER.lt {W : World} {E : Nat} {K : List Int} (h : ER W E K) (h0 : 0 < K.length) : E < W.heap.size := World.block_lt_of_cell? _ _ (h 0 h0).1
theorem AR.below {W W' : World} {A : Nat} {R : List (Bool × ByteArray × ByteArray)} (h : AR W A R) (hb : Below W.heap.size W W') : AR W' A R := fun i hi => by
  obtain ⟨⟨a, b, c⟩, d, e, f⟩ := h i hi
  have hA : A < W.heap.size := World.block_lt_of_cell? _ _ a
  exact ⟨⟨keep_cell hb a, keep_cell hb b, keep_cell hb c⟩, (hb.frozen (p := ⟨A, _, none⟩) hA).trans d, (hb.frozen (p := ⟨A, _, none⟩) hA).trans e, (hb.frozen (p := ⟨A, _, none⟩) hA).trans f⟩
theorem ER.below {W W' : World} {E : Nat} {K : List Int} (h : ER W E K) (hb : Below W.heap.size W W') : ER W' E K := fun i hi => by
  obtain ⟨a, d⟩ := h i hi
  exact ⟨keep_cell hb a, (hb.frozen (p := ⟨E, _, none⟩) (World.block_lt_of_cell? _ _ a)).trans d⟩
theorem AR.far {W : World} {A : Nat} {R : List (Bool × ByteArray × ByteArray)} (h : AR W A R) (p : Addr) (hp : p.block ≠ A) (v : Value) : AR (W.setCell p v) A R := fun i hi => by
  obtain ⟨⟨a, b, c⟩, d, e, f⟩ := h i hi
  have k : ∀ q : Addr, q.block = A → (W.setCell p v).cell? q = W.cell? q := fun q hq => World.cell?_setCell_other _ _ _ _ (fun e => hp (by rw [e]; exact hq))
  refine ⟨⟨(k _ rfl).trans a, (k _ rfl).trans b, (k _ rfl).trans c⟩, ?_, ?_, ?_⟩ <;> rw [World.frozen?_setCell] <;> assumption
theorem ER.far {W : World} {E : Nat} {K : List Int} (h : ER W E K) (p : Addr) (hp : p.block ≠ E) (v : Value) : ER (W.setCell p v) E K := fun i hi => by
  obtain ⟨a, d⟩ := h i hi
  refine ⟨(World.cell?_setCell_other _ _ _ _ (fun e => hp (by rw [e]))).trans a, ?_⟩
  rw [World.frozen?_setCell]; exact d
theorem AR.set {W : World} {A : Nat} {R : List (Bool × ByteArray × ByteArray)} (h : AR W A R) {i : Nat} (hi : i < R.length) (v : Bool × ByteArray × ByteArray) : AR (((W.setCell ⟨A, i * 3, none⟩ (.bool v.1)).setCell ⟨A, i * 3 + 1, none⟩ (.string v.2.1)).setCell ⟨A, i * 3 + 2, none⟩ (.string v.2.2)) A (R.set i v) := fun j hj => by
  rw [List.length_set] at hj
  obtain ⟨⟨a, b, c⟩, d, e, f⟩ := h j hj
  obtain ⟨⟨a', b', c'⟩, d', e', f'⟩ := h i hi
  simp only [World.frozen?_setCell]
  refine ⟨?_, d, e, f⟩
  have ne : ∀ x y : Nat, x ≠ y → (⟨A, x, none⟩ : Addr) ≠ ⟨A, y, none⟩ := fun x y h e => h (by injection e)
  by_cases hij : i = j
  · subst hij
    rw [List.getElem_set_self]
    refine ⟨?_, ?_, ?_⟩
    · rw [World.cell?_setCell_other _ _ _ _ (ne _ _ (by omega)), World.cell?_setCell_other _ _ _ _ (ne _ _ (by omega))]
      exact World.cell?_setCell_same _ _ _ a'
    · rw [World.cell?_setCell_other _ _ _ _ (ne _ _ (by omega))]
      exact World.cell?_setCell_same _ _ _ ((World.cell?_setCell_other _ _ _ _ (ne _ _ (by omega))).trans b')
    · exact World.cell?_setCell_same _ _ _ ((World.cell?_setCell_other _ _ _ _ (ne _ _ (by omega))).trans ((World.cell?_setCell_other _ _ _ _ (ne _ _ (by omega))).trans c'))
  · rw [List.getElem_set_ne hij]
    have k : ∀ m, m < 3 → (((W.setCell ⟨A, i * 3, none⟩ (.bool v.1)).setCell ⟨A, i * 3 + 1, none⟩ (.string v.2.1)).setCell ⟨A, i * 3 + 2, none⟩ (.string v.2.2)).cell? ⟨A, j * 3 + m, none⟩ = W.cell? ⟨A, j * 3 + m, none⟩ := fun m hm => by
      rw [World.cell?_setCell_other _ _ _ _ (ne _ _ (by omega)), World.cell?_setCell_other _ _ _ _ (ne _ _ (by omega)), World.cell?_setCell_other _ _ _ _ (ne _ _ (by omega))]
    exact ⟨(k 0 (by omega)).trans a, (k 1 (by omega)).trans b, (k 2 (by omega)).trans c⟩
theorem ER.set {W : World} {E : Nat} {K : List Int} (h : ER W E K) {i : Nat} (hi : i < K.length) (v : Int) : ER (W.setCell ⟨E, i, none⟩ (.int .i64 v)) E (K.set i v) := fun j hj => by
  rw [List.length_set] at hj
  obtain ⟨a, d⟩ := h j hj
  obtain ⟨a', d'⟩ := h i hi
  simp only [World.frozen?_setCell]
  refine ⟨?_, d⟩
  by_cases hij : i = j
  · subst hij
    rw [List.getElem_set_self]
    exact World.cell?_setCell_same _ _ _ a'
  · rw [List.getElem_set_ne hij]
    exact (World.cell?_setCell_other _ _ _ _ (fun e => hij (by injection e))).trans a
/-- The world of RationalForm. -/
structure FS (w : World) (N : Nat) (W : World) (L : List (Nat × Bool × ByteArray × ByteArray)) (A E : Nat) (R : List (Bool × ByteArray × ByteArray)) (K : List Int) : Prop where
  vs : VS w N W L
  aN : N ≤ A
  eN : N ≤ E
  ne : A ≠ E
  ar : AR W A R
  er : ER W E K
theorem FS.below {w W W' : World} {N A E : Nat} {L : List (Nat × Bool × ByteArray × ByteArray)} {R : List (Bool × ByteArray × ByteArray)} {K : List Int} (h : FS w N W L A E R K) (hb : Below W.heap.size W W') : FS w N W' L A E R K :=
  ⟨h.vs.below hb, h.aN, h.eN, h.ne, h.ar.below hb, h.er.below hb⟩
theorem FS.alloc {w W : World} {N A E : Nat} {L : List (Nat × Bool × ByteArray × ByteArray)} {R : List (Bool × ByteArray × ByteArray)} {K : List Int} (h : FS w N W L A E R K) (o : Obj) : FS w N (W.alloc o) L A E R K := h.below (bAlloc (Below.refl _ _) o)
theorem FS.drew {w W : World} {N A E : Nat} {L : List (Nat × Bool × ByteArray × ByteArray)} {R : List (Bool × ByteArray × ByteArray)} {K : List Int} (h : FS w N W L A E R K) : FS w N W.drew L A E R K := h.below (Below.refl _ _).drew
theorem VS.setA {w W : World} {N b : Nat} {L : List (Nat × Bool × ByteArray × ByteArray)} (h : VS w N W L) (hz : N ≤ b) (i : Nat) (x : Value) : VS w N (W.setCell ⟨b, i, none⟩ x) L :=
  ⟨h.bel.setCell (p := ⟨b, i, none⟩) (Nat.le_trans h.lo hz) _, fun v hv => (h.vl v hv).only ((Only2.refl _ _ _).setCell i _) (by have := h.lt v hv; omega), by simpa using h.le, h.lt, h.lo⟩
theorem FS.put {w W : World} {N A E : Nat} {L : List (Nat × Bool × ByteArray × ByteArray)} {R : List (Bool × ByteArray × ByteArray)} {K : List Int} (h : FS w N W L A E R K) {i : Nat} (hi : i < R.length) (hk : i < K.length) (v : Bool × ByteArray × ByteArray) (k : Int) :
    FS w N ((((W.setCell ⟨A, i * 3, none⟩ (.bool v.1)).setCell ⟨A, i * 3 + 1, none⟩ (.string v.2.1)).setCell ⟨A, i * 3 + 2, none⟩ (.string v.2.2)).setCell ⟨E, i, none⟩ (.int .i64 k)) L A E (R.set i v) (K.set i k) :=
  ⟨(((h.vs.setA h.aN _ _).setA h.aN _ _).setA h.aN _ _).setA h.eN _ _, h.aN, h.eN, h.ne, (h.ar.set hi v).far _ (fun e => h.ne e.symm) _,
    (((h.er.far _ (fun e => h.ne e) _).far _ (fun e => h.ne e) _).far _ (fun e => h.ne e) _).set hk k⟩
def zr : Bool × ByteArray × ByteArray := (false, ⟨#[]⟩, ⟨#[]⟩)

theorem AR.new (W : World) (T : TypeId) : AR (W.alloc (.cells #[.bool false, .string ⟨#[]⟩, .string ⟨#[]⟩, .bool false, .string ⟨#[]⟩, .string ⟨#[]⟩, .bool false, .string ⟨#[]⟩, .string ⟨#[]⟩, .bool false, .string ⟨#[]⟩, .string ⟨#[]⟩, .bool false, .string ⟨#[]⟩, .string ⟨#[]⟩] T)) W.heap.size [zr, zr, zr, zr, zr] := fun i hi => by
  have hi' : i < 5 := hi
  obtain rfl | rfl | rfl | rfl | rfl : i = 0 ∨ i = 1 ∨ i = 2 ∨ i = 3 ∨ i = 4 := by omega
  all_goals simp [zr]
theorem ER.new (W : World) (T : TypeId) : ER (W.alloc (.cells #[.int .i64 0, .int .i64 0, .int .i64 0, .int .i64 0, .int .i64 0] T)) W.heap.size [0, 0, 0, 0, 0] := fun i hi => by
  have hi' : i < 5 := hi
  obtain rfl | rfl | rfl | rfl | rfl : i = 0 ∨ i = 1 ∨ i = 2 ∨ i = 3 ∨ i = 4 := by omega
  all_goals simp
theorem FS.start {w W : World} {L : List (Nat × Bool × ByteArray × ByteArray)} (hb : Below w.heap.size w W) (hv : VL W L) (T T' : TypeId) :
    FS w W.heap.size ((W.alloc (.cells #[.bool false, .string ⟨#[]⟩, .string ⟨#[]⟩, .bool false, .string ⟨#[]⟩, .string ⟨#[]⟩, .bool false, .string ⟨#[]⟩, .string ⟨#[]⟩, .bool false, .string ⟨#[]⟩, .string ⟨#[]⟩, .bool false, .string ⟨#[]⟩, .string ⟨#[]⟩] T)).alloc (.cells #[.int .i64 0, .int .i64 0, .int .i64 0, .int .i64 0, .int .i64 0] T')) L W.heap.size (W.heap.size + 1) [zr, zr, zr, zr, zr] [0, 0, 0, 0, 0] := by
  refine ⟨((VS.start hb hv).alloc _).alloc _, Nat.le_refl _, by omega, by omega, (AR.new W T).below (bAlloc (Below.refl _ _) _), ?_⟩
  have h := ER.new (W.alloc (.cells #[.bool false, .string ⟨#[]⟩, .string ⟨#[]⟩, .bool false, .string ⟨#[]⟩, .string ⟨#[]⟩, .bool false, .string ⟨#[]⟩, .string ⟨#[]⟩, .bool false, .string ⟨#[]⟩, .string ⟨#[]⟩, .bool false, .string ⟨#[]⟩, .string ⟨#[]⟩] T)) T'
  simpa using h
def VC (g : Bool) (s t : ByteArray) : Prop := ∀ W, LawW W → Calls Tryz.prog 21 #[.agg #[.bool g, .string s, .string t]] W fun e w' => e = .returned (.bool true) ∧ Below W.heap.size W w'
def FP (B : Bool) (g : Bool) (s t : ByteArray) (k : Int) : Prop := (k = 0 ∧ B = false ∧ VC g s t) ∨ (k = 1 ∧ B = true ∧ g = false ∧ s = ⟨#[]⟩ ∧ t = ⟨#[]⟩) ∨ (k = 14 ∧ B = false ∧ g = false ∧ s = ⟨#[]⟩ ∧ t = ⟨#[]⟩)
def OP (d : Int) (g : Bool) (s t : ByteArray) (k : Int) : Prop := (k = 0 ∧ (d == 0) = false ∧ VC g s t) ∨ (k = 14 ∧ (d == 0) = true ∧ g = false ∧ s = ⟨#[]⟩ ∧ t = ⟨#[]⟩)
def RT2 (F : FuncId) (ga : Bool) (sa ta : ByteArray) (gb : Bool) (sb tb : ByteArray) (g : Bool) (s t : ByteArray) (k : Int) : Prop := ∀ W, LawW W → Calls Tryz.prog F #[.agg #[.bool ga, .string sa, .string ta], .agg #[.bool gb, .string sb, .string tb]] W fun e w' => e = .returned (.tuple #[.agg #[.bool g, .string s, .string t], .int .i64 k]) ∧ Below W.heap.size W w'
def RTO (n d : Int) (g : Bool) (s t : ByteArray) (k : Int) : Prop := ∀ W, LawW W → Calls Tryz.prog 13 #[.int .i64 n, .int .i64 d] W fun e w' => e = .returned (.tuple #[.agg #[.bool g, .string s, .string t], .int .i64 k]) ∧ Below W.heap.size W w'

set_option maxHeartbeats 8000000 in
set_option maxRecDepth 100000 in
theorem form_few (ga : Bool) (sa ta : ByteArray) (gb : Bool) (sb tb : ByteArray) (n d : Int) (w : World) (hf : fewQ 40 [(ga, sa, ta), (gb, sb, tb)] = false) (hw : LawW w) :
    Calls Tryz.prog 4 #[.agg #[.bool ga, .string sa, .string ta], .agg #[.bool gb, .string sb, .string tb], .int .i64 n, .int .i64 d] w fun e w' => e = .returned (.bool true) ∧ Below w.heap.size w w' := by
  have HW := hide hw
  have HF := hide (fun W T => few_two ga sa ta gb sb tb W T)
  rw [hf] at HF
  have HH := hide (fun W hW => law04_head W hW)
  have HB0 : Hid (Below w.heap.size w w) := Below.refl _ _
  have HV0 : Hid (VL w []) := VL.nil w
  clear hf hw
  go_enter Tryz.func4, Tryz.ntmps4
  have HV0_ := hide (HV0.out.pushAt (b := w.heap.size) (by simp) ga sa ta 24)
  have HB0_ := hide (bAlloc HB0.out (.cells #[.bool ga, .string sa, .string ta] 24))
  clear HB0 HV0
  have HV0__ := hide (HV0_.out.pushAt (b := w.heap.size + 1) (by simp) gb sb tb 24)
  have HB0__ := hide (bAlloc HB0_.out (.cells #[.bool gb, .string sb, .string tb] 24))
  clear HB0_ HV0_
  go_wp2_with fail
  refine (HH.out _ (HW.out.below HB0__.out)).mono ?_
  rintro e w1 ⟨rfl, hb⟩
  have HB1 := hide (bStep HB0__.out hb)
  have HV1 := hide (HV0__.out.below hb)
  clear hb HB0__ HV0__
  obtain ⟨c3, c4, c5⟩ := VL.cells3 (b := w.heap.size) (g := ga) (s := sa) (t := ta) HV1.out (by simp)
  obtain ⟨c6, c7, c8⟩ := VL.cells3 (b := w.heap.size + 1) (g := gb) (s := sb) (t := tb) HV1.out (by simp)
  go_wp2_with fail
  clear c3 c4 c5 c6 c7 c8
  refine (HF.out _ _).mono ?_
  rintro e wf ⟨rfl, rfl⟩
  have HV1_ := hide (VL.below HV1.out (bAlloc (Below.refl _ _) (.cells #[.bool ga, .string sa, .string ta, .bool gb, .string sb, .string tb] 24)))
  have HB1_ := hide (bAlloc HB1.out (.cells #[.bool ga, .string sa, .string ta, .bool gb, .string sb, .string tb] 24))
  clear HB1 HV1
  go_wp2_with fail
  go_ret
  exact ⟨rfl, HB1_.out⟩
set_option maxHeartbeats 8000000 in
set_option maxRecDepth 100000 in
theorem form_ok (ga : Bool) (sa ta : ByteArray) (gb : Bool) (sb tb : ByteArray) (n d : Int) (w : World) (g0 : Bool) (s0 t0 : ByteArray) (k0 : Int) (g1 : Bool) (s1 t1 : ByteArray) (k1 : Int) (g2 : Bool) (s2 t2 : ByteArray) (k2 : Int) (g3 : Bool) (s3 t3 : ByteArray) (k3 : Int) (g4 : Bool) (s4 t4 : ByteArray) (k4 : Int) (hf : fewQ 40 [(ga, sa, ta), (gb, sb, tb)] = true) (hva : vldR ga sa ta = true) (hvb : vldR gb sb tb = true) (h0 : RT2 25 ga sa ta gb sb tb g0 s0 t0 k0) (p0 : FP false g0 s0 t0 k0) (h1 : RT2 27 ga sa ta gb sb tb g1 s1 t1 k1) (p1 : FP false g1 s1 t1 k1) (h2 : RT2 29 ga sa ta gb sb tb g2 s2 t2 k2) (p2 : FP false g2 s2 t2 k2) (h3 : RT2 31 ga sa ta gb sb tb g3 s3 t3 k3) (p3 : FP false g3 s3 t3 k3) (h4 : RTO n d g4 s4 t4 k4) (p4 : OP d g4 s4 t4 k4) (hw : LawW w) :
    Calls Tryz.prog 4 #[.agg #[.bool ga, .string sa, .string ta], .agg #[.bool gb, .string sb, .string tb], .int .i64 n, .int .i64 d] w fun e w' => e = .returned (.bool true) ∧ Below w.heap.size w w' := by
  have HW := hide hw
  have HF := hide (fun W T => few_two ga sa ta gb sb tb W T)
  rw [hf] at HF
  have HVA := hide (fun W hW => rat_valid ga sa ta W (by have h := fewQ_two hf; unfold maxLen; have := h.1; simp at this; omega) (by have h := fewQ_two hf; unfold maxLen; have := h.2.1; simp at this; omega) hW)
  rw [hva] at HVA
  have HVB := hide (fun W hW => rat_valid gb sb tb W (by have h := fewQ_two hf; unfold maxLen; have := h.2.2.1; simp at this; omega) (by have h := fewQ_two hf; unfold maxLen; have := h.2.2.2; simp at this; omega) hW)
  rw [hvb] at HVB
  unfold RT2 at h0 h1 h2 h3
  unfold RTO at h4
  have H0 := hide h0
  have P0 := hide p0
  have H1 := hide h1
  have P1 := hide p1
  have H2 := hide h2
  have P2 := hide p2
  have H3 := hide h3
  have P3 := hide p3
  have H4 := hide h4
  have P4 := hide p4
  have HH := hide (fun W hW => law04_head W hW)
  have HB0 : Hid (Below w.heap.size w w) := Below.refl _ _
  have HV0 : Hid (VL w []) := VL.nil w
  clear hf hva hvb hw h0 p0 h1 p1 h2 p2 h3 p3 h4 p4
  go_enter Tryz.func4, Tryz.ntmps4
  have HV0_ := hide (HV0.out.pushAt (b := w.heap.size) (by simp) ga sa ta 24)
  have HB0_ := hide (bAlloc HB0.out (.cells #[.bool ga, .string sa, .string ta] 24))
  clear HB0 HV0
  have HV0__ := hide (HV0_.out.pushAt (b := w.heap.size + 1) (by simp) gb sb tb 24)
  have HB0__ := hide (bAlloc HB0_.out (.cells #[.bool gb, .string sb, .string tb] 24))
  clear HB0_ HV0_
  go_wp2_with fail
  refine (HH.out _ (HW.out.below HB0__.out)).mono ?_
  rintro e w1 ⟨rfl, hb⟩
  have HB1 := hide (bStep HB0__.out hb)
  have HV1 := hide (HV0__.out.below hb)
  clear hb HB0__ HV0__
  obtain ⟨c3, c4, c5⟩ := VL.cells3 (b := w.heap.size) (g := ga) (s := sa) (t := ta) HV1.out (by simp)
  obtain ⟨c6, c7, c8⟩ := VL.cells3 (b := w.heap.size + 1) (g := gb) (s := sb) (t := tb) HV1.out (by simp)
  go_wp2_with fail
  clear c3 c4 c5 c6 c7 c8
  refine (HF.out _ _).mono ?_
  rintro e wf ⟨rfl, rfl⟩
  have HV1_ := hide (VL.below HV1.out (bAlloc (Below.refl _ _) (.cells #[.bool ga, .string sa, .string ta, .bool gb, .string sb, .string tb] 24)))
  have HB1_ := hide (bAlloc HB1.out (.cells #[.bool ga, .string sa, .string ta, .bool gb, .string sb, .string tb] 24))
  clear HB1 HV1
  obtain ⟨c9, c10, c11⟩ := VL.cells3 (b := w.heap.size) (g := ga) (s := sa) (t := ta) HV1_.out (by simp)
  go_wp2_with fail
  clear c9 c10 c11
  refine (HVA.out _ (HW.out.below HB1_.out)).mono ?_
  rintro e w2 ⟨rfl, hb⟩
  have HB2 := hide (bStep HB1_.out hb)
  have HV2 := hide (HV1_.out.below hb)
  clear hb HB1_ HV1_
  obtain ⟨c12, c13, c14⟩ := VL.cells3 (b := w.heap.size + 1) (g := gb) (s := sb) (t := tb) HV2.out (by simp)
  go_wp2_with fail
  clear c12 c13 c14
  refine (HVB.out _ (HW.out.below HB2.out)).mono ?_
  rintro e w3 ⟨rfl, hb⟩
  have HB3 := hide (bStep HB2.out hb)
  have HV3 := hide (HV2.out.below hb)
  clear hb HB2 HV2
  obtain ⟨c15, c16, c17⟩ := VL.cells3 (b := w.heap.size) (g := ga) (s := sa) (t := ta) HV3.out (by simp)
  obtain ⟨c18, c19, c20⟩ := VL.cells3 (b := w.heap.size + 1) (g := gb) (s := sb) (t := tb) HV3.out (by simp)
  have HS0 := hide (FS.start HB3.out HV3.out 38 39)
  have HSx : Hid (FS w (w3.heap.size) ((w3.alloc (.cells #[.bool false, .string ⟨#[]⟩, .string ⟨#[]⟩, .bool false, .string ⟨#[]⟩, .string ⟨#[]⟩, .bool false, .string ⟨#[]⟩, .string ⟨#[]⟩, .bool false, .string ⟨#[]⟩, .string ⟨#[]⟩, .bool false, .string ⟨#[]⟩, .string ⟨#[]⟩] 38)).alloc (.cells #[.int .i64 0, .int .i64 0, .int .i64 0, .int .i64 0, .int .i64 0] 39)) [(w.heap.size + 1, gb, sb, tb), (w.heap.size, ga, sa, ta)] (w3.heap.size) (w3.heap.size + 1) [zr, zr, zr, zr, zr] [0, 0, 0, 0, 0]) := HS0.out
  clear HS0 HB3 HV3
  obtain ⟨c21, c22, c23⟩ := VL.cells3 (b := w.heap.size) (g := ga) (s := sa) (t := ta) HSx.out.vs.vl (by simp)
  obtain ⟨c24, c25, c26⟩ := VL.cells3 (b := w.heap.size + 1) (g := gb) (s := sb) (t := tb) HSx.out.vs.vl (by simp)
  go_wp2_with fail
  clear c15 c16 c17 c18 c19 c20 c21 c22 c23 c24 c25 c26
  refine (H0.out _ (HSx.out.vs.law HW.out)).mono ?_
  rintro e wf0 ⟨rfl, hb⟩
  have HSy : Hid (FS w (w3.heap.size) wf0 [(w.heap.size + 1, gb, sb, tb), (w.heap.size, ga, sa, ta)] (w3.heap.size) (w3.heap.size + 1) [zr, zr, zr, zr, zr] [0, 0, 0, 0, 0]) := HSx.out.below hb
  clear hb HSx
  have har := HSy.out.ar 0 (show 0 < 5 by decide)
  have her := HSy.out.er 0 (show 0 < 5 by decide)
  obtain ⟨⟨a0, a1, a2⟩, f0, f1, f2⟩ : (wf0.cell? ⟨w3.heap.size, 0, none⟩ = some (.bool false) ∧ wf0.cell? ⟨w3.heap.size, 1, none⟩ = some (.string ⟨#[]⟩) ∧ wf0.cell? ⟨w3.heap.size, 2, none⟩ = some (.string ⟨#[]⟩)) ∧ wf0.frozen? ⟨w3.heap.size, 0, none⟩ = false ∧ wf0.frozen? ⟨w3.heap.size, 1, none⟩ = false ∧ wf0.frozen? ⟨w3.heap.size, 2, none⟩ = false := har
  obtain ⟨e0, e1⟩ : wf0.cell? ⟨w3.heap.size + 1, 0, none⟩ = some (.int .i64 0) ∧ wf0.frozen? ⟨w3.heap.size + 1, 0, none⟩ = false := her
  have HSx : Hid (FS w (w3.heap.size) ((((wf0.setCell ⟨w3.heap.size, 0, none⟩ (.bool g0)).setCell ⟨w3.heap.size, 1, none⟩ (.string s0)).setCell ⟨w3.heap.size, 2, none⟩ (.string t0)).setCell ⟨w3.heap.size + 1, 0, none⟩ (.int .i64 k0)) [(w.heap.size + 1, gb, sb, tb), (w.heap.size, ga, sa, ta)] (w3.heap.size) (w3.heap.size + 1) [(g0, s0, t0), zr, zr, zr, zr] [k0, 0, 0, 0, 0]) := HSy.out.put (i := 0) (show 0 < 5 by decide) (show 0 < 5 by decide) (g0, s0, t0) k0
  clear HSy
  obtain ⟨c27, c28, c29⟩ := VL.cells3 (b := w.heap.size) (g := ga) (s := sa) (t := ta) HSx.out.vs.vl (by simp)
  obtain ⟨c30, c31, c32⟩ := VL.cells3 (b := w.heap.size + 1) (g := gb) (s := sb) (t := tb) HSx.out.vs.vl (by simp)
  go_wp2_with fail
  clear a0 a1 a2 f0 f1 f2 e0 e1 c27 c28 c29 c30 c31 c32
  refine (H1.out _ (HSx.out.vs.law HW.out)).mono ?_
  rintro e wf1 ⟨rfl, hb⟩
  have HSy : Hid (FS w (w3.heap.size) wf1 [(w.heap.size + 1, gb, sb, tb), (w.heap.size, ga, sa, ta)] (w3.heap.size) (w3.heap.size + 1) [(g0, s0, t0), zr, zr, zr, zr] [k0, 0, 0, 0, 0]) := HSx.out.below hb
  clear hb HSx
  have har := HSy.out.ar 1 (show 1 < 5 by decide)
  have her := HSy.out.er 1 (show 1 < 5 by decide)
  obtain ⟨⟨a0, a1, a2⟩, f0, f1, f2⟩ : (wf1.cell? ⟨w3.heap.size, 3, none⟩ = some (.bool false) ∧ wf1.cell? ⟨w3.heap.size, 4, none⟩ = some (.string ⟨#[]⟩) ∧ wf1.cell? ⟨w3.heap.size, 5, none⟩ = some (.string ⟨#[]⟩)) ∧ wf1.frozen? ⟨w3.heap.size, 3, none⟩ = false ∧ wf1.frozen? ⟨w3.heap.size, 4, none⟩ = false ∧ wf1.frozen? ⟨w3.heap.size, 5, none⟩ = false := har
  obtain ⟨e0, e1⟩ : wf1.cell? ⟨w3.heap.size + 1, 1, none⟩ = some (.int .i64 0) ∧ wf1.frozen? ⟨w3.heap.size + 1, 1, none⟩ = false := her
  have HSx : Hid (FS w (w3.heap.size) ((((wf1.setCell ⟨w3.heap.size, 3, none⟩ (.bool g1)).setCell ⟨w3.heap.size, 4, none⟩ (.string s1)).setCell ⟨w3.heap.size, 5, none⟩ (.string t1)).setCell ⟨w3.heap.size + 1, 1, none⟩ (.int .i64 k1)) [(w.heap.size + 1, gb, sb, tb), (w.heap.size, ga, sa, ta)] (w3.heap.size) (w3.heap.size + 1) [(g0, s0, t0), (g1, s1, t1), zr, zr, zr] [k0, k1, 0, 0, 0]) := HSy.out.put (i := 1) (show 1 < 5 by decide) (show 1 < 5 by decide) (g1, s1, t1) k1
  clear HSy
  obtain ⟨c33, c34, c35⟩ := VL.cells3 (b := w.heap.size) (g := ga) (s := sa) (t := ta) HSx.out.vs.vl (by simp)
  obtain ⟨c36, c37, c38⟩ := VL.cells3 (b := w.heap.size + 1) (g := gb) (s := sb) (t := tb) HSx.out.vs.vl (by simp)
  go_wp2_with fail
  clear a0 a1 a2 f0 f1 f2 e0 e1 c33 c34 c35 c36 c37 c38
  refine (H2.out _ (HSx.out.vs.law HW.out)).mono ?_
  rintro e wf2 ⟨rfl, hb⟩
  have HSy : Hid (FS w (w3.heap.size) wf2 [(w.heap.size + 1, gb, sb, tb), (w.heap.size, ga, sa, ta)] (w3.heap.size) (w3.heap.size + 1) [(g0, s0, t0), (g1, s1, t1), zr, zr, zr] [k0, k1, 0, 0, 0]) := HSx.out.below hb
  clear hb HSx
  have har := HSy.out.ar 2 (show 2 < 5 by decide)
  have her := HSy.out.er 2 (show 2 < 5 by decide)
  obtain ⟨⟨a0, a1, a2⟩, f0, f1, f2⟩ : (wf2.cell? ⟨w3.heap.size, 6, none⟩ = some (.bool false) ∧ wf2.cell? ⟨w3.heap.size, 7, none⟩ = some (.string ⟨#[]⟩) ∧ wf2.cell? ⟨w3.heap.size, 8, none⟩ = some (.string ⟨#[]⟩)) ∧ wf2.frozen? ⟨w3.heap.size, 6, none⟩ = false ∧ wf2.frozen? ⟨w3.heap.size, 7, none⟩ = false ∧ wf2.frozen? ⟨w3.heap.size, 8, none⟩ = false := har
  obtain ⟨e0, e1⟩ : wf2.cell? ⟨w3.heap.size + 1, 2, none⟩ = some (.int .i64 0) ∧ wf2.frozen? ⟨w3.heap.size + 1, 2, none⟩ = false := her
  have HSx : Hid (FS w (w3.heap.size) ((((wf2.setCell ⟨w3.heap.size, 6, none⟩ (.bool g2)).setCell ⟨w3.heap.size, 7, none⟩ (.string s2)).setCell ⟨w3.heap.size, 8, none⟩ (.string t2)).setCell ⟨w3.heap.size + 1, 2, none⟩ (.int .i64 k2)) [(w.heap.size + 1, gb, sb, tb), (w.heap.size, ga, sa, ta)] (w3.heap.size) (w3.heap.size + 1) [(g0, s0, t0), (g1, s1, t1), (g2, s2, t2), zr, zr] [k0, k1, k2, 0, 0]) := HSy.out.put (i := 2) (show 2 < 5 by decide) (show 2 < 5 by decide) (g2, s2, t2) k2
  clear HSy
  obtain ⟨c39, c40, c41⟩ := VL.cells3 (b := w.heap.size) (g := ga) (s := sa) (t := ta) HSx.out.vs.vl (by simp)
  obtain ⟨c42, c43, c44⟩ := VL.cells3 (b := w.heap.size + 1) (g := gb) (s := sb) (t := tb) HSx.out.vs.vl (by simp)
  go_wp2_with fail
  clear a0 a1 a2 f0 f1 f2 e0 e1 c39 c40 c41 c42 c43 c44
  refine (H3.out _ (HSx.out.vs.law HW.out)).mono ?_
  rintro e wf3 ⟨rfl, hb⟩
  have HSy : Hid (FS w (w3.heap.size) wf3 [(w.heap.size + 1, gb, sb, tb), (w.heap.size, ga, sa, ta)] (w3.heap.size) (w3.heap.size + 1) [(g0, s0, t0), (g1, s1, t1), (g2, s2, t2), zr, zr] [k0, k1, k2, 0, 0]) := HSx.out.below hb
  clear hb HSx
  have har := HSy.out.ar 3 (show 3 < 5 by decide)
  have her := HSy.out.er 3 (show 3 < 5 by decide)
  obtain ⟨⟨a0, a1, a2⟩, f0, f1, f2⟩ : (wf3.cell? ⟨w3.heap.size, 9, none⟩ = some (.bool false) ∧ wf3.cell? ⟨w3.heap.size, 10, none⟩ = some (.string ⟨#[]⟩) ∧ wf3.cell? ⟨w3.heap.size, 11, none⟩ = some (.string ⟨#[]⟩)) ∧ wf3.frozen? ⟨w3.heap.size, 9, none⟩ = false ∧ wf3.frozen? ⟨w3.heap.size, 10, none⟩ = false ∧ wf3.frozen? ⟨w3.heap.size, 11, none⟩ = false := har
  obtain ⟨e0, e1⟩ : wf3.cell? ⟨w3.heap.size + 1, 3, none⟩ = some (.int .i64 0) ∧ wf3.frozen? ⟨w3.heap.size + 1, 3, none⟩ = false := her
  have HSx : Hid (FS w (w3.heap.size) ((((wf3.setCell ⟨w3.heap.size, 9, none⟩ (.bool g3)).setCell ⟨w3.heap.size, 10, none⟩ (.string s3)).setCell ⟨w3.heap.size, 11, none⟩ (.string t3)).setCell ⟨w3.heap.size + 1, 3, none⟩ (.int .i64 k3)) [(w.heap.size + 1, gb, sb, tb), (w.heap.size, ga, sa, ta)] (w3.heap.size) (w3.heap.size + 1) [(g0, s0, t0), (g1, s1, t1), (g2, s2, t2), (g3, s3, t3), zr] [k0, k1, k2, k3, 0]) := HSy.out.put (i := 3) (show 3 < 5 by decide) (show 3 < 5 by decide) (g3, s3, t3) k3
  clear HSy
  go_wp2_with fail
  clear a0 a1 a2 f0 f1 f2 e0 e1
  refine (H4.out _ (HSx.out.vs.law HW.out)).mono ?_
  rintro e wf4 ⟨rfl, hb⟩
  have HSy : Hid (FS w (w3.heap.size) wf4 [(w.heap.size + 1, gb, sb, tb), (w.heap.size, ga, sa, ta)] (w3.heap.size) (w3.heap.size + 1) [(g0, s0, t0), (g1, s1, t1), (g2, s2, t2), (g3, s3, t3), zr] [k0, k1, k2, k3, 0]) := HSx.out.below hb
  clear hb HSx
  have har := HSy.out.ar 4 (show 4 < 5 by decide)
  have her := HSy.out.er 4 (show 4 < 5 by decide)
  obtain ⟨⟨a0, a1, a2⟩, f0, f1, f2⟩ : (wf4.cell? ⟨w3.heap.size, 12, none⟩ = some (.bool false) ∧ wf4.cell? ⟨w3.heap.size, 13, none⟩ = some (.string ⟨#[]⟩) ∧ wf4.cell? ⟨w3.heap.size, 14, none⟩ = some (.string ⟨#[]⟩)) ∧ wf4.frozen? ⟨w3.heap.size, 12, none⟩ = false ∧ wf4.frozen? ⟨w3.heap.size, 13, none⟩ = false ∧ wf4.frozen? ⟨w3.heap.size, 14, none⟩ = false := har
  obtain ⟨e0, e1⟩ : wf4.cell? ⟨w3.heap.size + 1, 4, none⟩ = some (.int .i64 0) ∧ wf4.frozen? ⟨w3.heap.size + 1, 4, none⟩ = false := her
  have HSx : Hid (FS w (w3.heap.size) ((((wf4.setCell ⟨w3.heap.size, 12, none⟩ (.bool g4)).setCell ⟨w3.heap.size, 13, none⟩ (.string s4)).setCell ⟨w3.heap.size, 14, none⟩ (.string t4)).setCell ⟨w3.heap.size + 1, 4, none⟩ (.int .i64 k4)) [(w.heap.size + 1, gb, sb, tb), (w.heap.size, ga, sa, ta)] (w3.heap.size) (w3.heap.size + 1) [(g0, s0, t0), (g1, s1, t1), (g2, s2, t2), (g3, s3, t3), (g4, s4, t4)] [k0, k1, k2, k3, k4]) := HSy.out.put (i := 4) (show 4 < 5 by decide) (show 4 < 5 by decide) (g4, s4, t4) k4
  clear HSy
  go_wp2_with fail
  clear a0 a1 a2 f0 f1 f2 e0 e1
  go_loopw [13] (fun x wx => ∃ k : Nat, k ≤ 5 ∧ x = .int .i64 (k : Int) ∧ FS w (w3.heap.size) wx [(w.heap.size + 1, gb, sb, tb), (w.heap.size, ga, sa, ta)] (w3.heap.size) (w3.heap.size + 1) [(g0, s0, t0), (g1, s1, t1), (g2, s2, t2), (g3, s3, t3), (g4, s4, t4)] [k0, k1, k2, k3, k4]) (fun x _ => 5 - (intOf x).toNat)
  case atStart => exact ⟨0, by omega, rfl, HSx.out⟩
  case round =>
    obtain ⟨k, hk, rfl, hfs⟩ := hrel
    have HS := hide hfs
    clear hfs HSx
    obtain rfl | rfl | rfl | rfl | rfl | rfl : k = 0 ∨ k = 1 ∨ k = 2 ∨ k = 3 ∨ k = 4 ∨ k = 5 := by omega
    · rcases P0.out with ⟨rfl, hB, hv⟩ | ⟨rfl, hB, rfl, rfl, rfl⟩ | ⟨rfl, hB, rfl, rfl, rfl⟩
      · have HV := hide hv
        clear hv
        clear hB
        obtain ⟨e0, -⟩ : wr.cell? ⟨w3.heap.size + 1, 0, none⟩ = some (.int .i64 0) ∧ wr.frozen? ⟨w3.heap.size + 1, 0, none⟩ = false := HS.out.er 0 (show 0 < 5 by decide)
        obtain ⟨⟨a0, a1, a2⟩, -, -, -⟩ : (wr.cell? ⟨w3.heap.size, 0, none⟩ = some (.bool g0) ∧ wr.cell? ⟨w3.heap.size, 1, none⟩ = some (.string s0) ∧ wr.cell? ⟨w3.heap.size, 2, none⟩ = some (.string t0)) ∧ wr.frozen? ⟨w3.heap.size, 0, none⟩ = false ∧ wr.frozen? ⟨w3.heap.size, 1, none⟩ = false ∧ wr.frozen? ⟨w3.heap.size, 2, none⟩ = false := HS.out.ar 0 (show 0 < 5 by decide)
        go_wp2_with fail
        clear e0 a0 a1 a2
        refine (HV.out _ (HS.out.vs.law HW.out)).mono ?_
        rintro e wv ⟨rfl, hb⟩
        have HSv := hide (HS.out.below hb)
        clear hb
        obtain ⟨e0, -⟩ : wv.cell? ⟨w3.heap.size + 1, 0, none⟩ = some (.int .i64 0) ∧ wv.frozen? ⟨w3.heap.size + 1, 0, none⟩ = false := HSv.out.er 0 (show 0 < 5 by decide)
        go_wp2_with fail
        go_roundw
        case rel => exact ⟨1, by omega, by go_num, HSv.out⟩
        case measure => (simp [intOf]; try omega)
      · cases hB
      · clear hB
        obtain ⟨e0, -⟩ : wr.cell? ⟨w3.heap.size + 1, 0, none⟩ = some (.int .i64 14) ∧ wr.frozen? ⟨w3.heap.size + 1, 0, none⟩ = false := HS.out.er 0 (show 0 < 5 by decide)
        obtain ⟨⟨a0, a1, a2⟩, -, -, -⟩ : (wr.cell? ⟨w3.heap.size, 0, none⟩ = some (.bool false) ∧ wr.cell? ⟨w3.heap.size, 1, none⟩ = some (.string ⟨#[]⟩) ∧ wr.cell? ⟨w3.heap.size, 2, none⟩ = some (.string ⟨#[]⟩)) ∧ wr.frozen? ⟨w3.heap.size, 0, none⟩ = false ∧ wr.frozen? ⟨w3.heap.size, 1, none⟩ = false ∧ wr.frozen? ⟨w3.heap.size, 2, none⟩ = false := HS.out.ar 0 (show 0 < 5 by decide)
        go_wp2_with fail
        go_roundw
        case rel => exact ⟨1, by omega, by go_num, HS.out⟩
        case measure => (simp [intOf]; try omega)
    · rcases P1.out with ⟨rfl, hB, hv⟩ | ⟨rfl, hB, rfl, rfl, rfl⟩ | ⟨rfl, hB, rfl, rfl, rfl⟩
      · have HV := hide hv
        clear hv
        clear hB
        obtain ⟨e0, -⟩ : wr.cell? ⟨w3.heap.size + 1, 1, none⟩ = some (.int .i64 0) ∧ wr.frozen? ⟨w3.heap.size + 1, 1, none⟩ = false := HS.out.er 1 (show 1 < 5 by decide)
        obtain ⟨⟨a0, a1, a2⟩, -, -, -⟩ : (wr.cell? ⟨w3.heap.size, 3, none⟩ = some (.bool g1) ∧ wr.cell? ⟨w3.heap.size, 4, none⟩ = some (.string s1) ∧ wr.cell? ⟨w3.heap.size, 5, none⟩ = some (.string t1)) ∧ wr.frozen? ⟨w3.heap.size, 3, none⟩ = false ∧ wr.frozen? ⟨w3.heap.size, 4, none⟩ = false ∧ wr.frozen? ⟨w3.heap.size, 5, none⟩ = false := HS.out.ar 1 (show 1 < 5 by decide)
        go_wp2_with fail
        clear e0 a0 a1 a2
        refine (HV.out _ (HS.out.vs.law HW.out)).mono ?_
        rintro e wv ⟨rfl, hb⟩
        have HSv := hide (HS.out.below hb)
        clear hb
        obtain ⟨e0, -⟩ : wv.cell? ⟨w3.heap.size + 1, 1, none⟩ = some (.int .i64 0) ∧ wv.frozen? ⟨w3.heap.size + 1, 1, none⟩ = false := HSv.out.er 1 (show 1 < 5 by decide)
        go_wp2_with fail
        go_roundw
        case rel => exact ⟨2, by omega, by go_num, HSv.out⟩
        case measure => (simp [intOf]; try omega)
      · cases hB
      · clear hB
        obtain ⟨e0, -⟩ : wr.cell? ⟨w3.heap.size + 1, 1, none⟩ = some (.int .i64 14) ∧ wr.frozen? ⟨w3.heap.size + 1, 1, none⟩ = false := HS.out.er 1 (show 1 < 5 by decide)
        obtain ⟨⟨a0, a1, a2⟩, -, -, -⟩ : (wr.cell? ⟨w3.heap.size, 3, none⟩ = some (.bool false) ∧ wr.cell? ⟨w3.heap.size, 4, none⟩ = some (.string ⟨#[]⟩) ∧ wr.cell? ⟨w3.heap.size, 5, none⟩ = some (.string ⟨#[]⟩)) ∧ wr.frozen? ⟨w3.heap.size, 3, none⟩ = false ∧ wr.frozen? ⟨w3.heap.size, 4, none⟩ = false ∧ wr.frozen? ⟨w3.heap.size, 5, none⟩ = false := HS.out.ar 1 (show 1 < 5 by decide)
        go_wp2_with fail
        go_roundw
        case rel => exact ⟨2, by omega, by go_num, HS.out⟩
        case measure => (simp [intOf]; try omega)
    · rcases P2.out with ⟨rfl, hB, hv⟩ | ⟨rfl, hB, rfl, rfl, rfl⟩ | ⟨rfl, hB, rfl, rfl, rfl⟩
      · have HV := hide hv
        clear hv
        clear hB
        obtain ⟨e0, -⟩ : wr.cell? ⟨w3.heap.size + 1, 2, none⟩ = some (.int .i64 0) ∧ wr.frozen? ⟨w3.heap.size + 1, 2, none⟩ = false := HS.out.er 2 (show 2 < 5 by decide)
        obtain ⟨⟨a0, a1, a2⟩, -, -, -⟩ : (wr.cell? ⟨w3.heap.size, 6, none⟩ = some (.bool g2) ∧ wr.cell? ⟨w3.heap.size, 7, none⟩ = some (.string s2) ∧ wr.cell? ⟨w3.heap.size, 8, none⟩ = some (.string t2)) ∧ wr.frozen? ⟨w3.heap.size, 6, none⟩ = false ∧ wr.frozen? ⟨w3.heap.size, 7, none⟩ = false ∧ wr.frozen? ⟨w3.heap.size, 8, none⟩ = false := HS.out.ar 2 (show 2 < 5 by decide)
        go_wp2_with fail
        clear e0 a0 a1 a2
        refine (HV.out _ (HS.out.vs.law HW.out)).mono ?_
        rintro e wv ⟨rfl, hb⟩
        have HSv := hide (HS.out.below hb)
        clear hb
        obtain ⟨e0, -⟩ : wv.cell? ⟨w3.heap.size + 1, 2, none⟩ = some (.int .i64 0) ∧ wv.frozen? ⟨w3.heap.size + 1, 2, none⟩ = false := HSv.out.er 2 (show 2 < 5 by decide)
        go_wp2_with fail
        go_roundw
        case rel => exact ⟨3, by omega, by go_num, HSv.out⟩
        case measure => (simp [intOf]; try omega)
      · cases hB
      · clear hB
        obtain ⟨e0, -⟩ : wr.cell? ⟨w3.heap.size + 1, 2, none⟩ = some (.int .i64 14) ∧ wr.frozen? ⟨w3.heap.size + 1, 2, none⟩ = false := HS.out.er 2 (show 2 < 5 by decide)
        obtain ⟨⟨a0, a1, a2⟩, -, -, -⟩ : (wr.cell? ⟨w3.heap.size, 6, none⟩ = some (.bool false) ∧ wr.cell? ⟨w3.heap.size, 7, none⟩ = some (.string ⟨#[]⟩) ∧ wr.cell? ⟨w3.heap.size, 8, none⟩ = some (.string ⟨#[]⟩)) ∧ wr.frozen? ⟨w3.heap.size, 6, none⟩ = false ∧ wr.frozen? ⟨w3.heap.size, 7, none⟩ = false ∧ wr.frozen? ⟨w3.heap.size, 8, none⟩ = false := HS.out.ar 2 (show 2 < 5 by decide)
        go_wp2_with fail
        go_roundw
        case rel => exact ⟨3, by omega, by go_num, HS.out⟩
        case measure => (simp [intOf]; try omega)
    · rcases P3.out with ⟨rfl, hB, hv⟩ | ⟨rfl, hB, rfl, rfl, rfl⟩ | ⟨rfl, hB, rfl, rfl, rfl⟩
      · have HV := hide hv
        clear hv
        clear hB
        obtain ⟨e0, -⟩ : wr.cell? ⟨w3.heap.size + 1, 3, none⟩ = some (.int .i64 0) ∧ wr.frozen? ⟨w3.heap.size + 1, 3, none⟩ = false := HS.out.er 3 (show 3 < 5 by decide)
        obtain ⟨⟨a0, a1, a2⟩, -, -, -⟩ : (wr.cell? ⟨w3.heap.size, 9, none⟩ = some (.bool g3) ∧ wr.cell? ⟨w3.heap.size, 10, none⟩ = some (.string s3) ∧ wr.cell? ⟨w3.heap.size, 11, none⟩ = some (.string t3)) ∧ wr.frozen? ⟨w3.heap.size, 9, none⟩ = false ∧ wr.frozen? ⟨w3.heap.size, 10, none⟩ = false ∧ wr.frozen? ⟨w3.heap.size, 11, none⟩ = false := HS.out.ar 3 (show 3 < 5 by decide)
        go_wp2_with fail
        clear e0 a0 a1 a2
        refine (HV.out _ (HS.out.vs.law HW.out)).mono ?_
        rintro e wv ⟨rfl, hb⟩
        have HSv := hide (HS.out.below hb)
        clear hb
        obtain ⟨e0, -⟩ : wv.cell? ⟨w3.heap.size + 1, 3, none⟩ = some (.int .i64 0) ∧ wv.frozen? ⟨w3.heap.size + 1, 3, none⟩ = false := HSv.out.er 3 (show 3 < 5 by decide)
        go_wp2_with fail
        go_roundw
        case rel => exact ⟨4, by omega, by go_num, HSv.out⟩
        case measure => (simp [intOf]; try omega)
      · cases hB
      · clear hB
        obtain ⟨e0, -⟩ : wr.cell? ⟨w3.heap.size + 1, 3, none⟩ = some (.int .i64 14) ∧ wr.frozen? ⟨w3.heap.size + 1, 3, none⟩ = false := HS.out.er 3 (show 3 < 5 by decide)
        obtain ⟨⟨a0, a1, a2⟩, -, -, -⟩ : (wr.cell? ⟨w3.heap.size, 9, none⟩ = some (.bool false) ∧ wr.cell? ⟨w3.heap.size, 10, none⟩ = some (.string ⟨#[]⟩) ∧ wr.cell? ⟨w3.heap.size, 11, none⟩ = some (.string ⟨#[]⟩)) ∧ wr.frozen? ⟨w3.heap.size, 9, none⟩ = false ∧ wr.frozen? ⟨w3.heap.size, 10, none⟩ = false ∧ wr.frozen? ⟨w3.heap.size, 11, none⟩ = false := HS.out.ar 3 (show 3 < 5 by decide)
        go_wp2_with fail
        go_roundw
        case rel => exact ⟨4, by omega, by go_num, HS.out⟩
        case measure => (simp [intOf]; try omega)
    · rcases P4.out with ⟨rfl, hB, hv⟩ | ⟨rfl, hB, rfl, rfl, rfl⟩
      · clear hB
        have HV := hide hv
        clear hv
        obtain ⟨e0, -⟩ : wr.cell? ⟨w3.heap.size + 1, 4, none⟩ = some (.int .i64 0) ∧ wr.frozen? ⟨w3.heap.size + 1, 4, none⟩ = false := HS.out.er 4 (show 4 < 5 by decide)
        obtain ⟨⟨a0, a1, a2⟩, -, -, -⟩ : (wr.cell? ⟨w3.heap.size, 12, none⟩ = some (.bool g4) ∧ wr.cell? ⟨w3.heap.size, 13, none⟩ = some (.string s4) ∧ wr.cell? ⟨w3.heap.size, 14, none⟩ = some (.string t4)) ∧ wr.frozen? ⟨w3.heap.size, 12, none⟩ = false ∧ wr.frozen? ⟨w3.heap.size, 13, none⟩ = false ∧ wr.frozen? ⟨w3.heap.size, 14, none⟩ = false := HS.out.ar 4 (show 4 < 5 by decide)
        go_wp2_with fail
        clear e0 a0 a1 a2
        refine (HV.out _ (HS.out.vs.law HW.out)).mono ?_
        rintro e wv ⟨rfl, hb⟩
        have HSv := hide (HS.out.below hb)
        clear hb
        obtain ⟨e0, -⟩ : wv.cell? ⟨w3.heap.size + 1, 4, none⟩ = some (.int .i64 0) ∧ wv.frozen? ⟨w3.heap.size + 1, 4, none⟩ = false := HSv.out.er 4 (show 4 < 5 by decide)
        go_wp2_with fail
        go_roundw
        case rel => exact ⟨5, by omega, by go_num, HSv.out⟩
        case measure => (simp [intOf]; try omega)
      · clear hB
        obtain ⟨e0, -⟩ : wr.cell? ⟨w3.heap.size + 1, 4, none⟩ = some (.int .i64 14) ∧ wr.frozen? ⟨w3.heap.size + 1, 4, none⟩ = false := HS.out.er 4 (show 4 < 5 by decide)
        obtain ⟨⟨a0, a1, a2⟩, -, -, -⟩ : (wr.cell? ⟨w3.heap.size, 12, none⟩ = some (.bool false) ∧ wr.cell? ⟨w3.heap.size, 13, none⟩ = some (.string ⟨#[]⟩) ∧ wr.cell? ⟨w3.heap.size, 14, none⟩ = some (.string ⟨#[]⟩)) ∧ wr.frozen? ⟨w3.heap.size, 12, none⟩ = false ∧ wr.frozen? ⟨w3.heap.size, 13, none⟩ = false ∧ wr.frozen? ⟨w3.heap.size, 14, none⟩ = false := HS.out.ar 4 (show 4 < 5 by decide)
        go_wp2_with fail
        go_roundw
        case rel => exact ⟨5, by omega, by go_num, HS.out⟩
        case measure => (simp [intOf]; try omega)
    · rcases P4.out with ⟨rfl, hB, hv⟩ | ⟨rfl, hB, rfl, rfl, rfl⟩
      · obtain ⟨e0, -⟩ : wr.cell? ⟨w3.heap.size + 1, 4, none⟩ = some (.int .i64 0) ∧ wr.frozen? ⟨w3.heap.size + 1, 4, none⟩ = false := HS.out.er 4 (show 4 < 5 by decide)
        go_wp2_with fail
        go_ret
        exact ⟨rfl, HS.out.vs.bel⟩
      · obtain ⟨e0, -⟩ : wr.cell? ⟨w3.heap.size + 1, 4, none⟩ = some (.int .i64 14) ∧ wr.frozen? ⟨w3.heap.size + 1, 4, none⟩ = false := HS.out.er 4 (show 4 < 5 by decide)
        go_wp2_with fail
        go_ret
        exact ⟨rfl, HS.out.vs.bel⟩
set_option maxHeartbeats 8000000 in
set_option maxRecDepth 100000 in
theorem form_badA (ga : Bool) (sa ta : ByteArray) (gb : Bool) (sb tb : ByteArray) (n d : Int) (w : World) (g0 : Bool) (s0 t0 : ByteArray) (k0 : Int) (g1 : Bool) (s1 t1 : ByteArray) (k1 : Int) (g2 : Bool) (s2 t2 : ByteArray) (k2 : Int) (g3 : Bool) (s3 t3 : ByteArray) (k3 : Int) (g4 : Bool) (s4 t4 : ByteArray) (k4 : Int) (hf : fewQ 40 [(ga, sa, ta), (gb, sb, tb)] = true) (hva : vldR ga sa ta = false) (h0 : RT2 25 ga sa ta gb sb tb g0 s0 t0 k0) (p0 : FP true g0 s0 t0 k0) (h1 : RT2 27 ga sa ta gb sb tb g1 s1 t1 k1) (p1 : FP true g1 s1 t1 k1) (h2 : RT2 29 ga sa ta gb sb tb g2 s2 t2 k2) (p2 : FP true g2 s2 t2 k2) (h3 : RT2 31 ga sa ta gb sb tb g3 s3 t3 k3) (p3 : FP true g3 s3 t3 k3) (h4 : RTO n d g4 s4 t4 k4) (p4 : OP d g4 s4 t4 k4) (hw : LawW w) :
    Calls Tryz.prog 4 #[.agg #[.bool ga, .string sa, .string ta], .agg #[.bool gb, .string sb, .string tb], .int .i64 n, .int .i64 d] w fun e w' => e = .returned (.bool true) ∧ Below w.heap.size w w' := by
  have HW := hide hw
  have HF := hide (fun W T => few_two ga sa ta gb sb tb W T)
  rw [hf] at HF
  have HVA := hide (fun W hW => rat_valid ga sa ta W (by have h := fewQ_two hf; unfold maxLen; have := h.1; simp at this; omega) (by have h := fewQ_two hf; unfold maxLen; have := h.2.1; simp at this; omega) hW)
  rw [hva] at HVA
  unfold RT2 at h0 h1 h2 h3
  unfold RTO at h4
  have H0 := hide h0
  have P0 := hide p0
  have H1 := hide h1
  have P1 := hide p1
  have H2 := hide h2
  have P2 := hide p2
  have H3 := hide h3
  have P3 := hide p3
  have H4 := hide h4
  have P4 := hide p4
  have HH := hide (fun W hW => law04_head W hW)
  have HB0 : Hid (Below w.heap.size w w) := Below.refl _ _
  have HV0 : Hid (VL w []) := VL.nil w
  clear hf hva hw h0 p0 h1 p1 h2 p2 h3 p3 h4 p4
  go_enter Tryz.func4, Tryz.ntmps4
  have HV0_ := hide (HV0.out.pushAt (b := w.heap.size) (by simp) ga sa ta 24)
  have HB0_ := hide (bAlloc HB0.out (.cells #[.bool ga, .string sa, .string ta] 24))
  clear HB0 HV0
  have HV0__ := hide (HV0_.out.pushAt (b := w.heap.size + 1) (by simp) gb sb tb 24)
  have HB0__ := hide (bAlloc HB0_.out (.cells #[.bool gb, .string sb, .string tb] 24))
  clear HB0_ HV0_
  go_wp2_with fail
  refine (HH.out _ (HW.out.below HB0__.out)).mono ?_
  rintro e w1 ⟨rfl, hb⟩
  have HB1 := hide (bStep HB0__.out hb)
  have HV1 := hide (HV0__.out.below hb)
  clear hb HB0__ HV0__
  obtain ⟨c3, c4, c5⟩ := VL.cells3 (b := w.heap.size) (g := ga) (s := sa) (t := ta) HV1.out (by simp)
  obtain ⟨c6, c7, c8⟩ := VL.cells3 (b := w.heap.size + 1) (g := gb) (s := sb) (t := tb) HV1.out (by simp)
  go_wp2_with fail
  clear c3 c4 c5 c6 c7 c8
  refine (HF.out _ _).mono ?_
  rintro e wf ⟨rfl, rfl⟩
  have HV1_ := hide (VL.below HV1.out (bAlloc (Below.refl _ _) (.cells #[.bool ga, .string sa, .string ta, .bool gb, .string sb, .string tb] 24)))
  have HB1_ := hide (bAlloc HB1.out (.cells #[.bool ga, .string sa, .string ta, .bool gb, .string sb, .string tb] 24))
  clear HB1 HV1
  obtain ⟨c9, c10, c11⟩ := VL.cells3 (b := w.heap.size) (g := ga) (s := sa) (t := ta) HV1_.out (by simp)
  go_wp2_with fail
  clear c9 c10 c11
  refine (HVA.out _ (HW.out.below HB1_.out)).mono ?_
  rintro e w2 ⟨rfl, hb⟩
  have HB2 := hide (bStep HB1_.out hb)
  have HV2 := hide (HV1_.out.below hb)
  clear hb HB1_ HV1_
  obtain ⟨c12, c13, c14⟩ := VL.cells3 (b := w.heap.size) (g := ga) (s := sa) (t := ta) HV2.out (by simp)
  obtain ⟨c15, c16, c17⟩ := VL.cells3 (b := w.heap.size + 1) (g := gb) (s := sb) (t := tb) HV2.out (by simp)
  have HS0 := hide (FS.start HB2.out HV2.out 38 39)
  have HSx : Hid (FS w (w2.heap.size) ((w2.alloc (.cells #[.bool false, .string ⟨#[]⟩, .string ⟨#[]⟩, .bool false, .string ⟨#[]⟩, .string ⟨#[]⟩, .bool false, .string ⟨#[]⟩, .string ⟨#[]⟩, .bool false, .string ⟨#[]⟩, .string ⟨#[]⟩, .bool false, .string ⟨#[]⟩, .string ⟨#[]⟩] 38)).alloc (.cells #[.int .i64 0, .int .i64 0, .int .i64 0, .int .i64 0, .int .i64 0] 39)) [(w.heap.size + 1, gb, sb, tb), (w.heap.size, ga, sa, ta)] (w2.heap.size) (w2.heap.size + 1) [zr, zr, zr, zr, zr] [0, 0, 0, 0, 0]) := HS0.out
  clear HS0 HB2 HV2
  obtain ⟨c18, c19, c20⟩ := VL.cells3 (b := w.heap.size) (g := ga) (s := sa) (t := ta) HSx.out.vs.vl (by simp)
  obtain ⟨c21, c22, c23⟩ := VL.cells3 (b := w.heap.size + 1) (g := gb) (s := sb) (t := tb) HSx.out.vs.vl (by simp)
  go_wp2_with fail
  clear c12 c13 c14 c15 c16 c17 c18 c19 c20 c21 c22 c23
  refine (H0.out _ (HSx.out.vs.law HW.out)).mono ?_
  rintro e wf0 ⟨rfl, hb⟩
  have HSy : Hid (FS w (w2.heap.size) wf0 [(w.heap.size + 1, gb, sb, tb), (w.heap.size, ga, sa, ta)] (w2.heap.size) (w2.heap.size + 1) [zr, zr, zr, zr, zr] [0, 0, 0, 0, 0]) := HSx.out.below hb
  clear hb HSx
  have har := HSy.out.ar 0 (show 0 < 5 by decide)
  have her := HSy.out.er 0 (show 0 < 5 by decide)
  obtain ⟨⟨a0, a1, a2⟩, f0, f1, f2⟩ : (wf0.cell? ⟨w2.heap.size, 0, none⟩ = some (.bool false) ∧ wf0.cell? ⟨w2.heap.size, 1, none⟩ = some (.string ⟨#[]⟩) ∧ wf0.cell? ⟨w2.heap.size, 2, none⟩ = some (.string ⟨#[]⟩)) ∧ wf0.frozen? ⟨w2.heap.size, 0, none⟩ = false ∧ wf0.frozen? ⟨w2.heap.size, 1, none⟩ = false ∧ wf0.frozen? ⟨w2.heap.size, 2, none⟩ = false := har
  obtain ⟨e0, e1⟩ : wf0.cell? ⟨w2.heap.size + 1, 0, none⟩ = some (.int .i64 0) ∧ wf0.frozen? ⟨w2.heap.size + 1, 0, none⟩ = false := her
  have HSx : Hid (FS w (w2.heap.size) ((((wf0.setCell ⟨w2.heap.size, 0, none⟩ (.bool g0)).setCell ⟨w2.heap.size, 1, none⟩ (.string s0)).setCell ⟨w2.heap.size, 2, none⟩ (.string t0)).setCell ⟨w2.heap.size + 1, 0, none⟩ (.int .i64 k0)) [(w.heap.size + 1, gb, sb, tb), (w.heap.size, ga, sa, ta)] (w2.heap.size) (w2.heap.size + 1) [(g0, s0, t0), zr, zr, zr, zr] [k0, 0, 0, 0, 0]) := HSy.out.put (i := 0) (show 0 < 5 by decide) (show 0 < 5 by decide) (g0, s0, t0) k0
  clear HSy
  obtain ⟨c24, c25, c26⟩ := VL.cells3 (b := w.heap.size) (g := ga) (s := sa) (t := ta) HSx.out.vs.vl (by simp)
  obtain ⟨c27, c28, c29⟩ := VL.cells3 (b := w.heap.size + 1) (g := gb) (s := sb) (t := tb) HSx.out.vs.vl (by simp)
  go_wp2_with fail
  clear a0 a1 a2 f0 f1 f2 e0 e1 c24 c25 c26 c27 c28 c29
  refine (H1.out _ (HSx.out.vs.law HW.out)).mono ?_
  rintro e wf1 ⟨rfl, hb⟩
  have HSy : Hid (FS w (w2.heap.size) wf1 [(w.heap.size + 1, gb, sb, tb), (w.heap.size, ga, sa, ta)] (w2.heap.size) (w2.heap.size + 1) [(g0, s0, t0), zr, zr, zr, zr] [k0, 0, 0, 0, 0]) := HSx.out.below hb
  clear hb HSx
  have har := HSy.out.ar 1 (show 1 < 5 by decide)
  have her := HSy.out.er 1 (show 1 < 5 by decide)
  obtain ⟨⟨a0, a1, a2⟩, f0, f1, f2⟩ : (wf1.cell? ⟨w2.heap.size, 3, none⟩ = some (.bool false) ∧ wf1.cell? ⟨w2.heap.size, 4, none⟩ = some (.string ⟨#[]⟩) ∧ wf1.cell? ⟨w2.heap.size, 5, none⟩ = some (.string ⟨#[]⟩)) ∧ wf1.frozen? ⟨w2.heap.size, 3, none⟩ = false ∧ wf1.frozen? ⟨w2.heap.size, 4, none⟩ = false ∧ wf1.frozen? ⟨w2.heap.size, 5, none⟩ = false := har
  obtain ⟨e0, e1⟩ : wf1.cell? ⟨w2.heap.size + 1, 1, none⟩ = some (.int .i64 0) ∧ wf1.frozen? ⟨w2.heap.size + 1, 1, none⟩ = false := her
  have HSx : Hid (FS w (w2.heap.size) ((((wf1.setCell ⟨w2.heap.size, 3, none⟩ (.bool g1)).setCell ⟨w2.heap.size, 4, none⟩ (.string s1)).setCell ⟨w2.heap.size, 5, none⟩ (.string t1)).setCell ⟨w2.heap.size + 1, 1, none⟩ (.int .i64 k1)) [(w.heap.size + 1, gb, sb, tb), (w.heap.size, ga, sa, ta)] (w2.heap.size) (w2.heap.size + 1) [(g0, s0, t0), (g1, s1, t1), zr, zr, zr] [k0, k1, 0, 0, 0]) := HSy.out.put (i := 1) (show 1 < 5 by decide) (show 1 < 5 by decide) (g1, s1, t1) k1
  clear HSy
  obtain ⟨c30, c31, c32⟩ := VL.cells3 (b := w.heap.size) (g := ga) (s := sa) (t := ta) HSx.out.vs.vl (by simp)
  obtain ⟨c33, c34, c35⟩ := VL.cells3 (b := w.heap.size + 1) (g := gb) (s := sb) (t := tb) HSx.out.vs.vl (by simp)
  go_wp2_with fail
  clear a0 a1 a2 f0 f1 f2 e0 e1 c30 c31 c32 c33 c34 c35
  refine (H2.out _ (HSx.out.vs.law HW.out)).mono ?_
  rintro e wf2 ⟨rfl, hb⟩
  have HSy : Hid (FS w (w2.heap.size) wf2 [(w.heap.size + 1, gb, sb, tb), (w.heap.size, ga, sa, ta)] (w2.heap.size) (w2.heap.size + 1) [(g0, s0, t0), (g1, s1, t1), zr, zr, zr] [k0, k1, 0, 0, 0]) := HSx.out.below hb
  clear hb HSx
  have har := HSy.out.ar 2 (show 2 < 5 by decide)
  have her := HSy.out.er 2 (show 2 < 5 by decide)
  obtain ⟨⟨a0, a1, a2⟩, f0, f1, f2⟩ : (wf2.cell? ⟨w2.heap.size, 6, none⟩ = some (.bool false) ∧ wf2.cell? ⟨w2.heap.size, 7, none⟩ = some (.string ⟨#[]⟩) ∧ wf2.cell? ⟨w2.heap.size, 8, none⟩ = some (.string ⟨#[]⟩)) ∧ wf2.frozen? ⟨w2.heap.size, 6, none⟩ = false ∧ wf2.frozen? ⟨w2.heap.size, 7, none⟩ = false ∧ wf2.frozen? ⟨w2.heap.size, 8, none⟩ = false := har
  obtain ⟨e0, e1⟩ : wf2.cell? ⟨w2.heap.size + 1, 2, none⟩ = some (.int .i64 0) ∧ wf2.frozen? ⟨w2.heap.size + 1, 2, none⟩ = false := her
  have HSx : Hid (FS w (w2.heap.size) ((((wf2.setCell ⟨w2.heap.size, 6, none⟩ (.bool g2)).setCell ⟨w2.heap.size, 7, none⟩ (.string s2)).setCell ⟨w2.heap.size, 8, none⟩ (.string t2)).setCell ⟨w2.heap.size + 1, 2, none⟩ (.int .i64 k2)) [(w.heap.size + 1, gb, sb, tb), (w.heap.size, ga, sa, ta)] (w2.heap.size) (w2.heap.size + 1) [(g0, s0, t0), (g1, s1, t1), (g2, s2, t2), zr, zr] [k0, k1, k2, 0, 0]) := HSy.out.put (i := 2) (show 2 < 5 by decide) (show 2 < 5 by decide) (g2, s2, t2) k2
  clear HSy
  obtain ⟨c36, c37, c38⟩ := VL.cells3 (b := w.heap.size) (g := ga) (s := sa) (t := ta) HSx.out.vs.vl (by simp)
  obtain ⟨c39, c40, c41⟩ := VL.cells3 (b := w.heap.size + 1) (g := gb) (s := sb) (t := tb) HSx.out.vs.vl (by simp)
  go_wp2_with fail
  clear a0 a1 a2 f0 f1 f2 e0 e1 c36 c37 c38 c39 c40 c41
  refine (H3.out _ (HSx.out.vs.law HW.out)).mono ?_
  rintro e wf3 ⟨rfl, hb⟩
  have HSy : Hid (FS w (w2.heap.size) wf3 [(w.heap.size + 1, gb, sb, tb), (w.heap.size, ga, sa, ta)] (w2.heap.size) (w2.heap.size + 1) [(g0, s0, t0), (g1, s1, t1), (g2, s2, t2), zr, zr] [k0, k1, k2, 0, 0]) := HSx.out.below hb
  clear hb HSx
  have har := HSy.out.ar 3 (show 3 < 5 by decide)
  have her := HSy.out.er 3 (show 3 < 5 by decide)
  obtain ⟨⟨a0, a1, a2⟩, f0, f1, f2⟩ : (wf3.cell? ⟨w2.heap.size, 9, none⟩ = some (.bool false) ∧ wf3.cell? ⟨w2.heap.size, 10, none⟩ = some (.string ⟨#[]⟩) ∧ wf3.cell? ⟨w2.heap.size, 11, none⟩ = some (.string ⟨#[]⟩)) ∧ wf3.frozen? ⟨w2.heap.size, 9, none⟩ = false ∧ wf3.frozen? ⟨w2.heap.size, 10, none⟩ = false ∧ wf3.frozen? ⟨w2.heap.size, 11, none⟩ = false := har
  obtain ⟨e0, e1⟩ : wf3.cell? ⟨w2.heap.size + 1, 3, none⟩ = some (.int .i64 0) ∧ wf3.frozen? ⟨w2.heap.size + 1, 3, none⟩ = false := her
  have HSx : Hid (FS w (w2.heap.size) ((((wf3.setCell ⟨w2.heap.size, 9, none⟩ (.bool g3)).setCell ⟨w2.heap.size, 10, none⟩ (.string s3)).setCell ⟨w2.heap.size, 11, none⟩ (.string t3)).setCell ⟨w2.heap.size + 1, 3, none⟩ (.int .i64 k3)) [(w.heap.size + 1, gb, sb, tb), (w.heap.size, ga, sa, ta)] (w2.heap.size) (w2.heap.size + 1) [(g0, s0, t0), (g1, s1, t1), (g2, s2, t2), (g3, s3, t3), zr] [k0, k1, k2, k3, 0]) := HSy.out.put (i := 3) (show 3 < 5 by decide) (show 3 < 5 by decide) (g3, s3, t3) k3
  clear HSy
  go_wp2_with fail
  clear a0 a1 a2 f0 f1 f2 e0 e1
  refine (H4.out _ (HSx.out.vs.law HW.out)).mono ?_
  rintro e wf4 ⟨rfl, hb⟩
  have HSy : Hid (FS w (w2.heap.size) wf4 [(w.heap.size + 1, gb, sb, tb), (w.heap.size, ga, sa, ta)] (w2.heap.size) (w2.heap.size + 1) [(g0, s0, t0), (g1, s1, t1), (g2, s2, t2), (g3, s3, t3), zr] [k0, k1, k2, k3, 0]) := HSx.out.below hb
  clear hb HSx
  have har := HSy.out.ar 4 (show 4 < 5 by decide)
  have her := HSy.out.er 4 (show 4 < 5 by decide)
  obtain ⟨⟨a0, a1, a2⟩, f0, f1, f2⟩ : (wf4.cell? ⟨w2.heap.size, 12, none⟩ = some (.bool false) ∧ wf4.cell? ⟨w2.heap.size, 13, none⟩ = some (.string ⟨#[]⟩) ∧ wf4.cell? ⟨w2.heap.size, 14, none⟩ = some (.string ⟨#[]⟩)) ∧ wf4.frozen? ⟨w2.heap.size, 12, none⟩ = false ∧ wf4.frozen? ⟨w2.heap.size, 13, none⟩ = false ∧ wf4.frozen? ⟨w2.heap.size, 14, none⟩ = false := har
  obtain ⟨e0, e1⟩ : wf4.cell? ⟨w2.heap.size + 1, 4, none⟩ = some (.int .i64 0) ∧ wf4.frozen? ⟨w2.heap.size + 1, 4, none⟩ = false := her
  have HSx : Hid (FS w (w2.heap.size) ((((wf4.setCell ⟨w2.heap.size, 12, none⟩ (.bool g4)).setCell ⟨w2.heap.size, 13, none⟩ (.string s4)).setCell ⟨w2.heap.size, 14, none⟩ (.string t4)).setCell ⟨w2.heap.size + 1, 4, none⟩ (.int .i64 k4)) [(w.heap.size + 1, gb, sb, tb), (w.heap.size, ga, sa, ta)] (w2.heap.size) (w2.heap.size + 1) [(g0, s0, t0), (g1, s1, t1), (g2, s2, t2), (g3, s3, t3), (g4, s4, t4)] [k0, k1, k2, k3, k4]) := HSy.out.put (i := 4) (show 4 < 5 by decide) (show 4 < 5 by decide) (g4, s4, t4) k4
  clear HSy
  go_wp2_with fail
  clear a0 a1 a2 f0 f1 f2 e0 e1
  go_loopw [13] (fun x wx => ∃ k : Nat, k ≤ 5 ∧ x = .int .i64 (k : Int) ∧ FS w (w2.heap.size) wx [(w.heap.size + 1, gb, sb, tb), (w.heap.size, ga, sa, ta)] (w2.heap.size) (w2.heap.size + 1) [(g0, s0, t0), (g1, s1, t1), (g2, s2, t2), (g3, s3, t3), (g4, s4, t4)] [k0, k1, k2, k3, k4]) (fun x _ => 5 - (intOf x).toNat)
  case atStart => exact ⟨0, by omega, rfl, HSx.out⟩
  case round =>
    obtain ⟨k, hk, rfl, hfs⟩ := hrel
    have HS := hide hfs
    clear hfs HSx
    obtain rfl | rfl | rfl | rfl | rfl | rfl : k = 0 ∨ k = 1 ∨ k = 2 ∨ k = 3 ∨ k = 4 ∨ k = 5 := by omega
    · rcases P0.out with ⟨rfl, hB, hv⟩ | ⟨rfl, hB, rfl, rfl, rfl⟩ | ⟨rfl, hB, rfl, rfl, rfl⟩
      · cases hB
      · clear hB
        obtain ⟨e0, -⟩ : wr.cell? ⟨w2.heap.size + 1, 0, none⟩ = some (.int .i64 1) ∧ wr.frozen? ⟨w2.heap.size + 1, 0, none⟩ = false := HS.out.er 0 (show 0 < 5 by decide)
        obtain ⟨⟨a0, a1, a2⟩, -, -, -⟩ : (wr.cell? ⟨w2.heap.size, 0, none⟩ = some (.bool false) ∧ wr.cell? ⟨w2.heap.size, 1, none⟩ = some (.string ⟨#[]⟩) ∧ wr.cell? ⟨w2.heap.size, 2, none⟩ = some (.string ⟨#[]⟩)) ∧ wr.frozen? ⟨w2.heap.size, 0, none⟩ = false ∧ wr.frozen? ⟨w2.heap.size, 1, none⟩ = false ∧ wr.frozen? ⟨w2.heap.size, 2, none⟩ = false := HS.out.ar 0 (show 0 < 5 by decide)
        go_wp2_with fail
        go_roundw
        case rel => exact ⟨1, by omega, by go_num, HS.out⟩
        case measure => (simp [intOf]; try omega)
      · cases hB
    · rcases P1.out with ⟨rfl, hB, hv⟩ | ⟨rfl, hB, rfl, rfl, rfl⟩ | ⟨rfl, hB, rfl, rfl, rfl⟩
      · cases hB
      · clear hB
        obtain ⟨e0, -⟩ : wr.cell? ⟨w2.heap.size + 1, 1, none⟩ = some (.int .i64 1) ∧ wr.frozen? ⟨w2.heap.size + 1, 1, none⟩ = false := HS.out.er 1 (show 1 < 5 by decide)
        obtain ⟨⟨a0, a1, a2⟩, -, -, -⟩ : (wr.cell? ⟨w2.heap.size, 3, none⟩ = some (.bool false) ∧ wr.cell? ⟨w2.heap.size, 4, none⟩ = some (.string ⟨#[]⟩) ∧ wr.cell? ⟨w2.heap.size, 5, none⟩ = some (.string ⟨#[]⟩)) ∧ wr.frozen? ⟨w2.heap.size, 3, none⟩ = false ∧ wr.frozen? ⟨w2.heap.size, 4, none⟩ = false ∧ wr.frozen? ⟨w2.heap.size, 5, none⟩ = false := HS.out.ar 1 (show 1 < 5 by decide)
        go_wp2_with fail
        go_roundw
        case rel => exact ⟨2, by omega, by go_num, HS.out⟩
        case measure => (simp [intOf]; try omega)
      · cases hB
    · rcases P2.out with ⟨rfl, hB, hv⟩ | ⟨rfl, hB, rfl, rfl, rfl⟩ | ⟨rfl, hB, rfl, rfl, rfl⟩
      · cases hB
      · clear hB
        obtain ⟨e0, -⟩ : wr.cell? ⟨w2.heap.size + 1, 2, none⟩ = some (.int .i64 1) ∧ wr.frozen? ⟨w2.heap.size + 1, 2, none⟩ = false := HS.out.er 2 (show 2 < 5 by decide)
        obtain ⟨⟨a0, a1, a2⟩, -, -, -⟩ : (wr.cell? ⟨w2.heap.size, 6, none⟩ = some (.bool false) ∧ wr.cell? ⟨w2.heap.size, 7, none⟩ = some (.string ⟨#[]⟩) ∧ wr.cell? ⟨w2.heap.size, 8, none⟩ = some (.string ⟨#[]⟩)) ∧ wr.frozen? ⟨w2.heap.size, 6, none⟩ = false ∧ wr.frozen? ⟨w2.heap.size, 7, none⟩ = false ∧ wr.frozen? ⟨w2.heap.size, 8, none⟩ = false := HS.out.ar 2 (show 2 < 5 by decide)
        go_wp2_with fail
        go_roundw
        case rel => exact ⟨3, by omega, by go_num, HS.out⟩
        case measure => (simp [intOf]; try omega)
      · cases hB
    · rcases P3.out with ⟨rfl, hB, hv⟩ | ⟨rfl, hB, rfl, rfl, rfl⟩ | ⟨rfl, hB, rfl, rfl, rfl⟩
      · cases hB
      · clear hB
        obtain ⟨e0, -⟩ : wr.cell? ⟨w2.heap.size + 1, 3, none⟩ = some (.int .i64 1) ∧ wr.frozen? ⟨w2.heap.size + 1, 3, none⟩ = false := HS.out.er 3 (show 3 < 5 by decide)
        obtain ⟨⟨a0, a1, a2⟩, -, -, -⟩ : (wr.cell? ⟨w2.heap.size, 9, none⟩ = some (.bool false) ∧ wr.cell? ⟨w2.heap.size, 10, none⟩ = some (.string ⟨#[]⟩) ∧ wr.cell? ⟨w2.heap.size, 11, none⟩ = some (.string ⟨#[]⟩)) ∧ wr.frozen? ⟨w2.heap.size, 9, none⟩ = false ∧ wr.frozen? ⟨w2.heap.size, 10, none⟩ = false ∧ wr.frozen? ⟨w2.heap.size, 11, none⟩ = false := HS.out.ar 3 (show 3 < 5 by decide)
        go_wp2_with fail
        go_roundw
        case rel => exact ⟨4, by omega, by go_num, HS.out⟩
        case measure => (simp [intOf]; try omega)
      · cases hB
    · rcases P4.out with ⟨rfl, hB, hv⟩ | ⟨rfl, hB, rfl, rfl, rfl⟩
      · clear hB
        have HV := hide hv
        clear hv
        obtain ⟨e0, -⟩ : wr.cell? ⟨w2.heap.size + 1, 4, none⟩ = some (.int .i64 0) ∧ wr.frozen? ⟨w2.heap.size + 1, 4, none⟩ = false := HS.out.er 4 (show 4 < 5 by decide)
        obtain ⟨⟨a0, a1, a2⟩, -, -, -⟩ : (wr.cell? ⟨w2.heap.size, 12, none⟩ = some (.bool g4) ∧ wr.cell? ⟨w2.heap.size, 13, none⟩ = some (.string s4) ∧ wr.cell? ⟨w2.heap.size, 14, none⟩ = some (.string t4)) ∧ wr.frozen? ⟨w2.heap.size, 12, none⟩ = false ∧ wr.frozen? ⟨w2.heap.size, 13, none⟩ = false ∧ wr.frozen? ⟨w2.heap.size, 14, none⟩ = false := HS.out.ar 4 (show 4 < 5 by decide)
        go_wp2_with fail
        clear e0 a0 a1 a2
        refine (HV.out _ (HS.out.vs.law HW.out)).mono ?_
        rintro e wv ⟨rfl, hb⟩
        have HSv := hide (HS.out.below hb)
        clear hb
        obtain ⟨e0, -⟩ : wv.cell? ⟨w2.heap.size + 1, 4, none⟩ = some (.int .i64 0) ∧ wv.frozen? ⟨w2.heap.size + 1, 4, none⟩ = false := HSv.out.er 4 (show 4 < 5 by decide)
        go_wp2_with fail
        go_roundw
        case rel => exact ⟨5, by omega, by go_num, HSv.out⟩
        case measure => (simp [intOf]; try omega)
      · clear hB
        obtain ⟨e0, -⟩ : wr.cell? ⟨w2.heap.size + 1, 4, none⟩ = some (.int .i64 14) ∧ wr.frozen? ⟨w2.heap.size + 1, 4, none⟩ = false := HS.out.er 4 (show 4 < 5 by decide)
        obtain ⟨⟨a0, a1, a2⟩, -, -, -⟩ : (wr.cell? ⟨w2.heap.size, 12, none⟩ = some (.bool false) ∧ wr.cell? ⟨w2.heap.size, 13, none⟩ = some (.string ⟨#[]⟩) ∧ wr.cell? ⟨w2.heap.size, 14, none⟩ = some (.string ⟨#[]⟩)) ∧ wr.frozen? ⟨w2.heap.size, 12, none⟩ = false ∧ wr.frozen? ⟨w2.heap.size, 13, none⟩ = false ∧ wr.frozen? ⟨w2.heap.size, 14, none⟩ = false := HS.out.ar 4 (show 4 < 5 by decide)
        go_wp2_with fail
        go_roundw
        case rel => exact ⟨5, by omega, by go_num, HS.out⟩
        case measure => (simp [intOf]; try omega)
    · rcases P4.out with ⟨rfl, hB, hv⟩ | ⟨rfl, hB, rfl, rfl, rfl⟩
      · obtain ⟨e0, -⟩ : wr.cell? ⟨w2.heap.size + 1, 4, none⟩ = some (.int .i64 0) ∧ wr.frozen? ⟨w2.heap.size + 1, 4, none⟩ = false := HS.out.er 4 (show 4 < 5 by decide)
        go_wp2_with fail
        go_ret
        exact ⟨rfl, HS.out.vs.bel⟩
      · obtain ⟨e0, -⟩ : wr.cell? ⟨w2.heap.size + 1, 4, none⟩ = some (.int .i64 14) ∧ wr.frozen? ⟨w2.heap.size + 1, 4, none⟩ = false := HS.out.er 4 (show 4 < 5 by decide)
        go_wp2_with fail
        go_ret
        exact ⟨rfl, HS.out.vs.bel⟩
set_option maxHeartbeats 8000000 in
set_option maxRecDepth 100000 in
theorem form_badB (ga : Bool) (sa ta : ByteArray) (gb : Bool) (sb tb : ByteArray) (n d : Int) (w : World) (g0 : Bool) (s0 t0 : ByteArray) (k0 : Int) (g1 : Bool) (s1 t1 : ByteArray) (k1 : Int) (g2 : Bool) (s2 t2 : ByteArray) (k2 : Int) (g3 : Bool) (s3 t3 : ByteArray) (k3 : Int) (g4 : Bool) (s4 t4 : ByteArray) (k4 : Int) (hf : fewQ 40 [(ga, sa, ta), (gb, sb, tb)] = true) (hva : vldR ga sa ta = true) (hvb : vldR gb sb tb = false) (h0 : RT2 25 ga sa ta gb sb tb g0 s0 t0 k0) (p0 : FP true g0 s0 t0 k0) (h1 : RT2 27 ga sa ta gb sb tb g1 s1 t1 k1) (p1 : FP true g1 s1 t1 k1) (h2 : RT2 29 ga sa ta gb sb tb g2 s2 t2 k2) (p2 : FP true g2 s2 t2 k2) (h3 : RT2 31 ga sa ta gb sb tb g3 s3 t3 k3) (p3 : FP true g3 s3 t3 k3) (h4 : RTO n d g4 s4 t4 k4) (p4 : OP d g4 s4 t4 k4) (hw : LawW w) :
    Calls Tryz.prog 4 #[.agg #[.bool ga, .string sa, .string ta], .agg #[.bool gb, .string sb, .string tb], .int .i64 n, .int .i64 d] w fun e w' => e = .returned (.bool true) ∧ Below w.heap.size w w' := by
  have HW := hide hw
  have HF := hide (fun W T => few_two ga sa ta gb sb tb W T)
  rw [hf] at HF
  have HVA := hide (fun W hW => rat_valid ga sa ta W (by have h := fewQ_two hf; unfold maxLen; have := h.1; simp at this; omega) (by have h := fewQ_two hf; unfold maxLen; have := h.2.1; simp at this; omega) hW)
  rw [hva] at HVA
  have HVB := hide (fun W hW => rat_valid gb sb tb W (by have h := fewQ_two hf; unfold maxLen; have := h.2.2.1; simp at this; omega) (by have h := fewQ_two hf; unfold maxLen; have := h.2.2.2; simp at this; omega) hW)
  rw [hvb] at HVB
  unfold RT2 at h0 h1 h2 h3
  unfold RTO at h4
  have H0 := hide h0
  have P0 := hide p0
  have H1 := hide h1
  have P1 := hide p1
  have H2 := hide h2
  have P2 := hide p2
  have H3 := hide h3
  have P3 := hide p3
  have H4 := hide h4
  have P4 := hide p4
  have HH := hide (fun W hW => law04_head W hW)
  have HB0 : Hid (Below w.heap.size w w) := Below.refl _ _
  have HV0 : Hid (VL w []) := VL.nil w
  clear hf hva hvb hw h0 p0 h1 p1 h2 p2 h3 p3 h4 p4
  go_enter Tryz.func4, Tryz.ntmps4
  have HV0_ := hide (HV0.out.pushAt (b := w.heap.size) (by simp) ga sa ta 24)
  have HB0_ := hide (bAlloc HB0.out (.cells #[.bool ga, .string sa, .string ta] 24))
  clear HB0 HV0
  have HV0__ := hide (HV0_.out.pushAt (b := w.heap.size + 1) (by simp) gb sb tb 24)
  have HB0__ := hide (bAlloc HB0_.out (.cells #[.bool gb, .string sb, .string tb] 24))
  clear HB0_ HV0_
  go_wp2_with fail
  refine (HH.out _ (HW.out.below HB0__.out)).mono ?_
  rintro e w1 ⟨rfl, hb⟩
  have HB1 := hide (bStep HB0__.out hb)
  have HV1 := hide (HV0__.out.below hb)
  clear hb HB0__ HV0__
  obtain ⟨c3, c4, c5⟩ := VL.cells3 (b := w.heap.size) (g := ga) (s := sa) (t := ta) HV1.out (by simp)
  obtain ⟨c6, c7, c8⟩ := VL.cells3 (b := w.heap.size + 1) (g := gb) (s := sb) (t := tb) HV1.out (by simp)
  go_wp2_with fail
  clear c3 c4 c5 c6 c7 c8
  refine (HF.out _ _).mono ?_
  rintro e wf ⟨rfl, rfl⟩
  have HV1_ := hide (VL.below HV1.out (bAlloc (Below.refl _ _) (.cells #[.bool ga, .string sa, .string ta, .bool gb, .string sb, .string tb] 24)))
  have HB1_ := hide (bAlloc HB1.out (.cells #[.bool ga, .string sa, .string ta, .bool gb, .string sb, .string tb] 24))
  clear HB1 HV1
  obtain ⟨c9, c10, c11⟩ := VL.cells3 (b := w.heap.size) (g := ga) (s := sa) (t := ta) HV1_.out (by simp)
  go_wp2_with fail
  clear c9 c10 c11
  refine (HVA.out _ (HW.out.below HB1_.out)).mono ?_
  rintro e w2 ⟨rfl, hb⟩
  have HB2 := hide (bStep HB1_.out hb)
  have HV2 := hide (HV1_.out.below hb)
  clear hb HB1_ HV1_
  obtain ⟨c12, c13, c14⟩ := VL.cells3 (b := w.heap.size + 1) (g := gb) (s := sb) (t := tb) HV2.out (by simp)
  go_wp2_with fail
  clear c12 c13 c14
  refine (HVB.out _ (HW.out.below HB2.out)).mono ?_
  rintro e w3 ⟨rfl, hb⟩
  have HB3 := hide (bStep HB2.out hb)
  have HV3 := hide (HV2.out.below hb)
  clear hb HB2 HV2
  obtain ⟨c15, c16, c17⟩ := VL.cells3 (b := w.heap.size) (g := ga) (s := sa) (t := ta) HV3.out (by simp)
  obtain ⟨c18, c19, c20⟩ := VL.cells3 (b := w.heap.size + 1) (g := gb) (s := sb) (t := tb) HV3.out (by simp)
  have HS0 := hide (FS.start HB3.out HV3.out 38 39)
  have HSx : Hid (FS w (w3.heap.size) ((w3.alloc (.cells #[.bool false, .string ⟨#[]⟩, .string ⟨#[]⟩, .bool false, .string ⟨#[]⟩, .string ⟨#[]⟩, .bool false, .string ⟨#[]⟩, .string ⟨#[]⟩, .bool false, .string ⟨#[]⟩, .string ⟨#[]⟩, .bool false, .string ⟨#[]⟩, .string ⟨#[]⟩] 38)).alloc (.cells #[.int .i64 0, .int .i64 0, .int .i64 0, .int .i64 0, .int .i64 0] 39)) [(w.heap.size + 1, gb, sb, tb), (w.heap.size, ga, sa, ta)] (w3.heap.size) (w3.heap.size + 1) [zr, zr, zr, zr, zr] [0, 0, 0, 0, 0]) := HS0.out
  clear HS0 HB3 HV3
  obtain ⟨c21, c22, c23⟩ := VL.cells3 (b := w.heap.size) (g := ga) (s := sa) (t := ta) HSx.out.vs.vl (by simp)
  obtain ⟨c24, c25, c26⟩ := VL.cells3 (b := w.heap.size + 1) (g := gb) (s := sb) (t := tb) HSx.out.vs.vl (by simp)
  go_wp2_with fail
  clear c15 c16 c17 c18 c19 c20 c21 c22 c23 c24 c25 c26
  refine (H0.out _ (HSx.out.vs.law HW.out)).mono ?_
  rintro e wf0 ⟨rfl, hb⟩
  have HSy : Hid (FS w (w3.heap.size) wf0 [(w.heap.size + 1, gb, sb, tb), (w.heap.size, ga, sa, ta)] (w3.heap.size) (w3.heap.size + 1) [zr, zr, zr, zr, zr] [0, 0, 0, 0, 0]) := HSx.out.below hb
  clear hb HSx
  have har := HSy.out.ar 0 (show 0 < 5 by decide)
  have her := HSy.out.er 0 (show 0 < 5 by decide)
  obtain ⟨⟨a0, a1, a2⟩, f0, f1, f2⟩ : (wf0.cell? ⟨w3.heap.size, 0, none⟩ = some (.bool false) ∧ wf0.cell? ⟨w3.heap.size, 1, none⟩ = some (.string ⟨#[]⟩) ∧ wf0.cell? ⟨w3.heap.size, 2, none⟩ = some (.string ⟨#[]⟩)) ∧ wf0.frozen? ⟨w3.heap.size, 0, none⟩ = false ∧ wf0.frozen? ⟨w3.heap.size, 1, none⟩ = false ∧ wf0.frozen? ⟨w3.heap.size, 2, none⟩ = false := har
  obtain ⟨e0, e1⟩ : wf0.cell? ⟨w3.heap.size + 1, 0, none⟩ = some (.int .i64 0) ∧ wf0.frozen? ⟨w3.heap.size + 1, 0, none⟩ = false := her
  have HSx : Hid (FS w (w3.heap.size) ((((wf0.setCell ⟨w3.heap.size, 0, none⟩ (.bool g0)).setCell ⟨w3.heap.size, 1, none⟩ (.string s0)).setCell ⟨w3.heap.size, 2, none⟩ (.string t0)).setCell ⟨w3.heap.size + 1, 0, none⟩ (.int .i64 k0)) [(w.heap.size + 1, gb, sb, tb), (w.heap.size, ga, sa, ta)] (w3.heap.size) (w3.heap.size + 1) [(g0, s0, t0), zr, zr, zr, zr] [k0, 0, 0, 0, 0]) := HSy.out.put (i := 0) (show 0 < 5 by decide) (show 0 < 5 by decide) (g0, s0, t0) k0
  clear HSy
  obtain ⟨c27, c28, c29⟩ := VL.cells3 (b := w.heap.size) (g := ga) (s := sa) (t := ta) HSx.out.vs.vl (by simp)
  obtain ⟨c30, c31, c32⟩ := VL.cells3 (b := w.heap.size + 1) (g := gb) (s := sb) (t := tb) HSx.out.vs.vl (by simp)
  go_wp2_with fail
  clear a0 a1 a2 f0 f1 f2 e0 e1 c27 c28 c29 c30 c31 c32
  refine (H1.out _ (HSx.out.vs.law HW.out)).mono ?_
  rintro e wf1 ⟨rfl, hb⟩
  have HSy : Hid (FS w (w3.heap.size) wf1 [(w.heap.size + 1, gb, sb, tb), (w.heap.size, ga, sa, ta)] (w3.heap.size) (w3.heap.size + 1) [(g0, s0, t0), zr, zr, zr, zr] [k0, 0, 0, 0, 0]) := HSx.out.below hb
  clear hb HSx
  have har := HSy.out.ar 1 (show 1 < 5 by decide)
  have her := HSy.out.er 1 (show 1 < 5 by decide)
  obtain ⟨⟨a0, a1, a2⟩, f0, f1, f2⟩ : (wf1.cell? ⟨w3.heap.size, 3, none⟩ = some (.bool false) ∧ wf1.cell? ⟨w3.heap.size, 4, none⟩ = some (.string ⟨#[]⟩) ∧ wf1.cell? ⟨w3.heap.size, 5, none⟩ = some (.string ⟨#[]⟩)) ∧ wf1.frozen? ⟨w3.heap.size, 3, none⟩ = false ∧ wf1.frozen? ⟨w3.heap.size, 4, none⟩ = false ∧ wf1.frozen? ⟨w3.heap.size, 5, none⟩ = false := har
  obtain ⟨e0, e1⟩ : wf1.cell? ⟨w3.heap.size + 1, 1, none⟩ = some (.int .i64 0) ∧ wf1.frozen? ⟨w3.heap.size + 1, 1, none⟩ = false := her
  have HSx : Hid (FS w (w3.heap.size) ((((wf1.setCell ⟨w3.heap.size, 3, none⟩ (.bool g1)).setCell ⟨w3.heap.size, 4, none⟩ (.string s1)).setCell ⟨w3.heap.size, 5, none⟩ (.string t1)).setCell ⟨w3.heap.size + 1, 1, none⟩ (.int .i64 k1)) [(w.heap.size + 1, gb, sb, tb), (w.heap.size, ga, sa, ta)] (w3.heap.size) (w3.heap.size + 1) [(g0, s0, t0), (g1, s1, t1), zr, zr, zr] [k0, k1, 0, 0, 0]) := HSy.out.put (i := 1) (show 1 < 5 by decide) (show 1 < 5 by decide) (g1, s1, t1) k1
  clear HSy
  obtain ⟨c33, c34, c35⟩ := VL.cells3 (b := w.heap.size) (g := ga) (s := sa) (t := ta) HSx.out.vs.vl (by simp)
  obtain ⟨c36, c37, c38⟩ := VL.cells3 (b := w.heap.size + 1) (g := gb) (s := sb) (t := tb) HSx.out.vs.vl (by simp)
  go_wp2_with fail
  clear a0 a1 a2 f0 f1 f2 e0 e1 c33 c34 c35 c36 c37 c38
  refine (H2.out _ (HSx.out.vs.law HW.out)).mono ?_
  rintro e wf2 ⟨rfl, hb⟩
  have HSy : Hid (FS w (w3.heap.size) wf2 [(w.heap.size + 1, gb, sb, tb), (w.heap.size, ga, sa, ta)] (w3.heap.size) (w3.heap.size + 1) [(g0, s0, t0), (g1, s1, t1), zr, zr, zr] [k0, k1, 0, 0, 0]) := HSx.out.below hb
  clear hb HSx
  have har := HSy.out.ar 2 (show 2 < 5 by decide)
  have her := HSy.out.er 2 (show 2 < 5 by decide)
  obtain ⟨⟨a0, a1, a2⟩, f0, f1, f2⟩ : (wf2.cell? ⟨w3.heap.size, 6, none⟩ = some (.bool false) ∧ wf2.cell? ⟨w3.heap.size, 7, none⟩ = some (.string ⟨#[]⟩) ∧ wf2.cell? ⟨w3.heap.size, 8, none⟩ = some (.string ⟨#[]⟩)) ∧ wf2.frozen? ⟨w3.heap.size, 6, none⟩ = false ∧ wf2.frozen? ⟨w3.heap.size, 7, none⟩ = false ∧ wf2.frozen? ⟨w3.heap.size, 8, none⟩ = false := har
  obtain ⟨e0, e1⟩ : wf2.cell? ⟨w3.heap.size + 1, 2, none⟩ = some (.int .i64 0) ∧ wf2.frozen? ⟨w3.heap.size + 1, 2, none⟩ = false := her
  have HSx : Hid (FS w (w3.heap.size) ((((wf2.setCell ⟨w3.heap.size, 6, none⟩ (.bool g2)).setCell ⟨w3.heap.size, 7, none⟩ (.string s2)).setCell ⟨w3.heap.size, 8, none⟩ (.string t2)).setCell ⟨w3.heap.size + 1, 2, none⟩ (.int .i64 k2)) [(w.heap.size + 1, gb, sb, tb), (w.heap.size, ga, sa, ta)] (w3.heap.size) (w3.heap.size + 1) [(g0, s0, t0), (g1, s1, t1), (g2, s2, t2), zr, zr] [k0, k1, k2, 0, 0]) := HSy.out.put (i := 2) (show 2 < 5 by decide) (show 2 < 5 by decide) (g2, s2, t2) k2
  clear HSy
  obtain ⟨c39, c40, c41⟩ := VL.cells3 (b := w.heap.size) (g := ga) (s := sa) (t := ta) HSx.out.vs.vl (by simp)
  obtain ⟨c42, c43, c44⟩ := VL.cells3 (b := w.heap.size + 1) (g := gb) (s := sb) (t := tb) HSx.out.vs.vl (by simp)
  go_wp2_with fail
  clear a0 a1 a2 f0 f1 f2 e0 e1 c39 c40 c41 c42 c43 c44
  refine (H3.out _ (HSx.out.vs.law HW.out)).mono ?_
  rintro e wf3 ⟨rfl, hb⟩
  have HSy : Hid (FS w (w3.heap.size) wf3 [(w.heap.size + 1, gb, sb, tb), (w.heap.size, ga, sa, ta)] (w3.heap.size) (w3.heap.size + 1) [(g0, s0, t0), (g1, s1, t1), (g2, s2, t2), zr, zr] [k0, k1, k2, 0, 0]) := HSx.out.below hb
  clear hb HSx
  have har := HSy.out.ar 3 (show 3 < 5 by decide)
  have her := HSy.out.er 3 (show 3 < 5 by decide)
  obtain ⟨⟨a0, a1, a2⟩, f0, f1, f2⟩ : (wf3.cell? ⟨w3.heap.size, 9, none⟩ = some (.bool false) ∧ wf3.cell? ⟨w3.heap.size, 10, none⟩ = some (.string ⟨#[]⟩) ∧ wf3.cell? ⟨w3.heap.size, 11, none⟩ = some (.string ⟨#[]⟩)) ∧ wf3.frozen? ⟨w3.heap.size, 9, none⟩ = false ∧ wf3.frozen? ⟨w3.heap.size, 10, none⟩ = false ∧ wf3.frozen? ⟨w3.heap.size, 11, none⟩ = false := har
  obtain ⟨e0, e1⟩ : wf3.cell? ⟨w3.heap.size + 1, 3, none⟩ = some (.int .i64 0) ∧ wf3.frozen? ⟨w3.heap.size + 1, 3, none⟩ = false := her
  have HSx : Hid (FS w (w3.heap.size) ((((wf3.setCell ⟨w3.heap.size, 9, none⟩ (.bool g3)).setCell ⟨w3.heap.size, 10, none⟩ (.string s3)).setCell ⟨w3.heap.size, 11, none⟩ (.string t3)).setCell ⟨w3.heap.size + 1, 3, none⟩ (.int .i64 k3)) [(w.heap.size + 1, gb, sb, tb), (w.heap.size, ga, sa, ta)] (w3.heap.size) (w3.heap.size + 1) [(g0, s0, t0), (g1, s1, t1), (g2, s2, t2), (g3, s3, t3), zr] [k0, k1, k2, k3, 0]) := HSy.out.put (i := 3) (show 3 < 5 by decide) (show 3 < 5 by decide) (g3, s3, t3) k3
  clear HSy
  go_wp2_with fail
  clear a0 a1 a2 f0 f1 f2 e0 e1
  refine (H4.out _ (HSx.out.vs.law HW.out)).mono ?_
  rintro e wf4 ⟨rfl, hb⟩
  have HSy : Hid (FS w (w3.heap.size) wf4 [(w.heap.size + 1, gb, sb, tb), (w.heap.size, ga, sa, ta)] (w3.heap.size) (w3.heap.size + 1) [(g0, s0, t0), (g1, s1, t1), (g2, s2, t2), (g3, s3, t3), zr] [k0, k1, k2, k3, 0]) := HSx.out.below hb
  clear hb HSx
  have har := HSy.out.ar 4 (show 4 < 5 by decide)
  have her := HSy.out.er 4 (show 4 < 5 by decide)
  obtain ⟨⟨a0, a1, a2⟩, f0, f1, f2⟩ : (wf4.cell? ⟨w3.heap.size, 12, none⟩ = some (.bool false) ∧ wf4.cell? ⟨w3.heap.size, 13, none⟩ = some (.string ⟨#[]⟩) ∧ wf4.cell? ⟨w3.heap.size, 14, none⟩ = some (.string ⟨#[]⟩)) ∧ wf4.frozen? ⟨w3.heap.size, 12, none⟩ = false ∧ wf4.frozen? ⟨w3.heap.size, 13, none⟩ = false ∧ wf4.frozen? ⟨w3.heap.size, 14, none⟩ = false := har
  obtain ⟨e0, e1⟩ : wf4.cell? ⟨w3.heap.size + 1, 4, none⟩ = some (.int .i64 0) ∧ wf4.frozen? ⟨w3.heap.size + 1, 4, none⟩ = false := her
  have HSx : Hid (FS w (w3.heap.size) ((((wf4.setCell ⟨w3.heap.size, 12, none⟩ (.bool g4)).setCell ⟨w3.heap.size, 13, none⟩ (.string s4)).setCell ⟨w3.heap.size, 14, none⟩ (.string t4)).setCell ⟨w3.heap.size + 1, 4, none⟩ (.int .i64 k4)) [(w.heap.size + 1, gb, sb, tb), (w.heap.size, ga, sa, ta)] (w3.heap.size) (w3.heap.size + 1) [(g0, s0, t0), (g1, s1, t1), (g2, s2, t2), (g3, s3, t3), (g4, s4, t4)] [k0, k1, k2, k3, k4]) := HSy.out.put (i := 4) (show 4 < 5 by decide) (show 4 < 5 by decide) (g4, s4, t4) k4
  clear HSy
  go_wp2_with fail
  clear a0 a1 a2 f0 f1 f2 e0 e1
  go_loopw [13] (fun x wx => ∃ k : Nat, k ≤ 5 ∧ x = .int .i64 (k : Int) ∧ FS w (w3.heap.size) wx [(w.heap.size + 1, gb, sb, tb), (w.heap.size, ga, sa, ta)] (w3.heap.size) (w3.heap.size + 1) [(g0, s0, t0), (g1, s1, t1), (g2, s2, t2), (g3, s3, t3), (g4, s4, t4)] [k0, k1, k2, k3, k4]) (fun x _ => 5 - (intOf x).toNat)
  case atStart => exact ⟨0, by omega, rfl, HSx.out⟩
  case round =>
    obtain ⟨k, hk, rfl, hfs⟩ := hrel
    have HS := hide hfs
    clear hfs HSx
    obtain rfl | rfl | rfl | rfl | rfl | rfl : k = 0 ∨ k = 1 ∨ k = 2 ∨ k = 3 ∨ k = 4 ∨ k = 5 := by omega
    · rcases P0.out with ⟨rfl, hB, hv⟩ | ⟨rfl, hB, rfl, rfl, rfl⟩ | ⟨rfl, hB, rfl, rfl, rfl⟩
      · cases hB
      · clear hB
        obtain ⟨e0, -⟩ : wr.cell? ⟨w3.heap.size + 1, 0, none⟩ = some (.int .i64 1) ∧ wr.frozen? ⟨w3.heap.size + 1, 0, none⟩ = false := HS.out.er 0 (show 0 < 5 by decide)
        obtain ⟨⟨a0, a1, a2⟩, -, -, -⟩ : (wr.cell? ⟨w3.heap.size, 0, none⟩ = some (.bool false) ∧ wr.cell? ⟨w3.heap.size, 1, none⟩ = some (.string ⟨#[]⟩) ∧ wr.cell? ⟨w3.heap.size, 2, none⟩ = some (.string ⟨#[]⟩)) ∧ wr.frozen? ⟨w3.heap.size, 0, none⟩ = false ∧ wr.frozen? ⟨w3.heap.size, 1, none⟩ = false ∧ wr.frozen? ⟨w3.heap.size, 2, none⟩ = false := HS.out.ar 0 (show 0 < 5 by decide)
        go_wp2_with fail
        go_roundw
        case rel => exact ⟨1, by omega, by go_num, HS.out⟩
        case measure => (simp [intOf]; try omega)
      · cases hB
    · rcases P1.out with ⟨rfl, hB, hv⟩ | ⟨rfl, hB, rfl, rfl, rfl⟩ | ⟨rfl, hB, rfl, rfl, rfl⟩
      · cases hB
      · clear hB
        obtain ⟨e0, -⟩ : wr.cell? ⟨w3.heap.size + 1, 1, none⟩ = some (.int .i64 1) ∧ wr.frozen? ⟨w3.heap.size + 1, 1, none⟩ = false := HS.out.er 1 (show 1 < 5 by decide)
        obtain ⟨⟨a0, a1, a2⟩, -, -, -⟩ : (wr.cell? ⟨w3.heap.size, 3, none⟩ = some (.bool false) ∧ wr.cell? ⟨w3.heap.size, 4, none⟩ = some (.string ⟨#[]⟩) ∧ wr.cell? ⟨w3.heap.size, 5, none⟩ = some (.string ⟨#[]⟩)) ∧ wr.frozen? ⟨w3.heap.size, 3, none⟩ = false ∧ wr.frozen? ⟨w3.heap.size, 4, none⟩ = false ∧ wr.frozen? ⟨w3.heap.size, 5, none⟩ = false := HS.out.ar 1 (show 1 < 5 by decide)
        go_wp2_with fail
        go_roundw
        case rel => exact ⟨2, by omega, by go_num, HS.out⟩
        case measure => (simp [intOf]; try omega)
      · cases hB
    · rcases P2.out with ⟨rfl, hB, hv⟩ | ⟨rfl, hB, rfl, rfl, rfl⟩ | ⟨rfl, hB, rfl, rfl, rfl⟩
      · cases hB
      · clear hB
        obtain ⟨e0, -⟩ : wr.cell? ⟨w3.heap.size + 1, 2, none⟩ = some (.int .i64 1) ∧ wr.frozen? ⟨w3.heap.size + 1, 2, none⟩ = false := HS.out.er 2 (show 2 < 5 by decide)
        obtain ⟨⟨a0, a1, a2⟩, -, -, -⟩ : (wr.cell? ⟨w3.heap.size, 6, none⟩ = some (.bool false) ∧ wr.cell? ⟨w3.heap.size, 7, none⟩ = some (.string ⟨#[]⟩) ∧ wr.cell? ⟨w3.heap.size, 8, none⟩ = some (.string ⟨#[]⟩)) ∧ wr.frozen? ⟨w3.heap.size, 6, none⟩ = false ∧ wr.frozen? ⟨w3.heap.size, 7, none⟩ = false ∧ wr.frozen? ⟨w3.heap.size, 8, none⟩ = false := HS.out.ar 2 (show 2 < 5 by decide)
        go_wp2_with fail
        go_roundw
        case rel => exact ⟨3, by omega, by go_num, HS.out⟩
        case measure => (simp [intOf]; try omega)
      · cases hB
    · rcases P3.out with ⟨rfl, hB, hv⟩ | ⟨rfl, hB, rfl, rfl, rfl⟩ | ⟨rfl, hB, rfl, rfl, rfl⟩
      · cases hB
      · clear hB
        obtain ⟨e0, -⟩ : wr.cell? ⟨w3.heap.size + 1, 3, none⟩ = some (.int .i64 1) ∧ wr.frozen? ⟨w3.heap.size + 1, 3, none⟩ = false := HS.out.er 3 (show 3 < 5 by decide)
        obtain ⟨⟨a0, a1, a2⟩, -, -, -⟩ : (wr.cell? ⟨w3.heap.size, 9, none⟩ = some (.bool false) ∧ wr.cell? ⟨w3.heap.size, 10, none⟩ = some (.string ⟨#[]⟩) ∧ wr.cell? ⟨w3.heap.size, 11, none⟩ = some (.string ⟨#[]⟩)) ∧ wr.frozen? ⟨w3.heap.size, 9, none⟩ = false ∧ wr.frozen? ⟨w3.heap.size, 10, none⟩ = false ∧ wr.frozen? ⟨w3.heap.size, 11, none⟩ = false := HS.out.ar 3 (show 3 < 5 by decide)
        go_wp2_with fail
        go_roundw
        case rel => exact ⟨4, by omega, by go_num, HS.out⟩
        case measure => (simp [intOf]; try omega)
      · cases hB
    · rcases P4.out with ⟨rfl, hB, hv⟩ | ⟨rfl, hB, rfl, rfl, rfl⟩
      · clear hB
        have HV := hide hv
        clear hv
        obtain ⟨e0, -⟩ : wr.cell? ⟨w3.heap.size + 1, 4, none⟩ = some (.int .i64 0) ∧ wr.frozen? ⟨w3.heap.size + 1, 4, none⟩ = false := HS.out.er 4 (show 4 < 5 by decide)
        obtain ⟨⟨a0, a1, a2⟩, -, -, -⟩ : (wr.cell? ⟨w3.heap.size, 12, none⟩ = some (.bool g4) ∧ wr.cell? ⟨w3.heap.size, 13, none⟩ = some (.string s4) ∧ wr.cell? ⟨w3.heap.size, 14, none⟩ = some (.string t4)) ∧ wr.frozen? ⟨w3.heap.size, 12, none⟩ = false ∧ wr.frozen? ⟨w3.heap.size, 13, none⟩ = false ∧ wr.frozen? ⟨w3.heap.size, 14, none⟩ = false := HS.out.ar 4 (show 4 < 5 by decide)
        go_wp2_with fail
        clear e0 a0 a1 a2
        refine (HV.out _ (HS.out.vs.law HW.out)).mono ?_
        rintro e wv ⟨rfl, hb⟩
        have HSv := hide (HS.out.below hb)
        clear hb
        obtain ⟨e0, -⟩ : wv.cell? ⟨w3.heap.size + 1, 4, none⟩ = some (.int .i64 0) ∧ wv.frozen? ⟨w3.heap.size + 1, 4, none⟩ = false := HSv.out.er 4 (show 4 < 5 by decide)
        go_wp2_with fail
        go_roundw
        case rel => exact ⟨5, by omega, by go_num, HSv.out⟩
        case measure => (simp [intOf]; try omega)
      · clear hB
        obtain ⟨e0, -⟩ : wr.cell? ⟨w3.heap.size + 1, 4, none⟩ = some (.int .i64 14) ∧ wr.frozen? ⟨w3.heap.size + 1, 4, none⟩ = false := HS.out.er 4 (show 4 < 5 by decide)
        obtain ⟨⟨a0, a1, a2⟩, -, -, -⟩ : (wr.cell? ⟨w3.heap.size, 12, none⟩ = some (.bool false) ∧ wr.cell? ⟨w3.heap.size, 13, none⟩ = some (.string ⟨#[]⟩) ∧ wr.cell? ⟨w3.heap.size, 14, none⟩ = some (.string ⟨#[]⟩)) ∧ wr.frozen? ⟨w3.heap.size, 12, none⟩ = false ∧ wr.frozen? ⟨w3.heap.size, 13, none⟩ = false ∧ wr.frozen? ⟨w3.heap.size, 14, none⟩ = false := HS.out.ar 4 (show 4 < 5 by decide)
        go_wp2_with fail
        go_roundw
        case rel => exact ⟨5, by omega, by go_num, HS.out⟩
        case measure => (simp [intOf]; try omega)
    · rcases P4.out with ⟨rfl, hB, hv⟩ | ⟨rfl, hB, rfl, rfl, rfl⟩
      · obtain ⟨e0, -⟩ : wr.cell? ⟨w3.heap.size + 1, 4, none⟩ = some (.int .i64 0) ∧ wr.frozen? ⟨w3.heap.size + 1, 4, none⟩ = false := HS.out.er 4 (show 4 < 5 by decide)
        go_wp2_with fail
        go_ret
        exact ⟨rfl, HS.out.vs.bel⟩
      · obtain ⟨e0, -⟩ : wr.cell? ⟨w3.heap.size + 1, 4, none⟩ = some (.int .i64 14) ∧ wr.frozen? ⟨w3.heap.size + 1, 4, none⟩ = false := HS.out.er 4 (show 4 < 5 by decide)
        go_wp2_with fail
        go_ret
        exact ⟨rfl, HS.out.vs.bel⟩
theorem agree_of (n d : Int) (hn : inI64 n) (hd : inI64 d) : ∃ g s t k, RTO n d g s t k ∧ OP d g s t k := by
  by_cases h0 : d = 0
  · subst h0
    exact ⟨_, _, _, _, fun W hW => of_zero hn W hW, .inr ⟨rfl, rfl, rfl, rfl, rfl⟩⟩
  · obtain ⟨g, s, t, e⟩ := IsQ.get (ofQ n d)
    have hfit : FitQ (ofQ n d) := by
      obtain ⟨h1, h2⟩ := ofQ_le n d h0
      have a := int64_bd hn
      have b := int64_bd hd
      exact ⟨Nat.lt_of_le_of_lt h1 (int_cap a.1 a.2), Nat.lt_of_le_of_lt h2 (int_cap b.1 b.2)⟩
    refine ⟨g, s, t, 0, fun W hW => of_ok hn hd h0 rfl e W hW, .inl ⟨rfl, by simpa using h0, fun W hW => ?_⟩⟩
    have h := rat_valid_q (ofQ n d) W hfit hW
    rw [e] at h
    exact h
theorem vc_of {q : Rat} {g : Bool} {s t : ByteArray} {k : Nat} (h : Sz k q) (hk : k ≤ 1000) (e : IsQ q g s t) : VC g s t := fun W hW => valid_okq h hk e W hW
theorem rationalForm_walk (ga : Bool) (sa ta : ByteArray) (gb : Bool) (sb tb : ByteArray) (n d : Int) (w : World) (hn : inI64 n) (hd : inI64 d) (hw : LawW w) :
    Calls Tryz.prog 4 #[.agg #[.bool ga, .string sa, .string ta], .agg #[.bool gb, .string sb, .string tb], .int .i64 n, .int .i64 d] w fun e w' => e = .returned (.bool true) ∧ Below w.heap.size w w' := by
  rcases Bool.eq_false_or_eq_true (fewQ 40 [(ga, sa, ta), (gb, sb, tb)]) with hf | hf
  · obtain ⟨l1, l2, l3, l4⟩ := fewQ_two hf
    simp only at l1 l2 l3 l4
    obtain ⟨g4, s4, t4, k4, h4, p4⟩ := agree_of n d hn hd
    have m1 : sa.size ≤ maxLen := by unfold maxLen; omega
    have m2 : ta.size ≤ maxLen := by unfold maxLen; omega
    have m3 : sb.size ≤ maxLen := by unfold maxLen; omega
    have m4 : tb.size ≤ maxLen := by unfold maxLen; omega
    have hz : FP true false ⟨#[]⟩ ⟨#[]⟩ 1 := .inr (.inl ⟨rfl, rfl, rfl, rfl, rfl⟩)
    rcases Bool.eq_false_or_eq_true (vldR ga sa ta) with va | va
    · obtain ⟨p, ep, hp⟩ := few_q (k := 40) (by omega) l1 l2 va
      rcases Bool.eq_false_or_eq_true (vldR gb sb tb) with vb | vb
      · obtain ⟨q, eq, hq⟩ := few_q (k := 40) (by omega) l3 l4 vb
        obtain ⟨g0, s0, t0, e0⟩ := IsQ.get (p + q)
        obtain ⟨g1, s1, t1, e1⟩ := IsQ.get (p - q)
        obtain ⟨g2, s2, t2, e2⟩ := IsQ.get (p * q)
        have h0 : RT2 25 ga sa ta gb sb tb g0 s0 t0 0 := fun W hW => add_okq hp hq (by omega) rfl ep eq e0 W hW
        have h1 : RT2 27 ga sa ta gb sb tb g1 s1 t1 0 := fun W hW => sub_okq hp hq (by omega) rfl ep eq e1 W hW
        have h2 : RT2 29 ga sa ta gb sb tb g2 s2 t2 0 := fun W hW => mul_okq hp hq (by omega) rfl ep eq e2 W hW
        have p0 : FP false g0 s0 t0 0 := .inl ⟨rfl, rfl, vc_of (hp.add hq) (by omega) e0⟩
        have p1 : FP false g1 s1 t1 0 := .inl ⟨rfl, rfl, vc_of (hp.sub hq) (by omega) e1⟩
        have p2 : FP false g2 s2 t2 0 := .inl ⟨rfl, rfl, vc_of (hp.mul hq) (by omega) e2⟩
        by_cases hq0 : q = 0
        · have h3 : RT2 31 ga sa ta gb sb tb false ⟨#[]⟩ ⟨#[]⟩ 14 := fun W hW => div_zeroq hp (by omega) hq0 ep eq W hW
          exact form_ok ga sa ta gb sb tb n d w g0 s0 t0 0 g1 s1 t1 0 g2 s2 t2 0 false ⟨#[]⟩ ⟨#[]⟩ 14 g4 s4 t4 k4 hf va vb h0 p0 h1 p1 h2 p2 h3 (.inr (.inr ⟨rfl, rfl, rfl, rfl, rfl⟩)) h4 p4 hw
        · obtain ⟨g3, s3, t3, e3⟩ := IsQ.get (p / q)
          have h3 : RT2 31 ga sa ta gb sb tb g3 s3 t3 0 := fun W hW => div_okq hp hq hq0 (by omega) rfl ep eq e3 W hW
          have p3 : FP false g3 s3 t3 0 := .inl ⟨rfl, rfl, vc_of (by rw [Rat.div_def]; exact hp.mul (hq.inv hq0)) (by omega) e3⟩
          exact form_ok ga sa ta gb sb tb n d w g0 s0 t0 0 g1 s1 t1 0 g2 s2 t2 0 g3 s3 t3 0 g4 s4 t4 k4 hf va vb h0 p0 h1 p1 h2 p2 h3 p3 h4 p4 hw
      · exact form_badB ga sa ta gb sb tb n d w false ⟨#[]⟩ ⟨#[]⟩ 1 false ⟨#[]⟩ ⟨#[]⟩ 1 false ⟨#[]⟩ ⟨#[]⟩ 1 false ⟨#[]⟩ ⟨#[]⟩ 1 g4 s4 t4 k4 hf va vb
          (fun W hW => rat_Add_bad2 ga gb sa ta sb tb W m1 m2 m3 m4 hW va vb) hz (fun W hW => rat_Sub_bad ga gb sa ta sb tb W m3 m4 hW vb) hz
          (fun W hW => rat_Mul_bad2 ga gb sa ta sb tb W m1 m2 m3 m4 hW va vb) hz (fun W hW => rat_Div_bad2 ga gb sa ta sb tb W m1 m2 m3 m4 hW va vb) hz h4 p4 hw
    · have h1 : RT2 27 ga sa ta gb sb tb false ⟨#[]⟩ ⟨#[]⟩ 1 := by
        rcases Bool.eq_false_or_eq_true (vldR gb sb tb) with vb | vb
        · obtain ⟨q, eq, hq⟩ := few_q (k := 40) (by omega) l3 l4 vb
          obtain ⟨g3, s3, t3, e3⟩ := IsQ.get (-q)
          refine fun W hW => rat_Sub_any ga gb sa ta sb tb g3 s3 t3 false ⟨#[]⟩ ⟨#[]⟩ 1 W hW (hide fun X hX => valid_okq hq (by omega) eq X hX) (hide fun X => ?_) (hide fun X hX => rat_Add_bad1 ga g3 sa ta s3 t3 X m1 m2 hX va)
          have h := rat_minus q X
          rw [eq, e3] at h
          exact h
        · exact fun W hW => rat_Sub_bad ga gb sa ta sb tb W m3 m4 hW vb
      exact form_badA ga sa ta gb sb tb n d w false ⟨#[]⟩ ⟨#[]⟩ 1 false ⟨#[]⟩ ⟨#[]⟩ 1 false ⟨#[]⟩ ⟨#[]⟩ 1 false ⟨#[]⟩ ⟨#[]⟩ 1 g4 s4 t4 k4 hf va
        (fun W hW => rat_Add_bad1 ga gb sa ta sb tb W m1 m2 hW va) hz h1 hz
        (fun W hW => rat_Mul_bad1 ga gb sa ta sb tb W m1 m2 hW va) hz (fun W hW => rat_Div_bad1 ga gb sa ta sb tb W m1 m2 hW va) hz h4 p4 hw
  · exact form_few ga sa ta gb sb tb n d w hf hw
end Go.Proofs.YtncocgfgbocnkaaGreatDoor
