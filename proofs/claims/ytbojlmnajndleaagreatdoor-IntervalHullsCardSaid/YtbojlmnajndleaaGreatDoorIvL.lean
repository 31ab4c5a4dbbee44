/- IntervalEnds. -/
import Derived.Test.YtbojlmnajndleaaGreatDoorIvY
set_option linter.unusedVariables false
set_option linter.unusedSimpArgs false
namespace Go.Proofs.YtbojlmnajndleaaGreatDoor
open Go.RowKit Go.Sort

theorem sl_two {w : World} {o : Nat} {x y : Q3} (h : SliceOf vQ 3 w (.slice (some ⟨o, 0, none⟩) 2 2) [x, y]) : (w.cell? ⟨o, 0, none⟩ = some (.bool x.1) ∧ w.cell? ⟨o, 1, none⟩ = some (.string x.2.1) ∧ w.cell? ⟨o, 2, none⟩ = some (.string x.2.2)) ∧ w.cell? ⟨o, 3, none⟩ = some (.bool y.1) ∧ w.cell? ⟨o, 4, none⟩ = some (.string y.2.1) ∧ w.cell? ⟨o, 5, none⟩ = some (.string y.2.2) := by
  obtain ⟨b, off, cap, e1, _, _, _, hc⟩ := h.some_of_pos (by simp)
  simp only [Value.slice.injEq, Option.some.injEq, Addr.mk.injEq, and_true] at e1
  obtain ⟨⟨rfl, rfl⟩, -, rfl⟩ := e1
  exact ⟨⟨hc 0 (by simp) 0 _ rfl, hc 0 (by simp) 1 _ rfl, hc 0 (by simp) 2 _ rfl⟩, hc 1 (by simp) 0 _ rfl, hc 1 (by simp) 1 _ rfl, hc 1 (by simp) 2 _ rfl⟩
/-- A variable that a region makes, before it is set. -/
def ZW (u W : World) (b : Nat) : Prop := RC W b false ⟨#[]⟩ ⟨#[]⟩ ∧ u.heap.size ≤ b
theorem ZW.new {u W : World} (h : Below u.heap.size u W) (T : TypeId) : ZW u (W.alloc (.cells #[.bool false, .string ⟨#[]⟩, .string ⟨#[]⟩] T)) W.heap.size := ⟨RC.new _ _ _ _ _, h.size⟩
theorem ZW.newd {u W : World} (h : Below u.heap.size u W) (T : TypeId) : ZW u (W.alloc (.cells #[.bool false, .string ⟨#[]⟩, .string ⟨#[]⟩] T)).drew W.heap.size := ⟨(RC.new _ _ _ _ _).below (Below.refl _ _).drew, h.size⟩
theorem ZW.below {u W W' : World} {b : Nat} (h : ZW u W b) (hb : Below W.heap.size W W') : ZW u W' b := ⟨h.1.below hb, h.2⟩
/-- The region has set its variable. -/
theorem end_new {w u W : World} {L : List (Nat × List Value)} (hv : VB w u L) (h : Below u.heap.size u W) (x : Q3) (T : TypeId) : VB w (W.alloc (.cells #[.bool x.1, .string x.2.1, .string x.2.2] T)) ((W.heap.size, [.bool x.1, .string x.2.1, .string x.2.2]) :: L) ∧ Below u.heap.size u (W.alloc (.cells #[.bool x.1, .string x.2.1, .string x.2.2] T)) :=
  ⟨(hv.below h).push rfl _ T, bAlloc h _⟩
theorem VB.cons {w u W : World} {L : List (Nat × List Value)} {b : Nat} {vs : List Value} (hv : VB w u L) (h : Below u.heap.size u W) (hz : BV W b vs) (hlo : u.heap.size ≤ b) (hlt : b < W.heap.size) : VB w W ((b, vs) :: L) := by
  have h2 := hv.below h
  refine ⟨h2.bel, fun x hx => ?_, fun x hx => ?_, fun x hx => ?_, List.Pairwise.cons (fun y hy => Nat.lt_of_lt_of_le (hv.lt y hy) hlo) hv.ord⟩
  · rcases List.mem_cons.1 hx with rfl | hx
    · exact hz
    · exact h2.all x hx
  · rcases List.mem_cons.1 hx with rfl | hx
    · exact hlt
    · exact h2.lt x hx
  · rcases List.mem_cons.1 hx with rfl | hx
    · exact Nat.le_trans hv.bel.size hlo
    · exact h2.lo x hx
theorem end_set {w u W : World} {L : List (Nat × List Value)} {b : Nat} (hv : VB w u L) (h : Below u.heap.size u W) (hz : ZW u W b) (x : Q3) : VB w (((W.setCell ⟨b, 0, none⟩ (.bool x.1)).setCell ⟨b, 1, none⟩ (.string x.2.1)).setCell ⟨b, 2, none⟩ (.string x.2.2)) ((b, [.bool x.1, .string x.2.1, .string x.2.2]) :: L) ∧ Below u.heap.size u (((W.setCell ⟨b, 0, none⟩ (.bool x.1)).setCell ⟨b, 1, none⟩ (.string x.2.1)).setCell ⟨b, 2, none⟩ (.string x.2.2)) := by
  have hB := bset3 h hz.2 (.bool x.1) (.string x.2.1) (.string x.2.2)
  obtain ⟨z0, z1, z2, f0, f1, f2⟩ := hz.1
  refine ⟨VB.cons hv hB ?_ hz.2 (by simpa using hz.1.lt), hB⟩
  intro i hi
  simp only [List.length_cons, List.length_nil] at hi
  have : i = 0 ∨ i = 1 ∨ i = 2 := by omega
  rcases this with rfl | rfl | rfl
  · exact ⟨by simp [go_sem, z0, z1, z2], by simp [f0]⟩
  · exact ⟨by simp [go_sem, z0, z1, z2], by simp [f1]⟩
  · exact ⟨by simp [go_sem, z0, z1, z2], by simp [f2]⟩
def IsB (b : Bool) (P : Prop) : Prop := b = true ↔ P
theorem IsB.zero (l : List Q3) (p : Q3) : IsB false (p ∈ l.take 0) := ⟨fun h => (by cases h), fun h => (by simp at h)⟩
theorem step_t {l : List Q3} {k : Nat} {p : Q3} (h : IsB true (p ∈ l.take k)) : IsB true (p ∈ l.take (k + 1)) := ⟨fun _ => by rw [List.take_add_one]; exact List.mem_append_left _ (h.1 rfl), fun _ => rfl⟩
theorem step_f {l : List Q3} {k : Nat} {p m : Q3} {b : Bool} (hm : l[k]? = some m) (h : IsB false (p ∈ l.take k)) (hb : b = true ↔ m = p) : IsB b (p ∈ l.take (k + 1)) := by
  show b = true ↔ _
  rw [List.take_add_one, hm, List.mem_append]
  have hn : p ∉ l.take k := fun e => Bool.noConfusion (h.2 e)
  simp only [hn, false_or, Option.toList_some, List.mem_singleton]
  exact hb.trans ⟨fun h => h.symm, fun h => h.symm⟩
theorem q3_cases (g : Bool) (s t : ByteArray) (g' : Bool) (s' t' : ByteArray) : (g = g' ∧ s = s' ∧ t = t') ∨ ((g, s, t) ≠ (g', s', t') ∧ ((g == g') = false ∨ (g = g' ∧ (s.toList == s'.toList) = false) ∨ (g = g' ∧ s = s' ∧ (t.toList == t'.toList) = false))) := by
  have hl : ∀ x y : ByteArray, (x.toList == y.toList) = true → x = y := fun x y h => by
    simp only [beq_iff_eq, ByteArray.toList_eq] at h
    exact ba_eq h
  by_cases h1 : g = g'
  · rcases Bool.eq_false_or_eq_true (s.toList == s'.toList) with h2 | h2
    · have h2' := hl _ _ h2
      rcases Bool.eq_false_or_eq_true (t.toList == t'.toList) with h3 | h3
      · exact .inl ⟨h1, h2', hl _ _ h3⟩
      · refine .inr ⟨fun e => ?_, .inr (.inr ⟨h1, h2', h3⟩)⟩
        simp only [Prod.mk.injEq] at e
        rw [e.2.2] at h3; simp at h3
    · refine .inr ⟨fun e => ?_, .inr (.inl ⟨h1, h2⟩)⟩
      simp only [Prod.mk.injEq] at e
      rw [e.2.1] at h2; simp at h2
  · refine .inr ⟨fun e => ?_, .inl (beq_eq_false_iff_ne.2 h1)⟩
    simp only [Prod.mk.injEq] at e
    exact h1 e.1

set_option maxHeartbeats 8000000 in
set_option maxRecDepth 100000 in
theorem ends_0 (g1 : Bool) (s1 t1 : ByteArray) (g2 : Bool) (s2 t2 : ByteArray) (g3 : Bool) (s3 t3 : ByteArray) (g4 : Bool) (s4 t4 : ByteArray) (w : World) (hf : (fewI [((g1, s1, t1), (g2, s2, t2)), ((g3, s3, t3), (g4, s4, t4))] && fewQ 60 []) = false) (hw : LawW w) :
    Calls Tryz.prog 5 #[.agg #[.bool g1, .string s1, .string t1, .bool g2, .string s2, .string t2], .agg #[.bool g3, .string s3, .string t3, .bool g4, .string s4, .string t4]] w fun e w' => e = .returned (.bool true) ∧ Below w.heap.size w w' := by
  have HW := hide hw
  have HH := hide (fun W hW => law05_head W hW)
  have HF := hide (fun v u W h1 h2 => law05_few [((g1, s1, t1), (g2, s2, t2)), ((g3, s3, t3), (g4, s4, t4))] [] v u W h1 h2 (by show 2 ≤ maxLen; decide) (by show 0 ≤ 1000; decide))
  rw [hf] at HF

  have HV0 : Hid (VB w w []) := VB.nil w
  clear hw hf 
  go_enter Tryz.func5, Tryz.ntmps5
  have HV0_ := hide (HV0.out.push6 (b := w.heap.size) (by simp) (.bool g1) (.string s1) (.string t1) (.bool g2) (.string s2) (.string t2) 26)
  clear HV0
  have HV0__ := hide (HV0_.out.push6 (b := w.heap.size + 1) (by simp) (.bool g3) (.string s3) (.string t3) (.bool g4) (.string s4) (.string t4) 26)
  clear HV0_
  go_wp2_with fail
  refine (HH.out _ (HV0__.out.law HW.out)).mono ?_
  rintro e w1 ⟨rfl, hb⟩
  have HV1 := hide (HV0__.out.below hb)
  clear hb HV0__
  obtain ⟨c1, c2, c3, c4, c5, c6⟩ := HV1.out.at6 1 rfl
  obtain ⟨c7, c8, c9, c10, c11, c12⟩ := HV1.out.at6 0 rfl
  have hli : SliceOf vIv 6 (w1.alloc (.cells #[.bool g1, .string s1, .string t1, .bool g2, .string s2, .string t2, .bool g3, .string s3, .string t3, .bool g4, .string s4, .string t4] 26)) (.slice (some ⟨w1.heap.size, 0, none⟩) 2 2) [((g1, s1, t1), (g2, s2, t2)), ((g3, s3, t3), (g4, s4, t4))] := slice_lit_iv vIv_len w1 [((g1, s1, t1), (g2, s2, t2)), ((g3, s3, t3), (g4, s4, t4))] _ (show 2 ≤ maxLen by decide) (by simp) rfl rfl
  have HLI := hide hli
  clear hli
  have HV1_ := hide (HV1.out.anon (.cells #[.bool g1, .string s1, .string t1, .bool g2, .string s2, .string t2, .bool g3, .string s3, .string t3, .bool g4, .string s4, .string t4] 26))
  clear HV1
  go_wp2_with fail
  clear c1 c2 c3 c4 c5 c6 c7 c8 c9 c10 c11 c12
  refine (HF.out _ _ _ HLI.out (slice_nil _)).mono ?_
  rintro e w2 ⟨rfl, hb⟩
  have HV2 := hide (HV1_.out.below hb)
  clear hb HV1_ HF HLI
  go_wp2_with fail
  go_ret
  exact ⟨rfl, HV2.out.bel⟩
set_option maxHeartbeats 8000000 in
set_option maxRecDepth 100000 in
theorem ends_1 (g1 : Bool) (s1 t1 : ByteArray) (g2 : Bool) (s2 t2 : ByteArray) (g3 : Bool) (s3 t3 : ByteArray) (g4 : Bool) (s4 t4 : ByteArray) (w : World) (h1 : ∀ W, LawW W → Calls Tryz.prog 11 #[.agg #[.bool g1, .string s1, .string t1, .bool g2, .string s2, .string t2], .agg #[.bool g3, .string s3, .string t3, .bool g4, .string s4, .string t4]] W fun e w' => e = .returned (.tuple #[.agg #[.bool false, .string ⟨#[]⟩, .string ⟨#[]⟩, .bool false, .string ⟨#[]⟩, .string ⟨#[]⟩], .int .i64 1]) ∧ Below W.heap.size W w') (h2 : ∀ W, LawW W → Calls Tryz.prog 13 #[.agg #[.bool g1, .string s1, .string t1, .bool g2, .string s2, .string t2], .agg #[.bool g3, .string s3, .string t3, .bool g4, .string s4, .string t4]] W fun e w' => e = .returned (.tuple #[.agg #[.bool false, .string ⟨#[]⟩, .string ⟨#[]⟩, .bool false, .string ⟨#[]⟩, .string ⟨#[]⟩], .int .i64 1]) ∧ Below W.heap.size W w') (hf : (fewI [((g1, s1, t1), (g2, s2, t2)), ((g3, s3, t3), (g4, s4, t4))] && fewQ 60 []) = true) (hw : LawW w) :
    Calls Tryz.prog 5 #[.agg #[.bool g1, .string s1, .string t1, .bool g2, .string s2, .string t2], .agg #[.bool g3, .string s3, .string t3, .bool g4, .string s4, .string t4]] w fun e w' => e = .returned (.bool true) ∧ Below w.heap.size w w' := by
  have Hh1 := hide h1
  have Hh2 := hide h2
  have HW := hide hw
  have HH := hide (fun W hW => law05_head W hW)
  have HF := hide (fun v u W h1 h2 => law05_few [((g1, s1, t1), (g2, s2, t2)), ((g3, s3, t3), (g4, s4, t4))] [] v u W h1 h2 (by show 2 ≤ maxLen; decide) (by show 0 ≤ 1000; decide))
  rw [hf] at HF

  have HV0 : Hid (VB w w []) := VB.nil w
  clear h1 h2 hw hf 
  go_enter Tryz.func5, Tryz.ntmps5
  have HV0_ := hide (HV0.out.push6 (b := w.heap.size) (by simp) (.bool g1) (.string s1) (.string t1) (.bool g2) (.string s2) (.string t2) 26)
  clear HV0
  have HV0__ := hide (HV0_.out.push6 (b := w.heap.size + 1) (by simp) (.bool g3) (.string s3) (.string t3) (.bool g4) (.string s4) (.string t4) 26)
  clear HV0_
  go_wp2_with fail
  refine (HH.out _ (HV0__.out.law HW.out)).mono ?_
  rintro e w1 ⟨rfl, hb⟩
  have HV1 := hide (HV0__.out.below hb)
  clear hb HV0__
  obtain ⟨c1, c2, c3, c4, c5, c6⟩ := HV1.out.at6 1 rfl
  obtain ⟨c7, c8, c9, c10, c11, c12⟩ := HV1.out.at6 0 rfl
  have hli : SliceOf vIv 6 (w1.alloc (.cells #[.bool g1, .string s1, .string t1, .bool g2, .string s2, .string t2, .bool g3, .string s3, .string t3, .bool g4, .string s4, .string t4] 26)) (.slice (some ⟨w1.heap.size, 0, none⟩) 2 2) [((g1, s1, t1), (g2, s2, t2)), ((g3, s3, t3), (g4, s4, t4))] := slice_lit_iv vIv_len w1 [((g1, s1, t1), (g2, s2, t2)), ((g3, s3, t3), (g4, s4, t4))] _ (show 2 ≤ maxLen by decide) (by simp) rfl rfl
  have HLI := hide hli
  clear hli
  have HV1_ := hide (HV1.out.anon (.cells #[.bool g1, .string s1, .string t1, .bool g2, .string s2, .string t2, .bool g3, .string s3, .string t3, .bool g4, .string s4, .string t4] 26))
  clear HV1
  go_wp2_with fail
  clear c1 c2 c3 c4 c5 c6 c7 c8 c9 c10 c11 c12
  refine (HF.out _ _ _ HLI.out (slice_nil _)).mono ?_
  rintro e w2 ⟨rfl, hb⟩
  have HV2 := hide (HV1_.out.below hb)
  clear hb HV1_ HF HLI
  obtain ⟨c13, c14, c15, c16, c17, c18⟩ := HV2.out.at6 1 rfl
  obtain ⟨c19, c20, c21, c22, c23, c24⟩ := HV2.out.at6 0 rfl
  go_wp2_with fail
  clear c13 c14 c15 c16 c17 c18 c19 c20 c21 c22 c23 c24
  refine (Hh1.out _ (HV2.out.law HW.out)).mono ?_
  rintro e w3 ⟨rfl, hb⟩
  have HV3 := hide (HV2.out.below hb)
  clear hb HV2
  have HV3_ := hide (HV3.out.push6 (b := w3.heap.size) (by simp) (.bool false) (.string ⟨#[]⟩) (.string ⟨#[]⟩) (.bool false) (.string ⟨#[]⟩) (.string ⟨#[]⟩) 26)
  clear HV3
  obtain ⟨c25, c26, c27, c28, c29, c30⟩ := HV3_.out.at6 2 rfl
  obtain ⟨c31, c32, c33, c34, c35, c36⟩ := HV3_.out.at6 1 rfl
  go_wp2_with fail
  clear c25 c26 c27 c28 c29 c30 c31 c32 c33 c34 c35 c36
  refine (Hh2.out _ (HV3_.out.law HW.out)).mono ?_
  rintro e w4 ⟨rfl, hb⟩
  have HV4 := hide (HV3_.out.below hb)
  clear hb HV3_
  have HV4_ := hide (HV4.out.push6 (b := w4.heap.size) (by simp) (.bool false) (.string ⟨#[]⟩) (.string ⟨#[]⟩) (.bool false) (.string ⟨#[]⟩) (.string ⟨#[]⟩) 26)
  clear HV4
  obtain ⟨c37, c38, c39, c40, c41, c42⟩ := HV4_.out.at6 0 rfl
  go_wp2_with fail
  clear c37 c38 c39 c40 c41 c42
  go_ret
  exact ⟨rfl, HV4_.out.bel⟩
set_option maxHeartbeats 8000000 in
set_option maxRecDepth 100000 in
theorem ends_2 (g1 : Bool) (s1 t1 : ByteArray) (g2 : Bool) (s2 t2 : ByteArray) (g3 : Bool) (s3 t3 : ByteArray) (g4 : Bool) (s4 t4 : ByteArray) (g5 : Bool) (s5 t5 : ByteArray) (g6 : Bool) (s6 t6 : ByteArray) (g7 : Bool) (s7 t7 : ByteArray) (g8 : Bool) (s8 t8 : ByteArray) (g9 : Bool) (s9 t9 : ByteArray) (g10 : Bool) (s10 t10 : ByteArray) (g11 : Bool) (s11 t11 : ByteArray) (g12 : Bool) (s12 t12 : ByteArray) (w : World) (h1 : ∀ W, LawW W → Calls Tryz.prog 11 #[.agg #[.bool g1, .string s1, .string t1, .bool g2, .string s2, .string t2], .agg #[.bool g3, .string s3, .string t3, .bool g4, .string s4, .string t4]] W fun e w' => e = .returned (.tuple #[.agg #[.bool g5, .string s5, .string t5, .bool g6, .string s6, .string t6], .int .i64 0]) ∧ Below W.heap.size W w') (h2 : ∀ W, LawW W → Calls Tryz.prog 13 #[.agg #[.bool g1, .string s1, .string t1, .bool g2, .string s2, .string t2], .agg #[.bool g3, .string s3, .string t3, .bool g4, .string s4, .string t4]] W fun e w' => e = .returned (.tuple #[.agg #[.bool g7, .string s7, .string t7, .bool g8, .string s8, .string t8], .int .i64 0]) ∧ Below W.heap.size W w') (h3 : ∀ W, LawW W → Calls Tryz.prog 23 #[.agg #[.bool g1, .string s1, .string t1], .agg #[.bool g3, .string s3, .string t3]] W fun e w' => e = .returned (.tuple #[.agg #[.bool g5, .string s5, .string t5], .int .i64 0]) ∧ Below W.heap.size W w') (h4 : ∀ W, LawW W → Calls Tryz.prog 23 #[.agg #[.bool g2, .string s2, .string t2], .agg #[.bool g4, .string s4, .string t4]] W fun e w' => e = .returned (.tuple #[.agg #[.bool g6, .string s6, .string t6], .int .i64 0]) ∧ Below W.heap.size W w') (h5 : ∀ W, LawW W → Calls Tryz.prog 19 #[.agg #[.bool g5, .string s5, .string t5, .bool g6, .string s6, .string t6]] W fun e w' => e = .returned (.bool true) ∧ Below W.heap.size W w') (m0 : ∀ W, LawW W → Calls Tryz.prog 24 #[.agg #[.bool g1, .string s1, .string t1], .agg #[.bool g3, .string s3, .string t3]] W fun e w' => e = .returned (.tuple #[.agg #[.bool g9, .string s9, .string t9], .int .i64 0]) ∧ Below W.heap.size W w') (m1 : ∀ W, LawW W → Calls Tryz.prog 24 #[.agg #[.bool g1, .string s1, .string t1], .agg #[.bool g4, .string s4, .string t4]] W fun e w' => e = .returned (.tuple #[.agg #[.bool g10, .string s10, .string t10], .int .i64 0]) ∧ Below W.heap.size W w') (m2 : ∀ W, LawW W → Calls Tryz.prog 24 #[.agg #[.bool g2, .string s2, .string t2], .agg #[.bool g3, .string s3, .string t3]] W fun e w' => e = .returned (.tuple #[.agg #[.bool g11, .string s11, .string t11], .int .i64 0]) ∧ Below W.heap.size W w') (m3 : ∀ W, LawW W → Calls Tryz.prog 24 #[.agg #[.bool g2, .string s2, .string t2], .agg #[.bool g4, .string s4, .string t4]] W fun e w' => e = .returned (.tuple #[.agg #[.bool g12, .string s12, .string t12], .int .i64 0]) ∧ Below W.heap.size W w') (h6 : ∀ W, LawW W → Calls Tryz.prog 19 #[.agg #[.bool g7, .string s7, .string t7, .bool g8, .string s8, .string t8]] W fun e w' => e = .returned (.bool true) ∧ Below W.heap.size W w') (hlo : (g7, s7, t7) ∈ [(g9, s9, t9), (g10, s10, t10), (g11, s11, t11), (g12, s12, t12)]) (hhi : (g8, s8, t8) ∈ [(g9, s9, t9), (g10, s10, t10), (g11, s11, t11), (g12, s12, t12)]) (hf : (fewI [((g1, s1, t1), (g2, s2, t2)), ((g3, s3, t3), (g4, s4, t4))] && fewQ 60 []) = true) (hw : LawW w) :
    Calls Tryz.prog 5 #[.agg #[.bool g1, .string s1, .string t1, .bool g2, .string s2, .string t2], .agg #[.bool g3, .string s3, .string t3, .bool g4, .string s4, .string t4]] w fun e w' => e = .returned (.bool true) ∧ Below w.heap.size w w' := by
  have Hh1 := hide h1
  have Hh2 := hide h2
  have Hh3 := hide h3
  have Hh4 := hide h4
  have Hh5 := hide h5
  have Hm0 := hide m0
  have Hm1 := hide m1
  have Hm2 := hide m2
  have Hm3 := hide m3
  have Hh6 := hide h6
  have HW := hide hw
  have HH := hide (fun W hW => law05_head W hW)
  have HF := hide (fun v u W h1 h2 => law05_few [((g1, s1, t1), (g2, s2, t2)), ((g3, s3, t3), (g4, s4, t4))] [] v u W h1 h2 (by show 2 ≤ maxLen; decide) (by show 0 ≤ 1000; decide))
  rw [hf] at HF
  have HLO := hide hlo
  have HHI := hide hhi

  have HV0 : Hid (VB w w []) := VB.nil w
  clear h1 h2 h3 h4 h5 m0 m1 m2 m3 h6 hw hf hlo hhi
  go_enter Tryz.func5, Tryz.ntmps5
  have HV0_ := hide (HV0.out.push6 (b := w.heap.size) (by simp) (.bool g1) (.string s1) (.string t1) (.bool g2) (.string s2) (.string t2) 26)
  clear HV0
  have HV0__ := hide (HV0_.out.push6 (b := w.heap.size + 1) (by simp) (.bool g3) (.string s3) (.string t3) (.bool g4) (.string s4) (.string t4) 26)
  clear HV0_
  go_wp2_with fail
  refine (HH.out _ (HV0__.out.law HW.out)).mono ?_
  rintro e w1 ⟨rfl, hb⟩
  have HV1 := hide (HV0__.out.below hb)
  clear hb HV0__
  obtain ⟨c1, c2, c3, c4, c5, c6⟩ := HV1.out.at6 1 rfl
  obtain ⟨c7, c8, c9, c10, c11, c12⟩ := HV1.out.at6 0 rfl
  have hli : SliceOf vIv 6 (w1.alloc (.cells #[.bool g1, .string s1, .string t1, .bool g2, .string s2, .string t2, .bool g3, .string s3, .string t3, .bool g4, .string s4, .string t4] 26)) (.slice (some ⟨w1.heap.size, 0, none⟩) 2 2) [((g1, s1, t1), (g2, s2, t2)), ((g3, s3, t3), (g4, s4, t4))] := slice_lit_iv vIv_len w1 [((g1, s1, t1), (g2, s2, t2)), ((g3, s3, t3), (g4, s4, t4))] _ (show 2 ≤ maxLen by decide) (by simp) rfl rfl
  have HLI := hide hli
  clear hli
  have HV1_ := hide (HV1.out.anon (.cells #[.bool g1, .string s1, .string t1, .bool g2, .string s2, .string t2, .bool g3, .string s3, .string t3, .bool g4, .string s4, .string t4] 26))
  clear HV1
  go_wp2_with fail
  clear c1 c2 c3 c4 c5 c6 c7 c8 c9 c10 c11 c12
  refine (HF.out _ _ _ HLI.out (slice_nil _)).mono ?_
  rintro e w2 ⟨rfl, hb⟩
  have HV2 := hide (HV1_.out.below hb)
  clear hb HV1_ HF HLI
  obtain ⟨c13, c14, c15, c16, c17, c18⟩ := HV2.out.at6 1 rfl
  obtain ⟨c19, c20, c21, c22, c23, c24⟩ := HV2.out.at6 0 rfl
  go_wp2_with fail
  clear c13 c14 c15 c16 c17 c18 c19 c20 c21 c22 c23 c24
  refine (Hh1.out _ (HV2.out.law HW.out)).mono ?_
  rintro e w3 ⟨rfl, hb⟩
  have HV3 := hide (HV2.out.below hb)
  clear hb HV2
  have HV3_ := hide (HV3.out.push6 (b := w3.heap.size) (by simp) (.bool g5) (.string s5) (.string t5) (.bool g6) (.string s6) (.string t6) 26)
  clear HV3
  obtain ⟨c25, c26, c27, c28, c29, c30⟩ := HV3_.out.at6 2 rfl
  obtain ⟨c31, c32, c33, c34, c35, c36⟩ := HV3_.out.at6 1 rfl
  go_wp2_with fail
  clear c25 c26 c27 c28 c29 c30 c31 c32 c33 c34 c35 c36
  refine (Hh2.out _ (HV3_.out.law HW.out)).mono ?_
  rintro e w4 ⟨rfl, hb⟩
  have HV4 := hide (HV3_.out.below hb)
  clear hb HV3_
  have HV4_ := hide (HV4.out.push6 (b := w4.heap.size) (by simp) (.bool g7) (.string s7) (.string t7) (.bool g8) (.string s8) (.string t8) 26)
  clear HV4
  obtain ⟨c37, c38, c39, c40, c41, c42⟩ := HV4_.out.at6 3 rfl
  obtain ⟨c43, c44, c45, c46, c47, c48⟩ := HV4_.out.at6 2 rfl
  go_wp2_with fail
  clear c37 c38 c39 c40 c41 c42 c43 c44 c45 c46 c47 c48
  refine (Hh3.out _ (HV4_.out.law HW.out)).mono ?_
  rintro e w5 ⟨rfl, hb⟩
  have HV5 := hide (HV4_.out.below hb)
  clear hb HV4_
  have HV5_ := hide (HV5.out.push3 (b := w5.heap.size) (by simp) (.bool g5) (.string s5) (.string t5) 24)
  clear HV5
  obtain ⟨c49, c50, c51, c52, c53, c54⟩ := HV5_.out.at6 4 rfl
  obtain ⟨c55, c56, c57, c58, c59, c60⟩ := HV5_.out.at6 3 rfl
  go_wp2_with fail
  clear c49 c50 c51 c52 c53 c54 c55 c56 c57 c58 c59 c60
  refine (Hh4.out _ (HV5_.out.law HW.out)).mono ?_
  rintro e w6 ⟨rfl, hb⟩
  have HV6 := hide (HV5_.out.below hb)
  clear hb HV5_
  have HV6_ := hide (HV6.out.push3 (b := w6.heap.size) (by simp) (.bool g6) (.string s6) (.string t6) 24)
  clear HV6
  obtain ⟨c61, c62, c63⟩ := HV6_.out.at3 1 rfl
  obtain ⟨c64, c65, c66⟩ := HV6_.out.at3 0 rfl
  obtain ⟨c67, c68, c69, c70, c71, c72⟩ := HV6_.out.at6 3 rfl
  go_wp2_with fail
  clear c61 c62 c63 c64 c65 c66 c67 c68 c69 c70 c71 c72
  refine (Hh5.out _ (HV6_.out.law HW.out)).mono ?_
  rintro e w7 ⟨rfl, hb⟩
  have HV7 := hide (HV6_.out.below hb)
  clear hb HV6_
  go_wp2_with fail
  obtain ⟨wA, hwA⟩ : ∃ x, w7 = x := ⟨_, rfl⟩
  have hvA := HV7.out
  rw [hwA] at hvA ⊢
  clear hwA HV7
  have HSA : Hid (∀ W, VB w W [(w6.heap.size, [.bool g6, .string s6, .string t6]), (w5.heap.size, [.bool g5, .string s5, .string t5]), (w4.heap.size, [.bool g7, .string s7, .string t7, .bool g8, .string s8, .string t8]), (w3.heap.size, [.bool g5, .string s5, .string t5, .bool g6, .string s6, .string t6]), (w.heap.size + 1, [.bool g3, .string s3, .string t3, .bool g4, .string s4, .string t4]), (w.heap.size, [.bool g1, .string s1, .string t1, .bool g2, .string s2, .string t2])] → W.cell? ⟨w.heap.size, 0, none⟩ = some (.bool g1) ∧ W.cell? ⟨w.heap.size, 1, none⟩ = some (.string s1) ∧ W.cell? ⟨w.heap.size, 2, none⟩ = some (.string t1) ∧ W.cell? ⟨w.heap.size, 3, none⟩ = some (.bool g2) ∧ W.cell? ⟨w.heap.size, 4, none⟩ = some (.string s2) ∧ W.cell? ⟨w.heap.size, 5, none⟩ = some (.string t2) ∧ W.cell? ⟨w.heap.size + 1, 0, none⟩ = some (.bool g3) ∧ W.cell? ⟨w.heap.size + 1, 1, none⟩ = some (.string s3) ∧ W.cell? ⟨w.heap.size + 1, 2, none⟩ = some (.string t3) ∧ W.cell? ⟨w.heap.size + 1, 3, none⟩ = some (.bool g4) ∧ W.cell? ⟨w.heap.size + 1, 4, none⟩ = some (.string s4) ∧ W.cell? ⟨w.heap.size + 1, 5, none⟩ = some (.string t4)) := fun W h => ⟨(h.at (b := w.heap.size) (vs := [.bool g1, .string s1, .string t1, .bool g2, .string s2, .string t2]) (by simp) 0 (show 0 < 6 by decide)).1, (h.at (b := w.heap.size) (vs := [.bool g1, .string s1, .string t1, .bool g2, .string s2, .string t2]) (by simp) 1 (show 1 < 6 by decide)).1, (h.at (b := w.heap.size) (vs := [.bool g1, .string s1, .string t1, .bool g2, .string s2, .string t2]) (by simp) 2 (show 2 < 6 by decide)).1, (h.at (b := w.heap.size) (vs := [.bool g1, .string s1, .string t1, .bool g2, .string s2, .string t2]) (by simp) 3 (show 3 < 6 by decide)).1, (h.at (b := w.heap.size) (vs := [.bool g1, .string s1, .string t1, .bool g2, .string s2, .string t2]) (by simp) 4 (show 4 < 6 by decide)).1, (h.at (b := w.heap.size) (vs := [.bool g1, .string s1, .string t1, .bool g2, .string s2, .string t2]) (by simp) 5 (show 5 < 6 by decide)).1, (h.at (b := w.heap.size + 1) (vs := [.bool g3, .string s3, .string t3, .bool g4, .string s4, .string t4]) (by simp) 0 (show 0 < 6 by decide)).1, (h.at (b := w.heap.size + 1) (vs := [.bool g3, .string s3, .string t3, .bool g4, .string s4, .string t4]) (by simp) 1 (show 1 < 6 by decide)).1, (h.at (b := w.heap.size + 1) (vs := [.bool g3, .string s3, .string t3, .bool g4, .string s4, .string t4]) (by simp) 2 (show 2 < 6 by decide)).1, (h.at (b := w.heap.size + 1) (vs := [.bool g3, .string s3, .string t3, .bool g4, .string s4, .string t4]) (by simp) 3 (show 3 < 6 by decide)).1, (h.at (b := w.heap.size + 1) (vs := [.bool g3, .string s3, .string t3, .bool g4, .string s4, .string t4]) (by simp) 4 (show 4 < 6 by decide)).1, (h.at (b := w.heap.size + 1) (vs := [.bool g3, .string s3, .string t3, .bool g4, .string s4, .string t4]) (by simp) 5 (show 5 < 6 by decide)).1⟩
  go_cut [14, 15] (fun za zc wx => ∃ o1 o2, za = .slice (some ⟨o1, 0, none⟩) 2 2 ∧ zc = .slice (some ⟨o2, 0, none⟩) 2 2 ∧ SliceOf vQ 3 wx (.slice (some ⟨o1, 0, none⟩) 2 2) [(g1, s1, t1), (g2, s2, t2)] ∧ SliceOf vQ 3 wx (.slice (some ⟨o2, 0, none⟩) 2 2) [(g3, s3, t3), (g4, s4, t4)] ∧ VB w wx [(w6.heap.size, [.bool g6, .string s6, .string t6]), (w5.heap.size, [.bool g5, .string s5, .string t5]), (w4.heap.size, [.bool g7, .string s7, .string t7, .bool g8, .string s8, .string t8]), (w3.heap.size, [.bool g5, .string s5, .string t5, .bool g6, .string s6, .string t6]), (w.heap.size + 1, [.bool g3, .string s3, .string t3, .bool g4, .string s4, .string t4]), (w.heap.size, [.bool g1, .string s1, .string t1, .bool g2, .string s2, .string t2])])
  case first =>
    have hd := hvA.drew
    go_region_held3 (fun w' => w'.cell? ⟨w.heap.size, 0, none⟩ = some (.bool g1) ∧ w'.cell? ⟨w.heap.size, 1, none⟩ = some (.string s1) ∧ w'.cell? ⟨w.heap.size, 2, none⟩ = some (.string t1) ∧ w'.cell? ⟨w.heap.size, 3, none⟩ = some (.bool g2) ∧ w'.cell? ⟨w.heap.size, 4, none⟩ = some (.string s2) ∧ w'.cell? ⟨w.heap.size, 5, none⟩ = some (.string t2) ∧ w'.cell? ⟨w.heap.size + 1, 0, none⟩ = some (.bool g3) ∧ w'.cell? ⟨w.heap.size + 1, 1, none⟩ = some (.string s3) ∧ w'.cell? ⟨w.heap.size + 1, 2, none⟩ = some (.string t3) ∧ w'.cell? ⟨w.heap.size + 1, 3, none⟩ = some (.bool g4) ∧ w'.cell? ⟨w.heap.size + 1, 4, none⟩ = some (.string s4) ∧ w'.cell? ⟨w.heap.size + 1, 5, none⟩ = some (.string t4))
      (first | exact HSA.out _ (by assumption) | exact HSA.out _ (VB.anon (by assumption) _) | exact HSA.out _ (VB.anon (VB.anon (by assumption) _) _))
      (skip)
    all_goals
      go_wp2_with fail
      go_meet
      first
      | exact ⟨_, _, rfl, rfl, (SliceOf.below (slice_lit_iv (s := wA.heap.size) vQ_len wA [(g1, s1, t1), (g2, s2, t2)] _ (show 2 ≤ maxLen by decide) rfl rfl rfl) (bAlloc (Below.refl _ _) (.cells #[.bool g3, .string s3, .string t3, .bool g4, .string s4, .string t4] 24)).drew), (SliceOf.below (slice_lit_iv (s := wA.heap.size + 1) vQ_len (wA.alloc (.cells #[.bool g1, .string s1, .string t1, .bool g2, .string s2, .string t2] 24)) [(g3, s3, t3), (g4, s4, t4)] _ (show 2 ≤ maxLen by decide) (by simp) rfl rfl) (Below.refl _ _).drew), (VB.anon (VB.anon hvA (.cells #[.bool g1, .string s1, .string t1, .bool g2, .string s2, .string t2] 24)) (.cells #[.bool g3, .string s3, .string t3, .bool g4, .string s4, .string t4] 24)).drew⟩
      | exact ⟨_, _, rfl, rfl, (SliceOf.below (slice_lit_iv (s := wA.heap.size + 1) vQ_len (wA.alloc (.cells #[.bool g3, .string s3, .string t3, .bool g4, .string s4, .string t4] 24)) [(g1, s1, t1), (g2, s2, t2)] _ (show 2 ≤ maxLen by decide) (by simp) rfl rfl) (Below.refl _ _).drew), (SliceOf.below (slice_lit_iv (s := wA.heap.size) vQ_len wA [(g3, s3, t3), (g4, s4, t4)] _ (show 2 ≤ maxLen by decide) rfl rfl rfl) (bAlloc (Below.refl _ _) (.cells #[.bool g1, .string s1, .string t1, .bool g2, .string s2, .string t2] 24)).drew), (VB.anon (VB.anon hvA (.cells #[.bool g3, .string s3, .string t3, .bool g4, .string s4, .string t4] 24)) (.cells #[.bool g1, .string s1, .string t1, .bool g2, .string s2, .string t2] 24)).drew⟩
  case rest =>
    obtain ⟨o1, o2, rfl, rfl, hsa, hsc, hv⟩ := hcut
    have HSL := hide hsa
    have HSR := hide hsc
    have HVA := hide hv
    clear hv hsa hsc hvA HSA
    obtain ⟨wq, rfl⟩ : ∃ x, x = wc := ⟨_, rfl⟩
    go_wp2_with fail
    go_loopw [16, 17, 18] (fun x y z wx => ∃ (k : Nat) (b1 b2 : Bool), k ≤ 4 ∧ z = .int .i64 (k : Int) ∧ x = .bool b1 ∧ y = .bool b2 ∧ IsB b1 ((g7, s7, t7) ∈ [(g9, s9, t9), (g10, s10, t10), (g11, s11, t11), (g12, s12, t12)].take k) ∧ IsB b2 ((g8, s8, t8) ∈ [(g9, s9, t9), (g10, s10, t10), (g11, s11, t11), (g12, s12, t12)].take k) ∧ SliceOf vQ 3 wx (.slice (some ⟨o1, 0, none⟩) 2 2) [(g1, s1, t1), (g2, s2, t2)] ∧ SliceOf vQ 3 wx (.slice (some ⟨o2, 0, none⟩) 2 2) [(g3, s3, t3), (g4, s4, t4)] ∧ VB w wx [(w6.heap.size, [.bool g6, .string s6, .string t6]), (w5.heap.size, [.bool g5, .string s5, .string t5]), (w4.heap.size, [.bool g7, .string s7, .string t7, .bool g8, .string s8, .string t8]), (w3.heap.size, [.bool g5, .string s5, .string t5, .bool g6, .string s6, .string t6]), (w.heap.size + 1, [.bool g3, .string s3, .string t3, .bool g4, .string s4, .string t4]), (w.heap.size, [.bool g1, .string s1, .string t1, .bool g2, .string s2, .string t2])]) (fun x y z _ => 4 - (intOf z).toNat)
    case atStart => exact ⟨0, false, false, by omega, rfl, rfl, rfl, IsB.zero _ _, IsB.zero _ _, HSL.out, HSR.out, HVA.out⟩
    case round =>
      obtain ⟨k, b1, b2, hk, rfl, rfl, rfl, e1, e2, hsl, hsr, hv⟩ := hrel
      have HE1 := hide e1
      have HE2 := hide e2
      have HSL := hide hsl
      have HSR := hide hsr
      have HV := hide hv
      clear e1 e2 hv
      have hk' : k = 0 ∨ k = 1 ∨ k = 2 ∨ k = 3 ∨ k = 4 := by omega
      obtain ⟨K, hK⟩ : ∃ K : Int, (k : Int) = K := ⟨_, rfl⟩
      rw [hK]
      clear hk
      rcases hk' with rfl | rfl | rfl | rfl | rfl
      · obtain rfl : K = 0 := by omega
        clear hK
        have hcl := sl_two hsl
        have hcr := sl_two hsr
        have HCS : Hid (∀ W, Below wr.heap.size wr W → W.cell? ⟨o1, 0, none⟩ = some (.bool g1) ∧ W.cell? ⟨o1, 1, none⟩ = some (.string s1) ∧ W.cell? ⟨o1, 2, none⟩ = some (.string t1) ∧ W.cell? ⟨o2, 0, none⟩ = some (.bool g3) ∧ W.cell? ⟨o2, 1, none⟩ = some (.string s3) ∧ W.cell? ⟨o2, 2, none⟩ = some (.string t3)) := fun W h => by
          obtain ⟨⟨p0, p1, p2⟩, p3, p4, p5⟩ := sl_two (SliceOf.below HSL.out h)
          obtain ⟨⟨r0, r1, r2⟩, r3, r4, r5⟩ := sl_two (SliceOf.below HSR.out h)
          exact ⟨by assumption, by assumption, by assumption, by assumption, by assumption, by assumption⟩
        clear hsl hsr hcl hcr
        have hwr0 : IntKind.i64.wrap (0 : Int) = 0 := rfl
        have hwr1 : IntKind.i64.wrap (1 : Int) = 1 := rfl
        go_wp2_with fail
        go_cut [19, 20] (fun z19 z20 wx => ∃ b, z19 = .pointer (some ⟨b, 0, none⟩) ∧ z20 = .int .i64 0 ∧ VB w wx ((b, [.bool g9, .string s9, .string t9]) :: [(w6.heap.size, [.bool g6, .string s6, .string t6]), (w5.heap.size, [.bool g5, .string s5, .string t5]), (w4.heap.size, [.bool g7, .string s7, .string t7, .bool g8, .string s8, .string t8]), (w3.heap.size, [.bool g5, .string s5, .string t5, .bool g6, .string s6, .string t6]), (w.heap.size + 1, [.bool g3, .string s3, .string t3, .bool g4, .string s4, .string t4]), (w.heap.size, [.bool g1, .string s1, .string t1, .bool g2, .string s2, .string t2])]) ∧ Below wr.heap.size wr wx)
        case first =>
          have hd := (Below.refl wr.heap.size wr).drew
          have hd2 := (bAlloc (Below.refl wr.heap.size wr) (.cells #[.bool false, .string ⟨#[]⟩, .string ⟨#[]⟩] 24)).drew
          have HLW : Hid (∀ W, Below wr.heap.size wr W → LawW W) := fun W h => (HV.out.below h).law HW.out
          go_region_held3 (fun w' => w'.cell? ⟨o1, 0, none⟩ = some (.bool g1) ∧ w'.cell? ⟨o1, 1, none⟩ = some (.string s1) ∧ w'.cell? ⟨o1, 2, none⟩ = some (.string t1) ∧ w'.cell? ⟨o2, 0, none⟩ = some (.bool g3) ∧ w'.cell? ⟨o2, 1, none⟩ = some (.string s3) ∧ w'.cell? ⟨o2, 2, none⟩ = some (.string t3))
            (first | exact HCS.out _ (by assumption) | exact HCS.out _ (bAlloc (by assumption) _) | exact HCS.out _ (bAlloc (by assumption) _).drew | exact HCS.out _ (end_set HV.out (by assumption) (by assumption) (g9, s9, t9)).2)
            (first
              | (go_at_call 24; (with_reducible refine (Hm0.out wr.drew (HLW.out wr.drew hd)).mono ?_); rintro e wa ⟨rfl, hb⟩; have hd := bStep (w0 := wr) hd hb; clear hb)
              | (go_at_call 24; (with_reducible refine (Hm0.out ((wr.alloc (.cells #[.bool false, .string ⟨#[]⟩, .string ⟨#[]⟩] 24)).drew) (HLW.out ((wr.alloc (.cells #[.bool false, .string ⟨#[]⟩, .string ⟨#[]⟩] 24)).drew) hd2)).mono ?_); rintro e wa ⟨rfl, hb⟩; have hz := (ZW.newd (u := wr) (W := wr) (Below.refl _ _) 24).below hb; have hd := bStep (w0 := wr) hd2 hb; obtain ⟨⟨z0, z1, z2, fz0, fz1, fz2⟩, _⟩ := id hz; clear hb))
          all_goals
            go_wp2_with fail
            go_meet
            first
            | (obtain ⟨q1, q2⟩ := end_new HV.out (by assumption) (g9, s9, t9) 24; exact ⟨_, rfl, rfl, q1, q2⟩)
            | (obtain ⟨q1, q2⟩ := end_set HV.out (by assumption) (by assumption) (g9, s9, t9); exact ⟨_, rfl, rfl, q1, q2⟩)
        case rest =>
        obtain ⟨bm, rfl, rfl, hv, hb⟩ := hcut
        have HV2 := hide hv
        have HSL2 := hide (SliceOf.below HSL.out hb)
        have HSR2 := hide (SliceOf.below HSR.out hb)
        clear hv hb HV HSL HSR HCS
        obtain ⟨wq2, rfl⟩ : ∃ x, x = wc := ⟨_, rfl⟩
        go_upto_region 21 with fail
        go_cut [16] (fun z wy => ∃ b' : Bool, z = .bool b' ∧ IsB b' ((g7, s7, t7) ∈ [(g9, s9, t9), (g10, s10, t10), (g11, s11, t11), (g12, s12, t12)].take (0 + 1)) ∧ wy = wq2)
        case first =>
          obtain ⟨c0, c1, c2⟩ := HV2.out.at3 0 rfl
          obtain ⟨p0, p1, p2, p3, p4, p5⟩ := HV2.out.at6 3 rfl
          cases b1
          · rcases q3_cases g9 s9 t9 g7 s7 t7 with ⟨rfl, rfl, rfl⟩ | ⟨hne, hc⟩
            · have HT := hide (step_f (b := true) rfl HE1.out ⟨fun _ => rfl, fun _ => rfl⟩)
              go_wp2_with fail
              go_meet
              exact ⟨true, rfl, HT.out, rfl⟩
            · have HT := hide (step_f (b := false) (m := (g9, s9, t9)) rfl HE1.out ⟨fun h => (by cases h), fun h => absurd h hne⟩)
              clear hne
              rcases hc with q | ⟨rfl, q⟩ | ⟨rfl, rfl, q⟩
              all_goals
                go_wp2_with fail
                go_meet
                exact ⟨false, rfl, HT.out, rfl⟩
          · have HT := hide (step_t HE1.out)
            go_wp2_with fail
            go_meet
            exact ⟨true, rfl, HT.out, rfl⟩
        case rest =>
        obtain ⟨b3, rfl, e3, rfl⟩ := hcut
        have HE3 := hide e3
        clear e3
        obtain ⟨c0, c1, c2⟩ := HV2.out.at3 0 rfl
        obtain ⟨p0, p1, p2, p3, p4, p5⟩ := HV2.out.at6 3 rfl
        cases b2
        · rcases q3_cases g9 s9 t9 g8 s8 t8 with ⟨rfl, rfl, rfl⟩ | ⟨hne, hc⟩
          · have HT := hide (step_f (b := true) rfl HE2.out ⟨fun _ => rfl, fun _ => rfl⟩)
            go_wp2_with fail
            go_roundw
            case rel => exact ⟨0 + 1, _, _, by omega, by go_num, rfl, rfl, HE3.out, HT.out, HSL2.out, HSR2.out, HV2.out.tail⟩
            case measure => (simp [intOf]; try omega)
          · have HT := hide (step_f (b := false) (m := (g9, s9, t9)) rfl HE2.out ⟨fun h => (by cases h), fun h => absurd h hne⟩)
            clear hne
            rcases hc with q | ⟨rfl, q⟩ | ⟨rfl, rfl, q⟩
            all_goals
              go_wp2_with fail
              go_roundw
              case rel => exact ⟨0 + 1, _, _, by omega, by go_num, rfl, rfl, HE3.out, HT.out, HSL2.out, HSR2.out, HV2.out.tail⟩
              case measure => (simp [intOf]; try omega)
        · have HT := hide (step_t HE2.out)
          go_wp2_with fail
          go_roundw
          case rel => exact ⟨0 + 1, _, _, by omega, by go_num, rfl, rfl, HE3.out, HT.out, HSL2.out, HSR2.out, HV2.out.tail⟩
          case measure => (simp [intOf]; try omega)
      · obtain rfl : K = 1 := by omega
        clear hK
        have hcl := sl_two hsl
        have hcr := sl_two hsr
        have HCS : Hid (∀ W, Below wr.heap.size wr W → W.cell? ⟨o1, 0, none⟩ = some (.bool g1) ∧ W.cell? ⟨o1, 1, none⟩ = some (.string s1) ∧ W.cell? ⟨o1, 2, none⟩ = some (.string t1) ∧ W.cell? ⟨o2, 3, none⟩ = some (.bool g4) ∧ W.cell? ⟨o2, 4, none⟩ = some (.string s4) ∧ W.cell? ⟨o2, 5, none⟩ = some (.string t4)) := fun W h => by
          obtain ⟨⟨p0, p1, p2⟩, p3, p4, p5⟩ := sl_two (SliceOf.below HSL.out h)
          obtain ⟨⟨r0, r1, r2⟩, r3, r4, r5⟩ := sl_two (SliceOf.below HSR.out h)
          exact ⟨by assumption, by assumption, by assumption, by assumption, by assumption, by assumption⟩
        clear hsl hsr hcl hcr
        have hwr0 : IntKind.i64.wrap (0 : Int) = 0 := rfl
        have hwr1 : IntKind.i64.wrap (1 : Int) = 1 := rfl
        go_wp2_with fail
        go_cut [19, 20] (fun z19 z20 wx => ∃ b, z19 = .pointer (some ⟨b, 0, none⟩) ∧ z20 = .int .i64 0 ∧ VB w wx ((b, [.bool g10, .string s10, .string t10]) :: [(w6.heap.size, [.bool g6, .string s6, .string t6]), (w5.heap.size, [.bool g5, .string s5, .string t5]), (w4.heap.size, [.bool g7, .string s7, .string t7, .bool g8, .string s8, .string t8]), (w3.heap.size, [.bool g5, .string s5, .string t5, .bool g6, .string s6, .string t6]), (w.heap.size + 1, [.bool g3, .string s3, .string t3, .bool g4, .string s4, .string t4]), (w.heap.size, [.bool g1, .string s1, .string t1, .bool g2, .string s2, .string t2])]) ∧ Below wr.heap.size wr wx)
        case first =>
          have hd := (Below.refl wr.heap.size wr).drew
          have hd2 := (bAlloc (Below.refl wr.heap.size wr) (.cells #[.bool false, .string ⟨#[]⟩, .string ⟨#[]⟩] 24)).drew
          have HLW : Hid (∀ W, Below wr.heap.size wr W → LawW W) := fun W h => (HV.out.below h).law HW.out
          go_region_held3 (fun w' => w'.cell? ⟨o1, 0, none⟩ = some (.bool g1) ∧ w'.cell? ⟨o1, 1, none⟩ = some (.string s1) ∧ w'.cell? ⟨o1, 2, none⟩ = some (.string t1) ∧ w'.cell? ⟨o2, 3, none⟩ = some (.bool g4) ∧ w'.cell? ⟨o2, 4, none⟩ = some (.string s4) ∧ w'.cell? ⟨o2, 5, none⟩ = some (.string t4))
            (first | exact HCS.out _ (by assumption) | exact HCS.out _ (bAlloc (by assumption) _) | exact HCS.out _ (bAlloc (by assumption) _).drew | exact HCS.out _ (end_set HV.out (by assumption) (by assumption) (g10, s10, t10)).2)
            (first
              | (go_at_call 24; (with_reducible refine (Hm1.out wr.drew (HLW.out wr.drew hd)).mono ?_); rintro e wa ⟨rfl, hb⟩; have hd := bStep (w0 := wr) hd hb; clear hb)
              | (go_at_call 24; (with_reducible refine (Hm1.out ((wr.alloc (.cells #[.bool false, .string ⟨#[]⟩, .string ⟨#[]⟩] 24)).drew) (HLW.out ((wr.alloc (.cells #[.bool false, .string ⟨#[]⟩, .string ⟨#[]⟩] 24)).drew) hd2)).mono ?_); rintro e wa ⟨rfl, hb⟩; have hz := (ZW.newd (u := wr) (W := wr) (Below.refl _ _) 24).below hb; have hd := bStep (w0 := wr) hd2 hb; obtain ⟨⟨z0, z1, z2, fz0, fz1, fz2⟩, _⟩ := id hz; clear hb))
          all_goals
            go_wp2_with fail
            go_meet
            first
            | (obtain ⟨q1, q2⟩ := end_new HV.out (by assumption) (g10, s10, t10) 24; exact ⟨_, rfl, rfl, q1, q2⟩)
            | (obtain ⟨q1, q2⟩ := end_set HV.out (by assumption) (by assumption) (g10, s10, t10); exact ⟨_, rfl, rfl, q1, q2⟩)
        case rest =>
        obtain ⟨bm, rfl, rfl, hv, hb⟩ := hcut
        have HV2 := hide hv
        have HSL2 := hide (SliceOf.below HSL.out hb)
        have HSR2 := hide (SliceOf.below HSR.out hb)
        clear hv hb HV HSL HSR HCS
        obtain ⟨wq2, rfl⟩ : ∃ x, x = wc := ⟨_, rfl⟩
        go_upto_region 21 with fail
        go_cut [16] (fun z wy => ∃ b' : Bool, z = .bool b' ∧ IsB b' ((g7, s7, t7) ∈ [(g9, s9, t9), (g10, s10, t10), (g11, s11, t11), (g12, s12, t12)].take (1 + 1)) ∧ wy = wq2)
        case first =>
          obtain ⟨c0, c1, c2⟩ := HV2.out.at3 0 rfl
          obtain ⟨p0, p1, p2, p3, p4, p5⟩ := HV2.out.at6 3 rfl
          cases b1
          · rcases q3_cases g10 s10 t10 g7 s7 t7 with ⟨rfl, rfl, rfl⟩ | ⟨hne, hc⟩
            · have HT := hide (step_f (b := true) rfl HE1.out ⟨fun _ => rfl, fun _ => rfl⟩)
              go_wp2_with fail
              go_meet
              exact ⟨true, rfl, HT.out, rfl⟩
            · have HT := hide (step_f (b := false) (m := (g10, s10, t10)) rfl HE1.out ⟨fun h => (by cases h), fun h => absurd h hne⟩)
              clear hne
              rcases hc with q | ⟨rfl, q⟩ | ⟨rfl, rfl, q⟩
              all_goals
                go_wp2_with fail
                go_meet
                exact ⟨false, rfl, HT.out, rfl⟩
          · have HT := hide (step_t HE1.out)
            go_wp2_with fail
            go_meet
            exact ⟨true, rfl, HT.out, rfl⟩
        case rest =>
        obtain ⟨b3, rfl, e3, rfl⟩ := hcut
        have HE3 := hide e3
        clear e3
        obtain ⟨c0, c1, c2⟩ := HV2.out.at3 0 rfl
        obtain ⟨p0, p1, p2, p3, p4, p5⟩ := HV2.out.at6 3 rfl
        cases b2
        · rcases q3_cases g10 s10 t10 g8 s8 t8 with ⟨rfl, rfl, rfl⟩ | ⟨hne, hc⟩
          · have HT := hide (step_f (b := true) rfl HE2.out ⟨fun _ => rfl, fun _ => rfl⟩)
            go_wp2_with fail
            go_roundw
            case rel => exact ⟨1 + 1, _, _, by omega, by go_num, rfl, rfl, HE3.out, HT.out, HSL2.out, HSR2.out, HV2.out.tail⟩
            case measure => (simp [intOf]; try omega)
          · have HT := hide (step_f (b := false) (m := (g10, s10, t10)) rfl HE2.out ⟨fun h => (by cases h), fun h => absurd h hne⟩)
            clear hne
            rcases hc with q | ⟨rfl, q⟩ | ⟨rfl, rfl, q⟩
            all_goals
              go_wp2_with fail
              go_roundw
              case rel => exact ⟨1 + 1, _, _, by omega, by go_num, rfl, rfl, HE3.out, HT.out, HSL2.out, HSR2.out, HV2.out.tail⟩
              case measure => (simp [intOf]; try omega)
        · have HT := hide (step_t HE2.out)
          go_wp2_with fail
          go_roundw
          case rel => exact ⟨1 + 1, _, _, by omega, by go_num, rfl, rfl, HE3.out, HT.out, HSL2.out, HSR2.out, HV2.out.tail⟩
          case measure => (simp [intOf]; try omega)
      · obtain rfl : K = 2 := by omega
        clear hK
        have hcl := sl_two hsl
        have hcr := sl_two hsr
        have HCS : Hid (∀ W, Below wr.heap.size wr W → W.cell? ⟨o1, 3, none⟩ = some (.bool g2) ∧ W.cell? ⟨o1, 4, none⟩ = some (.string s2) ∧ W.cell? ⟨o1, 5, none⟩ = some (.string t2) ∧ W.cell? ⟨o2, 0, none⟩ = some (.bool g3) ∧ W.cell? ⟨o2, 1, none⟩ = some (.string s3) ∧ W.cell? ⟨o2, 2, none⟩ = some (.string t3)) := fun W h => by
          obtain ⟨⟨p0, p1, p2⟩, p3, p4, p5⟩ := sl_two (SliceOf.below HSL.out h)
          obtain ⟨⟨r0, r1, r2⟩, r3, r4, r5⟩ := sl_two (SliceOf.below HSR.out h)
          exact ⟨by assumption, by assumption, by assumption, by assumption, by assumption, by assumption⟩
        clear hsl hsr hcl hcr
        have hwr0 : IntKind.i64.wrap (0 : Int) = 0 := rfl
        have hwr1 : IntKind.i64.wrap (1 : Int) = 1 := rfl
        go_wp2_with fail
        go_cut [19, 20] (fun z19 z20 wx => ∃ b, z19 = .pointer (some ⟨b, 0, none⟩) ∧ z20 = .int .i64 0 ∧ VB w wx ((b, [.bool g11, .string s11, .string t11]) :: [(w6.heap.size, [.bool g6, .string s6, .string t6]), (w5.heap.size, [.bool g5, .string s5, .string t5]), (w4.heap.size, [.bool g7, .string s7, .string t7, .bool g8, .string s8, .string t8]), (w3.heap.size, [.bool g5, .string s5, .string t5, .bool g6, .string s6, .string t6]), (w.heap.size + 1, [.bool g3, .string s3, .string t3, .bool g4, .string s4, .string t4]), (w.heap.size, [.bool g1, .string s1, .string t1, .bool g2, .string s2, .string t2])]) ∧ Below wr.heap.size wr wx)
        case first =>
          have hd := (Below.refl wr.heap.size wr).drew
          have hd2 := (bAlloc (Below.refl wr.heap.size wr) (.cells #[.bool false, .string ⟨#[]⟩, .string ⟨#[]⟩] 24)).drew
          have HLW : Hid (∀ W, Below wr.heap.size wr W → LawW W) := fun W h => (HV.out.below h).law HW.out
          go_region_held3 (fun w' => w'.cell? ⟨o1, 3, none⟩ = some (.bool g2) ∧ w'.cell? ⟨o1, 4, none⟩ = some (.string s2) ∧ w'.cell? ⟨o1, 5, none⟩ = some (.string t2) ∧ w'.cell? ⟨o2, 0, none⟩ = some (.bool g3) ∧ w'.cell? ⟨o2, 1, none⟩ = some (.string s3) ∧ w'.cell? ⟨o2, 2, none⟩ = some (.string t3))
            (first | exact HCS.out _ (by assumption) | exact HCS.out _ (bAlloc (by assumption) _) | exact HCS.out _ (bAlloc (by assumption) _).drew | exact HCS.out _ (end_set HV.out (by assumption) (by assumption) (g11, s11, t11)).2)
            (first
              | (go_at_call 24; (with_reducible refine (Hm2.out wr.drew (HLW.out wr.drew hd)).mono ?_); rintro e wa ⟨rfl, hb⟩; have hd := bStep (w0 := wr) hd hb; clear hb)
              | (go_at_call 24; (with_reducible refine (Hm2.out ((wr.alloc (.cells #[.bool false, .string ⟨#[]⟩, .string ⟨#[]⟩] 24)).drew) (HLW.out ((wr.alloc (.cells #[.bool false, .string ⟨#[]⟩, .string ⟨#[]⟩] 24)).drew) hd2)).mono ?_); rintro e wa ⟨rfl, hb⟩; have hz := (ZW.newd (u := wr) (W := wr) (Below.refl _ _) 24).below hb; have hd := bStep (w0 := wr) hd2 hb; obtain ⟨⟨z0, z1, z2, fz0, fz1, fz2⟩, _⟩ := id hz; clear hb))
          all_goals
            go_wp2_with fail
            go_meet
            first
            | (obtain ⟨q1, q2⟩ := end_new HV.out (by assumption) (g11, s11, t11) 24; exact ⟨_, rfl, rfl, q1, q2⟩)
            | (obtain ⟨q1, q2⟩ := end_set HV.out (by assumption) (by assumption) (g11, s11, t11); exact ⟨_, rfl, rfl, q1, q2⟩)
        case rest =>
        obtain ⟨bm, rfl, rfl, hv, hb⟩ := hcut
        have HV2 := hide hv
        have HSL2 := hide (SliceOf.below HSL.out hb)
        have HSR2 := hide (SliceOf.below HSR.out hb)
        clear hv hb HV HSL HSR HCS
        obtain ⟨wq2, rfl⟩ : ∃ x, x = wc := ⟨_, rfl⟩
        go_upto_region 21 with fail
        go_cut [16] (fun z wy => ∃ b' : Bool, z = .bool b' ∧ IsB b' ((g7, s7, t7) ∈ [(g9, s9, t9), (g10, s10, t10), (g11, s11, t11), (g12, s12, t12)].take (2 + 1)) ∧ wy = wq2)
        case first =>
          obtain ⟨c0, c1, c2⟩ := HV2.out.at3 0 rfl
          obtain ⟨p0, p1, p2, p3, p4, p5⟩ := HV2.out.at6 3 rfl
          cases b1
          · rcases q3_cases g11 s11 t11 g7 s7 t7 with ⟨rfl, rfl, rfl⟩ | ⟨hne, hc⟩
            · have HT := hide (step_f (b := true) rfl HE1.out ⟨fun _ => rfl, fun _ => rfl⟩)
              go_wp2_with fail
              go_meet
              exact ⟨true, rfl, HT.out, rfl⟩
            · have HT := hide (step_f (b := false) (m := (g11, s11, t11)) rfl HE1.out ⟨fun h => (by cases h), fun h => absurd h hne⟩)
              clear hne
              rcases hc with q | ⟨rfl, q⟩ | ⟨rfl, rfl, q⟩
              all_goals
                go_wp2_with fail
                go_meet
                exact ⟨false, rfl, HT.out, rfl⟩
          · have HT := hide (step_t HE1.out)
            go_wp2_with fail
            go_meet
            exact ⟨true, rfl, HT.out, rfl⟩
        case rest =>
        obtain ⟨b3, rfl, e3, rfl⟩ := hcut
        have HE3 := hide e3
        clear e3
        obtain ⟨c0, c1, c2⟩ := HV2.out.at3 0 rfl
        obtain ⟨p0, p1, p2, p3, p4, p5⟩ := HV2.out.at6 3 rfl
        cases b2
        · rcases q3_cases g11 s11 t11 g8 s8 t8 with ⟨rfl, rfl, rfl⟩ | ⟨hne, hc⟩
          · have HT := hide (step_f (b := true) rfl HE2.out ⟨fun _ => rfl, fun _ => rfl⟩)
            go_wp2_with fail
            go_roundw
            case rel => exact ⟨2 + 1, _, _, by omega, by go_num, rfl, rfl, HE3.out, HT.out, HSL2.out, HSR2.out, HV2.out.tail⟩
            case measure => (simp [intOf]; try omega)
          · have HT := hide (step_f (b := false) (m := (g11, s11, t11)) rfl HE2.out ⟨fun h => (by cases h), fun h => absurd h hne⟩)
            clear hne
            rcases hc with q | ⟨rfl, q⟩ | ⟨rfl, rfl, q⟩
            all_goals
              go_wp2_with fail
              go_roundw
              case rel => exact ⟨2 + 1, _, _, by omega, by go_num, rfl, rfl, HE3.out, HT.out, HSL2.out, HSR2.out, HV2.out.tail⟩
              case measure => (simp [intOf]; try omega)
        · have HT := hide (step_t HE2.out)
          go_wp2_with fail
          go_roundw
          case rel => exact ⟨2 + 1, _, _, by omega, by go_num, rfl, rfl, HE3.out, HT.out, HSL2.out, HSR2.out, HV2.out.tail⟩
          case measure => (simp [intOf]; try omega)
      · obtain rfl : K = 3 := by omega
        clear hK
        have hcl := sl_two hsl
        have hcr := sl_two hsr
        have HCS : Hid (∀ W, Below wr.heap.size wr W → W.cell? ⟨o1, 3, none⟩ = some (.bool g2) ∧ W.cell? ⟨o1, 4, none⟩ = some (.string s2) ∧ W.cell? ⟨o1, 5, none⟩ = some (.string t2) ∧ W.cell? ⟨o2, 3, none⟩ = some (.bool g4) ∧ W.cell? ⟨o2, 4, none⟩ = some (.string s4) ∧ W.cell? ⟨o2, 5, none⟩ = some (.string t4)) := fun W h => by
          obtain ⟨⟨p0, p1, p2⟩, p3, p4, p5⟩ := sl_two (SliceOf.below HSL.out h)
          obtain ⟨⟨r0, r1, r2⟩, r3, r4, r5⟩ := sl_two (SliceOf.below HSR.out h)
          exact ⟨by assumption, by assumption, by assumption, by assumption, by assumption, by assumption⟩
        clear hsl hsr hcl hcr
        have hwr0 : IntKind.i64.wrap (0 : Int) = 0 := rfl
        have hwr1 : IntKind.i64.wrap (1 : Int) = 1 := rfl
        go_wp2_with fail
        go_cut [19, 20] (fun z19 z20 wx => ∃ b, z19 = .pointer (some ⟨b, 0, none⟩) ∧ z20 = .int .i64 0 ∧ VB w wx ((b, [.bool g12, .string s12, .string t12]) :: [(w6.heap.size, [.bool g6, .string s6, .string t6]), (w5.heap.size, [.bool g5, .string s5, .string t5]), (w4.heap.size, [.bool g7, .string s7, .string t7, .bool g8, .string s8, .string t8]), (w3.heap.size, [.bool g5, .string s5, .string t5, .bool g6, .string s6, .string t6]), (w.heap.size + 1, [.bool g3, .string s3, .string t3, .bool g4, .string s4, .string t4]), (w.heap.size, [.bool g1, .string s1, .string t1, .bool g2, .string s2, .string t2])]) ∧ Below wr.heap.size wr wx)
        case first =>
          have hd := (Below.refl wr.heap.size wr).drew
          have hd2 := (bAlloc (Below.refl wr.heap.size wr) (.cells #[.bool false, .string ⟨#[]⟩, .string ⟨#[]⟩] 24)).drew
          have HLW : Hid (∀ W, Below wr.heap.size wr W → LawW W) := fun W h => (HV.out.below h).law HW.out
          go_region_held3 (fun w' => w'.cell? ⟨o1, 3, none⟩ = some (.bool g2) ∧ w'.cell? ⟨o1, 4, none⟩ = some (.string s2) ∧ w'.cell? ⟨o1, 5, none⟩ = some (.string t2) ∧ w'.cell? ⟨o2, 3, none⟩ = some (.bool g4) ∧ w'.cell? ⟨o2, 4, none⟩ = some (.string s4) ∧ w'.cell? ⟨o2, 5, none⟩ = some (.string t4))
            (first | exact HCS.out _ (by assumption) | exact HCS.out _ (bAlloc (by assumption) _) | exact HCS.out _ (bAlloc (by assumption) _).drew | exact HCS.out _ (end_set HV.out (by assumption) (by assumption) (g12, s12, t12)).2)
            (first
              | (go_at_call 24; (with_reducible refine (Hm3.out wr.drew (HLW.out wr.drew hd)).mono ?_); rintro e wa ⟨rfl, hb⟩; have hd := bStep (w0 := wr) hd hb; clear hb)
              | (go_at_call 24; (with_reducible refine (Hm3.out ((wr.alloc (.cells #[.bool false, .string ⟨#[]⟩, .string ⟨#[]⟩] 24)).drew) (HLW.out ((wr.alloc (.cells #[.bool false, .string ⟨#[]⟩, .string ⟨#[]⟩] 24)).drew) hd2)).mono ?_); rintro e wa ⟨rfl, hb⟩; have hz := (ZW.newd (u := wr) (W := wr) (Below.refl _ _) 24).below hb; have hd := bStep (w0 := wr) hd2 hb; obtain ⟨⟨z0, z1, z2, fz0, fz1, fz2⟩, _⟩ := id hz; clear hb))
          all_goals
            go_wp2_with fail
            go_meet
            first
            | (obtain ⟨q1, q2⟩ := end_new HV.out (by assumption) (g12, s12, t12) 24; exact ⟨_, rfl, rfl, q1, q2⟩)
            | (obtain ⟨q1, q2⟩ := end_set HV.out (by assumption) (by assumption) (g12, s12, t12); exact ⟨_, rfl, rfl, q1, q2⟩)
        case rest =>
        obtain ⟨bm, rfl, rfl, hv, hb⟩ := hcut
        have HV2 := hide hv
        have HSL2 := hide (SliceOf.below HSL.out hb)
        have HSR2 := hide (SliceOf.below HSR.out hb)
        clear hv hb HV HSL HSR HCS
        obtain ⟨wq2, rfl⟩ : ∃ x, x = wc := ⟨_, rfl⟩
        go_upto_region 21 with fail
        go_cut [16] (fun z wy => ∃ b' : Bool, z = .bool b' ∧ IsB b' ((g7, s7, t7) ∈ [(g9, s9, t9), (g10, s10, t10), (g11, s11, t11), (g12, s12, t12)].take (3 + 1)) ∧ wy = wq2)
        case first =>
          obtain ⟨c0, c1, c2⟩ := HV2.out.at3 0 rfl
          obtain ⟨p0, p1, p2, p3, p4, p5⟩ := HV2.out.at6 3 rfl
          cases b1
          · rcases q3_cases g12 s12 t12 g7 s7 t7 with ⟨rfl, rfl, rfl⟩ | ⟨hne, hc⟩
            · have HT := hide (step_f (b := true) rfl HE1.out ⟨fun _ => rfl, fun _ => rfl⟩)
              go_wp2_with fail
              go_meet
              exact ⟨true, rfl, HT.out, rfl⟩
            · have HT := hide (step_f (b := false) (m := (g12, s12, t12)) rfl HE1.out ⟨fun h => (by cases h), fun h => absurd h hne⟩)
              clear hne
              rcases hc with q | ⟨rfl, q⟩ | ⟨rfl, rfl, q⟩
              all_goals
                go_wp2_with fail
                go_meet
                exact ⟨false, rfl, HT.out, rfl⟩
          · have HT := hide (step_t HE1.out)
            go_wp2_with fail
            go_meet
            exact ⟨true, rfl, HT.out, rfl⟩
        case rest =>
        obtain ⟨b3, rfl, e3, rfl⟩ := hcut
        have HE3 := hide e3
        clear e3
        obtain ⟨c0, c1, c2⟩ := HV2.out.at3 0 rfl
        obtain ⟨p0, p1, p2, p3, p4, p5⟩ := HV2.out.at6 3 rfl
        cases b2
        · rcases q3_cases g12 s12 t12 g8 s8 t8 with ⟨rfl, rfl, rfl⟩ | ⟨hne, hc⟩
          · have HT := hide (step_f (b := true) rfl HE2.out ⟨fun _ => rfl, fun _ => rfl⟩)
            go_wp2_with fail
            go_roundw
            case rel => exact ⟨3 + 1, _, _, by omega, by go_num, rfl, rfl, HE3.out, HT.out, HSL2.out, HSR2.out, HV2.out.tail⟩
            case measure => (simp [intOf]; try omega)
          · have HT := hide (step_f (b := false) (m := (g12, s12, t12)) rfl HE2.out ⟨fun h => (by cases h), fun h => absurd h hne⟩)
            clear hne
            rcases hc with q | ⟨rfl, q⟩ | ⟨rfl, rfl, q⟩
            all_goals
              go_wp2_with fail
              go_roundw
              case rel => exact ⟨3 + 1, _, _, by omega, by go_num, rfl, rfl, HE3.out, HT.out, HSL2.out, HSR2.out, HV2.out.tail⟩
              case measure => (simp [intOf]; try omega)
        · have HT := hide (step_t HE2.out)
          go_wp2_with fail
          go_roundw
          case rel => exact ⟨3 + 1, _, _, by omega, by go_num, rfl, rfl, HE3.out, HT.out, HSL2.out, HSR2.out, HV2.out.tail⟩
          case measure => (simp [intOf]; try omega)
      · obtain rfl : K = 4 := by omega
        clear hK
        have t1 : b1 = true := HE1.out.2 HLO.out
        have t2 : b2 = true := HE2.out.2 HHI.out
        subst t1 t2
        clear hsl hsr HSL HSR HE1 HE2
        obtain ⟨p0, p1, p2, p3, p4, p5⟩ := HV.out.at6 2 rfl
        go_wp2_with fail
        refine (Hh6.out _ (HV.out.law HW.out)).mono ?_
        rintro e w9 ⟨rfl, hb⟩
        have HV9 := hide (HV.out.below hb)
        clear hb
        go_wp2_with fail
        go_ret
        exact ⟨rfl, HV9.out.bel⟩
theorem intervalEnds (a c : Q3 × Q3) (W : World) (hW : LawW W) : Calls Tryz.prog 5 #[iArg a, iArg c] W fun e w' => e = .returned (.bool true) ∧ Below W.heap.size W w' := by
  obtain ⟨f, hf⟩ : ∃ f, (fewI [a, c] && fewQ 60 []) = f := ⟨_, rfl⟩
  cases f
  · exact ends_0 _ _ _ _ _ _ _ _ _ _ _ _ W hf hW
  have hf' := hf
  rw [Bool.and_eq_true] at hf
  obtain ⟨sa, sc⟩ := fewI_two hf.1
  rcases two_cases sa sc with ⟨oa, oc⟩ | ⟨b1, _⟩
  case inr => exact ends_1 _ _ _ _ _ _ _ _ _ _ _ _ W (c_add_bad b1) (c_mul_bad b1) hf' hW
  obtain ⟨x, i1, e1⟩ := IsX.get (oa.lo.sz.add oc.lo.sz)
  obtain ⟨y, i2, e2⟩ := IsX.get (oa.hi.sz.add oc.hi.sz)
  have h1 := c_add oa oc (by omega) i1 i2 e1 e2
  have h3 : RetC 23 #[qArg a.1, qArg c.1] (.tuple #[qArg x, .int .i64 0]) := fun W hW => add_okq oa.lo.sz oc.lo.sz (by omega) e1.symm oa.lo.q oc.lo.q i1.q W hW
  have h4 : RetC 23 #[qArg a.2, qArg c.2] (.tuple #[qArg y, .int .i64 0]) := fun W hW => add_okq oa.hi.sz oc.hi.sz (by omega) e2.symm oa.hi.q oc.hi.q i2.q W hW
  have osum : IvOk (60 + 60 + 1) (x, y) := ⟨i1, i2, by show qv x ≤ qv y; rw [e1, e2]; have := oa.le; have := oc.le; grind⟩
  have h5 := ivx_ok osum (by omega)
  obtain ⟨l, pl⟩ := Prods.get oa oc
  obtain ⟨m, hm⟩ := min_ex l pl.ne
  obtain ⟨n, hn⟩ := max_ex l pl.ne
  have h2 := c_mul oa oc (by omega) pl hm hn
  have h6 := ivx_ok (a := (m, n)) (k := 60 + 60) ⟨pl.isx _ hm.1, pl.isx _ hn.1, hm.2 _ hn.1⟩ (by omega)
  have hml := hm.1
  have hnl := hn.1
  obtain ⟨m0, m1, m2, m3, rfl, ⟨x0, x1, x2, x3⟩, f0, f1, f2, f3⟩ := pl.all
  have k0 : RetC 24 #[qArg a.1, qArg c.1] (.tuple #[qArg m0, .int .i64 0]) := fun W hW => mul_okq oa.lo.sz oc.lo.sz (by omega) f0.symm oa.lo.q oc.lo.q x0.q W hW
  have k1 : RetC 24 #[qArg a.1, qArg c.2] (.tuple #[qArg m1, .int .i64 0]) := fun W hW => mul_okq oa.lo.sz oc.hi.sz (by omega) f1.symm oa.lo.q oc.hi.q x1.q W hW
  have k2 : RetC 24 #[qArg a.2, qArg c.1] (.tuple #[qArg m2, .int .i64 0]) := fun W hW => mul_okq oa.hi.sz oc.lo.sz (by omega) f2.symm oa.hi.q oc.lo.q x2.q W hW
  have k3 : RetC 24 #[qArg a.2, qArg c.2] (.tuple #[qArg m3, .int .i64 0]) := fun W hW => mul_okq oa.hi.sz oc.hi.sz (by omega) f3.symm oa.hi.q oc.hi.q x3.q W hW
  exact ends_2 _ _ _ _ _ _ _ _ _ _ _ _ x.1 x.2.1 x.2.2 y.1 y.2.1 y.2.2 m.1 m.2.1 m.2.2 n.1 n.2.1 n.2.2 m0.1 m0.2.1 m0.2.2 m1.1 m1.2.1 m1.2.2 m2.1 m2.2.1 m2.2.2 m3.1 m3.2.1 m3.2.2 W h1 h2 h3 h4 h5 k0 k1 k2 k3 h6 hml hnl hf' hW
end Go.Proofs.YtbojlmnajndleaaGreatDoor
