/- debt: the costs; charge. -/
import Derived.Test.YtlagoiaiodjmhaaGreatDoorDeH
set_option linter.unusedVariables false
set_option linter.unusedSimpArgs false
namespace Go.Proofs.YtlagoiaiodjmhaaGreatDoor
open Go.RowKit Go.Maps

/-- A block of n rational numbers, as texts. -/
structure RB (w : World) (b n : Nat) (f : Nat → Bool × ByteArray × ByteArray) : Prop where
  c : ∀ i, i < n → w.cell? ⟨b, i * 3, none⟩ = some (.bool (f i).1) ∧ w.cell? ⟨b, i * 3 + 1, none⟩ = some (.string (f i).2.1) ∧ w.cell? ⟨b, i * 3 + 2, none⟩ = some (.string (f i).2.2)
  z : ∀ i, i < n → w.frozen? ⟨b, i * 3, none⟩ = false ∧ w.frozen? ⟨b, i * 3 + 1, none⟩ = false ∧ w.frozen? ⟨b, i * 3 + 2, none⟩ = false
  lt : b < w.heap.size
theorem RB.kept {w w' : World} {b n : Nat} {f : Nat → Bool × ByteArray × ByteArray} {row : Option Nat} (h : RB w b n f) (hg : w.grownBy w' row) (hne : some b ≠ row) : RB w' b n f := by
  have e := hg.block b h.lt hne
  refine ⟨fun i hi => ?_, fun i hi => ?_, Nat.lt_of_lt_of_le h.lt hg.size⟩
  · obtain ⟨h1, h2, h3⟩ := h.c i hi
    exact ⟨(World.cell?_of_block (a := ⟨b, i * 3, none⟩) e).trans h1, (World.cell?_of_block (a := ⟨b, i * 3 + 1, none⟩) e).trans h2, (World.cell?_of_block (a := ⟨b, i * 3 + 2, none⟩) e).trans h3⟩
  · obtain ⟨h1, h2, h3⟩ := h.z i hi
    exact ⟨(World.frozen?_of_block (a := ⟨b, i * 3, none⟩) e).trans h1, (World.frozen?_of_block (a := ⟨b, i * 3 + 1, none⟩) e).trans h2, (World.frozen?_of_block (a := ⟨b, i * 3 + 2, none⟩) e).trans h3⟩
theorem grown_of_below {w w' : World} (h : Below w.heap.size w w') : w.grownBy w' none := ⟨h.os, h.tape, h.output, h.size, fun k hk _ => h.block k hk⟩
theorem RB.below {w w' : World} {b n : Nat} {f : Nat → Bool × ByteArray × ByteArray} (h : RB w b n f) (hb : Below w.heap.size w w') : RB w' b n f := h.kept (grown_of_below hb) (by simp)
theorem RB.congr {w : World} {b n : Nat} {f g : Nat → Bool × ByteArray × ByteArray} (h : RB w b n f) (e : ∀ i, i < n → f i = g i) : RB w b n g := ⟨fun i hi => by rw [← e i hi]; exact h.c i hi, h.z, h.lt⟩
theorem RB.set {w : World} {b n : Nat} {f : Nat → Bool × ByteArray × ByteArray} (h : RB w b n f) {i : Nat} (hi : i < n) (g : Bool) (s t : ByteArray) :
    RB (((w.setCell ⟨b, i * 3, none⟩ (.bool g)).setCell ⟨b, i * 3 + 1, none⟩ (.string s)).setCell ⟨b, i * 3 + 2, none⟩ (.string t)) b n (fun j => if j = i then (g, s, t) else f j) := by
  have ne : ∀ {x y : Nat}, x ≠ y → (⟨b, x, none⟩ : Addr) ≠ ⟨b, y, none⟩ := fun h e => h (by injection e)
  have far : ∀ x, x ≠ i * 3 → x ≠ i * 3 + 1 → x ≠ i * 3 + 2 → (((w.setCell ⟨b, i * 3, none⟩ (.bool g)).setCell ⟨b, i * 3 + 1, none⟩ (.string s)).setCell ⟨b, i * 3 + 2, none⟩ (.string t)).cell? ⟨b, x, none⟩ = w.cell? ⟨b, x, none⟩ := fun x h0 h1 h2 => by
    rw [World.cell?_setCell_other _ _ _ _ (ne h2.symm), World.cell?_setCell_other _ _ _ _ (ne h1.symm), World.cell?_setCell_other _ _ _ _ (ne h0.symm)]
  refine ⟨fun j hj => ?_, fun j hj => by simp only [World.frozen?_setCell]; exact h.z j hj, by simpa using h.lt⟩
  by_cases e : j = i
  · subst e
    simp only [if_true]
    obtain ⟨c0, c1, c2⟩ := h.c j hj
    refine ⟨?_, ?_, ?_⟩
    · rw [World.cell?_setCell_other _ _ _ _ (ne (by omega)), World.cell?_setCell_other _ _ _ _ (ne (by omega))]
      exact World.cell?_setCell_same _ _ _ c0
    · rw [World.cell?_setCell_other _ _ _ _ (ne (by omega))]
      exact World.cell?_setCell_same _ _ _ ((World.cell?_setCell_other _ _ _ _ (ne (by omega))).trans c1)
    · exact World.cell?_setCell_same _ _ _ ((World.cell?_setCell_other _ _ _ _ (ne (by omega))).trans ((World.cell?_setCell_other _ _ _ _ (ne (by omega))).trans c2))
  · simp only [if_neg e]
    obtain ⟨c0, c1, c2⟩ := h.c j hj
    exact ⟨(far _ (by omega) (by omega) (by omega)).trans c0, (far _ (by omega) (by omega) (by omega)).trans c1, (far _ (by omega) (by omega) (by omega)).trans c2⟩
theorem grown_set3 (w : World) (b x y z : Nat) (u v t : Value) : w.grownBy (((w.setCell ⟨b, x, none⟩ u).setCell ⟨b, y, none⟩ v).setCell ⟨b, z, none⟩ t) (some b) := by
  refine ⟨rfl, rfl, rfl, by simp, fun k _ hne => ?_⟩
  have h : ∀ (W : World) (o : Nat) (u : Value), (W.setCell ⟨b, o, none⟩ u).heap[k]? = W.heap[k]? := fun W o u => Below.heap_setCell _ _ _ _ fun e => hne (by rw [e])
  rw [h, h, h]
set_option maxHeartbeats 8000000 in
set_option maxRecDepth 100000 in
theorem de_charge (P p O OV cp : Nat) (f : Nat → Bool × ByteArray × ByteArray) (g2 g3 : Bool) (s2 t2 s3 t3 : ByteArray) (w : World) (hp : p < P) (hP : P ≤ 64) (hcp : (P : Int) ≤ (cp : Int) ∧ (cp : Int) ≤ 9223372036854775807) (hO : w.cell? ⟨OV, 0, none⟩ = some (.slice (some ⟨O, 0, none⟩) P cp)) (hne : OV ≠ O) (hr : RB w O P f)
    (hadd : ∀ W, Below w.heap.size w W → Calls Tryz.prog 24 #[.agg #[.bool (f p).1, .string (f p).2.1, .string (f p).2.2], .agg #[.bool g2, .string s2, .string t2]] W fun e w' => e = .returned (.tuple #[.agg #[.bool g3, .string s3, .string t3], .int .i64 0]) ∧ Below W.heap.size W w') :
    Calls Tryz.prog 36 #[.int .i64 (p : Int), .agg #[.bool g2, .string s2, .string t2], .pointer (some ⟨OV, 0, none⟩)] w fun e w' =>
      e = .returned (.tuple #[]) ∧ RB w' O P (fun j => if j = p then (g3, s3, t3) else f j) ∧ w.grownBy w' (some O) := by
  have hpi : (p : Int) < (P : Int) := by omega
  have hp0 : (0 : Int) ≤ (p : Int) := by omega
  have hPI : (P : Int) ≤ 64 := by omega
  obtain ⟨hcp1, hcp2⟩ := hcp
  have HBX := hide (bAlloc (Below.refl w.heap.size w) (.cells #[.bool g2, .string s2, .string t2] 57))
  have HR1 := hide (hr.below HBX.out)
  have HO1 := hide (keep_cell HBX.out hO)
  have HXC : Hid (RC (w.alloc (.cells #[.bool g2, .string s2, .string t2] 57)) w.heap.size g2 s2 t2) := RC.new _ _ _ _ _
  have HAD := hide (fun W (hW : Below (w.alloc (.cells #[.bool g2, .string s2, .string t2] 57)).heap.size (w.alloc (.cells #[.bool g2, .string s2, .string t2] 57)) W) => hadd W (bStepD HBX.out hW))
  have HNX : Hid (w.heap.size ≠ O) := fun e => by have := hr.lt; omega
  clear hr hO hadd
  obtain ⟨X, hX⟩ : ∃ X, w.heap.size = X := ⟨_, rfl⟩
  obtain ⟨w1, hw1⟩ : ∃ W, w.alloc (.cells #[.bool g2, .string s2, .string t2] 57) = W := ⟨_, rfl⟩
  rw [hw1] at HBX HR1 HO1 HXC HAD
  rw [hX] at HXC HNX
  have HX := hide hX
  have HW1 := hide hw1
  clear hX hw1
  go_enter Tryz.func36, Tryz.ntmps36
  go_upto_region 1 with fail
  rw [HX.out]
  try rw [HW1.out]
  obtain ⟨⟨g1, s1, t1⟩, hfp⟩ : ∃ x, f p = x := ⟨_, rfl⟩
  rw [hfp] at HAD
  obtain ⟨r0, r1, r2⟩ := HR1.out.c p hp
  rw [hfp] at r0 r1 r2
  have o0 := HO1.out
  obtain ⟨x0, x1, x2, -, -, -⟩ := HXC.out
  have q0 : w1.drew.cell? ⟨OV, 0, none⟩ = some (.slice (some ⟨O, 0, none⟩) P cp) := o0
  have q1 : w1.drew.cell? ⟨O, (p : Nat) * 3, none⟩ = some (.bool g1) := r0
  have q2 : w1.drew.cell? ⟨O, (p : Nat) * 3 + 1, none⟩ = some (.string s1) := r1
  have q3 : w1.drew.cell? ⟨O, (p : Nat) * 3 + 2, none⟩ = some (.string t1) := r2
  have hneO : O ≠ OV := hne.symm
  have hneX : O ≠ X := fun e => HNX.out e.symm
  have HS1 : Hid (∀ W, Below w1.heap.size w1 W → W.cell? ⟨OV, 0, none⟩ = some (.slice (some ⟨O, 0, none⟩) P cp) ∧ W.cell? ⟨X, 0, none⟩ = some (.bool g2) ∧ W.cell? ⟨X, 1, none⟩ = some (.string s2) ∧ W.cell? ⟨X, 2, none⟩ = some (.string t2)) := fun W hW => ⟨keep_cell hW o0, keep_cell hW x0, keep_cell hW x1, keep_cell hW x2⟩
  have HZ : Hid (Below w1.heap.size w1 w1) := Below.refl _ _
  clear hfp r0 r1 r2 o0 x0 x1 x2
  refine wp_region_noPanic ?_
  refine wp_region_held_drew (S := (fun w' => w'.cell? ⟨OV, 0, none⟩ = some (.slice (some ⟨O, 0, none⟩) P cp) ∧ w'.cell? ⟨X, 0, none⟩ = some (.bool g2) ∧ w'.cell? ⟨X, 1, none⟩ = some (.string s2) ∧ w'.cell? ⟨X, 2, none⟩ = some (.string t2))) (by kernel_rfl) (HS1.out _ (bDraw HZ.out)) (fun hHeld => ?_)
  change wpAnyH _ _ _ _ _ 13 #[false, false, false, false, false, false, false, false, false, false, false, false, false] _ _
  refine wpAnyH_take (i := 0) (oi := _) (v := ?_) rfl (by kernel_rfl) (by kernel_rfl) (by kernel_rfl) (fun _ _ _ h => h) (Or.inl ⟨by rfl, ?_⟩) (by assumption) ?_
  rotate_left
  · intro w hSw
    (try dsimp only at hSw)
    go_simp
    try with_reducible rfl
  try simp only [List.getElem_toArray, List.getElem_cons_zero, List.getElem_cons_succ, List.get, Act.put, List.setIfInBounds_toArray, List.set_cons_zero, List.set_cons_succ]
  refine wpAnyH_take (i := 1) (oi := _) (v := ?_) rfl (by kernel_rfl) (by kernel_rfl) (by kernel_rfl) (fun _ _ _ h => h) (Or.inl ⟨by rfl, ?_⟩) (by assumption) ?_
  rotate_left
  · intro w hSw
    (try dsimp only at hSw)
    go_simp
    try with_reducible rfl
  try simp only [List.getElem_toArray, List.getElem_cons_zero, List.getElem_cons_succ, List.get, Act.put, List.setIfInBounds_toArray, List.set_cons_zero, List.set_cons_succ]
  refine wpAnyH_take (i := 2) (oi := _) (v := ?_) rfl (by kernel_rfl) (by kernel_rfl) (by kernel_rfl) (fun _ _ _ h => h) (Or.inl ⟨by rfl, ?_⟩) (by assumption) ?_
  rotate_left
  · intro w hSw
    (try dsimp only at hSw)
    go_simp
    try with_reducible rfl
  try simp only [List.getElem_toArray, List.getElem_cons_zero, List.getElem_cons_succ, List.get, Act.put, List.setIfInBounds_toArray, List.set_cons_zero, List.set_cons_succ]
  refine wpAnyH_take (i := 3) (oi := _) (v := ?_) rfl (by kernel_rfl) (by kernel_rfl) (by kernel_rfl) (fun _ _ _ h => h) (Or.inl ⟨by rfl, ?_⟩) (by assumption) ?_
  rotate_left
  · intro w hSw
    (try dsimp only at hSw)
    go_simp
    try with_reducible rfl
  try simp only [List.getElem_toArray, List.getElem_cons_zero, List.getElem_cons_succ, List.get, Act.put, List.setIfInBounds_toArray, List.set_cons_zero, List.set_cons_succ]
  refine wpAnyH_take (i := 4) (oi := _) (v := ?_) rfl (by kernel_rfl) (by kernel_rfl) (by kernel_rfl) (fun _ _ _ h => h) (Or.inl ⟨by rfl, ?_⟩) (by assumption) ?_
  rotate_left
  · intro w hSw
    (try dsimp only at hSw)
    go_simp
    try with_reducible rfl
  try simp only [List.getElem_toArray, List.getElem_cons_zero, List.getElem_cons_succ, List.get, Act.put, List.setIfInBounds_toArray, List.set_cons_zero, List.set_cons_succ]
  refine wpAnyH_take (i := 6) (oi := _) (v := ?_) rfl (by kernel_rfl) (by kernel_rfl) (by kernel_rfl) (fun _ _ _ h => h) (Or.inl ⟨by rfl, ?_⟩) (by assumption) ?_
  rotate_left
  · intro w hSw
    (try dsimp only at hSw)
    go_simp
    try with_reducible rfl
  try simp only [List.getElem_toArray, List.getElem_cons_zero, List.getElem_cons_succ, List.get, Act.put, List.setIfInBounds_toArray, List.set_cons_zero, List.set_cons_succ]
  refine wpAnyH_ready (rs := [5]) (by kernel_rfl) (by simp) ?_
  refine AllReadyH.cons (o := _) rfl (fun K hK => ?_) AllReadyH.nil
  go_simp
  replace hK := hide hK
  refine hK.out _ _ (HS1.out _ (bDraw HZ.out)) (fun hHeld => ?_)
  clear hK K
  try simp only [List.getElem_toArray, List.getElem_cons_zero, List.getElem_cons_succ, List.get, Act.put, List.setIfInBounds_toArray, List.set_cons_zero, List.set_cons_succ]
  refine wpAnyH_ready (rs := [7]) (by kernel_rfl) (by simp) ?_
  refine AllReadyH.cons (o := _) rfl (fun K hK => ?_) AllReadyH.nil
  go_simp
  replace hK := hide hK
  go_at_call 24
  refine (HAD.out _ (bDraw HZ.out)).mono ?_
  rintro e w2 ⟨rfl, hb⟩
  have HB2 := hide (bStepD (bDraw HZ.out) hb)
  have HR2 := hide (HR1.out.below HB2.out)
  obtain ⟨k0, k1, k2⟩ := HR2.out.c p hp
  obtain ⟨z0, z1, z2⟩ := HR2.out.z p hp
  clear hb
  go_wp2_with fail
  refine hK.out _ _ (HS1.out _ HB2.out) (fun hHeld => ?_)
  clear hK K
  try simp only [List.getElem_toArray, List.getElem_cons_zero, List.getElem_cons_succ, List.get, Act.put, List.setIfInBounds_toArray, List.set_cons_zero, List.set_cons_succ]
  refine wpAnyH_take (i := 8) (oi := _) (v := ?_) rfl (by kernel_rfl) (by kernel_rfl) (by kernel_rfl) (fun _ _ _ h => h) (Or.inl ⟨by rfl, ?_⟩) (by assumption) ?_
  rotate_left
  · intro w hSw
    (try dsimp only at hSw)
    go_simp
    try with_reducible rfl
  try simp only [List.getElem_toArray, List.getElem_cons_zero, List.getElem_cons_succ, List.get, Act.put, List.setIfInBounds_toArray, List.set_cons_zero, List.set_cons_succ]
  refine wpAnyH_take (i := 9) (oi := _) (v := ?_) rfl (by kernel_rfl) (by kernel_rfl) (by kernel_rfl) (fun _ _ _ h => h) (Or.inl ⟨by rfl, ?_⟩) (by assumption) ?_
  rotate_left
  · intro w hSw
    (try dsimp only at hSw)
    go_simp
    try with_reducible rfl
  try simp only [List.getElem_toArray, List.getElem_cons_zero, List.getElem_cons_succ, List.get, Act.put, List.setIfInBounds_toArray, List.set_cons_zero, List.set_cons_succ]
  refine wpAnyH_take (i := 10) (oi := _) (v := ?_) rfl (by kernel_rfl) (by kernel_rfl) (by kernel_rfl) (fun _ _ _ h => h) (Or.inl ⟨by rfl, ?_⟩) (by assumption) ?_
  rotate_left
  · intro w hSw
    (try dsimp only at hSw)
    go_simp
    try with_reducible rfl
  try simp only [List.getElem_toArray, List.getElem_cons_zero, List.getElem_cons_succ, List.get, Act.put, List.setIfInBounds_toArray, List.set_cons_zero, List.set_cons_succ]
  refine wpAnyH_take (i := 11) (oi := _) (v := ?_) rfl (by kernel_rfl) (by kernel_rfl) (by kernel_rfl) (fun _ _ _ h => h) (Or.inl ⟨by rfl, ?_⟩) (by assumption) ?_
  rotate_left
  · intro w hSw
    (try dsimp only at hSw)
    go_simp
    try with_reducible rfl
  try simp only [List.getElem_toArray, List.getElem_cons_zero, List.getElem_cons_succ, List.get, Act.put, List.setIfInBounds_toArray, List.set_cons_zero, List.set_cons_succ]
  refine wpAnyH_ready (rs := [12]) (by kernel_rfl) (by simp) ?_
  refine AllReadyH.cons (o := _) rfl (fun K hK => ?_) AllReadyH.nil
  go_simp
  replace hK := hide hK
  refine hK.out _ _ (by go_keep) (fun hHeld => ?_)
  clear hK K
  try simp only [List.getElem_toArray, List.getElem_cons_zero, List.getElem_cons_succ, List.get, Act.put, List.setIfInBounds_toArray, List.set_cons_zero, List.set_cons_succ]
  refine wpAnyH_done (by kernel_rfl) ?_ _
  refine NoPanic.normal ?_
  have HRE := hide (HR2.out.set hp g3 s3 t3)
  have hg := grown_of_below (bStepD HBX.out HB2.out)
  have HGE : Hid (w.grownBy (((w2.setCell ⟨O, p * 3, none⟩ (.bool g3)).setCell ⟨O, p * 3 + 1, none⟩ (.string s3)).setCell ⟨O, p * 3 + 2, none⟩ (.string t3)) (some O)) :=
    World.grownBy.trans ⟨hg.os, hg.tape, hg.output, hg.size, fun k hk _ => hg.block k hk (by simp)⟩ (grown_set3 w2 O _ _ _ _ _ _)
  go_end0
  exact ⟨rfl, HRE.out, HGE.out⟩
end Go.Proofs.YtlagoiaiodjmhaaGreatDoor
