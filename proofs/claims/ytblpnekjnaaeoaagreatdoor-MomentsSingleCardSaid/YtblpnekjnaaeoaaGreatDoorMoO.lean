/- the iterators of Sum and Mix: what they know, what a round keeps. -/
import Derived.Test.YtblpnekjnaaeoaaGreatDoorMoN
import Derived.Test.YtblpnekjnaaeoaaGreatDoorMoPb
set_option linter.unusedVariables false
set_option linter.unusedSimpArgs false
namespace Go.Proofs.YtblpnekjnaaeoaaGreatDoor
open Go.RowKit

/-- The block in which the slice of variable A lies. -/
def rowC (W : World) (A : Nat) : Option Nat := (W.cell? ⟨A, 0, none⟩).bind Value.ownBlock
/-- What a round of collect keeps: A is its list's variable, C the cell of the error. -/
structure KpC (n₀ A C : Nat) (W W' : World) : Prop where
  sz : W.heap.size ≤ W'.heap.size
  bel : Below n₀ W W'
  keep : ∀ (p : Addr) (v : Value), p.block ≠ A → p.block ≠ C → rowC W A ≠ some p.block → W.cell? p = some v → W'.cell? p = some v
  row : rowC W' A = rowC W A ∨ ∃ g, rowC W' A = some g ∧ W.heap.size ≤ g
  lt : (∀ g, rowC W A = some g → g < W.heap.size) → ∀ g, rowC W' A = some g → g < W'.heap.size
  aA : (∃ v, W.cell? ⟨A, 0, none⟩ = some v) → ∃ v, W'.cell? ⟨A, 0, none⟩ = some v
theorem KpC.trans {n₀ A C : Nat} {W W' W2 : World} (h : KpC n₀ A C W W') (k : KpC n₀ A C W' W2) : KpC n₀ A C W W2 := by
  refine ⟨Nat.le_trans h.sz k.sz, h.bel.trans k.bel, fun p v hp hpc hr hc => ?_, ?_, fun hl => k.lt (h.lt hl), fun ha => k.aA (h.aA ha)⟩
  · have hlt := World.block_lt_of_cell? _ _ hc
    refine k.keep p v hp hpc (fun e => ?_) (h.keep p v hp hpc hr hc)
    rcases h.row with e' | ⟨g, e', hg⟩
    · exact hr (e'.symm.trans e)
    · rw [e'] at e
      have : g = p.block := by simpa using e
      omega
  · rcases k.row with e' | ⟨g, e', hg⟩
    · rw [e']; exact h.row
    · exact .inr ⟨g, e', Nat.le_trans h.sz hg⟩
theorem cell_putObjC {W : World} {l : Nat} {o o' : Obj} (h : W.heap[l]? = some o) (hc : o.isCells = false) {p : Addr} {v : Value} (hp : W.cell? p = some v) : (W.putObj l o').cell? p = some v := by
  have hne : p.block ≠ l := fun e => by
    unfold World.cell? at hp
    rw [e, h] at hp
    cases o <;> simp_all [Obj.isCells]
  rw [World.cell?_of_block (w := W) (a := p) (World.putObj_heap_other hne)]
  exact hp
theorem KpC.book {n₀ A C : Nat} {w : World} (hA : A < w.heap.size) (hn : n₀ ≤ w.heap.size) (W : World) (l : Nat) (o o' : Obj) (hl : w.heap.size ≤ l) (h : W.heap[l]? = some o) (hc : o.isCells = false) (hk : o.isWalk = false) : KpC n₀ A C W (W.putObj l o') := by
  have e : rowC (W.putObj l o') A = rowC W A := by
    unfold rowC
    rw [World.cell?_of_block (w := W) (a := ⟨A, 0, none⟩) (World.putObj_heap_other (show A ≠ l by omega))]
  refine ⟨by simp, belowK_b hn W l o o' hl h hc hk, fun p v _ _ _ hp => cell_putObjC h hc hp, .inl e, fun hlt g hg => ?_, fun ⟨v, hv⟩ => ⟨v, cell_putObjC h hc hv⟩⟩
  rw [e] at hg
  have := hlt g hg
  simpa using this
theorem KpC.of_below {n₀ A C : Nat} {W W' : World} (hb : Below W.heap.size W W') (hn : n₀ ≤ W.heap.size) (hA : A < W.heap.size) : KpC n₀ A C W W' := by
  have e : rowC W' A = rowC W A := by unfold rowC; rw [World.cell?_of_block (w := W) (a := ⟨A, 0, none⟩) (hb.block A hA)]
  refine ⟨hb.size, hb.mono hn, fun p u _ _ _ hc => (hb.cell (p := p) (World.block_lt_of_cell? _ _ hc)).trans hc, .inl e, fun hl g hg => ?_, fun ⟨v, hv⟩ => ⟨v, keep_cell hb hv⟩⟩
  rw [e] at hg
  exact Nat.lt_of_lt_of_le (hl g hg) hb.size
/-- A step that turns the cell of the error alone. -/
theorem KpC.grownC {n₀ A C : Nat} {W W' : World} (hg : W.grownBy W' (some C)) (hn : n₀ ≤ C) (hAC : A ≠ C) (hA : A < W.heap.size) (hs : n₀ ≤ W.heap.size) : KpC n₀ A C W W' := by
  have eA := hg.block A hA (fun e => hAC (by injection e))
  have e : rowC W' A = rowC W A := by unfold rowC; rw [World.cell?_of_block (w := W) (a := ⟨A, 0, none⟩) eA]
  refine ⟨hg.size, (Below.refl n₀ W).grown hg hs (fun k hk => by injection hk with hk; omega), fun p u _ hpc _ hc => ?_, .inl e, fun hl g hg' => ?_, fun ⟨v, hv⟩ => ⟨v, (World.cell?_of_block (w := W) (a := ⟨A, 0, none⟩) eA).trans hv⟩⟩
  · exact (World.cell?_of_block (w := W) (a := p) (hg.block p.block (World.block_lt_of_cell? _ _ hc) (fun e => hpc (by injection e)))).trans hc
  · rw [e] at hg'
    exact Nat.lt_of_lt_of_le (hl g hg') hg.size
/-- A step that turns the list's own block, or lays a new one; then its variable is set. -/
theorem KpC.app {n₀ A C : Nat} {W w1 : World} {v v' : Value} (hA : W.cell? ⟨A, 0, none⟩ = some v) (hn : n₀ ≤ A) (hv : ∀ k, v.ownBlock = some k → A < k) (hg : W.grownBy w1 v.ownBlock)
    (hv' : v'.ownBlock = v.ownBlock ∨ ∃ g, v'.ownBlock = some g ∧ W.heap.size ≤ g) (hv1 : ∀ g, v'.ownBlock = some g → g < w1.heap.size) : KpC n₀ A C W (w1.setCell ⟨A, 0, none⟩ v') := by
  have hAl := World.block_lt_of_cell? _ _ hA
  simp only at hAl
  have hAr : some A ≠ v.ownBlock := fun e => by have := hv A e.symm; omega
  have hA1 : w1.cell? ⟨A, 0, none⟩ = some v := (World.cell?_of_block (w := W) (a := ⟨A, 0, none⟩) (hg.block A hAl hAr)).trans hA
  have hr0 : rowC W A = v.ownBlock := by unfold rowC; rw [hA]; rfl
  have hr1 : rowC (w1.setCell ⟨A, 0, none⟩ v') A = v'.ownBlock := by
    unfold rowC
    rw [World.cell?_setCell_same _ _ _ hA1]
    rfl
  refine ⟨by simpa using hg.size, ((Below.refl n₀ W).grown hg (by omega) (fun k e => by have := hv k e; omega)).setCell (p := ⟨A, 0, none⟩) hn _, fun p u hp _ hr hc => ?_, ?_, fun _ k hk => ?_, fun _ => ⟨v', World.cell?_setCell_same _ _ _ hA1⟩⟩
  · have hlt := World.block_lt_of_cell? _ _ hc
    rw [World.cell?_setCell_other _ _ _ _ (fun e => hp (by rw [← e]))]
    exact (World.cell?_of_block (w := W) (a := p) (hg.block p.block hlt (fun e => hr (hr0.trans e.symm)))).trans hc
  · rw [hr0, hr1]; exact hv'
  · rw [hr1] at hk
    simpa using hv1 k hk
/-- A step that turns the list's own block, its variable unchanged. -/
theorem KpC.row_ {n₀ A C : Nat} {W w1 : World} {v : Value} (hA : W.cell? ⟨A, 0, none⟩ = some v) (hn : n₀ ≤ A) (hv : ∀ k, v.ownBlock = some k → A < k) (hg : W.grownBy w1 v.ownBlock) : KpC n₀ A C W w1 := by
  have hAl := World.block_lt_of_cell? _ _ hA
  simp only at hAl
  have hAr : some A ≠ v.ownBlock := fun e => by have := hv A e.symm; omega
  have hA1 : w1.cell? ⟨A, 0, none⟩ = some v := (World.cell?_of_block (w := W) (a := ⟨A, 0, none⟩) (hg.block A hAl hAr)).trans hA
  have hr0 : rowC W A = v.ownBlock := by unfold rowC; rw [hA]; rfl
  have hr1 : rowC w1 A = v.ownBlock := by unfold rowC; rw [hA1]; rfl
  refine ⟨hg.size, (Below.refl n₀ W).grown hg (by omega) (fun k e => by have := hv k e; omega), fun p u hp _ hr hc => ?_, .inl (hr1.trans hr0.symm), fun h k hk => ?_, fun _ => ⟨v, hA1⟩⟩
  · have hlt := World.block_lt_of_cell? _ _ hc
    exact (World.cell?_of_block (w := W) (a := p) (hg.block p.block hlt (fun e => hr (hr0.trans e.symm)))).trans hc
  · rw [hr1, ← hr0] at hk
    exact Nat.lt_of_lt_of_le (h k hk) hg.size
/-- What the iterator knows of its variables. -/
structure ITC (n₀ A C : Nat) (w0 W : World) (L : List (Nat × List Value)) : Prop where
  bel : Below n₀ w0 W
  all : ∀ x ∈ L, ∀ i (h : i < x.2.length), W.cell? ⟨x.1, i, none⟩ = some x.2[i]
  ne : ∀ x ∈ L, x.1 ≠ A
  nc : ∀ x ∈ L, x.1 ≠ C
  row : ∀ x ∈ L, rowC W A ≠ some x.1
  rlt : ∀ g, rowC W A = some g → g < W.heap.size
  aA : ∃ v, W.cell? ⟨A, 0, none⟩ = some v
  lt : ∀ x ∈ L, x.1 < W.heap.size
  cl : C < W.heap.size
section
variable {n₀ A C : Nat} {w0 W W' : World} {L : List (Nat × List Value)}
theorem ITC.al (h : ITC n₀ A C w0 W L) : A < W.heap.size := by
  obtain ⟨v, hv⟩ := h.aA
  exact World.block_lt_of_cell? _ _ hv
theorem ITC.below (h : ITC n₀ A C w0 W L) (hb : Below W.heap.size W W') (hn : n₀ ≤ W.heap.size) : ITC n₀ A C w0 W' L := by
  obtain ⟨v, hv⟩ := h.aA
  have e : rowC W' A = rowC W A := by unfold rowC; rw [hv, keep_cell hb hv]
  refine ⟨h.bel.trans (hb.mono hn), fun x hx i hi => keep_cell hb (h.all x hx i hi), h.ne, h.nc, fun x hx => by rw [e]; exact h.row x hx, fun g hg => ?_, ⟨v, keep_cell hb hv⟩, fun x hx => Nat.lt_of_lt_of_le (h.lt x hx) hb.size, Nat.lt_of_lt_of_le h.cl hb.size⟩
  rw [e] at hg
  exact Nat.lt_of_lt_of_le (h.rlt g hg) hb.size
theorem ITC.push (h : ITC n₀ A C w0 W L) (hn : n₀ ≤ W.heap.size) {b : Nat} (hb : W.heap.size = b) (vs : List Value) (T : TypeId) : ITC n₀ A C w0 (W.alloc (.cells vs.toArray T)) ((b, vs) :: L) := by
  subst hb
  have h2 := h.below (bAlloc (Below.refl _ _) (.cells vs.toArray T)) hn
  have hlt := h.al
  have hcl := h.cl
  have e : rowC (W.alloc (.cells vs.toArray T)) A = rowC W A := by
    obtain ⟨v, hv⟩ := h.aA
    unfold rowC; rw [hv, keep_cell (bAlloc (Below.refl _ _) _) hv]
  refine ⟨h2.bel, fun x hx => ?_, fun x hx => ?_, fun x hx => ?_, fun x hx => ?_, h2.rlt, h2.aA, fun x hx => ?_, h2.cl⟩
  · rcases List.mem_cons.1 hx with rfl | hx
    · intro i hi
      rw [World.cell?_alloc_new]
      simp [show i < vs.length from hi]
    · exact h2.all x hx
  · rcases List.mem_cons.1 hx with rfl | hx
    · intro e; simp only at e; omega
    · exact h2.ne x hx
  · rcases List.mem_cons.1 hx with rfl | hx
    · intro e; simp only at e; omega
    · exact h2.nc x hx
  · rcases List.mem_cons.1 hx with rfl | hx
    · intro e2
      rw [e] at e2
      have := h.rlt _ e2
      omega
    · exact h2.row x hx
  · rcases List.mem_cons.1 hx with rfl | hx
    · simp
    · exact h2.lt x hx
theorem ITC.round (h : ITC n₀ A C w0 W L) (k : KpC n₀ A C W W') : ITC n₀ A C w0 W' L := by
  refine ⟨h.bel.trans k.bel, fun x hx i hi => k.keep _ _ (h.ne x hx) (h.nc x hx) (h.row x hx) (h.all x hx i hi), h.ne, h.nc, fun x hx e => ?_, k.lt h.rlt, k.aA h.aA, fun x hx => Nat.lt_of_lt_of_le (h.lt x hx) k.sz, Nat.lt_of_lt_of_le h.cl k.sz⟩
  rcases k.row with e' | ⟨g, e', hg⟩
  · exact h.row x hx (e'.symm.trans e)
  · rw [e'] at e
    have e2 : g = x.1 := by simpa using e
    have := h.lt x hx
    omega
theorem ITC.grownC (h : ITC n₀ A C w0 W L) (hg : W.grownBy W' (some C)) (hn : n₀ ≤ C) (hAC : A ≠ C) (hs : n₀ ≤ W.heap.size) : ITC n₀ A C w0 W' L := h.round (KpC.grownC hg hn hAC h.al hs)
theorem ITC.sub (h : ITC n₀ A C w0 W L) {M : List (Nat × List Value)} (hM : ∀ x ∈ M, x ∈ L) : ITC n₀ A C w0 W M :=
  ⟨h.bel, fun y hy => h.all y (hM y hy), fun y hy => h.ne y (hM y hy), fun y hy => h.nc y (hM y hy), fun y hy => h.row y (hM y hy), h.rlt, h.aA, fun y hy => h.lt y (hM y hy), h.cl⟩
theorem ITC.n (h : ITC n₀ A C w0 W L) (hn : n₀ = w0.heap.size) : n₀ ≤ W.heap.size := by rw [hn]; have := h.bel.size; exact this
theorem ITC.one (h : ITC n₀ A C w0 W L) {b : Nat} {v : Value} (hx : (b, [v]) ∈ L) : W.cell? ⟨b, 0, none⟩ = some v := h.all (b, [v]) hx 0 (show 0 < 1 by decide)
/-- A point in a variable of the iterator. -/
theorem ITC.pt (h : ITC n₀ A C w0 W L) {b : Nat} {x : T3 × T3} (hx : (b, vPr x) ∈ L) : W.cell? ⟨b, 0, none⟩ = some (.bool x.1.1) ∧ W.cell? ⟨b, 1, none⟩ = some (.string x.1.2.1) ∧ W.cell? ⟨b, 2, none⟩ = some (.string x.1.2.2) ∧ W.cell? ⟨b, 3, none⟩ = some (.bool x.2.1) ∧ W.cell? ⟨b, 4, none⟩ = some (.string x.2.2.1) ∧ W.cell? ⟨b, 5, none⟩ = some (.string x.2.2.2) :=
  ⟨h.all _ hx 0 (show 0 < 6 by decide), h.all _ hx 1 (show 1 < 6 by decide), h.all _ hx 2 (show 2 < 6 by decide), h.all _ hx 3 (show 3 < 6 by decide), h.all _ hx 4 (show 4 < 6 by decide), h.all _ hx 5 (show 5 < 6 by decide)⟩
end
abbrev agP (p : T3 × T3) : Value := .agg #[.bool p.1.1, .string p.1.2.1, .string p.1.2.2, .bool p.2.1, .string p.2.2.1, .string p.2.2.2]
def encA (x : PQ) : Array Value := #[agP (encP x)]
def TxA (av : Array Value) : Prop := ∃ p : T3 × T3, av = #[agP p]
/-- The caller's conditions, packed. -/
structure JS (C : Nat) (items : List (Option PQ)) (J : List PQ → World → Prop) (Jb : World → Prop) : Prop where
  c0 : ∀ pre X, J pre X → CE X C 0
  c2 : ∀ X, Jb X → CE X C 2
  jj : ∀ pre X Y, J pre X → X.grownBy Y (some C) → CE Y C 0 → J pre Y
  jb : ∀ pre X Y, J pre X → X.grownBy Y (some C) → CE Y C 2 → Bad items → Jb Y
  bb : ∀ X Y, Jb X → X.grownBy Y (some C) → CE Y C 2 → Jb Y
/-- The state between two items. -/
def StC (items : List (Option PQ)) (J : List PQ → World → Prop) (Jb : World → Prop) (rest : List (Option PQ)) : Option (List PQ) → World → Prop
  | some pre, W => J pre W ∧ items = pre.map some ++ rest
  | none, W => Jb W
section
variable {C : Nat} {items rest : List (Option PQ)} {J : List PQ → World → Prop} {Jb : World → Prop} {op : Option (List PQ)} {W W' : World}
theorem StC.ce (hj : JS C items J Jb) (h : StC items J Jb rest op W) : CE W C (eO op) := by
  cases op with
  | none => exact hj.c2 _ h
  | some pre => exact hj.c0 _ _ h.1
theorem StC.below (hj : JS C items J Jb) (h : StC items J Jb rest op W) (hb : Below W.heap.size W W') : StC items J Jb rest op W' := by
  have hc := h.ce hj
  cases op with
  | none => exact hj.bb _ _ h (grown_belowM hb _) (hc.below hb)
  | some pre => exact ⟨hj.jj _ _ _ h.1 (grown_belowM hb _) (hc.below hb), h.2⟩
/-- One item has been computed. -/
theorem StC.item (hj : JS C items J Jb) {it : Option PQ} (h : StC items J Jb (it :: rest) op W) (hg : W.grownBy W' (some C)) (hc : CE W' C (eO (op.bind fun _ => it))) :
    (∃ pre x, op = some pre ∧ it = some x ∧ J pre W' ∧ items = pre.map some ++ some x :: rest) ∨ Jb W' := by
  cases op with
  | none => exact .inr (hj.bb _ _ h hg hc)
  | some pre =>
    cases it with
    | none => exact .inr (hj.jb _ _ _ h.1 hg hc ⟨pre, rest, by rw [h.2]; simp⟩)
    | some x => exact .inl ⟨pre, x, rfl, rfl, hj.jj _ _ _ h.1 hg hc, h.2⟩
end
theorem pre_of {items rest : List (Option PQ)} {pre : List PQ} {x : PQ} (h : items = pre.map some ++ some x :: rest) : (pre ++ [x]).map some <+: items := ⟨rest, by rw [h]; simp⟩
end Go.Proofs.YtblpnekjnaaeoaaGreatDoor
