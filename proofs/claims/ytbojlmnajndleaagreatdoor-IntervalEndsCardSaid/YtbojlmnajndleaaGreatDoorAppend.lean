/- Appending whole slices onto slices that the call owns. -/
import Derived.Test.YtbojlmnajndleaaGreatDoorInts
set_option linter.unusedVariables false
set_option linter.unusedSimpArgs false
namespace Go.Proofs.YtbojlmnajndleaaGreatDoor
open Go.RowKit

theorem load_none {P : Program} (w : World) (a : Addr) : (loadCells a 0).run P w = .ok #[] w := by
  simp [loadCells, loadCellsFrom]
theorem run_append_zero {P : Program} (w : World) (B size : Nat) (t ty e : TypeId) (i : TypeInfo) (ht : P.underlying t = some (.slice e)) (hi : P.info? e = some i)
    (v : Value) (n : Nat) (xs : List Value) (hown : OwnS w B size v n xs) (x : Option Addr) (c : Nat) : (Builtin.append_ #[t, t] ty #[v, .slice x 0 c]).run P w = .ok v w := by
  rcases hown.2 with ⟨ao, rfl, rfl, _⟩ | ⟨g, off, cap, rfl, _, _, hnc, _⟩
  · cases ao <;> cases x <;> simp [Builtin.append_, run_underlying ht, sizeOf, typeInfo, hi, Builtin.lenOf, Builtin.firstCells, storeCells, load_none, Result.andThen]
  · cases x <;> simp [Builtin.append_, run_underlying ht, sizeOf, typeInfo, hi, Builtin.lenOf, Builtin.firstCells, hnc, storeCells, load_none, Result.andThen]
/-- What a slice that is not empty brings to an append. -/
theorem SliceOf.brings {α : Type} {f : α → List Value} {size : Nat} (hf : ∀ a, (f a).length = size) (hs : 0 < size) {w : World} {v : Value} {l : List α} (h : SliceOf f size w v l) (hl : 0 < l.length) :
    ∃ b off c, v = .slice (some ⟨b, off, none⟩) l.length c ∧ (flatV f l).length = l.length * size ∧ ∀ j u, (flatV f l)[j]? = some u → w.cell? ((⟨b, off, none⟩ : Addr).add j) = some u := by
  obtain ⟨b, off, c, h1, _, _, _, hc⟩ := h.some_of_pos hl
  refine ⟨b, off, c, h1, flatV_length hf l, fun j u hu => ?_⟩
  have hj := (List.getElem?_eq_some_iff.1 hu).1
  rw [flatV_length hf] at hj
  have e : j = j / size * size + j % size := by rw [Nat.mul_comm]; exact (Nat.div_add_mod j size).symm
  have hi : j / size < l.length := (Nat.div_lt_iff_lt_mul hs).2 hj
  have hm : j % size < size := Nat.mod_lt _ hs
  rw [e, flatV_get hf l _ hi _ hm] at hu
  have := hc _ hi _ u hu
  rw [addr_add, e, ← Nat.add_assoc]
  exact this
theorem flat_one {α : Type} {f : α → List Value} (h1 : ∀ a, ∀ u ∈ f a, u.oneCell' = true) (l : List α) : ∀ u ∈ flatV f l, u.oneCell' = true := by
  intro u hu
  obtain ⟨b, _, hb⟩ := List.mem_flatMap.1 hu
  exact h1 b u hb
/-- append of a slice, whatever its length. -/
theorem run_append_slice {α : Type} {P : Program} {f : α → List Value} (w : World) (t ty : TypeId) (B : Nat) (e : TypeId) (i : TypeInfo) (z : Value) (size bytes : Nat) (ht : P.underlying t = some (.slice e)) (hi : P.info? e = some i) (hz : i.zero = some z)
    (hsize : i.size = size) (hby : i.bytes = bytes) (hzs : z.cells.size = size) (hsz : 0 < size) (hf : ∀ a, (f a).length = size) (h1 : ∀ a, ∀ u ∈ f a, u.oneCell' = true)
    (v : Value) (n : Nat) (xs : List Value) (hown : OwnS w B size v n xs) (vx : Value) (l : List α) (hx : SliceOf f size w vx l)
    (h63 : n + l.length ≤ maxLen) (hbytes : (n + l.length) * bytes ≤ 140737488355328) (hbase : B ≤ w.heap.size) :
    ∃ ao cap w', (Builtin.append_ #[t, t] ty #[v, vx]).run P w = .ok (.slice ao (n + l.length) cap) w' ∧
      OwnS w' B size (.slice ao (n + l.length) cap) (n + l.length) (xs ++ flatV f l) ∧ w.grownBy w' v.ownBlock := by
  by_cases h0 : 0 < l.length
  · obtain ⟨b, off, c, rfl, e1, e2⟩ := hx.brings hf hsz h0
    obtain ⟨g, off', cap, w', r1, r2, r3, _⟩ := run_append_S (P := P) w t ty B e i z size bytes ht hi hz hsize hby hzs hsz v n xs hown ⟨b, off, none⟩ l.length c (flatV f l) e1 e2 (flat_one h1 l) h0 h63 hbytes hbase
    exact ⟨_, _, _, r1, r2, r3⟩
  · obtain rfl : l = [] := List.eq_nil_of_length_eq_zero (by omega)
    obtain ⟨ao, c, rfl⟩ := hx.shape
    have hv : ∃ a c, v = .slice a n c := by
      rcases hown.2 with ⟨ao, h1, h2, _⟩ | ⟨g, off, cap, h1, _⟩
      · exact ⟨ao, 0, by rw [h1, h2]⟩
      · exact ⟨_, _, h1⟩
    obtain ⟨a, c', rfl⟩ := hv
    refine ⟨a, c', w, run_append_zero w B size t ty e i ht hi _ n xs hown ao c, ?_, ⟨rfl, rfl, rfl, Nat.le_refl _, fun _ _ _ => rfl⟩⟩
    have : xs ++ flatV f ([] : List α) = xs := by simp [flatV]
    rw [this]; exact hown
theorem below_of_grown {w w' : World} {B size n : Nat} {v : Value} {xs : List Value} (hown : OwnS w B size v n xs) (hg : w.grownBy w' v.ownBlock) (hbase : B ≤ w.heap.size) : Below B w w' :=
  (Below.refl B w).grown hg hbase fun k hk => (hown.lt k hk).1
/-- 'append(s, x...)' in a plain region. -/
theorem wpList_append_slice {α : Type} {P : Program} {w : World} {ops : Array Oper} {rest : List Oper} {o : Oper} {a : Act} {Q : Exit → Act → World → Prop} {f : α → List Value} (hw : Region.wanted o (yielded ops a.tmps) = true) (s x : Operand) (t : TypeId)
    (ho : o.op = .call { callee := .builtin .append, args := #[s, x], argTypes := #[t, t] })
    (B : Nat) (e : TypeId) (i : TypeInfo) (z : Value) (size bytes : Nat) (ht : P.underlying t = some (.slice e)) (hi : P.info? e = some i) (hz : i.zero = some z)
    (hsize : i.size = size) (hby : i.bytes = bytes) (hzs : z.cells.size = size) (hsz : 0 < size) (hf : ∀ a, (f a).length = size) (h1 : ∀ a, ∀ u ∈ f a, u.oneCell' = true)
    (v : Value) (n : Nat) (xs : List Value) (hs : a.eval s = v) (hown : OwnS w B size v n xs) (vx : Value) (l : List α) (hxe : a.eval x = vx) (hx : SliceOf f size w vx l)
    (h63 : n + l.length ≤ maxLen) (hbytes : (n + l.length) * bytes ≤ 140737488355328) (hbase : B ≤ w.heap.size)
    (h : ∀ ao cap w', OwnS w' B size (.slice ao (n + l.length) cap) (n + l.length) (xs ++ flatV f l) → w.grownBy w' v.ownBlock → Below B w w' → wpList P ops Q rest (a.put o.dst (.slice ao (n + l.length) cap)) w') : wpList P ops Q (o :: rest) a w := by
  obtain ⟨ao, cap, w', hrun, h2, hg⟩ := run_append_slice (P := P) w t o.type B e i z size bytes ht hi hz hsize hby hzs hsz hf h1 v n xs hown vx l hx h63 hbytes hbase
  refine wpList_step fun K hK => ?_
  rw [if_pos hw]
  unfold Oper.wp execOp
  simp only [ho, resolve, invoke, builtin, Sem.run_bind, Sem.run_pure, Result.andThen_ok, List.map_toArray, List.map_cons, List.map_nil, hs, hxe, hrun]
  exact hK _ _ (h ao cap w' h2 hg (below_of_grown hown hg hbase))
/-- The same as one step of a region that draws its order. -/
theorem step_append_slice {α : Type} {P : Program} {w : World} {ops : Array Oper} {o : Oper} {a : Act} {K : Act → World → Prop} {Q : Exit → Act → World → Prop} {E : Prop} {f : α → List Value} (hgd : o.guard = none) (s x : Operand) (t : TypeId)
    (ho : o.op = .call { callee := .builtin .append, args := #[s, x], argTypes := #[t, t] })
    (B : Nat) (e : TypeId) (i : TypeInfo) (z : Value) (size bytes : Nat) (ht : P.underlying t = some (.slice e)) (hi : P.info? e = some i) (hz : i.zero = some z)
    (hsize : i.size = size) (hby : i.bytes = bytes) (hzs : z.cells.size = size) (hsz : 0 < size) (hf : ∀ a, (f a).length = size) (h1 : ∀ a, ∀ u ∈ f a, u.oneCell' = true)
    (v : Value) (n : Nat) (xs : List Value) (hs : a.eval s = v) (hown : OwnS w B size v n xs) (vx : Value) (l : List α) (hxe : a.eval x = vx) (hx : SliceOf f size w vx l)
    (h63 : n + l.length ≤ maxLen) (hbytes : (n + l.length) * bytes ≤ 140737488355328) (hbase : B ≤ w.heap.size)
    (h : ∀ ao cap w', OwnS w' B size (.slice ao (n + l.length) cap) (n + l.length) (xs ++ flatV f l) → w.grownBy w' v.ownBlock → K (a.put o.dst (.slice ao (n + l.length) cap)) w') :
    if Region.wanted o (yielded ops a.tmps) = true then Oper.wp P o a w K Q else E := by
  obtain ⟨ao, cap, w', hrun, h2, hg⟩ := run_append_slice (P := P) w t o.type B e i z size bytes ht hi hz hsize hby hzs hsz hf h1 v n xs hown vx l hx h63 hbytes hbase
  have hw : Region.wanted o (yielded ops a.tmps) = true := by simp [Region.wanted, hgd]
  rw [if_pos hw]
  unfold Oper.wp
  simp [execOp, ho, resolve, invoke, builtin, hs, hxe, hrun, Result.andThen]
  exact h ao cap w' h2 hg
/-- A slice onto nothing, in a region that draws its order: what it owns is what was appended. -/
theorem step_append_slice0 {α : Type} {P : Program} {w : World} {ops : Array Oper} {o : Oper} {a : Act} {K : Act → World → Prop} {Q : Exit → Act → World → Prop} {E : Prop} {f : α → List Value} (hgd : o.guard = none) (s x : Operand) (t : TypeId)
    (ho : o.op = .call { callee := .builtin .append, args := #[s, x], argTypes := #[t, t] })
    (B : Nat) (e : TypeId) (i : TypeInfo) (z : Value) (size bytes : Nat) (ht : P.underlying t = some (.slice e)) (hi : P.info? e = some i) (hz : i.zero = some z)
    (hsize : i.size = size) (hby : i.bytes = bytes) (hzs : z.cells.size = size) (hsz : 0 < size) (hf : ∀ a, (f a).length = size) (h1 : ∀ a, ∀ u ∈ f a, u.oneCell' = true)
    (X : Nat) (hs : a.eval s = .slice (some ⟨X, 0, none⟩) 0 0) (hX : B ≤ X) (hX2 : X < w.heap.size) (vx : Value) (l : List α) (hxe : a.eval x = vx) (hx : SliceOf f size w vx l)
    (h63 : l.length ≤ maxLen) (hbytes : l.length * bytes ≤ 140737488355328)
    (h : ∀ ao cap w', OwnS w' B size (.slice ao l.length cap) l.length (flatV f l) → w.grownBy w' (some X) → K (a.put o.dst (.slice ao l.length cap)) w') :
    if Region.wanted o (yielded ops a.tmps) = true then Oper.wp P o a w K Q else E := by
  have hown : OwnS w B size (.slice (some ⟨X, 0, none⟩) 0 0) 0 [] := ⟨by simp, .inl ⟨some ⟨X, 0, none⟩, rfl, rfl, fun a ha => by
    obtain rfl : (⟨X, 0, none⟩ : Addr) = a := by simpa using ha
    exact ⟨hX, hX2⟩⟩⟩
  refine step_append_slice hgd s x t ho B e i z size bytes ht hi hz hsize hby hzs hsz hf h1 _ 0 [] hs hown vx l hxe hx (by omega) (by rw [Nat.zero_add]; exact hbytes) (by omega) ?_
  intro ao cap w' r1 r2
  rw [Nat.zero_add, List.nil_append] at r1
  rw [Nat.zero_add]
  exact h ao cap w' r1 r2
/-- An empty slice literal. -/
theorem OwnS.lit_nil (w : World) (size : Nat) (T : TypeId) : OwnS (w.alloc (.cells #[] T)) w.heap.size size (.slice (some ⟨w.heap.size, 0, none⟩) 0 0) 0 [] :=
  ⟨by simp, .inl ⟨some ⟨w.heap.size, 0, none⟩, rfl, rfl, fun a ha => by
    obtain rfl : (⟨w.heap.size, 0, none⟩ : Addr) = a := by simpa using ha
    exact ⟨Nat.le_refl _, by simp⟩⟩⟩
theorem vI_one (x : Int) : ∀ u ∈ vI x, u.oneCell' = true := by
  intro u hu
  simp [vI] at hu
  rw [hu]; rfl
theorem vP2_one (x : Int × Int) : ∀ u ∈ vP2 x, u.oneCell' = true := by
  intro u hu
  simp [vP2] at hu
  rcases hu with rfl | rfl <;> rfl

/-- A slice that the call builds, element by element: k elements of M are there. -/
structure Bld {α : Type} (f : α → List Value) (size : Nat) (w wr : World) (M : List α) (u : Value) (k : Nat) : Prop where
  own : OwnS wr w.heap.size size u k (flatV f (M.take k))
  below : Below w.heap.size w wr
theorem Bld.nil {α : Type} (f : α → List Value) (size : Nat) (w : World) (M : List α) : Bld f size w w M (.slice none 0 0) 0 := ⟨OwnS.nil _ _ _, Below.refl _ _⟩
theorem Bld.nil_at {α : Type} (f : α → List Value) (size : Nat) {w wr : World} (M : List α) (h : Below w.heap.size w wr) : Bld f size w wr M (.slice none 0 0) 0 := ⟨OwnS.nil _ _ _, h⟩
theorem Bld.step {α : Type} {f : α → List Value} {size : Nat} {w wr W' W : World} {M : List α} {u : Value} {k g off cap : Nat} {x : α} {cs : List Value} (h : Bld f size w wr M u k) (hW : Below wr.heap.size wr W') (hk : k < M.length) (hx : M[k] = x) (hcs : cs = f x)
    (ho : OwnS W w.heap.size size (.slice (some ⟨g, off, none⟩) (k + 1) cap) (k + 1) (flatV f (M.take k) ++ cs)) (hg : W'.grownBy W u.ownBlock) : Bld f size w W M (.slice (some ⟨g, off, none⟩) (k + 1) cap) (k + 1) := by
  refine ⟨?_, ?_⟩
  · rw [List.take_succ_eq_append_getElem hk, flatV_append, flatV_one, hx, ← hcs]
    exact ho
  · have h1 : Below w.heap.size w W' := btrans h.below h.below.size hW
    exact h1.grown hg h1.size fun j hj => (h.own.lt j hj).1
theorem Bld.to_slice {α : Type} {f : α → List Value} {size : Nat} (hf : ∀ a, (f a).length = size) {w wr : World} {M : List α} {u : Value} (h : Bld f size w wr M u M.length) : SliceOf f size wr u M := by
  have h1 := h.own
  rw [List.take_length] at h1
  exact OwnS.slice hf h1
theorem Bld.keep {α : Type} {f : α → List Value} {size : Nat} {w wr W : World} {M : List α} {u : Value} {k : Nat} (h : Bld f size w wr M u k) (hb : Below wr.heap.size wr W) : Bld f size w W M u k :=
  ⟨h.own.below hb, btrans h.below h.below.size hb⟩
/-- Two slices that the call builds side by side. -/
structure Bld2 {α β : Type} (f : α → List Value) (size : Nat) (g : β → List Value) (size' : Nat) (w wr : World) (M : List α) (M' : List β) (u v : Value) (k k' : Nat) : Prop where
  left : Bld f size w wr M u k
  right : Bld g size' w wr M' v k'
  apart : ∀ b, u.ownBlock = some b → v.ownBlock ≠ some b
theorem Bld2.nil_at {α β : Type} (f : α → List Value) (size : Nat) (g : β → List Value) (size' : Nat) {w wr : World} (M : List α) (M' : List β) (h : Below w.heap.size w wr) : Bld2 f size g size' w wr M M' (.slice none 0 0) (.slice none 0 0) 0 0 :=
  ⟨Bld.nil_at _ _ _ h, Bld.nil_at _ _ _ h, by simp [Value.ownBlock]⟩
theorem Bld2.keep {α β : Type} {f : α → List Value} {size : Nat} {g : β → List Value} {size' : Nat} {w wr W : World} {M : List α} {M' : List β} {u v : Value} {k k' : Nat} (h : Bld2 f size g size' w wr M M' u v k k') (hb : Below wr.heap.size wr W) : Bld2 f size g size' w W M M' u v k k' :=
  ⟨h.left.keep hb, h.right.keep hb, h.apart⟩
theorem Bld2.swap {α β : Type} {f : α → List Value} {size : Nat} {g : β → List Value} {size' : Nat} {w wr : World} {M : List α} {M' : List β} {u v : Value} {k k' : Nat} (h : Bld2 f size g size' w wr M M' u v k k') : Bld2 g size' f size w wr M' M v u k' k :=
  ⟨h.right, h.left, fun b h1 h2 => h.apart b h2 h1⟩
theorem Bld2.step {α β : Type} {f : α → List Value} {size : Nat} {g : β → List Value} {size' : Nat} {w wr W' W : World} {M : List α} {M' : List β} {u v : Value} {k k' b off cap : Nat} {x : α} {cs : List Value} (h : Bld2 f size g size' w wr M M' u v k k') (hW : Below wr.heap.size wr W') (hk : k < M.length) (hx : M[k] = x) (hcs : cs = f x)
    (ho : OwnS W w.heap.size size (.slice (some ⟨b, off, none⟩) (k + 1) cap) (k + 1) (flatV f (M.take k) ++ cs)) (hg : W'.grownBy W u.ownBlock) (hat : u.ownBlock = some b ∨ W'.heap.size ≤ b) : Bld2 f size g size' w W M M' (.slice (some ⟨b, off, none⟩) (k + 1) cap) v (k + 1) k' := by
  have hr := h.right.keep hW
  refine ⟨h.left.step hW hk hx hcs ho hg, ⟨hr.own.kept hg (fun b' h1 h2 => h.apart b' h1 h2), (h.left.step hW hk hx hcs ho hg).below⟩, fun b' h1 h2 => ?_⟩
  obtain rfl : b = b' := by simpa [Value.ownBlock] using h1
  rcases hat with h3 | h3
  · exact h.apart _ h3 h2
  · have := (hr.own.lt _ h2).2
    omega
theorem bDraw {B : Nat} {a w : World} (h : Below B a w) : Below B a w.drew := ⟨h.os, h.tape, h.output, h.size, h.block⟩
theorem new_block (w : World) (o : Obj) : (w.alloc o).heap[w.heap.size]? = some o := by
  show (w.heap.push o)[w.heap.size]? = some o
  rw [Array.getElem?_push, if_pos rfl]
end Go.Proofs.YtbojlmnajndleaaGreatDoor
