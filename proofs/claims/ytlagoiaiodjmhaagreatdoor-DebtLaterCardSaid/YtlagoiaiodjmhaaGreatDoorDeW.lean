/- law 18: appends of debts and payments. -/
import Derived.Test.YtlagoiaiodjmhaaGreatDoorDeT
import Derived.Test.YtlagoiaiodjmhaaGreatDoorDeR
set_option linter.unusedVariables false
set_option linter.unusedSimpArgs false
namespace Go.Proofs.YtlagoiaiodjmhaaGreatDoor
open Go.RowKit

theorem Tryz.infoPy : (Tryz.prog.info? 49).map (fun i => (i.zero, i.size, i.bytes)) = some (some (.agg #[.int .i64 0, .int .i64 0, .int .i64 0, .int .i64 0]), 4, 32) := by kernel_rfl
theorem vPy_one (p : Py) : ∀ u ∈ vPy p, u.oneCell' = true := by
  intro u hu
  simp [vPy] at hu
  rcases hu with rfl | rfl | rfl | rfl <;> rfl
theorem vDb_one (d : Db) : ∀ u ∈ vDb d, u.oneCell' = true := by
  intro u hu
  simp [vDb] at hu
  rcases hu with rfl | rfl | rfl | rfl | rfl | rfl <;> rfl
theorem lit_blkG {α : Type} {f : α → List Value} {size : Nat} (hf : ∀ a, (f a).length = size) {w : World} {H : Nat} {l : List α} {T : TypeId} (h : w.heap[H]? = some (.cells (flatV f l).toArray T (0, 0))) (hm : l.length ≤ maxLen) : SliceOf f size w (.slice (some ⟨H, 0, none⟩) l.length l.length) l := by
  refine .inr ⟨H, 0, l.length, rfl, (Array.getElem?_eq_some_iff.1 h).1, Nat.le_refl _, hm, fun i hi j u hu => ?_⟩
  have hj : j < size := by
    have := (List.getElem?_eq_some_iff.1 hu).1
    rw [hf] at this; exact this
  have e := flatV_get hf l i hi j hj
  rw [hu] at e
  have := news_block h (i * size + j) u (by simpa using e)
  rw [addr_add] at this
  rw [← Nat.add_assoc] at this
  exact this
theorem lit_py {w : World} {H : Nat} {p : Py} {T : TypeId} (h : w.heap[H]? = some (.cells #[.int .i64 p.kd, .int .i64 p.tl, .int .i64 p.fl, .int .i64 p.mo] T (0, 0))) : SliceOf vPy 4 w (.slice (some ⟨H, 0, none⟩) 1 1) [p] := lit_blkG vPy_len (l := [p]) h (by show 1 ≤ maxLen; decide)
theorem lit_db {w : World} {H : Nat} {d : Db} {T : TypeId} (h : w.heap[H]? = some (.cells #[.int .i64 d.kd, .int .i64 d.tl, .int .i64 d.fl, .int .i64 d.fr, .int .i64 d.un, .int .i64 d.pr] T (0, 0))) : SliceOf vDb 6 w (.slice (some ⟨H, 0, none⟩) 1 1) [d] := lit_blkG vDb_len (l := [d]) h (by show 1 ≤ maxLen; decide)
theorem own_nilG {α : Type} (f : α → List Value) {w : World} {B X size : Nat} (h : B ≤ X) (h2 : X < w.heap.size) : OwnS w B size (.slice (some ⟨X, 0, none⟩) 0 0) 0 (flatV f []) := ⟨by simp [flatV], .inl ⟨some ⟨X, 0, none⟩, rfl, rfl, fun a ha => by
    obtain rfl : (⟨X, 0, none⟩ : Addr) = a := by simpa using ha
    exact ⟨h, h2⟩⟩⟩
/-- append of a slice, in a region that draws its order. -/
theorem step_apG {α : Type} {f : α → List Value} {T E0 : TypeId} {size bytes : Nat} {z : Value} (hT : Tryz.prog.underlying T = some (.slice E0)) (hI : (Tryz.prog.info? E0).map (fun i => (i.zero, i.size, i.bytes)) = some (some z, size, bytes)) (hzs : z.cells.size = size) (hsz : 0 < size) (hby : bytes ≤ 1000) (hf : ∀ a, (f a).length = size) (h1 : ∀ a, ∀ u ∈ f a, u.oneCell' = true)
    {ops : Array Oper} {o : Oper} {a : Act} {w : World} {K : Act → World → Prop} {Q : Exit → Act → World → Prop} {E : Prop} (hgd : o.guard = none) (s x : Operand)
    (ho : o.op = .call { callee := .builtin .append, args := #[s, x], argTypes := #[T, T] })
    (B : Nat) (xl l : List α) (n m : Nat) (hn : n + l.length = m) (v : Value) (hs : a.eval s = v) (hown : OwnS w B size v n (flatV f xl)) (vx : Value) (hxe : a.eval x = vx) (hx : SliceOf f size w vx l)
    (h63 : m ≤ 1000) (hbase : B ≤ w.heap.size)
    (h : ∀ ao cap w', OwnS w' B size (.slice ao m cap) m (flatV f (xl ++ l)) → w.grownBy w' v.ownBlock → Below B w w' → K (a.put o.dst (.slice ao m cap)) w') :
    if Region.wanted o (yielded ops a.tmps) = true then Oper.wp Tryz.prog o a w K Q else E := by
  subst hn
  obtain ⟨i0, hi, hz0', hz1, hz2⟩ := info_parts hI
  refine step_append_slice hgd s x T ho B E0 i0 z size bytes hT hi hz0' hz1 hz2 hzs hsz hf h1 v n (flatV f xl) hs hown vx l hxe hx (by unfold maxLen; omega) (Nat.le_trans (Nat.mul_le_mul h63 hby) (by decide)) hbase ?_
  intro ao cap w' h1 h2
  refine h ao cap w' (by rw [flatV_append]; exact h1) h2 (below_of_grown hown h2 hbase)
/-- append of a slice, in a plain region. -/
theorem wp_apG {α : Type} {f : α → List Value} {T E0 : TypeId} {size bytes : Nat} {z : Value} (hT : Tryz.prog.underlying T = some (.slice E0)) (hI : (Tryz.prog.info? E0).map (fun i => (i.zero, i.size, i.bytes)) = some (some z, size, bytes)) (hzs : z.cells.size = size) (hsz : 0 < size) (hby : bytes ≤ 1000) (hf : ∀ a, (f a).length = size) (h1 : ∀ a, ∀ u ∈ f a, u.oneCell' = true)
    {ops : Array Oper} {rest : List Oper} {o : Oper} {a : Act} {w : World} {Q : Exit → Act → World → Prop} (hw : Region.wanted o (yielded ops a.tmps) = true) (s x : Operand)
    (ho : o.op = .call { callee := .builtin .append, args := #[s, x], argTypes := #[T, T] })
    (B : Nat) (xl l : List α) (n m : Nat) (hn : n + l.length = m) (v : Value) (hs : a.eval s = v) (hown : OwnS w B size v n (flatV f xl)) (vx : Value) (hxe : a.eval x = vx) (hx : SliceOf f size w vx l)
    (h63 : m ≤ 1000) (hbase : B ≤ w.heap.size)
    (h : ∀ ao cap w', OwnS w' B size (.slice ao m cap) m (flatV f (xl ++ l)) → w.grownBy w' v.ownBlock → Below B w w' → wpList Tryz.prog ops Q rest (a.put o.dst (.slice ao m cap)) w') : wpList Tryz.prog ops Q (o :: rest) a w := by
  subst hn
  obtain ⟨i0, hi, hz0', hz1, hz2⟩ := info_parts hI
  refine wpList_append_slice hw s x T ho B E0 i0 z size bytes hT hi hz0' hz1 hz2 hzs hsz hf h1 v n (flatV f xl) hs hown vx l hxe hx (by unfold maxLen; omega) (Nat.le_trans (Nat.mul_le_mul h63 hby) (by decide)) hbase ?_
  intro ao cap w' h1 h2 h3
  exact h ao cap w' (by rw [flatV_append]; exact h1) h2 h3
theorem two_blk (w : World) (o1 o2 : Obj) : ((w.alloc o1).alloc o2).heap[w.heap.size]? = some o1 := by
  show ((w.heap.push o1).push o2)[w.heap.size]? = some o1
  rw [Array.getElem?_push, if_neg (by simp), Array.getElem?_push, if_pos rfl]
theorem two_blk' (w : World) (o1 o2 : Obj) : ((w.alloc o1).alloc o2).heap[w.heap.size + 1]? = some o2 := by
  show ((w.heap.push o1).push o2)[w.heap.size + 1]? = some o2
  rw [Array.getElem?_push, if_pos (by simp)]
theorem grown_litG {w w' : World} {X : Nat} (h : w.grownBy w' (Value.slice (some ⟨X, 0, none⟩) 0 0).ownBlock) : w.grownBy w' (some X) := h
end Go.Proofs.YtlagoiaiodjmhaaGreatDoor
