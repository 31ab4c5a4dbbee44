/- Lists of ints, of pairs of ints, of other plain elements: slices that read so; arguments opened. -/
import Derived.Test.YtbojlmnajndleaaGreatDoorSlice
import Derived.Deep.Slices
import Derived.ChangeSame
import Derived.OpenShut
set_option linter.unusedVariables false
set_option linter.unusedSimpArgs false
namespace Go.Proofs.YtbojlmnajndleaaGreatDoor
open Go.RowKit Go.Deep Go.ChangeShapes Go.WideShapes

def vI (x : Int) : List Value := [.int .i64 x]
theorem vI_len (x : Int) : (vI x).length = 1 := rfl
def vP2 (x : Int × Int) : List Value := [.int .i64 x.1, .int .i64 x.2]
theorem vP2_len (x : Int × Int) : (vP2 x).length = 2 := rfl

/-- Where the elements of a slice lie. -/
theorem SliceOf.at_ {α : Type} {f : α → List Value} {size : Nat} {w : World} {ao : Option Addr} {cp : Nat} {l : List α} (h : SliceOf f size w (.slice ao l.length cp) l) :
    0 < l.length → ∃ b off, ao = some ⟨b, off, none⟩ ∧ b < w.heap.size ∧ l.length ≤ cp ∧ cp ≤ maxLen ∧ ∀ i (h : i < l.length) j u, (f l[i])[j]? = some u → w.cell? ⟨b, off + i * size + j, none⟩ = some u := by
  intro h0
  obtain ⟨b, off, cap, hv, hb, h1, h2, hc⟩ := h.some_of_pos h0
  simp only [Value.slice.injEq] at hv
  obtain ⟨r1, _, rfl⟩ := hv
  exact ⟨b, off, r1, hb, h1, h2, hc⟩
theorem int_cell {w : World} {b off : Nat} {l : List Int} (h : ∀ i (h : i < l.length) j u, (vI l[i])[j]? = some u → w.cell? ⟨b, off + i * 1 + j, none⟩ = some u) {k : Nat} (hk : k < l.length) : w.cell? ⟨b, off + k, none⟩ = some (.int .i64 l[k]) := by
  have := h k hk 0 _ rfl
  simpa using this
theorem p2_cells {w : World} {b off : Nat} {l : List (Int × Int)} (h : ∀ i (h : i < l.length) j u, (vP2 l[i])[j]? = some u → w.cell? ⟨b, off + i * 2 + j, none⟩ = some u) {k : Nat} (hk : k < l.length) :
    w.cell? ⟨b, off + k * 2, none⟩ = some (.int .i64 l[k].1) ∧ w.cell? ⟨b, off + k * 2 + 1, none⟩ = some (.int .i64 l[k].2) := by
  have h0 := h k hk 0 _ rfl
  have h1 := h k hk 1 _ rfl
  exact ⟨by simpa using h0, h1⟩
/-- A slice literal, by its cells. -/
theorem slice_lit {α : Type} {f : α → List Value} {size : Nat} (hf : ∀ a, (f a).length = size) (w : World) (l : List α) (T : TypeId) (h : l.length ≤ maxLen) : SliceOf f size (w.alloc (.cells (flatV f l).toArray T)) (.slice (some ⟨w.heap.size, 0, none⟩) l.length l.length) l :=
  .inr ⟨w.heap.size, 0, l.length, rfl, by simp, Nat.le_refl _, h, fun i hi j u hu => by
    have hj : j < size := by
      have := (List.getElem?_eq_some_iff.1 hu).1
      rw [hf] at this; exact this
    rw [World.cell?_alloc_at _ _ _ _ rfl, Nat.zero_add]
    have := flatV_get hf l i hi j hj
    rw [hu] at this
    simpa using this⟩
theorem slice_nil {α : Type} {f : α → List Value} {size : Nat} (w : World) : SliceOf f size w (.slice none 0 0) [] := .inl ⟨none, rfl, rfl⟩

theorem addr_spot' {w : World} {a : Addr} {v : Value} (h : w.cell? a = some v) : a = ⟨a.block, a.off, none⟩ := by
  have := World.cell?_spot h
  cases a
  simp only at this
  rw [this]
/-- An argument that is a slice of plain elements reads as a list. -/
theorem open_sliceOf {α : Type} {H : Type} {enc : TypeId × Value → H} {P : Program} {w : World} {r : Reach} {b0 : Nat} {v : Value} {d : DataW H} {p : List MemPlace} {t e : TypeId} {size : Nat} (f : α → List Value) (Q : α → Prop)
    (ht : P.underlying t = some (.slice e)) (hce : P.cellsOf e = size) (hsz : 0 < size) (hf : ∀ a, (f a).length = size)
    (hel : ∀ n cs y, cs.length = size → DataW.trod enc P w 0 (fun _ => true) true n e cs = some y → ∃ a, Q a ∧ cs = f a)
    (hv : Value.okWide P w r b0 t v) (h : DataW.Trod enc P w 0 (fun _ => true) true t v d p) : ∃ l : List α, SliceOf f size w v l ∧ ∀ a ∈ l, Q a := by
  obtain ⟨a0, len0, cap0, rfl⟩ := okWide_slice ht hv
  obtain ⟨fuel, hfu⟩ := h
  rcases open_slice ht hfu with ⟨hcs, _⟩ | ⟨a, len, cap, m, n, D, Pl, hcs, _, hl, hm, hmm, _, hc⟩
  · have e : Value.slice a0 len0 cap0 = .slice none 0 0 := by simpa [Value.cells] using hcs
    rw [e]
    exact ⟨[], .inl ⟨none, rfl, rfl⟩, by simp⟩
  · have e : Value.slice a0 len0 cap0 = .slice (some a) len cap := by simpa [Value.cells] using hcs
    rw [e]
    have hmc : m = cap := by rw [hmm]; rfl
    subst hmc
    by_cases h0 : m = 0
    · have : len = 0 := by omega
      subst h0 this
      exact ⟨[], .inl ⟨some a, rfl, rfl⟩, by simp⟩
    · rw [hce] at hc
      have each : ∀ i : Fin m, ∃ x : α, Q x ∧ w.cells? 0 (a.add (i.val * size)) size = some (f x) := by
        intro i
        obtain ⟨cs', h1, h2⟩ := hc i.val i.isLt
        obtain ⟨_, hlen, _⟩ := World.cells?_some h1
        obtain ⟨x, q, rfl⟩ := hel n cs' _ hlen h2
        exact ⟨x, q, h1⟩
      let g : Fin m → α := fun i => Classical.choose (each i)
      have hg : ∀ i : Fin m, Q (g i) ∧ w.cells? 0 (a.add (i.val * size)) size = some (f (g i)) := fun i => Classical.choose_spec (each i)
      have hc0 : ∀ i (hi : i < m) j u, (f (g ⟨i, hi⟩))[j]? = some u → w.cell? ((a.add (i * size)).add j) = some u := by
        intro i hi j u hu
        obtain ⟨_, hlen, hcell⟩ := World.cells?_some (hg ⟨i, hi⟩).2
        have hj := (List.getElem?_eq_some_iff.1 hu).1
        have := hcell j (by omega)
        rw [hu] at this
        exact this
      have hp0 : 0 < m := by omega
      have hfirst : ∃ u, w.cell? a = some u := by
        have hl0 : 0 < (f (g ⟨0, hp0⟩)).length := by rw [hf]; exact hsz
        have := hc0 0 hp0 0 _ (List.getElem?_eq_getElem hl0)
        have e1 : (a.add (0 * size)).add 0 = a := by unfold Addr.add; simp
        rw [e1] at this
        exact ⟨_, this⟩
      obtain ⟨u0, hu0⟩ := hfirst
      have ha := addr_spot' hu0
      have hb := World.block_lt_of_cell? w _ hu0
      let l : List α := List.ofFn (fun i : Fin len => g ⟨i.val, by have := i.isLt; omega⟩)
      have hll : l.length = len := by simp [l]
      refine ⟨l, .inr ⟨a.block, a.off, m, ?_, hb, by rw [hll]; exact hl, hm, fun i hi j u hu => ?_⟩, fun x hx => ?_⟩
      · rw [hll, ← ha]
      · rw [hll] at hi
        have hu' : (f (g ⟨i, by omega⟩))[j]? = some u := by simpa [l] using hu
        have := hc0 i (by omega) j u hu'
        rw [ha, addr_add, addr_add] at this
        simpa using this
      · obtain ⟨i, rfl⟩ := List.mem_ofFn.1 hx
        exact (hg _).1

theorem Tryz.cells3' : Tryz.prog.cellsOf 3 = 1 := by kernel_rfl
def inI64 (x : Int) : Prop := -9223372036854775808 ≤ x ∧ x < 9223372036854775808
theorem wf_inI64 {x : Int} (h : (Lit.int .i64 x).wf = true) : inI64 x := by
  simp [Lit.wf, IntKind.min, IntKind.max, IntKind.signed, IntKind.bits] at h
  exact ⟨by omega, by omega⟩
/-- One cell that reads as an int. -/
theorem trod_int_one {H : Type} {enc : TypeId × Value → H} {w : World} {b : Nat} {sp : Nat → Bool} {hd : Bool} {n : Nat} {cs : List Value} {y : DataW H × List MemPlace} (h : DataW.trod enc Tryz.prog w b sp hd n 3 cs = some y) : ∃ x, inI64 x ∧ cs = vI x := by
  obtain ⟨m, rfl, _, hw⟩ := DataW.trod_int Tryz.underlying3 h
  exact ⟨m, wf_inI64 hw, rfl⟩
set_option maxRecDepth 100000 in
theorem open_ints1 {H : Type} {enc : TypeId × Value → H} {w : World} {r : Reach} {b0 : Nat} {v : Value} {d : DataW H} {p : List MemPlace} (hv : Value.okWide Tryz.prog w r b0 78 v)
    (h : DataW.Trod enc Tryz.prog w 0 (fun _ => true) true 78 v d p) : ∃ l : List Int, SliceOf vI 1 w v l ∧ ∀ a ∈ l, inI64 a :=
  open_sliceOf vI inI64 Tryz.underlying78 Tryz.cells3' (by omega) vI_len (fun _ _ _ _ h => trod_int_one h) hv h

/-- A callee that leaves the world alone, or draws, met in a region that draws its order. -/
theorem qt_same {P : Program} {f : FuncId} {args : Array Value} {w : World} {n : Nat} {v : Value}
    (h : Calls P f args (w.drewN n) fun e w' => e = .returned v ∧ w.drewN n = w') : Calls P f args (w.drewN n) fun e w'' => e = .returned v ∧ ∃ m, w'' = w.drewN m :=
  h.mono fun _ _ ⟨he, hm⟩ => ⟨he, n, hm.symm⟩
theorem qt_drew {P : Program} {f : FuncId} {args : Array Value} {w : World} {n : Nat} {v : Value}
    (h : Calls P f args (w.drewN n) fun e w' => e = .returned v ∧ ∃ m, (w.drewN n).drewN m = w') : Calls P f args (w.drewN n) fun e w'' => e = .returned v ∧ ∃ m, w'' = w.drewN m :=
  h.mono fun _ _ ⟨he, m, hm⟩ => ⟨he, n + m, by rw [← hm, World.drewN_drewN]⟩
/-- The same where the walk has added the draws up. -/
theorem qt_same_add {P : Program} {f : FuncId} {args : Array Value} {w : World} {a n : Nat} {v : Value}
    (h : Calls P f args (w.drewN (a + n)) fun e w' => e = .returned v ∧ w.drewN (a + n) = w') : Calls P f args (w.drewN (a + n)) fun e w'' => e = .returned v ∧ ∃ m, w'' = w.drewN (a + m) :=
  h.mono fun _ _ ⟨he, hm⟩ => ⟨he, n, hm.symm⟩
theorem qt_drew_add {P : Program} {f : FuncId} {args : Array Value} {w : World} {a n : Nat} {v : Value}
    (h : Calls P f args (w.drewN (a + n)) fun e w' => e = .returned v ∧ ∃ m, (w.drewN (a + n)).drewN m = w') : Calls P f args (w.drewN (a + n)) fun e w'' => e = .returned v ∧ ∃ m, w'' = w.drewN (a + m) :=
  h.mono fun _ _ ⟨he, m, hm⟩ => ⟨he, n + m, by rw [← hm, World.drewN_drewN, Nat.add_assoc]⟩
end Go.Proofs.YtbojlmnajndleaaGreatDoor
