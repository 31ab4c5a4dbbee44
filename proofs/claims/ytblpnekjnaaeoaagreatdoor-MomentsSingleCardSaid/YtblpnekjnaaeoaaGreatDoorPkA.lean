/- Slice, Ints, Append in one text. -/
import Derived.Test.YtblpnekjnaaeoaaGreatDoorBase
import Derived.Deep.AppendLies
import Derived.Deep.RegionLawGrows
import Derived.Deep.Slices
import Derived.ChangeSame
import Derived.OpenShut
set_option linter.unusedVariables false
set_option linter.unusedSimpArgs false
namespace Go.Proofs.YtblpnekjnaaeoaaGreatDoor
open Go.RowKit

/-- A slice value that reads as a list, each element by its cells. -/
def SliceOf {α : Type} (f : α → List Value) (size : Nat) (w : World) (v : Value) (l : List α) : Prop :=
  (∃ ao, v = .slice ao 0 0 ∧ l = []) ∨ ∃ b off cap, v = .slice (some ⟨b, off, none⟩) l.length cap ∧ b < w.heap.size ∧ l.length ≤ cap ∧ cap ≤ maxLen ∧
    ∀ i (h : i < l.length) j u, (f l[i])[j]? = some u → w.cell? ⟨b, off + i * size + j, none⟩ = some u
theorem SliceOf.below {α : Type} {f : α → List Value} {size : Nat} {w w' : World} {v : Value} {l : List α} (h : SliceOf f size w v l) (hb : Below w.heap.size w w') : SliceOf f size w' v l := by
  rcases h with h | ⟨b, off, cap, h1, h2, h3, h5, h4⟩
  · exact .inl h
  · exact .inr ⟨b, off, cap, h1, Nat.lt_of_lt_of_le h2 hb.size, h3, h5, fun i hi j u hu => (hb.cell (p := ⟨b, off + i * size + j, none⟩) h2).trans (h4 i hi j u hu)⟩
theorem SliceOf.shape {α : Type} {f : α → List Value} {size : Nat} {w : World} {v : Value} {l : List α} (h : SliceOf f size w v l) : ∃ ao cap, v = .slice ao l.length cap := by
  rcases h with ⟨ao, h, rfl⟩ | ⟨b, off, cap, h, _⟩
  · exact ⟨_, _, h⟩
  · exact ⟨_, _, h⟩
theorem SliceOf.some_of_pos {α : Type} {f : α → List Value} {size : Nat} {w : World} {v : Value} {l : List α} (h : SliceOf f size w v l) (hl : 0 < l.length) :
    ∃ b off cap, v = .slice (some ⟨b, off, none⟩) l.length cap ∧ b < w.heap.size ∧ l.length ≤ cap ∧ cap ≤ maxLen ∧
    ∀ i (h : i < l.length) j u, (f l[i])[j]? = some u → w.cell? ⟨b, off + i * size + j, none⟩ = some u := by
  rcases h with ⟨ao, _, rfl⟩ | h
  · simp at hl
  · exact h

/-- The cells of a list of elements, one after the other. -/
def flatV {α : Type} (f : α → List Value) (l : List α) : List Value := l.flatMap f
theorem flatV_length {α : Type} {f : α → List Value} {size : Nat} (hf : ∀ a, (f a).length = size) (l : List α) : (flatV f l).length = l.length * size := by
  induction l with
  | nil => simp [flatV]
  | cons a l ih =>
    have e : flatV f (a :: l) = f a ++ flatV f l := rfl
    rw [e, List.length_append, ih, hf, List.length_cons, Nat.add_mul]; omega
theorem flatV_get {α : Type} {f : α → List Value} {size : Nat} (hf : ∀ a, (f a).length = size) : ∀ (l : List α) (i : Nat) (h : i < l.length) (j : Nat), j < size → (flatV f l)[i * size + j]? = (f l[i])[j]?
  | a :: l, 0, _, j, hj => by
    have e : flatV f (a :: l) = f a ++ flatV f l := rfl
    rw [e, Nat.zero_mul, Nat.zero_add, List.getElem?_append_left (by rw [hf]; exact hj)]; rfl
  | a :: l, i + 1, h, j, hj => by
    have e : flatV f (a :: l) = f a ++ flatV f l := rfl
    rw [e, List.getElem?_append_right (by rw [hf, Nat.add_mul]; omega), hf]
    have e2 : (i + 1) * size + j - size = i * size + j := by rw [Nat.add_mul]; omega
    rw [e2, flatV_get hf l i (by simpa using h) j hj]
    rfl
theorem flatV_append {α : Type} (f : α → List Value) (l m : List α) : flatV f (l ++ m) = flatV f l ++ flatV f m := by simp [flatV]
theorem flatV_one {α : Type} (f : α → List Value) (a : α) : flatV f [a] = f a := by simp [flatV]

/-- A slice that the call owns (its block from B on, nothing frozen), wherever in its block it begins. -/
def OwnS (w : World) (B size : Nat) (v : Value) (n : Nat) (xs : List Value) : Prop :=
  xs.length = n * size ∧ ((∃ ao, v = .slice ao 0 0 ∧ n = 0 ∧ ∀ a, ao = some a → B ≤ a.block ∧ a.block < w.heap.size) ∨ ∃ g off cap, v = .slice (some ⟨g, off, none⟩) n cap ∧ B ≤ g ∧ g < w.heap.size ∧ n ≤ cap ∧ cap ≤ maxLen ∧
    (∀ j, j < cap * size → (w.cell? ⟨g, off + j, none⟩).isSome = true ∧ w.frozen? ⟨g, off + j, none⟩ = false) ∧ ∀ j u, xs[j]? = some u → w.cell? ⟨g, off + j, none⟩ = some u)

theorem OwnS.nil (w : World) (B size : Nat) : OwnS w B size (.slice none 0 0) 0 [] := ⟨by simp, .inl ⟨none, rfl, rfl, by simp⟩⟩
theorem OwnS.of_owns {w : World} {B e size : Nat} {v : Value} {n : Nat} {xs : List Value} (h : w.ownsRow B e size v n xs) : OwnS w B size v n xs := by
  refine ⟨h.1, ?_⟩
  rcases h.2 with ⟨h1, h2⟩ | ⟨g, cap, cur, hv, hb, hg, hn, hm, hs, hx⟩
  · exact .inl ⟨none, h1, h2, by simp⟩
  · refine .inr ⟨g, 0, cap, hv, hb, (Array.getElem?_eq_some_iff.1 hg).1, hn, hm, fun j hj => ⟨?_, ?_⟩, fun j u hu => ?_⟩
    · simp only [World.cell?, hg, Nat.zero_add]
      simp [hs, hj]
    · simp [World.frozen?, hg]
    · have h3 := h.cells (g := g) (by rw [hv]; rfl) j u hu
      have e1 : (⟨g, 0, none⟩ : Addr).add j = ⟨g, 0 + j, none⟩ := by
        unfold Addr.add
        split
        · rename_i h0; rw [h0]
        · rfl
      rw [e1] at h3
      exact h3
/-- What is owned stays while other blocks change. -/
theorem OwnS.kept {w w' : World} {B size : Nat} {v : Value} {n : Nat} {xs : List Value} {row : Option Nat} (h : OwnS w B size v n xs) (hg : w.grownBy w' row) (hne : ∀ k, row = some k → v.ownBlock ≠ some k) : OwnS w' B size v n xs := by
  refine ⟨h.1, ?_⟩
  rcases h.2 with ⟨ao, h1, h2, h3⟩ | ⟨g, off, cap, hv, hb, hlt, hn, hm, hc, hx⟩
  · exact .inl ⟨ao, h1, h2, fun a ha => ⟨(h3 a ha).1, Nat.lt_of_lt_of_le (h3 a ha).2 hg.size⟩⟩
  · have e := hg.block g hlt (by intro e; exact hne g e.symm (by rw [hv]; rfl))
    refine .inr ⟨g, off, cap, hv, hb, Nat.lt_of_lt_of_le hlt hg.size, hn, hm, fun j hj => ?_, fun j u hu => ?_⟩
    · rw [World.cell?_of_block (w := w) (a := ⟨g, off + j, none⟩) e, World.frozen?_of_block (w := w) (a := ⟨g, off + j, none⟩) e]
      exact hc j hj
    · rw [World.cell?_of_block (w := w) (a := ⟨g, off + j, none⟩) e]
      exact hx j u hu
theorem OwnS.below {w w' : World} {B size : Nat} {v : Value} {n : Nat} {xs : List Value} (h : OwnS w B size v n xs) (hb : Below w.heap.size w w') : OwnS w' B size v n xs :=
  h.kept (row := none) ⟨hb.os, hb.tape, hb.output, hb.size, fun k hk _ => hb.block k hk⟩ (by simp)
theorem OwnS.setCell {w : World} {B size : Nat} {v : Value} {n : Nat} {xs : List Value} (h : OwnS w B size v n xs) {p : Addr} (hp : p.block < B) (u : Value) : OwnS (w.setCell p u) B size v n xs := by
  refine h.kept (row := some p.block) ⟨rfl, rfl, rfl, by simp, fun k hk hne => Below.heap_setCell _ _ _ _ fun e => hne (by rw [e])⟩ fun k hk he => ?_
  obtain rfl : p.block = k := by simpa using hk
  rcases h.2 with ⟨ao, h1, h2, h3⟩ | ⟨g, off, cap, hv, hb, _⟩
  · rw [h1] at he
    cases ao with
    | none => cases he
    | some a =>
      have := (h3 a rfl).1
      simp only [Value.ownBlock, Option.some.injEq] at he
      omega
  · rw [hv] at he
    simp only [Value.ownBlock, Option.some.injEq] at he
    omega
theorem OwnS.alloc {w : World} {B size : Nat} {v : Value} {n : Nat} {xs : List Value} (h : OwnS w B size v n xs) (o : Obj) : OwnS (w.alloc o) B size v n xs :=
  h.below ((Below.refl _ _).alloc (Nat.le_refl _) _)
theorem OwnS.drew {w : World} {B size : Nat} {v : Value} {n : Nat} {xs : List Value} (h : OwnS w B size v n xs) : OwnS w.drew B size v n xs :=
  h.below (Below.refl _ _).drew
theorem OwnS.slice {α : Type} {f : α → List Value} {size : Nat} {w : World} {B : Nat} {v : Value} {l : List α} (hf : ∀ a, (f a).length = size) (h : OwnS w B size v l.length (flatV f l)) : SliceOf f size w v l := by
  rcases h.2 with ⟨ao, h1, h2, h3⟩ | ⟨g, off, cap, hv, hb, hlt, hn, hm, hc, hx⟩
  · exact .inl ⟨ao, h1, List.eq_nil_of_length_eq_zero h2⟩
  · refine .inr ⟨g, off, cap, hv, hlt, hn, hm, fun i hi j u hu => ?_⟩
    have hj : j < size := by
      have := (List.getElem?_eq_some_iff.1 hu).1
      rw [hf] at this; exact this
    have := hx (i * size + j) u (by rw [flatV_get hf l i hi j hj]; exact hu)
    rw [Nat.add_assoc]
    exact this

theorem addr_add (b o j : Nat) : (⟨b, o, none⟩ : Addr).add j = ⟨b, o + j, none⟩ := by
  unfold Addr.add
  split
  · rename_i h0; rw [h0]; rfl
  · rfl

theorem setCells_block (b : Nat) : ∀ (vs : List Value) (o : Nat) (w : World) (k : Nat), k ≠ b → (w.setCells b o vs).heap[k]? = w.heap[k]?
  | [], o, w, k, _ => rfl
  | v :: vs, o, w, k, hk => by
    show ((w.setCell ⟨b, o, none⟩ v).setCells b (o + 1) vs).heap[k]? = _
    rw [setCells_block b vs (o + 1) _ k hk, Below.heap_setCell _ _ _ _ hk]
theorem setCells_size (b : Nat) : ∀ (vs : List Value) (o : Nat) (w : World), (w.setCells b o vs).heap.size = w.heap.size
  | [], o, w => rfl
  | v :: vs, o, w => by
    show ((w.setCell ⟨b, o, none⟩ v).setCells b (o + 1) vs).heap.size = _
    rw [setCells_size b vs (o + 1) _, World.size_setCell]
theorem setCells_frozen (b : Nat) : ∀ (vs : List Value) (o : Nat) (w : World) (p : Addr), (w.setCells b o vs).frozen? p = w.frozen? p
  | [], o, w, p => rfl
  | v :: vs, o, w, p => by
    show ((w.setCell ⟨b, o, none⟩ v).setCells b (o + 1) vs).frozen? p = _
    rw [setCells_frozen b vs (o + 1) _ p, World.frozen?_setCell]
theorem setCells_rest (b : Nat) : ∀ (vs : List Value) (o : Nat) (w : World), (w.setCells b o vs).os = w.os ∧ (w.setCells b o vs).tape = w.tape ∧ (w.setCells b o vs).output = w.output
  | [], o, w => ⟨rfl, rfl, rfl⟩
  | v :: vs, o, w => setCells_rest b vs (o + 1) (w.setCell ⟨b, o, none⟩ v)

section
variable {P : Program} (w : World)
/-- append onto an owned slice: some value that owns the longer row; only the old block, or none of what was there, has changed. -/
theorem run_append_S (t ty : TypeId) (B : Nat) (e : TypeId) (i : TypeInfo) (z : Value) (size bytes : Nat) (ht : P.underlying t = some (.slice e)) (hi : P.info? e = some i) (hz : i.zero = some z)
    (hsize : i.size = size) (hby : i.bytes = bytes) (hzs : z.cells.size = size) (hsz : 0 < size)
    (v : Value) (n : Nat) (xs : List Value) (hown : OwnS w B size v n xs)
    (ad : Addr) (m c : Nat) (news : List Value) (hl : news.length = m * size) (hnews : ∀ j u, news[j]? = some u → w.cell? (ad.add j) = some u) (h1 : ∀ u ∈ news, u.oneCell' = true)
    (hm : 0 < m) (h63 : n + m ≤ maxLen) (hbytes : (n + m) * bytes ≤ 140737488355328) (hbase : B ≤ w.heap.size) :
    ∃ g off cap w', (Builtin.append_ #[t, t] ty #[v, .slice (some ad) m c]).run P w = .ok (.slice (some ⟨g, off, none⟩) (n + m) cap) w' ∧
      OwnS w' B size (.slice (some ⟨g, off, none⟩) (n + m) cap) (n + m) (xs ++ news) ∧ w.grownBy w' v.ownBlock ∧ (v.ownBlock = some g ∨ w.heap.size ≤ g) := by
  have grow : ∀ (ao : Option Addr) (cap : Nat) (olds : List Value), v = .slice ao n cap → (ao = none → n = 0 ∧ cap = 0) → olds = xs → (∀ b, ao = some b → ∀ j u, olds[j]? = some u → w.cell? (b.add j) = some u) → cap < n + m →
      ∃ g off cap w', (Builtin.append_ #[t, t] ty #[v, .slice (some ad) m c]).run P w = .ok (.slice (some ⟨g, off, none⟩) (n + m) cap) w' ∧
      OwnS w' B size (.slice (some ⟨g, off, none⟩) (n + m) cap) (n + m) (xs ++ news) ∧ w.grownBy w' v.ownBlock ∧ (v.ownBlock = some g ∨ w.heap.size ≤ g) := by
    intro ao cap olds hv hnone he holds hfull
    subst he
    have fin : ∀ v' w', (Builtin.append_ #[t, t] ty #[v, .slice (some ad) m c]).run P w = .ok v' w' → w'.ownsRow w.heap.size e size v' (n + m) (olds ++ news) → w.grownBy w' none →
        ∃ g off cap w', (Builtin.append_ #[t, t] ty #[v, .slice (some ad) m c]).run P w = .ok (.slice (some ⟨g, off, none⟩) (n + m) cap) w' ∧
        OwnS w' B size (.slice (some ⟨g, off, none⟩) (n + m) cap) (n + m) (olds ++ news) ∧ w.grownBy w' v.ownBlock ∧ (v.ownBlock = some g ∨ w.heap.size ≤ g) := by
      intro v' w' hr ho hg
      obtain ⟨g, cap', rfl, hb, hlt⟩ := ho.form (by omega)
      have ho2 := OwnS.of_owns ho
      refine ⟨g, 0, cap', w', hr, ⟨ho2.1, ?_⟩, ⟨hg.os, hg.tape, hg.output, hg.size, fun k hk _ => hg.block k hk (by simp)⟩, .inr hb⟩
      rcases ho2.2 with ⟨ao', h1', h2', _⟩ | ⟨g', off', cap'', hv', hb', rest⟩
      · omega
      · exact .inr ⟨g', off', cap'', hv', Nat.le_trans hbase hb', rest⟩
    cases ao with
    | some b =>
      obtain ⟨v', w', hrun, r1, r2⟩ := run_append_arg_grows (P := P) w t ty e i z size bytes ht hi hz hsize hby hzs hsz b n cap olds hown.1 (holds b rfl) ad m c news hl hnews hfull h63 hbytes
      rw [← hv] at hrun
      exact fin v' w' hrun r1 r2
    | none =>
      obtain ⟨rfl, rfl⟩ := hnone rfl
      obtain rfl : olds = [] := List.eq_nil_of_length_eq_zero (by simpa using hown.1)
      obtain ⟨v', w', hrun, r1, r2, _⟩ := run_append_own (P := P) w w.heap.size t ty e i z size bytes ht hi hz hsize hby hzs hsz (.slice none 0 0) 0 [] (World.ownsRow_nil w _ e size) ad m c news hl hnews h1 h63 hbytes (Nat.le_refl _)
      rw [← hv] at hrun
      exact fin v' w' hrun r1 r2
  rcases hown.2 with ⟨ao, hv, h0, hao⟩ | ⟨g, off, cap, hv, hb, hlt, hn, hmx, hc, hx⟩
  · have hx0 : xs = [] := List.eq_nil_of_length_eq_zero (by rw [hown.1, h0]; simp)
    exact grow ao 0 xs (by rw [hv, h0]) (fun _ => ⟨h0, rfl⟩) rfl (by rw [hx0]; simp) (by omega)
  · by_cases hroom : n + m ≤ cap
    · subst hsize
      have hin : ∀ j, j < news.length → n * i.size + j < cap * i.size := by
        intro j hj
        have h2 : (n + m) * i.size ≤ cap * i.size := Nat.mul_le_mul_right _ hroom
        rw [Nat.add_mul] at h2
        omega
      have hrun := run_append_room_cells (P := P) w t ty e i ht hi g off n cap ad m c news hl hnews h1 hroom (fun j hj => by rw [Nat.add_assoc]; exact (hc _ (hin j hj)).1) (fun j hj => by rw [Nat.add_assoc]; exact (hc _ (hin j hj)).2)
      obtain ⟨e1, e2, e3⟩ := setCells_rest g news (off + n * i.size) w
      refine ⟨g, off, cap, w.setCells g (off + n * i.size) news, by rw [hv]; exact hrun, ⟨by rw [List.length_append, hown.1, hl, Nat.add_mul], .inr ⟨g, off, cap, rfl, hb, by rw [setCells_size]; exact hlt, hroom, hmx, fun j hj => ⟨?_, ?_⟩, fun j u hu => ?_⟩⟩,
        ⟨e1, e2, e3, by rw [setCells_size]; exact Nat.le_refl _, fun k hk hne => setCells_block g news _ w k (by intro e; apply hne; rw [hv, e]; rfl)⟩, .inl (by rw [hv]; rfl)⟩
      · by_cases hj2 : n * i.size ≤ j ∧ j < n * i.size + news.length
        · have h3 := World.cell?_setCells_in g news (off + n * i.size) w (fun q hq => by rw [Nat.add_assoc]; exact (hc _ (hin q hq)).1) (j - n * i.size) (by omega)
          rw [show off + n * i.size + (j - n * i.size) = off + j by omega] at h3
          rw [h3]; rfl
        · rw [World.cell?_setCells_out g news (off + n * i.size) w ⟨g, off + j, none⟩ (fun _ _ => by simp only; omega)]
          exact (hc j hj).1
      · rw [setCells_frozen]; exact (hc j hj).2
      · by_cases hj2 : j < n * i.size
        · rw [List.getElem?_append_left (by rw [hown.1]; exact hj2)] at hu
          rw [World.cell?_setCells_out g news (off + n * i.size) w ⟨g, off + j, none⟩ (fun _ _ => by simp only; omega)]
          exact hx j u hu
        · rw [List.getElem?_append_right (by rw [hown.1]; omega), hown.1] at hu
          have hjl := (List.getElem?_eq_some_iff.1 hu).1
          have h3 := World.cell?_setCells_in g news (off + n * i.size) w (fun q hq => by rw [Nat.add_assoc]; exact (hc _ (hin q hq)).1) (j - n * i.size) hjl
          rw [show off + n * i.size + (j - n * i.size) = off + j by omega] at h3
          rw [h3, ← hu, List.getElem?_eq_getElem hjl]
    · exact grow (some ⟨g, off, none⟩) cap xs hv (by simp) rfl (fun b hbb j u hu => by
        obtain rfl : (⟨g, off, none⟩ : Addr) = b := by simpa using hbb
        rw [addr_add]; exact hx j u hu) (by omega)
end

theorem bAlloc {a w : World} (h : Below a.heap.size a w) (o : Obj) : Below a.heap.size a (w.alloc o) := h.alloc h.size o
/-- Nothing but block R and one row has changed of what was there. -/
structure Only2 (w w' : World) (R : Nat) (row : Option Nat) : Prop where
  os : w'.os = w.os
  tape : w'.tape = w.tape
  output : w'.output = w.output
  size : w.heap.size ≤ w'.heap.size
  block : ∀ k, k < w.heap.size → k ≠ R → some k ≠ row → w'.heap[k]? = w.heap[k]?
theorem Only2.of_below {w w' : World} {R : Nat} {row : Option Nat} (h : Below w.heap.size w w') : Only2 w w' R row := ⟨h.os, h.tape, h.output, h.size, fun k hk _ _ => h.block k hk⟩
theorem Only2.setCell {w w' : World} {R : Nat} {row : Option Nat} (h : Only2 w w' R row) (o : Nat) (u : Value) : Only2 w (w'.setCell ⟨R, o, none⟩ u) R row :=
  ⟨h.os, h.tape, h.output, by simpa using h.size, fun k hk h1 h2 => (Below.heap_setCell _ _ _ _ h1).trans (h.block k hk h1 h2)⟩
theorem Only2.drew {w w' : World} {R : Nat} {row : Option Nat} (h : Only2 w w' R row) : Only2 w w'.drew R row := ⟨h.os, h.tape, h.output, h.size, h.block⟩
theorem Only2.below {w w' : World} {R B : Nat} {row : Option Nat} (h : Only2 w w' R row) (hR : B ≤ R) (hr : ∀ k, row = some k → B ≤ k) (hB : B ≤ w.heap.size) : Below B w w' :=
  ⟨h.os, h.tape, h.output, h.size, fun k hk => h.block k (by omega) (by omega) fun e => by have := hr k e.symm; omega⟩
theorem cells_of_block {w : World} {R : Nat} {cs : Array Value} {T : TypeId} (h : w.heap[R]? = some (.cells cs T (0, 0))) (o : Nat) : w.cell? ⟨R, o, none⟩ = cs[o]? ∧ w.frozen? ⟨R, o, none⟩ = false := by
  refine ⟨by simp [World.cell?, h], by simp [World.frozen?, h]⟩
theorem block_setCell {w : World} {R : Nat} {cs : Array Value} {T : TypeId} (h : w.heap[R]? = some (.cells cs T (0, 0))) (o : Nat) (u : Value) : (w.setCell ⟨R, o, none⟩ u).heap[R]? = some (.cells (cs.setIfInBounds o u) T (0, 0)) := by
  simp [World.setCell, Array.getElem?_modify, h]

theorem OwnS.lt {w : World} {B size : Nat} {v : Value} {n : Nat} {xs : List Value} (h : OwnS w B size v n xs) : ∀ k, v.ownBlock = some k → B ≤ k ∧ k < w.heap.size := by
  intro k hk
  rcases h.2 with ⟨ao, h1, _, h3⟩ | ⟨g, off, cap, hv, hb, hlt, _⟩
  · rw [h1] at hk
    cases ao with
    | none => cases hk
    | some ad =>
      obtain rfl : ad.block = k := by simpa [Value.ownBlock] using hk
      exact h3 ad rfl
  · rw [hv] at hk
    obtain rfl : g = k := by simpa [Value.ownBlock] using hk
    exact ⟨hb, hlt⟩
theorem Only2.cell {w w' : World} {R b o : Nat} {row : Option Nat} {u : Value} (ho : Only2 w w' R row) (hne : b ≠ R) (hr : some b ≠ row) (h : w.cell? ⟨b, o, none⟩ = some u) : w'.cell? ⟨b, o, none⟩ = some u :=
  (World.cell?_of_block (w := w) (a := ⟨b, o, none⟩) (ho.block b (World.block_lt_of_cell? w _ h) hne hr)).trans h

end Go.Proofs.YtblpnekjnaaeoaaGreatDoor
namespace Go.Proofs.YtblpnekjnaaeoaaGreatDoor
open Go.RowKit Go.Deep Go.ChangeShapes Go.WideShapes

def vI (x : Int) : List Value := [.int .i64 x]
/-- Where the elements of a slice lie. -/
theorem SliceOf.at_ {α : Type} {f : α → List Value} {size : Nat} {w : World} {ao : Option Addr} {cp : Nat} {l : List α} (h : SliceOf f size w (.slice ao l.length cp) l) :
    0 < l.length → ∃ b off, ao = some ⟨b, off, none⟩ ∧ b < w.heap.size ∧ l.length ≤ cp ∧ cp ≤ maxLen ∧ ∀ i (h : i < l.length) j u, (f l[i])[j]? = some u → w.cell? ⟨b, off + i * size + j, none⟩ = some u := by
  intro h0
  obtain ⟨b, off, cap, hv, hb, h1, h2, hc⟩ := h.some_of_pos h0
  simp only [Value.slice.injEq] at hv
  obtain ⟨r1, _, rfl⟩ := hv
  exact ⟨b, off, r1, hb, h1, h2, hc⟩
/-- A slice literal, by its cells. -/
theorem slice_lit {α : Type} {f : α → List Value} {size : Nat} (hf : ∀ a, (f a).length = size) (w : World) (l : List α) (T : TypeId) (h : l.length ≤ maxLen) : SliceOf f size (w.alloc (.cells (flatV f l).toArray T)) (.slice (some ⟨w.heap.size, 0, none⟩) l.length l.length) l :=
  .inr ⟨w.heap.size, 0, l.length, rfl, by simp, Nat.le_refl _, h, fun i hi j u hu => by
    have hj : j < size := by
      have := (List.getElem?_eq_some_iff.1 hu).1
      rw [hf] at this; exact this
    rw [World.cell?_alloc_at _ _ _ _ rfl, Nat.zero_add]
    have := flatV_get hf l i hi j hj
    rw [hu] at this
    simpa using this⟩
theorem slice_nil {α : Type} {f : α → List Value} {size : Nat} (w : World) : SliceOf f size w (.slice none 0 0) [] := .inl ⟨none, rfl, rfl⟩

theorem addr_spot' {w : World} {a : Addr} {v : Value} (h : w.cell? a = some v) : a = ⟨a.block, a.off, none⟩ := by
  have := World.cell?_spot h
  cases a
  simp only at this
  rw [this]
/-- An argument that is a slice of plain elements reads as a list. -/
theorem open_sliceOf {α : Type} {H : Type} {enc : TypeId × Value → H} {P : Program} {w : World} {r : Reach} {b0 : Nat} {v : Value} {d : DataW H} {p : List MemPlace} {t e : TypeId} {size : Nat} (f : α → List Value) (Q : α → Prop)
    (ht : P.underlying t = some (.slice e)) (hce : P.cellsOf e = size) (hsz : 0 < size) (hf : ∀ a, (f a).length = size)
    (hel : ∀ n cs y, cs.length = size → DataW.trod enc P w 0 (fun _ => true) true n e cs = some y → ∃ a, Q a ∧ cs = f a)
    (hv : Value.okWide P w r b0 t v) (h : DataW.Trod enc P w 0 (fun _ => true) true t v d p) : ∃ l : List α, SliceOf f size w v l ∧ ∀ a ∈ l, Q a := by
  obtain ⟨a0, len0, cap0, rfl⟩ := okWide_slice ht hv
  obtain ⟨fuel, hfu⟩ := h
  rcases open_slice ht hfu with ⟨hcs, _⟩ | ⟨a, len, cap, m, n, D, Pl, hcs, _, hl, hm, hmm, _, hc⟩
  · have e : Value.slice a0 len0 cap0 = .slice none 0 0 := by simpa [Value.cells] using hcs
    rw [e]
    exact ⟨[], .inl ⟨none, rfl, rfl⟩, by simp⟩
  · have e : Value.slice a0 len0 cap0 = .slice (some a) len cap := by simpa [Value.cells] using hcs
    rw [e]
    have hmc : m = cap := by rw [hmm]; rfl
    subst hmc
    by_cases h0 : m = 0
    · have : len = 0 := by omega
      subst h0 this
      exact ⟨[], .inl ⟨some a, rfl, rfl⟩, by simp⟩
    · rw [hce] at hc
      have each : ∀ i : Fin m, ∃ x : α, Q x ∧ w.cells? 0 (a.add (i.val * size)) size = some (f x) := by
        intro i
        obtain ⟨cs', h1, h2⟩ := hc i.val i.isLt
        obtain ⟨_, hlen, _⟩ := World.cells?_some h1
        obtain ⟨x, q, rfl⟩ := hel n cs' _ hlen h2
        exact ⟨x, q, h1⟩
      let g : Fin m → α := fun i => Classical.choose (each i)
      have hg : ∀ i : Fin m, Q (g i) ∧ w.cells? 0 (a.add (i.val * size)) size = some (f (g i)) := fun i => Classical.choose_spec (each i)
      have hc0 : ∀ i (hi : i < m) j u, (f (g ⟨i, hi⟩))[j]? = some u → w.cell? ((a.add (i * size)).add j) = some u := by
        intro i hi j u hu
        obtain ⟨_, hlen, hcell⟩ := World.cells?_some (hg ⟨i, hi⟩).2
        have hj := (List.getElem?_eq_some_iff.1 hu).1
        have := hcell j (by omega)
        rw [hu] at this
        exact this
      have hp0 : 0 < m := by omega
      have hfirst : ∃ u, w.cell? a = some u := by
        have hl0 : 0 < (f (g ⟨0, hp0⟩)).length := by rw [hf]; exact hsz
        have := hc0 0 hp0 0 _ (List.getElem?_eq_getElem hl0)
        have e1 : (a.add (0 * size)).add 0 = a := by unfold Addr.add; simp
        rw [e1] at this
        exact ⟨_, this⟩
      obtain ⟨u0, hu0⟩ := hfirst
      have ha := addr_spot' hu0
      have hb := World.block_lt_of_cell? w _ hu0
      let l : List α := List.ofFn (fun i : Fin len => g ⟨i.val, by have := i.isLt; omega⟩)
      have hll : l.length = len := by simp [l]
      refine ⟨l, .inr ⟨a.block, a.off, m, ?_, hb, by rw [hll]; exact hl, hm, fun i hi j u hu => ?_⟩, fun x hx => ?_⟩
      · rw [hll, ← ha]
      · rw [hll] at hi
        have hu' : (f (g ⟨i, by omega⟩))[j]? = some u := by simpa [l] using hu
        have := hc0 i (by omega) j u hu'
        rw [ha, addr_add, addr_add] at this
        simpa using this
      · obtain ⟨i, rfl⟩ := List.mem_ofFn.1 hx
        exact (hg _).1

def inI64 (x : Int) : Prop := -9223372036854775808 ≤ x ∧ x < 9223372036854775808
/-- A callee that leaves the world alone, or draws, met in a region that draws its order. -/
theorem qt_same {P : Program} {f : FuncId} {args : Array Value} {w : World} {n : Nat} {v : Value}
    (h : Calls P f args (w.drewN n) fun e w' => e = .returned v ∧ w.drewN n = w') : Calls P f args (w.drewN n) fun e w'' => e = .returned v ∧ ∃ m, w'' = w.drewN m :=
  h.mono fun _ _ ⟨he, hm⟩ => ⟨he, n, hm.symm⟩
end Go.Proofs.YtblpnekjnaaeoaaGreatDoor
namespace Go.Proofs.YtblpnekjnaaeoaaGreatDoor
open Go.RowKit

theorem load_none {P : Program} (w : World) (a : Addr) : (loadCells a 0).run P w = .ok #[] w := by
  simp [loadCells, loadCellsFrom]
theorem run_append_zero {P : Program} (w : World) (B size : Nat) (t ty e : TypeId) (i : TypeInfo) (ht : P.underlying t = some (.slice e)) (hi : P.info? e = some i)
    (v : Value) (n : Nat) (xs : List Value) (hown : OwnS w B size v n xs) (x : Option Addr) (c : Nat) : (Builtin.append_ #[t, t] ty #[v, .slice x 0 c]).run P w = .ok v w := by
  rcases hown.2 with ⟨ao, rfl, rfl, _⟩ | ⟨g, off, cap, rfl, _, _, hnc, _⟩
  · cases ao <;> cases x <;> simp [Builtin.append_, run_underlying ht, sizeOf, typeInfo, hi, Builtin.lenOf, Builtin.firstCells, storeCells, load_none, Result.andThen]
  · cases x <;> simp [Builtin.append_, run_underlying ht, sizeOf, typeInfo, hi, Builtin.lenOf, Builtin.firstCells, hnc, storeCells, load_none, Result.andThen]
/-- What a slice that is not empty brings to an append. -/
theorem SliceOf.brings {α : Type} {f : α → List Value} {size : Nat} (hf : ∀ a, (f a).length = size) (hs : 0 < size) {w : World} {v : Value} {l : List α} (h : SliceOf f size w v l) (hl : 0 < l.length) :
    ∃ b off c, v = .slice (some ⟨b, off, none⟩) l.length c ∧ (flatV f l).length = l.length * size ∧ ∀ j u, (flatV f l)[j]? = some u → w.cell? ((⟨b, off, none⟩ : Addr).add j) = some u := by
  obtain ⟨b, off, c, h1, _, _, _, hc⟩ := h.some_of_pos hl
  refine ⟨b, off, c, h1, flatV_length hf l, fun j u hu => ?_⟩
  have hj := (List.getElem?_eq_some_iff.1 hu).1
  rw [flatV_length hf] at hj
  have e : j = j / size * size + j % size := by rw [Nat.mul_comm]; exact (Nat.div_add_mod j size).symm
  have hi : j / size < l.length := (Nat.div_lt_iff_lt_mul hs).2 hj
  have hm : j % size < size := Nat.mod_lt _ hs
  rw [e, flatV_get hf l _ hi _ hm] at hu
  have := hc _ hi _ u hu
  rw [addr_add, e, ← Nat.add_assoc]
  exact this
theorem flat_one {α : Type} {f : α → List Value} (h1 : ∀ a, ∀ u ∈ f a, u.oneCell' = true) (l : List α) : ∀ u ∈ flatV f l, u.oneCell' = true := by
  intro u hu
  obtain ⟨b, _, hb⟩ := List.mem_flatMap.1 hu
  exact h1 b u hb
/-- append of a slice, whatever its length. -/
theorem run_append_slice {α : Type} {P : Program} {f : α → List Value} (w : World) (t ty : TypeId) (B : Nat) (e : TypeId) (i : TypeInfo) (z : Value) (size bytes : Nat) (ht : P.underlying t = some (.slice e)) (hi : P.info? e = some i) (hz : i.zero = some z)
    (hsize : i.size = size) (hby : i.bytes = bytes) (hzs : z.cells.size = size) (hsz : 0 < size) (hf : ∀ a, (f a).length = size) (h1 : ∀ a, ∀ u ∈ f a, u.oneCell' = true)
    (v : Value) (n : Nat) (xs : List Value) (hown : OwnS w B size v n xs) (vx : Value) (l : List α) (hx : SliceOf f size w vx l)
    (h63 : n + l.length ≤ maxLen) (hbytes : (n + l.length) * bytes ≤ 140737488355328) (hbase : B ≤ w.heap.size) :
    ∃ ao cap w', (Builtin.append_ #[t, t] ty #[v, vx]).run P w = .ok (.slice ao (n + l.length) cap) w' ∧
      OwnS w' B size (.slice ao (n + l.length) cap) (n + l.length) (xs ++ flatV f l) ∧ w.grownBy w' v.ownBlock := by
  by_cases h0 : 0 < l.length
  · obtain ⟨b, off, c, rfl, e1, e2⟩ := hx.brings hf hsz h0
    obtain ⟨g, off', cap, w', r1, r2, r3, _⟩ := run_append_S (P := P) w t ty B e i z size bytes ht hi hz hsize hby hzs hsz v n xs hown ⟨b, off, none⟩ l.length c (flatV f l) e1 e2 (flat_one h1 l) h0 h63 hbytes hbase
    exact ⟨_, _, _, r1, r2, r3⟩
  · obtain rfl : l = [] := List.eq_nil_of_length_eq_zero (by omega)
    obtain ⟨ao, c, rfl⟩ := hx.shape
    have hv : ∃ a c, v = .slice a n c := by
      rcases hown.2 with ⟨ao, h1, h2, _⟩ | ⟨g, off, cap, h1, _⟩
      · exact ⟨ao, 0, by rw [h1, h2]⟩
      · exact ⟨_, _, h1⟩
    obtain ⟨a, c', rfl⟩ := hv
    refine ⟨a, c', w, run_append_zero w B size t ty e i ht hi _ n xs hown ao c, ?_, ⟨rfl, rfl, rfl, Nat.le_refl _, fun _ _ _ => rfl⟩⟩
    have : xs ++ flatV f ([] : List α) = xs := by simp [flatV]
    rw [this]; exact hown
theorem below_of_grown {w w' : World} {B size n : Nat} {v : Value} {xs : List Value} (hown : OwnS w B size v n xs) (hg : w.grownBy w' v.ownBlock) (hbase : B ≤ w.heap.size) : Below B w w' :=
  (Below.refl B w).grown hg hbase fun k hk => (hown.lt k hk).1
/-- 'append(s, x...)' in a plain region. -/
theorem wpList_append_slice {α : Type} {P : Program} {w : World} {ops : Array Oper} {rest : List Oper} {o : Oper} {a : Act} {Q : Exit → Act → World → Prop} {f : α → List Value} (hw : Region.wanted o (yielded ops a.tmps) = true) (s x : Operand) (t : TypeId)
    (ho : o.op = .call { callee := .builtin .append, args := #[s, x], argTypes := #[t, t] })
    (B : Nat) (e : TypeId) (i : TypeInfo) (z : Value) (size bytes : Nat) (ht : P.underlying t = some (.slice e)) (hi : P.info? e = some i) (hz : i.zero = some z)
    (hsize : i.size = size) (hby : i.bytes = bytes) (hzs : z.cells.size = size) (hsz : 0 < size) (hf : ∀ a, (f a).length = size) (h1 : ∀ a, ∀ u ∈ f a, u.oneCell' = true)
    (v : Value) (n : Nat) (xs : List Value) (hs : a.eval s = v) (hown : OwnS w B size v n xs) (vx : Value) (l : List α) (hxe : a.eval x = vx) (hx : SliceOf f size w vx l)
    (h63 : n + l.length ≤ maxLen) (hbytes : (n + l.length) * bytes ≤ 140737488355328) (hbase : B ≤ w.heap.size)
    (h : ∀ ao cap w', OwnS w' B size (.slice ao (n + l.length) cap) (n + l.length) (xs ++ flatV f l) → w.grownBy w' v.ownBlock → Below B w w' → wpList P ops Q rest (a.put o.dst (.slice ao (n + l.length) cap)) w') : wpList P ops Q (o :: rest) a w := by
  obtain ⟨ao, cap, w', hrun, h2, hg⟩ := run_append_slice (P := P) w t o.type B e i z size bytes ht hi hz hsize hby hzs hsz hf h1 v n xs hown vx l hx h63 hbytes hbase
  refine wpList_step fun K hK => ?_
  rw [if_pos hw]
  unfold Oper.wp execOp
  simp only [ho, resolve, invoke, builtin, Sem.run_bind, Sem.run_pure, Result.andThen_ok, List.map_toArray, List.map_cons, List.map_nil, hs, hxe, hrun]
  exact hK _ _ (h ao cap w' h2 hg (below_of_grown hown hg hbase))
/-- The same as one step of a region that draws its order. -/
theorem step_append_slice {α : Type} {P : Program} {w : World} {ops : Array Oper} {o : Oper} {a : Act} {K : Act → World → Prop} {Q : Exit → Act → World → Prop} {E : Prop} {f : α → List Value} (hgd : o.guard = none) (s x : Operand) (t : TypeId)
    (ho : o.op = .call { callee := .builtin .append, args := #[s, x], argTypes := #[t, t] })
    (B : Nat) (e : TypeId) (i : TypeInfo) (z : Value) (size bytes : Nat) (ht : P.underlying t = some (.slice e)) (hi : P.info? e = some i) (hz : i.zero = some z)
    (hsize : i.size = size) (hby : i.bytes = bytes) (hzs : z.cells.size = size) (hsz : 0 < size) (hf : ∀ a, (f a).length = size) (h1 : ∀ a, ∀ u ∈ f a, u.oneCell' = true)
    (v : Value) (n : Nat) (xs : List Value) (hs : a.eval s = v) (hown : OwnS w B size v n xs) (vx : Value) (l : List α) (hxe : a.eval x = vx) (hx : SliceOf f size w vx l)
    (h63 : n + l.length ≤ maxLen) (hbytes : (n + l.length) * bytes ≤ 140737488355328) (hbase : B ≤ w.heap.size)
    (h : ∀ ao cap w', OwnS w' B size (.slice ao (n + l.length) cap) (n + l.length) (xs ++ flatV f l) → w.grownBy w' v.ownBlock → K (a.put o.dst (.slice ao (n + l.length) cap)) w') :
    if Region.wanted o (yielded ops a.tmps) = true then Oper.wp P o a w K Q else E := by
  obtain ⟨ao, cap, w', hrun, h2, hg⟩ := run_append_slice (P := P) w t o.type B e i z size bytes ht hi hz hsize hby hzs hsz hf h1 v n xs hown vx l hx h63 hbytes hbase
  have hw : Region.wanted o (yielded ops a.tmps) = true := by simp [Region.wanted, hgd]
  rw [if_pos hw]
  unfold Oper.wp
  simp [execOp, ho, resolve, invoke, builtin, hs, hxe, hrun, Result.andThen]
  exact h ao cap w' h2 hg
/-- A slice that the call builds, element by element: k elements of M are there. -/
structure Bld {α : Type} (f : α → List Value) (size : Nat) (w wr : World) (M : List α) (u : Value) (k : Nat) : Prop where
  own : OwnS wr w.heap.size size u k (flatV f (M.take k))
  below : Below w.heap.size w wr
theorem Bld.nil {α : Type} (f : α → List Value) (size : Nat) (w : World) (M : List α) : Bld f size w w M (.slice none 0 0) 0 := ⟨OwnS.nil _ _ _, Below.refl _ _⟩
theorem Bld.step {α : Type} {f : α → List Value} {size : Nat} {w wr W' W : World} {M : List α} {u : Value} {k g off cap : Nat} {x : α} {cs : List Value} (h : Bld f size w wr M u k) (hW : Below wr.heap.size wr W') (hk : k < M.length) (hx : M[k] = x) (hcs : cs = f x)
    (ho : OwnS W w.heap.size size (.slice (some ⟨g, off, none⟩) (k + 1) cap) (k + 1) (flatV f (M.take k) ++ cs)) (hg : W'.grownBy W u.ownBlock) : Bld f size w W M (.slice (some ⟨g, off, none⟩) (k + 1) cap) (k + 1) := by
  refine ⟨?_, ?_⟩
  · rw [List.take_succ_eq_append_getElem hk, flatV_append, flatV_one, hx, ← hcs]
    exact ho
  · have h1 : Below w.heap.size w W' := btrans h.below h.below.size hW
    exact h1.grown hg h1.size fun j hj => (h.own.lt j hj).1
theorem Bld.keep {α : Type} {f : α → List Value} {size : Nat} {w wr W : World} {M : List α} {u : Value} {k : Nat} (h : Bld f size w wr M u k) (hb : Below wr.heap.size wr W) : Bld f size w W M u k :=
  ⟨h.own.below hb, btrans h.below h.below.size hb⟩
/-- Two slices that the call builds side by side. -/
structure Bld2 {α β : Type} (f : α → List Value) (size : Nat) (g : β → List Value) (size' : Nat) (w wr : World) (M : List α) (M' : List β) (u v : Value) (k k' : Nat) : Prop where
  left : Bld f size w wr M u k
  right : Bld g size' w wr M' v k'
  apart : ∀ b, u.ownBlock = some b → v.ownBlock ≠ some b
theorem Bld2.keep {α β : Type} {f : α → List Value} {size : Nat} {g : β → List Value} {size' : Nat} {w wr W : World} {M : List α} {M' : List β} {u v : Value} {k k' : Nat} (h : Bld2 f size g size' w wr M M' u v k k') (hb : Below wr.heap.size wr W) : Bld2 f size g size' w W M M' u v k k' :=
  ⟨h.left.keep hb, h.right.keep hb, h.apart⟩
theorem Bld2.swap {α β : Type} {f : α → List Value} {size : Nat} {g : β → List Value} {size' : Nat} {w wr : World} {M : List α} {M' : List β} {u v : Value} {k k' : Nat} (h : Bld2 f size g size' w wr M M' u v k k') : Bld2 g size' f size w wr M' M v u k' k :=
  ⟨h.right, h.left, fun b h1 h2 => h.apart b h2 h1⟩
theorem Bld2.step {α β : Type} {f : α → List Value} {size : Nat} {g : β → List Value} {size' : Nat} {w wr W' W : World} {M : List α} {M' : List β} {u v : Value} {k k' b off cap : Nat} {x : α} {cs : List Value} (h : Bld2 f size g size' w wr M M' u v k k') (hW : Below wr.heap.size wr W') (hk : k < M.length) (hx : M[k] = x) (hcs : cs = f x)
    (ho : OwnS W w.heap.size size (.slice (some ⟨b, off, none⟩) (k + 1) cap) (k + 1) (flatV f (M.take k) ++ cs)) (hg : W'.grownBy W u.ownBlock) (hat : u.ownBlock = some b ∨ W'.heap.size ≤ b) : Bld2 f size g size' w W M M' (.slice (some ⟨b, off, none⟩) (k + 1) cap) v (k + 1) k' := by
  have hr := h.right.keep hW
  refine ⟨h.left.step hW hk hx hcs ho hg, ⟨hr.own.kept hg (fun b' h1 h2 => h.apart b' h1 h2), (h.left.step hW hk hx hcs ho hg).below⟩, fun b' h1 h2 => ?_⟩
  obtain rfl : b = b' := by simpa [Value.ownBlock] using h1
  rcases hat with h3 | h3
  · exact h.apart _ h3 h2
  · have := (hr.own.lt _ h2).2
    omega
theorem bDraw {B : Nat} {a w : World} (h : Below B a w) : Below B a w.drew := ⟨h.os, h.tape, h.output, h.size, h.block⟩
end Go.Proofs.YtblpnekjnaaeoaaGreatDoor
