/- debt: the map of the payments by their class. -/
import Derived.Test.YtlagoiaiodjmhaaGreatDoorDeB
import Derived.Test.YtlagoiaiodjmhaaGreatDoorDeC
set_option linter.unusedVariables false
set_option linter.unusedSimpArgs false
namespace Go.Proofs.YtlagoiaiodjmhaaGreatDoor
open Go.RowKit Go.Maps

def niL (l : List Nat) : List Int := l.map fun (x : Nat) => (x : Int)
theorem niL_len (l : List Nat) : (niL l).length = l.length := by unfold niL; rw [List.length_map]
theorem niL_at {l : List Nat} {i : Nat} (h : i < l.length) : (niL l)[i]'(by rw [niL_len]; exact h) = (l[i] : Int) := by simp only [niL, List.getElem_map]
theorem niL_append (l m : List Nat) : niL (l ++ m) = niL l ++ niL m := by unfold niL; rw [List.map_append]
section
variable {ops : Array Oper} {rest : List Oper} {o : Oper} {a : Act} {Q : Exit → Act → World → Prop}
/-- 'm[k]' of a map that is written to, with its entry. -/
theorem wpList_mapEntry (w : World) (hg : o.guard = none) (m x : Operand) (T : TypeId) (hop : o.op = Op.mapEntry T m x) (key : Value) (B : Nat) (v0 : Value) (st : Nat) (w1 : World) (hm : a.eval m = .map (some B)) (hx : a.eval x = key)
    (hrun : (Instr.mapEntry T (.map (some B)) key).run Tryz.prog w = .ok (.tuple #[v0, goInt st]) w1) (hk : wpList Tryz.prog ops Q rest (a.put o.dst (.tuple #[v0, goInt st])) w1) : wpList Tryz.prog ops Q (o :: rest) a w := by
  refine wpList_plain hg fun K' hK' => ?_
  unfold Oper.wp
  simp [execOp, hop, hm, hx, hrun, Result.andThen]
  exact hK' _ _ hk
/-- The store into that entry. -/
theorem wpList_entryStore (w : World) (hg : o.guard = none) (m s x : Operand) (T : TypeId) (hop : o.op = Op.entryStore T m s x) (val : Value) (B st : Nat) (w1 : World) (hm : a.eval m = .map (some B)) (hs : a.eval s = goInt st) (hx : a.eval x = val)
    (hrun : (Instr.entryStore T (.map (some B)) (goInt st) val).run Tryz.prog w = .ok () w1) (hk : wpList Tryz.prog ops Q rest (a.put o.dst undef) w1) : wpList Tryz.prog ops Q (o :: rest) a w := by
  refine wpList_plain hg fun K' hK' => ?_
  unfold Oper.wp
  simp [execOp, hop, hm, hs, hx, hrun, Result.andThen]
  exact hK' _ _ hk
/-- append of one int. -/
theorem wpList_appendI (w : World) (hgd : o.guard = none) (s x : Operand) (ho : o.op = .call { callee := .builtin .append, args := #[s, x], argTypes := #[33, 33] })
    (B : Nat) (xl : List Int) (n : Nat) (v : Value) (hs : a.eval s = v) (hown : OwnS w B 1 v n (flatV vI xl)) (H : Nat) (y : Int) (T : TypeId) (hx : a.eval x = .slice (some ⟨H, 0, none⟩) 1 1) (hH : w.heap[H]? = some (.cells #[.int .i64 y] T (0, 0))) (h63 : n ≤ 1000) (hbase : B ≤ w.heap.size)
    (h : ∀ g off cap w', OwnS w' B 1 (.slice (some ⟨g, off, none⟩) (n + 1) cap) (n + 1) (flatV vI (xl ++ [y])) → w.grownBy w' v.ownBlock → (v.ownBlock = some g ∨ w.heap.size ≤ g) → wpList Tryz.prog ops Q rest (a.put o.dst (.slice (some ⟨g, off, none⟩) (n + 1) cap)) w') : wpList Tryz.prog ops Q (o :: rest) a w := by
  obtain ⟨i0, hi, hz0, hz1, hz2⟩ := info_parts Tryz.infoInt3D
  refine wpList_step fun K hK => ?_
  refine step_appendS hgd s x 33 ho B 3 i0 (.int .i64 0) 1 8 Tryz.underlying33 hi hz0 hz1 hz2 rfl (by decide) v n (flatV vI xl) hs hown H #[.int .i64 y] T 1 hx hH rfl (fun u hu => by simp at hu; rw [hu]; rfl) (by omega) (by decide) hbase ?_
  intro g off cap w' h1 h2 h3
  refine hK _ _ (h g off cap w' ?_ h2 h3)
  rw [flatV_append]
  exact h1
end
def ownC (ps : List Py) (k : Nat) (sv : Cl → Value) (c : Cl) : Option Value := if clsN ps c.1 k = [] then none else some (sv c)
/-- Block M maps each class to the indices of its payments among the first k. -/
structure ClM (w : World) (base M n : Nat) (ps : List Py) (k : Nat) (sv : Cl → Value) : Prop where
  map : VMap w 65 M n kC (ownC ps k sv)
  own : ∀ c : Cl, clsN ps c.1 k ≠ [] → OwnS w base 1 (sv c) (clsN ps c.1 k).length (flatV vI (niL (clsN ps c.1 k)))
  apart : ∀ c c' : Cl, clsN ps c.1 k ≠ [] → clsN ps c'.1 k ≠ [] → c ≠ c' → ∀ g, (sv c).ownBlock = some g → (sv c').ownBlock ≠ some g
  lt : M < base
  sz : base ≤ w.heap.size
theorem ClM.zero {w : World} {M : Nat} (ps : List Py) (h : w.heap.size = M) : ClM (w.alloc (.map #[] 0)) (M + 1) M 0 ps 0 (fun _ => .slice none 0 0) := by
  subst h
  refine ⟨(VMap.made w _ kC).congr (fun c => by unfold ownC; rw [if_pos (show clsN ps c.1 0 = [] from rfl)]), fun c h => absurd rfl h, fun c c' h => absurd rfl h, by omega, by simp⟩
theorem ClM.below {w w' : World} {base M n : Nat} {ps : List Py} {k : Nat} {sv : Cl → Value} (h : ClM w base M n ps k sv) (hb : Below w.heap.size w w') : ClM w' base M n ps k sv :=
  ⟨h.map.below hb, fun c hc => (h.own c hc).below hb, h.apart, h.lt, Nat.le_trans h.sz hb.size⟩
/-- What the map holds for a class. -/
theorem ClM.reads {w : World} {base M n : Nat} {ps : List Py} {k : Nat} {sv : Cl → Value} (h : ClM w base M n ps k sv) (c : Cl) : SliceOf vI 1 w ((ownC ps k sv c).getD (.slice none 0 0)) (niL (clsN ps c.1 k)) := by
  unfold ownC
  by_cases e : clsN ps c.1 k = []
  · rw [if_pos e, e]; exact .inl ⟨none, rfl, rfl⟩
  · rw [if_neg e]
    refine OwnS.slice vI_len (B := base) ?_
    rw [niL_len]
    exact h.own c e
/-- A further payment. -/
theorem ClM.step {w w1 w2 w3 : World} {base M n : Nat} {ps : List Py} {k : Nat} {sv : Cl → Value} (h : ClM w base M n ps k sv) (c : Cl) (hc : ((pyN ps k).kd, (pyN ps k).tl, (pyN ps k).fl) = c.1) {v0 : Value} (hv0 : (ownC ps k sv c).getD (.slice none 0 0) = v0)
    (hg1 : w.grownBy w1 (some M)) {g off cap : Nat} (ho : OwnS w2 base 1 (.slice (some ⟨g, off, none⟩) ((clsN ps c.1 k).length + 1) cap) ((clsN ps c.1 k).length + 1) (flatV vI (niL (clsN ps c.1 k) ++ [(k : Int)])))
    (hg2 : w1.grownBy w2 v0.ownBlock) (hat : v0.ownBlock = some g ∨ w1.heap.size ≤ g) (hm : VMap w3 65 M (n + 1) kC (updL (ownC ps k sv) c (.slice (some ⟨g, off, none⟩) ((clsN ps c.1 k).length + 1) cap))) (hg3 : w2.grownBy w3 (some M)) :
    ClM w3 base M (n + 1) ps (k + 1) (fun x => if x = c then .slice (some ⟨g, off, none⟩) ((clsN ps c.1 k).length + 1) cap else sv x) := by
  have hsz := Nat.le_trans h.sz (Nat.le_trans hg1.size (Nat.le_trans hg2.size hg3.size))
  have same : ∀ x : Cl, x ≠ c → clsN ps x.1 (k + 1) = clsN ps x.1 k := fun x hx => by
    rw [clsN_succ, if_neg (fun e => hx (Subtype.ext (e.symm.trans hc)))]
  have hself : clsN ps c.1 (k + 1) = clsN ps c.1 k ++ [k] := by rw [clsN_succ, if_pos hc]
  have hgb := (ho.lt g rfl).1
  have hown0 : ∀ b, v0.ownBlock = some b → clsN ps c.1 k ≠ [] ∧ (sv c).ownBlock = some b := fun b hb => by
    rw [← hv0] at hb
    unfold ownC at hb
    by_cases e : clsN ps c.1 k = []
    · rw [if_pos e] at hb; cases hb
    · rw [if_neg e] at hb; exact ⟨e, hb⟩
  have hother : ∀ x : Cl, x ≠ c → clsN ps x.1 k ≠ [] → ∀ b, (sv x).ownBlock = some b → b ≠ g := fun x hx hne b hb e => by
    subst e
    rcases hat with e2 | e2
    · obtain ⟨h1, h2⟩ := hown0 _ e2
      exact h.apart x c hne h1 hx _ hb h2
    · have := ((h.own x hne).lt _ hb).2
      have := hg1.size
      omega
  refine ⟨hm.congr (fun x => ?_), fun x hx => ?_, fun x y hx hy hxy b hb => ?_, h.lt, hsz⟩
  · unfold updL ownC
    dsimp only
    by_cases e : x = c
    · subst e
      rw [if_pos rfl, hself, if_neg (by simp), if_pos rfl]
    · rw [if_neg e, same x e, if_neg e]
  · by_cases e : x = c
    · subst e
      simp only [if_true]
      rw [hself, niL_append, List.length_append]
      exact ho.kept hg3 (fun b hb => by simp only [Option.some.injEq] at hb; subst hb; show some g ≠ some M; intro e; injection e with e; have := h.lt; omega)
    · rw [same x e] at hx ⊢
      simp only [if_neg e]
      have h1 := h.own x hx
      have hM : ∀ b, some M = some b → (sv x).ownBlock ≠ some b := fun b hb e2 => by
        injection hb with hb
        subst hb
        have := (h1.lt _ e2).1
        have := h.lt
        omega
      refine ((h1.kept hg1 hM).kept hg2 (fun b hb e2 => ?_)).kept hg3 hM
      obtain ⟨a1, a2⟩ := hown0 b hb
      exact h.apart x c hx a1 e b e2 a2
  · by_cases ex : x = c
    · subst ex
      simp only [if_true] at hb
      have hb : some g = some b := hb
      injection hb with hb
      subst hb
      have ey : y ≠ x := fun e => hxy e.symm
      simp only [if_neg ey]
      rw [same y ey] at hy
      exact fun e2 => hother y ey hy g e2 rfl
    · simp only [if_neg ex] at hb
      rw [same x ex] at hx
      by_cases ey : y = c
      · subst ey
        simp only [if_true]
        exact fun e2 => by
          have e2 : some g = some b := e2
          injection e2 with e2
          exact hother x ex hx b hb e2.symm
      · simp only [if_neg ey]
        rw [same y ey] at hy
        exact h.apart x y hx hy hxy b hb
theorem ClM.cur {w : World} {base M n : Nat} {ps : List Py} {k : Nat} {sv : Cl → Value} (h : ClM w base M n ps k sv) (c : Cl) : OwnS w base 1 ((ownC ps k sv c).getD (.slice none 0 0)) (clsN ps c.1 k).length (flatV vI (niL (clsN ps c.1 k))) := by
  unfold ownC
  by_cases e : clsN ps c.1 k = []
  · rw [if_pos e, e]; exact OwnS.nil _ _ _
  · rw [if_neg e]; exact h.own c e
theorem zeroISD (w : World) : (zeroValue 33).run Tryz.prog w = .ok (.slice none 0 0) w := by kernel_rfl
theorem ClM.entry {w : World} {base M n : Nat} {ps : List Py} {k : Nat} {sv : Cl → Value} (h : ClM w base M n ps k sv) (c : Cl) (hc : ((pyN ps k).kd, (pyN ps k).tl, (pyN ps k).fl) = c.1) (hn : n < maxLen) :
    ∃ (v0 : Value) (st : Nat) (w1 : World), (Instr.mapEntry 68 (.map (some M)) (vC c)).run Tryz.prog w = .ok (.tuple #[v0, goInt st]) w1 ∧ w.grownBy w1 (some M) ∧ OwnS w1 base 1 v0 (clsN ps c.1 k).length (flatV vI (niL (clsN ps c.1 k))) ∧ base ≤ w1.heap.size ∧
      ∀ g off cap w2, OwnS w2 base 1 (.slice (some ⟨g, off, none⟩) ((clsN ps c.1 k).length + 1) cap) ((clsN ps c.1 k).length + 1) (flatV vI (niL (clsN ps c.1 k) ++ [(k : Int)])) → w1.grownBy w2 v0.ownBlock → (v0.ownBlock = some g ∨ w1.heap.size ≤ g) →
        ∃ w3, (Instr.entryStore 68 (.map (some M)) (goInt st) (.slice (some ⟨g, off, none⟩) ((clsN ps c.1 k).length + 1) cap)).run Tryz.prog w2 = .ok () w3 ∧ (∃ sv', ClM w3 base M (n + 1) ps (k + 1) sv') ∧ w2.grownBy w3 (some M) := by
  obtain ⟨st, w1, hrun, hg1, hs1, hst⟩ := h.map.entry Tryz.lawCl Tryz.underlying68 hn zeroISD (keyC c) kC_inj
  have hM : ∀ b, some M = some b → ((ownC ps k sv c).getD (.slice none 0 0)).ownBlock ≠ some b := fun b hb e2 => by
    injection hb with hb
    subst hb
    have := ((h.cur c).lt _ e2).1
    have := h.lt
    omega
  refine ⟨_, st, w1, hrun, hg1, (h.cur c).kept hg1 hM, Nat.le_trans h.sz hg1.size, fun g off cap w2 ho hg2 hat => ?_⟩
  obtain ⟨w3, hr3, hm3, hg3, _⟩ := hst w2 (.slice (some ⟨g, off, none⟩) ((clsN ps c.1 k).length + 1) cap) (hg2.block M (by have := h.lt; have := h.sz; have := hg1.size; omega) (fun e => hM M rfl e.symm))
  exact ⟨w3, hr3, ⟨_, h.step c hc rfl hg1 ho hg2 hat hm3 hg3⟩, hg3⟩
/-- A block of n ints. -/
structure IB (w : World) (b n : Nat) (f : Nat → Int) : Prop where
  c : ∀ i, i < n → w.cell? ⟨b, i, none⟩ = some (.int .i64 (f i))
  z : ∀ i, i < n → w.frozen? ⟨b, i, none⟩ = false
  lt : b < w.heap.size
theorem IB.below {w w' : World} {b n : Nat} {f : Nat → Int} (h : IB w b n f) (hb : Below w.heap.size w w') : IB w' b n f :=
  ⟨fun i hi => keep_cell hb (h.c i hi), fun i hi => (hb.frozen (p := ⟨b, i, none⟩) h.lt).trans (h.z i hi), Nat.lt_of_lt_of_le h.lt hb.size⟩
theorem IB.congr {w : World} {b n : Nat} {f g : Nat → Int} (h : IB w b n f) (e : ∀ i, i < n → f i = g i) : IB w b n g := ⟨fun i hi => by rw [← e i hi]; exact h.c i hi, h.z, h.lt⟩
theorem IB.set {w : World} {b n : Nat} {f : Nat → Int} (h : IB w b n f) {i : Nat} (hi : i < n) (x : Int) : IB (w.setCell ⟨b, i, none⟩ (.int .i64 x)) b n (fun j => if j = i then x else f j) := by
  refine ⟨fun j hj => ?_, fun j hj => by rw [World.frozen?_setCell]; exact h.z j hj, by simpa using h.lt⟩
  by_cases e : j = i
  · subst e
    rw [if_pos rfl]
    exact World.cell?_setCell_same _ _ _ (h.c j hj)
  · rw [if_neg e, World.cell?_setCell_other _ _ _ _ (by intro e'; injection e'; omega)]
    exact h.c j hj
theorem IB.made (w : World) (n : Nat) (T : TypeId) : IB (w.alloc (.cells (madeCells #[.int .i64 0] n) T)) w.heap.size n (fun _ => 0) :=
  ⟨fun i hi => by rw [World.cell?_alloc_at _ _ _ _ rfl]; simp [madeCells, hi, Nat.mod_one], fun i hi => by simp [go_sem], by simp⟩
theorem IB.slice {w : World} {b n : Nat} {f : Nat → Int} (h : IB w b n f) {l : List Int} (hl : l.length = n) (hf : ∀ i (hi : i < l.length), f i = l[i]) (hm : n ≤ maxLen) : SliceOf vI 1 w (.slice (some ⟨b, 0, none⟩) n n) l := by
  subst hl
  refine .inr ⟨b, 0, l.length, rfl, h.lt, Nat.le_refl _, hm, fun i hi j u hu => ?_⟩
  have h1 := h.c i hi
  rw [hf i hi] at h1
  match j, hu with
  | 0, hu =>
    obtain rfl : Value.int .i64 l[i] = u := by simpa [vI] using hu
    simpa using h1
  | j + 1, hu => simp [vI] at hu
end Go.Proofs.YtlagoiaiodjmhaaGreatDoor
