/- MqE, MqF, MqG in one text. -/
import Derived.Test.YtblpnekjnaaeoaaGreatDoorPkO
import Derived.Test.YtblpnekjnaaeoaaGreatDoorPkN
import Derived.Test.YtblpnekjnaaeoaaGreatDoorMoZ
set_option linter.unusedVariables false
set_option linter.unusedSimpArgs false
namespace Go.Proofs.YtblpnekjnaaeoaaGreatDoor

/-- What the one computes, so does the other. -/
def LEo {α : Type} (o o' : Option α) : Prop := ∀ x, o = some x → o' = some x
theorem LEo.refl {α : Type} (o : Option α) : LEo o o := fun _ h => h
theorem LEo.bind {α β : Type} {o o' : Option α} {f f' : α → Option β} (h : LEo o o') (hf : ∀ x, LEo (f x) (f' x)) : LEo (o.bind f) (o'.bind f') := fun y hy => by
  obtain ⟨x, hx, hy⟩ := Option.bind_eq_some_iff.1 hy
  rw [h x hx]
  exact hf x y hy
theorem LEo.map {α β : Type} {o o' : Option α} (f : α → β) (h : LEo o o') : LEo (o.map f) (o'.map f) := fun y hy => by
  obtain ⟨x, hx, rfl⟩ := Option.map_eq_some_iff.1 hy
  rw [h x hx]; rfl
theorem LEo.foldl {α β : Type} {f f' : Option α → β → Option α} (hf : ∀ o o' p, LEo o o' → LEo (f o p) (f' o' p)) : ∀ (l : List β) (a a' : Option α), LEo a a' → LEo (l.foldl f a) (l.foldl f' a')
  | [], _, _, h => h
  | p :: l, a, a', h => LEo.foldl hf l _ _ (hf a a' p h)
def smallQ (q : Rat) : Bool := decide (nmQ q < 1000000000) && decide (q.den < 1000000000)
def addB (p q : Rat) : Option Rat := if smallQ p && smallQ q then some (p + q) else none
def mulB (p q : Rat) : Option Rat := if smallQ p && smallQ q then some (p * q) else none
theorem cap_big : 1000000000000000000000 ≤ capN := by
  have h : capK 21 ≤ capK 1000 := capK_le (by decide)
  have e : capK 21 = 1000000000000000000000 := by decide
  rw [e] at h
  exact h
theorem small_iff {q : Rat} (h : smallQ q = true) : nmQ q < 1000000000 ∧ q.den < 1000000000 := by
  unfold smallQ at h
  simpa using h
theorem addB_le (p q : Rat) : LEo (addB p q) (addR p q) := fun r h => by
  unfold addB at h
  split at h
  · rename_i hs
    rw [Bool.and_eq_true] at hs
    obtain ⟨h1, h2⟩ := small_iff hs.1
    obtain ⟨h3, h4⟩ := small_iff hs.2
    have e := Option.some.inj h
    rw [← e]
    clear h e
    have a1 := Nat.mul_lt_mul'' h1 h4
    have a2 := Nat.mul_lt_mul'' h3 h2
    have a3 := Nat.mul_lt_mul'' h2 h4
    have key : ∀ C, 1000000000000000000000 ≤ C → nmQ p * q.den < C ∧ nmQ q * p.den < C ∧ p.den * q.den < C ∧ (ngQ p = ngQ q → nmQ p * q.den + nmQ q * p.den < C) := fun C hC => ⟨by omega, by omega, by omega, fun _ => by omega⟩
    exact addR_ok (key capN cap_big)
  · cases h
theorem mulB_le (p q : Rat) : LEo (mulB p q) (mulR p q) := fun r h => by
  unfold mulB at h
  split at h
  · rename_i hs
    rw [Bool.and_eq_true] at hs
    obtain ⟨h1, h2⟩ := small_iff hs.1
    obtain ⟨h3, h4⟩ := small_iff hs.2
    have e := Option.some.inj h
    rw [← e]
    clear h e
    have a1 := Nat.mul_lt_mul'' h1 h3
    have a3 := Nat.mul_lt_mul'' h2 h4
    have key : ∀ C, 1000000000000000000000 ≤ C → nmQ p * nmQ q < C ∧ p.den * q.den < C := fun C hC => ⟨by omega, by omega⟩
    exact mulR_ok (key capN cap_big)
  · cases h
/-- The same computations with small numbers alone. -/
def meanB (L : List PQ) : Option Rat := L.foldl (fun o p => o.bind fun s => (mulB p.1 p.2).bind fun m => addB s m) (some 0)
theorem meanB_le (L : List PQ) : LEo (meanB L) (meanO L L.length) := by
  unfold meanB meanO
  rw [List.take_length]
  exact LEo.foldl (fun o o' p h => h.bind fun s => (mulB_le p.1 p.2).bind fun m => addB_le s m) _ _ _ (LEo.refl _)
def varB (L : List PQ) : Option Rat := (meanB L).bind fun m => L.foldl (fun o p => o.bind fun s => (addB p.1 (-m)).bind fun d => (mulB d d).bind fun e => (mulB p.2 e).bind fun t => addB s t) (some 0)
theorem varB_le (L : List PQ) : LEo (varB L) (varO L) := by
  unfold varB varO varK
  refine (meanB_le L).bind fun m => ?_
  rw [List.take_length]
  exact LEo.foldl (fun o o' p h => h.bind fun s => (addB_le p.1 (-m)).bind fun d => (mulB_le d d).bind fun e => (mulB_le p.2 e).bind fun t => addB_le s t) _ _ _ (LEo.refl _)
def totB (l : List Rat) : Option Rat := l.foldl (fun o w => o.bind fun s => addB s w) (some 0)
theorem totB_le (l : List Rat) : LEo (totB l) (totO l) := LEo.foldl (fun _ _ w h => h.bind fun s => addB_le s w) _ _ _ (LEo.refl _)
def insB : List PQ → PQ → Option (List PQ)
  | [], x => some [x]
  | y :: ys, x => if y.1 < x.1 then (insB ys x).map (y :: ·) else if y.1 = x.1 then (addB y.2 x.2).map fun s => (y.1, s) :: ys else some (x :: y :: ys)
theorem insB_le : ∀ (l : List PQ) (x : PQ), LEo (insB l x) (insO l x)
  | [], x => LEo.refl _
  | y :: ys, x => by
    unfold insB insO
    split
    · exact (insB_le ys x).map _
    · split
      · exact (addB_le _ _).map _
      · exact LEo.refl _
def prB (z : PQ × PQ) : Option PQ := (addB z.1.1 z.2.1).bind fun v => (mulB z.1.2 z.2.2).bind fun w => some (v, w)
def mxB (z : Rat × PQ) : Option PQ := (mulB z.1 z.2.2).bind fun w => some (z.2.1, w)
def pairs (a b : List PQ) : List (PQ × PQ) := a.flatMap fun p => b.map fun q => (p, q)
def mixs (ws : List Rat) (ls : List (List PQ)) : List (Rat × PQ) := (ws.zip ls).flatMap fun x => x.2.map fun p => (x.1, p)
def collB {α : Type} (f : α → Option PQ) (l : List α) : Option (List PQ) := l.foldl (fun o z => o.bind fun l => (f z).bind fun x => insB l x) (some [])
theorem itS_pairs (a b : List PQ) : itS a b = (pairs a b).map fun z => prS z.1 z.2 := by
  unfold itS pairs
  rw [List.map_flatMap]
  simp only [List.map_map, Function.comp_def]
theorem itM_mixs (ws : List Rat) (ls : List (List PQ)) : itM ws ls = (mixs ws ls).map fun z => prM z.1 z.2 := by
  unfold itM mixs
  rw [List.map_flatMap]
  simp only [List.map_map, Function.comp_def]
theorem collB_le {α : Type} {f f' : α → Option PQ} (h : ∀ z, LEo (f z) (f' z)) (l : List α) : LEo (collB f l) (collO (l.map f')) := by
  unfold collB collO
  rw [List.foldl_map]
  exact LEo.foldl (fun o o' z ho => ho.bind fun l => (h z).bind fun x => insB_le l x) _ _ _ (LEo.refl _)
def resB {α : Type} (f : α → Option PQ) (l : List α) : Option (List PQ) := (collB f l).bind fun l => if (nzE l).length ≤ 400 then some (nzE l) else none
theorem sumB_le (a b : List PQ) : LEo (resB prB (pairs a b)) (resO (itS a b)) := by
  unfold resB resO
  rw [itS_pairs]
  exact (collB_le (fun z => (addB_le _ _).bind fun v => (mulB_le _ _).bind fun w => LEo.refl _) _).bind fun l => LEo.refl _
theorem mixB_le (ws : List Rat) (ls : List (List PQ)) : LEo (resB mxB (mixs ws ls)) (resO (itM ws ls)) := by
  unfold resB resO
  rw [itM_mixs]
  exact (collB_le (fun z => (mulB_le _ _).bind fun w => LEo.refl _) _).bind fun l => LEo.refl _
/-- A small valid distribution, decided. -/
def vdS (L : List PQ) : Bool := decide (∀ z ∈ L, smallQ z.1 = true ∧ smallQ z.2 = true ∧ 0 < z.2) && decide (1 ≤ L.length ∧ L.length ≤ 400) && (totB (L.map fun z => z.2) == some 1)
theorem small_fit {q : Rat} (h : smallQ q = true) : FitQ q := by
  obtain ⟨h1, h2⟩ := small_iff h
  have key : ∀ C, 1000000000000000000000 ≤ C → nmQ q < C ∧ q.den < C := fun C hC => ⟨by omega, by omega⟩
  exact key capN cap_big
theorem vd_small {L : List PQ} (h : vdS L = true) (hs : SrtQ L) : VD (L.map encP) L := by
  unfold vdS at h
  simp only [Bool.and_eq_true, decide_eq_true_eq, beq_iff_eq] at h
  obtain ⟨⟨h1, h2⟩, h3⟩ := h
  exact ⟨rfl, ⟨fun z hz => ⟨small_fit (h1 z hz).1, small_fit (h1 z hz).2.1⟩, fun z hz => (h1 z hz).2.2, hs⟩, h2, totB_le _ _ h3⟩
/-- The examples. -/
def exA : List PQ := [(0, 1 / 2), (1, 1 / 2)]
def exB : List PQ := [(1, 1 / 3), (4, 2 / 3)]
theorem exA_pt : [((0 : Int), (1 : Int), (2 : Int)), (1, 1, 2)].map ptQ = exA := by decide +kernel
theorem exB_pt : [((1 : Int), (1 : Int), (3 : Int)), (4, 2, 3)].map ptQ = exB := by decide +kernel
theorem exA_vd : VD (exA.map encP) exA := vd_small (by decide +kernel) (by unfold SrtQ exA; decide +kernel)
theorem exB_vd : VD (exB.map encP) exB := vd_small (by decide +kernel) (by unfold SrtQ exB; decide +kernel)
theorem exA_mean : meanO exA exA.length = some (1 / 2) := meanB_le _ _ (by decide +kernel)
theorem exA_var : varO exA = some (1 / 4) := varB_le _ _ (by decide +kernel)
theorem exB_mean : meanO exB exB.length = some 3 := meanB_le _ _ (by decide +kernel)
theorem exB_var : varO exB = some 2 := varB_le _ _ (by decide +kernel)
def exS : List PQ := [(1, 1 / 6), (2, 1 / 6), (4, 1 / 3), (5, 1 / 3)]
def exX : List PQ := [(0, 1 / 8), (1, 3 / 8), (4, 1 / 2)]
theorem exS_sum : resO (itS exA exB) = some exS := sumB_le _ _ _ (by decide +kernel)
theorem exX_mix : resO (itM [1 / 4, 3 / 4] [exA, exB]) = some exX := mixB_le _ _ _ (by decide +kernel)
theorem exS_pt : [((1 : Int), (1 : Int), (6 : Int)), (2, 1, 6), (4, 1, 3), (5, 1, 3)].map ptQ = exS := by decide +kernel
theorem exX_pt : [((0 : Int), (1 : Int), (8 : Int)), (1, 3, 8), (4, 1, 2)].map ptQ = exX := by decide +kernel
end Go.Proofs.YtblpnekjnaaeoaaGreatDoor
namespace Go.Proofs.YtblpnekjnaaeoaaGreatDoor
open Go.RowKit

theorem int_lit (W : World) (zs : List Int) (T : TypeId) (hm : zs.length ≤ maxLen) : SliceOf vI 1 (W.alloc (.cells (zs.map fun z => Value.int .i64 z).toArray T)) (.slice (some ⟨W.heap.size, 0, none⟩) zs.length zs.length) zs := by
  refine .inr ⟨W.heap.size, 0, zs.length, rfl, by simp, Nat.le_refl _, hm, fun i hi j u hu => ?_⟩
  have hj : j < 1 := (List.getElem?_eq_some_iff.1 hu).1
  obtain rfl : j = 0 := by omega
  rw [World.cell?_alloc_new]
  have hu : some (Value.int .i64 zs[i]) = some u := hu
  rw [← hu]
  simp
theorem ofQ_one (z : Int) : ofQ z 1 = (z : Rat) := by unfold ofQ; grind
theorem one_rat (W : World) (x : T3) (T : TypeId) : SliceOf vQ 3 (W.alloc (.cells #[.bool x.1, .string x.2.1, .string x.2.2] T)) (.slice (some ⟨W.heap.size, 0, none⟩) 1 1) [x] := by
  refine .inr ⟨W.heap.size, 0, 1, rfl, by simp, Nat.le_refl 1, by unfold maxLen; omega, fun i hi j u hu => ?_⟩
  have hi2 : i < 1 := hi
  rw [World.cell?_alloc_new]
  obtain rfl : i = 0 := by omega
  have hj : j < 3 := (List.getElem?_eq_some_iff.1 hu).1
  match j, hj with
  | 0, _ => simpa [vQ] using hu
  | 1, _ => simpa [vQ] using hu
  | 2, _ => simpa [vQ] using hu
theorem lls_two {W : World} {v1 v2 : Value} {M1 M2 : List (T3 × T3)} (T : TypeId) (h1 : SliceOf vPr 6 W v1 M1) (h2 : SliceOf vPr 6 W v2 M2) : LLt (W.alloc (.cells #[v1, v2] T)) (.slice (some ⟨W.heap.size, 0, none⟩) 2 2) [M1, M2] := by
  have hba := bAlloc (Below.refl W.heap.size W) (.cells #[v1, v2] T)
  refine ⟨[v1, v2], .inr ⟨W.heap.size, 0, 2, rfl, by simp, Nat.le_refl 2, by unfold maxLen; omega, fun i hi j u hu => ?_⟩, rfl, fun i h h' => ?_⟩
  · have hi2 : i < 2 := hi
    have hj : j < 1 := (List.getElem?_eq_some_iff.1 hu).1
    obtain rfl : j = 0 := by omega
    rw [World.cell?_alloc_new]
    match i, hi2 with
    | 0, _ => simpa using hu
    | 1, _ => simpa using hu
  · have hi2 : i < 2 := h
    match i, hi2 with
    | 0, _ => exact h1.below hba
    | 1, _ => exact h2.below hba
theorem lls_one {W : World} {v1 : Value} {M1 : List (T3 × T3)} (T : TypeId) (h1 : SliceOf vPr 6 W v1 M1) : LLt (W.alloc (.cells #[v1] T)) (.slice (some ⟨W.heap.size, 0, none⟩) 1 1) [M1] := by
  have hba := bAlloc (Below.refl W.heap.size W) (.cells #[v1] T)
  refine ⟨[v1], .inr ⟨W.heap.size, 0, 1, rfl, by simp, Nat.le_refl 1, by unfold maxLen; omega, fun i hi j u hu => ?_⟩, rfl, fun i h h' => ?_⟩
  · have hi2 : i < 1 := hi
    have hj : j < 1 := (List.getElem?_eq_some_iff.1 hu).1
    obtain rfl : j = 0 := by omega
    obtain rfl : i = 0 := by omega
    rw [World.cell?_alloc_new]
    simpa using hu
  · have hi2 : i < 1 := h
    obtain rfl : i = 0 := by omega
    exact h1.below hba
theorem XD.inj {Mw : List T3} {Ms : List (List (T3 × T3))} {ws ws' : List Rat} {ls ls' : List (List PQ)} (h : XD Mw Ms ws ls) (h' : XD Mw Ms ws' ls') : ws' = ws ∧ ls' = ls := by
  refine ⟨map_rqM_inj (h'.ew.symm.trans h.ew), ?_⟩
  have e := h'.es.symm.trans h.es
  exact List.map_inj_right (fun _ _ e => encP_map_inj e) |>.1 e
theorem mix_ok {n₀ : Nat} {w w' : World} {Mw : List T3} {Ms : List (List (T3 × T3))} {ws : List Rat} {ls : List (List PQ)} {e : Ending} (h : XD Mw Ms ws ls) (hp : MixPost n₀ w Mw Ms e w') : SumPost n₀ w (resO (itM ws ls)) e w' := by
  rcases hp with ⟨ws', ls', h', hp⟩ | ⟨hn, _⟩
  · obtain ⟨rfl, rfl⟩ := h.inj h'
    exact hp
  · exact absurd ⟨ws, ls, h⟩ hn
theorem mix_bad {n₀ : Nat} {w w' : World} {Mw : List T3} {Ms : List (List (T3 × T3))} {e : Ending} (h : ¬ ∃ ws ls, XD Mw Ms ws ls) (hp : MixPost n₀ w Mw Ms e w') : e = .returned (.tuple #[.slice none 0 0, .int .i64 1]) ∧ Below n₀ w w' := by
  rcases hp with ⟨ws', ls', h', _⟩ | ⟨_, hp⟩
  · exact absurd ⟨ws', ls', h'⟩ h
  · exact hp
theorem rqM_size {q : Rat} (h : FitQ q) : (rqM q).2.1.size ≤ maxLen ∧ (rqM q).2.2.size ≤ maxLen := ⟨natS_max h.1, natS_max h.2⟩
theorem encP_size {L : List PQ} (h : FitL L) : ∀ x ∈ L.map encP, x.1.2.1.size ≤ maxLen ∧ x.1.2.2.size ≤ maxLen ∧ x.2.2.1.size ≤ maxLen ∧ x.2.2.2.size ≤ maxLen := fun x hx => by
  obtain ⟨p, hp, rfl⟩ := List.mem_map.1 hx
  exact ⟨(rqM_size (h p hp).1).1, (rqM_size (h p hp).1).2, (rqM_size (h p hp).2).1, (rqM_size (h p hp).2).2⟩
/-- Sum of two valid lists. -/
theorem c_Sum {a b : List PQ} {va vb : Value} {W : World} (ha : VD (a.map encP) a) (hb : VD (b.map encP) b) (hL : LawM W) (hsa : SliceOf vPr 6 W va (a.map encP)) (hsb : SliceOf vPr 6 W vb (b.map encP)) :
    Calls Tryz.prog 16 #[va, vb] W (SumPost W.heap.size W (resO (itS a b))) := mo_Sum a b ha hb (encP_size ha.vl.fit) (encP_size hb.vl.fit) va vb W hL hsa hsb
theorem c_Valid {a : List PQ} {va : Value} {W : World} (ha : FitL a) (hL : LawM W) (hs : SliceOf vPr 6 W va (a.map encP)) : Calls Tryz.prog 20 #[va] W fun e w' => e = .returned (.bool (vdB (a.map encP))) ∧ Below W.heap.size W w' := mo_Valid (a.map encP) (encP_size ha) va W hs hL
theorem c_Mean {a : List PQ} {va : Value} {W : World} (ha : VD (a.map encP) a) (hL : LawM W) (hs : SliceOf vPr 6 W va (a.map encP)) : Calls Tryz.prog 12 #[va] W fun x w' => x = .returned (.tuple #[.agg #[.bool (rO (meanO a a.length)).1, .string (rO (meanO a a.length)).2.1, .string (rO (meanO a a.length)).2.2], .int .i64 (eO (meanO a a.length))]) ∧ Below W.heap.size W w' :=
  mo_Mean a (fun i h => ha.vl.fit _ (List.getElem_mem h)) (by have := ha.len.2; omega) va W hL hs (fun W' hW => by
    have := c_Valid ha.vl.fit (hL.below hW) (hs.below hW)
    rwa [vdB_true ⟨a, ha⟩] at this)
theorem c_Var {a : List PQ} {va : Value} {W : World} (ha : VD (a.map encP) a) (hL : LawM W) (hs : SliceOf vPr 6 W va (a.map encP)) : Calls Tryz.prog 14 #[va] W fun x w' => x = .returned (.tuple #[.agg #[.bool (rO (varO a)).1, .string (rO (varO a)).2.1, .string (rO (varO a)).2.2], .int .i64 (eO (varO a))]) ∧ Below W.heap.size W w' :=
  mo_Variance a ha.vl.fit (by have := ha.len.2; omega) va W hL hs (fun W' hW => by
    have := c_Valid ha.vl.fit (hL.below hW) (hs.below hW)
    rwa [vdB_true ⟨a, ha⟩] at this)
theorem exX_xd : XD [rqM (1 / 4), rqM (3 / 4)] [exA.map encP, exB.map encP] [1 / 4, 3 / 4] [exA, exB] := by
  refine ⟨rfl, rfl, fun q hq => ?_, fun l hl => ?_, rfl, totB_le _ _ (by decide +kernel)⟩
  · simp only [List.mem_cons, List.not_mem_nil, or_false] at hq
    rcases hq with rfl | rfl
    · exact ⟨small_fit (by decide +kernel), by decide +kernel⟩
    · exact ⟨small_fit (by decide +kernel), by decide +kernel⟩
  · simp only [List.mem_cons, List.not_mem_nil, or_false] at hl
    rcases hl with rfl | rfl
    · exact exA_vd
    · exact exB_vd
theorem exH_no : ¬ ∃ ws ls, XD [rqM (1 / 2)] [exA.map encP] ws ls := by
  rintro ⟨ws, ls, h⟩
  have e : [rqM (1 / 2)] = ws.map rqM := h.ew
  have e2 : ws = [1 / 2] := map_rqM_inj (e.symm.trans rfl)
  have ht := h.tot
  rw [e2, totB_le [1 / 2] (1 / 2) (by decide +kernel)] at ht
  have := Option.some.inj ht
  exact absurd this (by decide +kernel)
def exD : List PQ := [(0, 1 / 2)]
theorem exD_pt : [((0 : Int), (1 : Int), (2 : Int))].map ptQ = exD := by decide +kernel
theorem exD_fit : FitL exD := fun z hz => by
  rw [List.mem_singleton.1 hz]
  exact ⟨small_fit (by decide +kernel), small_fit (by decide +kernel)⟩
theorem exD_no : vdB (exD.map encP) = false := by
  have hv : VL_ exD := ⟨exD_fit, fun z hz => by rw [List.mem_singleton.1 hz]; decide +kernel, List.pairwise_singleton _ _⟩
  rw [vdB_tot hv (by decide)]
  refine decide_eq_false (fun h => ?_)
  rw [show totO (exD.map fun z => z.2) = some (1 / 2) from totB_le _ _ (by decide +kernel)] at h
  have := Option.some.inj h
  exact absurd this (by decide +kernel)
theorem c_ptsA {w W : World} (hL : LawM w) (hW : Below w.heap.size w W) : Calls Tryz.prog 29 #[.slice (some ⟨W.heap.size, 0, none⟩) 6 6] (W.alloc (.cells #[.int .i64 0, .int .i64 1, .int .i64 2, .int .i64 1, .int .i64 1, .int .i64 2] 3)) fun e w' => ∃ ao cp, e = .returned (.slice ao 2 cp) ∧ SliceOf vPr 6 w' (.slice ao 2 cp) (exA.map encP) ∧ Below W.heap.size W w' := by
  have hba := bAlloc (Below.refl W.heap.size W) (.cells #[.int .i64 0, .int .i64 1, .int .i64 2, .int .i64 1, .int .i64 1, .int .i64 2] 3)
  refine (law46_points [(0, 1, 2), (1, 1, 2)] (fun t ht => ?_) (show 2 ≤ 1000 by decide) _ _ ((hL.below hW).below hba) (int_lit W [0, 1, 2, 1, 1, 2] _ (by show 6 ≤ maxLen; unfold maxLen; omega))).mono ?_
  · simp only [List.mem_cons, List.not_mem_nil, or_false] at ht
    rcases ht with rfl | rfl <;> (unfold ptOk inI64; simp)
  · rintro e w' ⟨ao, cp, rfl, hs, hb⟩
    rw [exA_pt] at hs
    exact ⟨ao, cp, rfl, hs, bStepM hba hb⟩
theorem c_ptsB {w W : World} (hL : LawM w) (hW : Below w.heap.size w W) : Calls Tryz.prog 29 #[.slice (some ⟨W.heap.size, 0, none⟩) 6 6] (W.alloc (.cells #[.int .i64 1, .int .i64 1, .int .i64 3, .int .i64 4, .int .i64 2, .int .i64 3] 3)) fun e w' => ∃ ao cp, e = .returned (.slice ao 2 cp) ∧ SliceOf vPr 6 w' (.slice ao 2 cp) (exB.map encP) ∧ Below W.heap.size W w' := by
  have hba := bAlloc (Below.refl W.heap.size W) (.cells #[.int .i64 1, .int .i64 1, .int .i64 3, .int .i64 4, .int .i64 2, .int .i64 3] 3)
  refine (law46_points [(1, 1, 3), (4, 2, 3)] (fun t ht => ?_) (show 2 ≤ 1000 by decide) _ _ ((hL.below hW).below hba) (int_lit W [1, 1, 3, 4, 2, 3] _ (by show 6 ≤ maxLen; unfold maxLen; omega))).mono ?_
  · simp only [List.mem_cons, List.not_mem_nil, or_false] at ht
    rcases ht with rfl | rfl <;> (unfold ptOk inI64; simp)
  · rintro e w' ⟨ao, cp, rfl, hs, hb⟩
    rw [exB_pt] at hs
    exact ⟨ao, cp, rfl, hs, bStepM hba hb⟩
theorem c_ptsS {w W : World} (hL : LawM w) (hW : Below w.heap.size w W) : Calls Tryz.prog 29 #[.slice (some ⟨W.heap.size, 0, none⟩) 12 12] (W.alloc (.cells #[.int .i64 1, .int .i64 1, .int .i64 6, .int .i64 2, .int .i64 1, .int .i64 6, .int .i64 4, .int .i64 1, .int .i64 3, .int .i64 5, .int .i64 1, .int .i64 3] 3)) fun e w' => ∃ ao cp, e = .returned (.slice ao 4 cp) ∧ SliceOf vPr 6 w' (.slice ao 4 cp) (exS.map encP) ∧ Below W.heap.size W w' := by
  have hba := bAlloc (Below.refl W.heap.size W) (.cells #[.int .i64 1, .int .i64 1, .int .i64 6, .int .i64 2, .int .i64 1, .int .i64 6, .int .i64 4, .int .i64 1, .int .i64 3, .int .i64 5, .int .i64 1, .int .i64 3] 3)
  refine (law46_points [(1, 1, 6), (2, 1, 6), (4, 1, 3), (5, 1, 3)] (fun t ht => ?_) (show 4 ≤ 1000 by decide) _ _ ((hL.below hW).below hba) (int_lit W [1, 1, 6, 2, 1, 6, 4, 1, 3, 5, 1, 3] _ (by show 12 ≤ maxLen; unfold maxLen; omega))).mono ?_
  · simp only [List.mem_cons, List.not_mem_nil, or_false] at ht
    rcases ht with rfl | rfl | rfl | rfl <;> (unfold ptOk inI64; simp)
  · rintro e w' ⟨ao, cp, rfl, hs, hb⟩
    rw [exS_pt] at hs
    exact ⟨ao, cp, rfl, hs, bStepM hba hb⟩
theorem c_ptsX {w W : World} (hL : LawM w) (hW : Below w.heap.size w W) : Calls Tryz.prog 29 #[.slice (some ⟨W.heap.size, 0, none⟩) 9 9] (W.alloc (.cells #[.int .i64 0, .int .i64 1, .int .i64 8, .int .i64 1, .int .i64 3, .int .i64 8, .int .i64 4, .int .i64 1, .int .i64 2] 3)) fun e w' => ∃ ao cp, e = .returned (.slice ao 3 cp) ∧ SliceOf vPr 6 w' (.slice ao 3 cp) (exX.map encP) ∧ Below W.heap.size W w' := by
  have hba := bAlloc (Below.refl W.heap.size W) (.cells #[.int .i64 0, .int .i64 1, .int .i64 8, .int .i64 1, .int .i64 3, .int .i64 8, .int .i64 4, .int .i64 1, .int .i64 2] 3)
  refine (law46_points [(0, 1, 8), (1, 3, 8), (4, 1, 2)] (fun t ht => ?_) (show 3 ≤ 1000 by decide) _ _ ((hL.below hW).below hba) (int_lit W [0, 1, 8, 1, 3, 8, 4, 1, 2] _ (by show 9 ≤ maxLen; unfold maxLen; omega))).mono ?_
  · simp only [List.mem_cons, List.not_mem_nil, or_false] at ht
    rcases ht with rfl | rfl | rfl <;> (unfold ptOk inI64; simp)
  · rintro e w' ⟨ao, cp, rfl, hs, hb⟩
    rw [exX_pt] at hs
    exact ⟨ao, cp, rfl, hs, bStepM hba hb⟩
theorem c_ptsD {w W : World} (hL : LawM w) (hW : Below w.heap.size w W) : Calls Tryz.prog 29 #[.slice (some ⟨W.heap.size, 0, none⟩) 3 3] (W.alloc (.cells #[.int .i64 0, .int .i64 1, .int .i64 2] 3)) fun e w' => ∃ ao cp, e = .returned (.slice ao 1 cp) ∧ SliceOf vPr 6 w' (.slice ao 1 cp) (exD.map encP) ∧ Below W.heap.size W w' := by
  have hba := bAlloc (Below.refl W.heap.size W) (.cells #[.int .i64 0, .int .i64 1, .int .i64 2] 3)
  refine (law46_points [(0, 1, 2)] (fun t ht => ?_) (show 1 ≤ 1000 by decide) _ _ ((hL.below hW).below hba) (int_lit W [0, 1, 2] _ (by show 3 ≤ maxLen; unfold maxLen; omega))).mono ?_
  · simp only [List.mem_cons, List.not_mem_nil, or_false] at ht
    rcases ht with rfl <;> (unfold ptOk inI64; simp)
  · rintro e w' ⟨ao, cp, rfl, hs, hb⟩
    rw [exD_pt] at hs
    exact ⟨ao, cp, rfl, hs, bStepM hba hb⟩
end Go.Proofs.YtblpnekjnaaeoaaGreatDoor
namespace Go.Proofs.YtblpnekjnaaeoaaGreatDoor
open Go.RowKit

set_option maxHeartbeats 16000000 in
set_option maxRecDepth 100000 in
theorem law46_head (w : World) (hL : LawM w) : Calls Tryz.prog 9 #[] w fun e w' => e = .returned (.bool true) ∧ Below w.heap.size w w' := by
  have HL := hide hL
  have B0 : Hid (Below w.heap.size w w) := Below.refl _ _
  have HR_x3 : Hid (∀ W, Below w.heap.size w W → Calls Tryz.prog 23 #[.int .i64 1, .int .i64 2] W fun e w' => e = .returned (.agg #[.bool (rqM (1 / 2)).1, .string (rqM (1 / 2)).2.1, .string (rqM (1 / 2)).2.2]) ∧ Below W.heap.size W w') := fun W hW => law46_rat (by unfold inI64; omega) (by unfold inI64; omega) (by decide) (by decide +kernel) W (HL.out.below hW)
  have HR_x5 : Hid (∀ W, Below w.heap.size w W → Calls Tryz.prog 23 #[.int .i64 1, .int .i64 4] W fun e w' => e = .returned (.agg #[.bool (rqM (1 / 4)).1, .string (rqM (1 / 4)).2.1, .string (rqM (1 / 4)).2.2]) ∧ Below W.heap.size W w') := fun W hW => law46_rat (by unfold inI64; omega) (by unfold inI64; omega) (by decide) (by decide +kernel) W (HL.out.below hW)
  have HR_x7 : Hid (∀ W, Below w.heap.size w W → Calls Tryz.prog 23 #[.int .i64 3, .int .i64 1] W fun e w' => e = .returned (.agg #[.bool (rqM (3)).1, .string (rqM (3)).2.1, .string (rqM (3)).2.2]) ∧ Below W.heap.size W w') := fun W hW => law46_rat (by unfold inI64; omega) (by unfold inI64; omega) (by decide) (by decide +kernel) W (HL.out.below hW)
  have HR_x9 : Hid (∀ W, Below w.heap.size w W → Calls Tryz.prog 23 #[.int .i64 2, .int .i64 1] W fun e w' => e = .returned (.agg #[.bool (rqM (2)).1, .string (rqM (2)).2.1, .string (rqM (2)).2.2]) ∧ Below W.heap.size W w') := fun W hW => law46_rat (by unfold inI64; omega) (by unfold inI64; omega) (by decide) (by decide +kernel) W (HL.out.below hW)
  have HR_y2 : Hid (∀ W, Below w.heap.size w W → Calls Tryz.prog 23 #[.int .i64 3, .int .i64 4] W fun e w' => e = .returned (.agg #[.bool (rqM (3 / 4)).1, .string (rqM (3 / 4)).2.1, .string (rqM (3 / 4)).2.2]) ∧ Below W.heap.size W w') := fun W hW => law46_rat (by unfold inI64; omega) (by unfold inI64; omega) (by decide) (by decide +kernel) W (HL.out.below hW)
  have HM1 : Hid (∀ W va, Below w.heap.size w W → SliceOf vPr 6 W va (exA.map encP) → Calls Tryz.prog 12 #[va] W fun e w' => e = .returned (.tuple #[.agg #[.bool (rqM (1 / 2)).1, .string (rqM (1 / 2)).2.1, .string (rqM (1 / 2)).2.2], .int .i64 0]) ∧ Below W.heap.size W w') := fun W va hW hs => by
    have h := c_Mean exA_vd (HL.out.below hW) hs
    rw [exA_mean] at h
    exact h
  have HV1 : Hid (∀ W va, Below w.heap.size w W → SliceOf vPr 6 W va (exA.map encP) → Calls Tryz.prog 14 #[va] W fun e w' => e = .returned (.tuple #[.agg #[.bool (rqM (1 / 4)).1, .string (rqM (1 / 4)).2.1, .string (rqM (1 / 4)).2.2], .int .i64 0]) ∧ Below W.heap.size W w') := fun W va hW hs => by
    have h := c_Var exA_vd (HL.out.below hW) hs
    rw [exA_var] at h
    exact h
  have HM2 : Hid (∀ W va, Below w.heap.size w W → SliceOf vPr 6 W va (exB.map encP) → Calls Tryz.prog 12 #[va] W fun e w' => e = .returned (.tuple #[.agg #[.bool (rqM (3)).1, .string (rqM (3)).2.1, .string (rqM (3)).2.2], .int .i64 0]) ∧ Below W.heap.size W w') := fun W va hW hs => by
    have h := c_Mean exB_vd (HL.out.below hW) hs
    rw [exB_mean] at h
    exact h
  have HV2 : Hid (∀ W va, Below w.heap.size w W → SliceOf vPr 6 W va (exB.map encP) → Calls Tryz.prog 14 #[va] W fun e w' => e = .returned (.tuple #[.agg #[.bool (rqM (2)).1, .string (rqM (2)).2.1, .string (rqM (2)).2.2], .int .i64 0]) ∧ Below W.heap.size W w') := fun W va hW hs => by
    have h := c_Var exB_vd (HL.out.below hW) hs
    rw [exB_var] at h
    exact h
  have HSM : Hid (∀ W va vb, Below w.heap.size w W → SliceOf vPr 6 W va (exA.map encP) → SliceOf vPr 6 W vb (exB.map encP) → Calls Tryz.prog 16 #[va, vb] W fun e w' => ∃ ao cp, e = .returned (.tuple #[.slice ao 4 cp, .int .i64 0]) ∧ SliceOf vPr 6 w' (.slice ao 4 cp) (exS.map encP) ∧ Below W.heap.size W w') := fun W va vb hW hs hs' => by
    have h := c_Sum exA_vd exB_vd (HL.out.below hW) hs hs'
    rw [exS_sum] at h
    exact h
  have HMX : Hid (∀ W va vb, Below w.heap.size w W → SliceOf vPr 6 W va (exA.map encP) → SliceOf vPr 6 W vb (exB.map encP) → Calls Tryz.prog 18 #[.slice (some ⟨W.heap.size, 0, none⟩) 2 2, .slice (some ⟨W.heap.size + 1, 0, none⟩) 2 2] ((W.alloc (.cells #[.bool (rqM (1 / 4)).1, .string (rqM (1 / 4)).2.1, .string (rqM (1 / 4)).2.2, .bool (rqM (3 / 4)).1, .string (rqM (3 / 4)).2.1, .string (rqM (3 / 4)).2.2] 29)).alloc (.cells #[va, vb] 22)) fun e w' => ∃ ao cp, e = .returned (.tuple #[.slice ao 3 cp, .int .i64 0]) ∧ SliceOf vPr 6 w' (.slice ao 3 cp) (exX.map encP) ∧ Below W.heap.size W w') := fun W va vb hW hs hs' => by
    have hb1 := bAlloc (Below.refl W.heap.size W) (.cells #[.bool (rqM (1 / 4)).1, .string (rqM (1 / 4)).2.1, .string (rqM (1 / 4)).2.2, .bool (rqM (3 / 4)).1, .string (rqM (3 / 4)).2.1, .string (rqM (3 / 4)).2.2] 29)
    have hb2 := bAlloc hb1 (.cells #[va, vb] 22)
    have h1 := lls_two 22 (hs.below hb1) (hs'.below hb1)
    rw [World.size_alloc] at h1
    refine (mo_Mix [rqM (1 / 4), rqM (3 / 4)] [exA.map encP, exB.map encP] (show 2 ≤ 2000 by decide) (fun x hx => ?_) (fun M hM => ?_) _ _ _ ((HL.out.below hW).below hb2) ((two_rats W (rqM (1 / 4)) (rqM (3 / 4)) _).below (bAlloc (Below.refl _ _) _)) h1).mono ?_
    · simp only [List.mem_cons, List.not_mem_nil, or_false] at hx
      rcases hx with rfl | rfl
      · exact rqM_size (small_fit (by decide +kernel))
      · exact rqM_size (small_fit (by decide +kernel))
    · simp only [List.mem_cons, List.not_mem_nil, or_false] at hM
      rcases hM with rfl | rfl
      · exact encP_size exA_vd.vl.fit
      · exact encP_size exB_vd.vl.fit
    · intro e w' hp
      have h := mix_ok exX_xd hp
      rw [exX_mix] at h
      obtain ⟨ao, cp, rfl, hs, hb⟩ := h
      exact ⟨ao, cp, rfl, hs, bStepM hb2 hb⟩
  have HMH : Hid (∀ W va, Below w.heap.size w W → SliceOf vPr 6 W va (exA.map encP) → Calls Tryz.prog 18 #[.slice (some ⟨W.heap.size, 0, none⟩) 1 1, .slice (some ⟨W.heap.size + 1, 0, none⟩) 1 1] ((W.alloc (.cells #[.bool (rqM (1 / 2)).1, .string (rqM (1 / 2)).2.1, .string (rqM (1 / 2)).2.2] 29)).alloc (.cells #[va] 22)) fun e w' => e = .returned (.tuple #[.slice none 0 0, .int .i64 1]) ∧ Below W.heap.size W w') := fun W va hW hs => by
    have hb1 := bAlloc (Below.refl W.heap.size W) (.cells #[.bool (rqM (1 / 2)).1, .string (rqM (1 / 2)).2.1, .string (rqM (1 / 2)).2.2] 29)
    have hb2 := bAlloc hb1 (.cells #[va] 22)
    have h1 := lls_one 22 (hs.below hb1)
    rw [World.size_alloc] at h1
    refine (mo_Mix [rqM (1 / 2)] [exA.map encP] (show 1 ≤ 2000 by decide) (fun x hx => ?_) (fun M hM => ?_) _ _ _ ((HL.out.below hW).below hb2) ((one_rat W (rqM (1 / 2)) _).below (bAlloc (Below.refl _ _) _)) h1).mono ?_
    · rw [List.mem_singleton.1 hx]; exact rqM_size (small_fit (by decide +kernel))
    · rw [List.mem_singleton.1 hM]; exact encP_size exA_vd.vl.fit
    · intro e w' hp
      obtain ⟨rfl, hb⟩ := mix_bad exH_no hp
      exact ⟨rfl, bStepM hb2 hb⟩
  have HSAME : Hid (∀ (M : List (T3 × T3)) W va vb, M.length ≤ 1000000 → SliceOf vPr 6 W va M → SliceOf vPr 6 W vb M → Calls Tryz.prog 22 #[va, vb] W fun e w' => e = .returned (.bool true) ∧ Below W.heap.size W w') := fun M W va vb hn hs hs' => by
    have h := law46_same M M va vb W hs hs' hn hn
    rw [decide_eq_true rfl] at h
    exact h
  have HVA : Hid (∀ W va, Below w.heap.size w W → SliceOf vPr 6 W va (exA.map encP) → Calls Tryz.prog 20 #[va] W fun e w' => e = .returned (.bool true) ∧ Below W.heap.size W w') := fun W va hW hs => by
    have h := c_Valid exA_vd.vl.fit (HL.out.below hW) hs
    rw [vdB_true ⟨exA, exA_vd⟩] at h
    exact h
  have HVD : Hid (∀ W va, Below w.heap.size w W → SliceOf vPr 6 W va (exD.map encP) → Calls Tryz.prog 20 #[va] W fun e w' => e = .returned (.bool false) ∧ Below W.heap.size W w') := fun W va hW hs => by
    have h := c_Valid exD_fit (HL.out.below hW) hs
    rw [exD_no] at h
    exact h
  obtain ⟨x3, h_x3⟩ : ∃ x, rqM (1 / 2) = x := ⟨_, rfl⟩
  obtain ⟨x5, h_x5⟩ : ∃ x, rqM (1 / 4) = x := ⟨_, rfl⟩
  obtain ⟨x7, h_x7⟩ : ∃ x, rqM (3) = x := ⟨_, rfl⟩
  obtain ⟨x9, h_x9⟩ : ∃ x, rqM (2) = x := ⟨_, rfl⟩
  obtain ⟨y2, h_y2⟩ : ∃ x, rqM (3 / 4) = x := ⟨_, rfl⟩
  rw [h_x3] at HR_x3 HM1 HMH
  rw [h_x5] at HR_x5 HV1 HMX
  rw [h_x7] at HR_x7 HM2
  rw [h_x9] at HR_x9 HV2
  rw [h_y2] at HR_y2 HMX
  clear h_x3 h_x5 h_x7 h_x9 h_y2 hL
  go_enter Tryz.func9, Tryz.ntmps9
  go_wp2_with fail
  refine (c_ptsA HL.out B0.out).mono ?_
  rintro e w1 ⟨aA, cA, rfl, hs, hb⟩
  have B1 := hide hb
  have SA1 := hide hs
  clear hs hb
  go_wp2_with fail
  refine (c_ptsB HL.out B1.out).mono ?_
  rintro e w2 ⟨aB, cB, rfl, hs, hb⟩
  have B2 := hide (bStepM B1.out hb)
  have SA2 := hide (SA1.out.below hb)
  have SB2 := hide hs
  clear hs hb SA1
  go_wp2_with fail
  refine (HM1.out _ _ B2.out SA2.out).mono ?_
  rintro e w3 ⟨rfl, hb⟩
  have B3 := hide (bStepM B2.out hb)
  have SA3 := hide (SA2.out.below hb)
  have SB3 := hide (SB2.out.below hb)
  clear SA2 SB2
  clear hb
  have hba := bAlloc (Below.refl w3.heap.size w3) (.cells #[.bool x3.1, .string x3.2.1, .string x3.2.2] 29)
  have hN := RC.new w3 x3.1 x3.2.1 x3.2.2 29
  have B4 := hide (bStepM B3.out hba)
  have SA4 := hide (SA3.out.below hba)
  have SB4 := hide (SB3.out.below hba)
  clear SA3 SB3
  clear hba
  go_upto_region 3 with fail
  obtain ⟨w4, hw⟩ : ∃ W, w3.alloc (.cells #[.bool x3.1, .string x3.2.1, .string x3.2.2] 29) = W := ⟨_, rfl⟩
  obtain ⟨X3, hX⟩ : ∃ A, w3.heap.size = A := ⟨_, rfl⟩
  rw [hw, hX] at hN
  rw [hw] at B4 SA4 SB4
  rw [hw, hX]
  have R3_4 := hide hN
  clear hw hX hN
  go_wp2_with fail
  refine (HV1.out _ _ B4.out SA4.out).mono ?_
  rintro e w5 ⟨rfl, hb⟩
  have B5 := hide (bStepM B4.out hb)
  have SA5 := hide (SA4.out.below hb)
  have SB5 := hide (SB4.out.below hb)
  have R3_5 := hide (R3_4.out.below hb)
  clear SA4 SB4 R3_4
  clear hb
  have hba := bAlloc (Below.refl w5.heap.size w5) (.cells #[.bool x5.1, .string x5.2.1, .string x5.2.2] 29)
  have hN := RC.new w5 x5.1 x5.2.1 x5.2.2 29
  have B6 := hide (bStepM B5.out hba)
  have SA6 := hide (SA5.out.below hba)
  have SB6 := hide (SB5.out.below hba)
  have R3_6 := hide (R3_5.out.below hba)
  clear SA5 SB5 R3_5
  clear hba
  go_upto_region 4 with fail
  obtain ⟨w6, hw⟩ : ∃ W, w5.alloc (.cells #[.bool x5.1, .string x5.2.1, .string x5.2.2] 29) = W := ⟨_, rfl⟩
  obtain ⟨X5, hX⟩ : ∃ A, w5.heap.size = A := ⟨_, rfl⟩
  rw [hw, hX] at hN
  rw [hw] at B6 SA6 SB6 R3_6
  rw [hw, hX]
  have R5_6 := hide hN
  clear hw hX hN
  go_wp2_with fail
  refine (HM2.out _ _ B6.out SB6.out).mono ?_
  rintro e w7 ⟨rfl, hb⟩
  have B7 := hide (bStepM B6.out hb)
  have SA7 := hide (SA6.out.below hb)
  have SB7 := hide (SB6.out.below hb)
  have R3_7 := hide (R3_6.out.below hb)
  have R5_7 := hide (R5_6.out.below hb)
  clear SA6 SB6 R3_6 R5_6
  clear hb
  have hba := bAlloc (Below.refl w7.heap.size w7) (.cells #[.bool x7.1, .string x7.2.1, .string x7.2.2] 29)
  have hN := RC.new w7 x7.1 x7.2.1 x7.2.2 29
  have B8 := hide (bStepM B7.out hba)
  have SA8 := hide (SA7.out.below hba)
  have SB8 := hide (SB7.out.below hba)
  have R3_8 := hide (R3_7.out.below hba)
  have R5_8 := hide (R5_7.out.below hba)
  clear SA7 SB7 R3_7 R5_7
  clear hba
  go_upto_region 5 with fail
  obtain ⟨w8, hw⟩ : ∃ W, w7.alloc (.cells #[.bool x7.1, .string x7.2.1, .string x7.2.2] 29) = W := ⟨_, rfl⟩
  obtain ⟨X7, hX⟩ : ∃ A, w7.heap.size = A := ⟨_, rfl⟩
  rw [hw, hX] at hN
  rw [hw] at B8 SA8 SB8 R3_8 R5_8
  rw [hw, hX]
  have R7_8 := hide hN
  clear hw hX hN
  go_wp2_with fail
  refine (HV2.out _ _ B8.out SB8.out).mono ?_
  rintro e w9 ⟨rfl, hb⟩
  have B9 := hide (bStepM B8.out hb)
  have SA9 := hide (SA8.out.below hb)
  have SB9 := hide (SB8.out.below hb)
  have R3_9 := hide (R3_8.out.below hb)
  have R5_9 := hide (R5_8.out.below hb)
  have R7_9 := hide (R7_8.out.below hb)
  clear SA8 SB8 R3_8 R5_8 R7_8
  clear hb
  have hba := bAlloc (Below.refl w9.heap.size w9) (.cells #[.bool x9.1, .string x9.2.1, .string x9.2.2] 29)
  have hN := RC.new w9 x9.1 x9.2.1 x9.2.2 29
  have B10 := hide (bStepM B9.out hba)
  have SA10 := hide (SA9.out.below hba)
  have SB10 := hide (SB9.out.below hba)
  have R3_10 := hide (R3_9.out.below hba)
  have R5_10 := hide (R5_9.out.below hba)
  have R7_10 := hide (R7_9.out.below hba)
  clear SA9 SB9 R3_9 R5_9 R7_9
  clear hba
  go_upto_region 6 with fail
  obtain ⟨w10, hw⟩ : ∃ W, w9.alloc (.cells #[.bool x9.1, .string x9.2.1, .string x9.2.2] 29) = W := ⟨_, rfl⟩
  obtain ⟨X9, hX⟩ : ∃ A, w9.heap.size = A := ⟨_, rfl⟩
  rw [hw, hX] at hN
  rw [hw] at B10 SA10 SB10 R3_10 R5_10 R7_10
  rw [hw, hX]
  have R9_10 := hide hN
  clear hw hX hN
  go_wp2_with fail
  refine (HSM.out _ _ _ B10.out SA10.out SB10.out).mono ?_
  rintro e w11 ⟨aS, cS, rfl, hs, hb⟩
  have B11 := hide (bStepM B10.out hb)
  have SA11 := hide (SA10.out.below hb)
  have SB11 := hide (SB10.out.below hb)
  have R3_11 := hide (R3_10.out.below hb)
  have R5_11 := hide (R5_10.out.below hb)
  have R7_11 := hide (R7_10.out.below hb)
  have R9_11 := hide (R9_10.out.below hb)
  clear SA10 SB10 R3_10 R5_10 R7_10 R9_10
  have SS11 := hide hs
  clear hs hb
  go_wp2_with fail
  refine (HR_x5.out _ B11.out).mono ?_
  rintro e w12 ⟨rfl, hb⟩
  have B12 := hide (bStepM B11.out hb)
  have SA12 := hide (SA11.out.below hb)
  have SB12 := hide (SB11.out.below hb)
  have R3_12 := hide (R3_11.out.below hb)
  have R5_12 := hide (R5_11.out.below hb)
  have R7_12 := hide (R7_11.out.below hb)
  have R9_12 := hide (R9_11.out.below hb)
  have SS12 := hide (SS11.out.below hb)
  clear SA11 SB11 R3_11 R5_11 R7_11 R9_11 SS11
  clear hb
  go_wp2_with fail
  refine (HR_y2.out _ B12.out).mono ?_
  rintro e w13 ⟨rfl, hb⟩
  have B13 := hide (bStepM B12.out hb)
  have SA13 := hide (SA12.out.below hb)
  have SB13 := hide (SB12.out.below hb)
  have R3_13 := hide (R3_12.out.below hb)
  have R5_13 := hide (R5_12.out.below hb)
  have R7_13 := hide (R7_12.out.below hb)
  have R9_13 := hide (R9_12.out.below hb)
  have SS13 := hide (SS12.out.below hb)
  clear SA12 SB12 R3_12 R5_12 R7_12 R9_12 SS12
  clear hb
  go_wp2_with fail
  refine (HMX.out _ _ _ B13.out SA13.out SB13.out).mono ?_
  rintro e w14 ⟨aX, cX, rfl, hs, hb⟩
  have B14 := hide (bStepM B13.out hb)
  have SA14 := hide (SA13.out.below hb)
  have SB14 := hide (SB13.out.below hb)
  have R3_14 := hide (R3_13.out.below hb)
  have R5_14 := hide (R5_13.out.below hb)
  have R7_14 := hide (R7_13.out.below hb)
  have R9_14 := hide (R9_13.out.below hb)
  have SS14 := hide (SS13.out.below hb)
  clear SA13 SB13 R3_13 R5_13 R7_13 R9_13 SS13
  have SX14 := hide hs
  clear hs hb
  go_wp2_with fail
  refine (HR_x3.out _ B14.out).mono ?_
  rintro e w15 ⟨rfl, hb⟩
  have B15 := hide (bStepM B14.out hb)
  have SA15 := hide (SA14.out.below hb)
  have SB15 := hide (SB14.out.below hb)
  have R3_15 := hide (R3_14.out.below hb)
  have R5_15 := hide (R5_14.out.below hb)
  have R7_15 := hide (R7_14.out.below hb)
  have R9_15 := hide (R9_14.out.below hb)
  have SS15 := hide (SS14.out.below hb)
  have SX15 := hide (SX14.out.below hb)
  clear SA14 SB14 R3_14 R5_14 R7_14 R9_14 SS14 SX14
  clear hb
  go_wp2_with fail
  refine (HMH.out _ _ B15.out SA15.out).mono ?_
  rintro e w16 ⟨rfl, hb⟩
  have B16 := hide (bStepM B15.out hb)
  have SA16 := hide (SA15.out.below hb)
  have SB16 := hide (SB15.out.below hb)
  have R3_16 := hide (R3_15.out.below hb)
  have R5_16 := hide (R5_15.out.below hb)
  have R7_16 := hide (R7_15.out.below hb)
  have R9_16 := hide (R9_15.out.below hb)
  have SS16 := hide (SS15.out.below hb)
  have SX16 := hide (SX15.out.below hb)
  clear SA15 SB15 R3_15 R5_15 R7_15 R9_15 SS15 SX15
  clear hb
  go_upto_region 9 with fail
  have mixed : Tryz.prog.follows .mixedOrders = true := by kernel_rfl
  obtain ⟨wd, hwd⟩ : ∃ W, w16.drew = W := ⟨_, rfl⟩
  have hbd : Below w16.heap.size w16 w16.drew := bDraw (Below.refl _ w16)
  rw [hwd] at hbd
  have HSS : Hid (∀ W, RC W X3 x3.1 x3.2.1 x3.2.2 → RC W X5 x5.1 x5.2.1 x5.2.2 → RC W X7 x7.1 x7.2.1 x7.2.2 → RC W X9 x9.1 x9.2.1 x9.2.2 → (W.cell? ⟨X3, 0, none⟩ = some (.bool x3.1) ∧ W.cell? ⟨X3, 1, none⟩ = some (.string x3.2.1) ∧ W.cell? ⟨X3, 2, none⟩ = some (.string x3.2.2)) ∧ (W.cell? ⟨X5, 0, none⟩ = some (.bool x5.1) ∧ W.cell? ⟨X5, 1, none⟩ = some (.string x5.2.1) ∧ W.cell? ⟨X5, 2, none⟩ = some (.string x5.2.2)) ∧ (W.cell? ⟨X7, 0, none⟩ = some (.bool x7.1) ∧ W.cell? ⟨X7, 1, none⟩ = some (.string x7.2.1) ∧ W.cell? ⟨X7, 2, none⟩ = some (.string x7.2.2)) ∧ (W.cell? ⟨X9, 0, none⟩ = some (.bool x9.1) ∧ W.cell? ⟨X9, 1, none⟩ = some (.string x9.2.1) ∧ W.cell? ⟨X9, 2, none⟩ = some (.string x9.2.2))) := fun W a b c d => ⟨⟨a.c0, a.c1, a.c2⟩, ⟨b.c0, b.c1, b.c2⟩, ⟨c.c0, c.c1, c.c2⟩, ⟨d.c0, d.c1, d.c2⟩⟩
  have B17 := hide (bStepM B16.out hbd)
  have SA17 := hide (SA16.out.below hbd)
  have SB17 := hide (SB16.out.below hbd)
  have R3_17 := hide (R3_16.out.below hbd)
  have R5_17 := hide (R5_16.out.below hbd)
  have R7_17 := hide (R7_16.out.below hbd)
  have R9_17 := hide (R9_16.out.below hbd)
  have SS17 := hide (SS16.out.below hbd)
  have SX17 := hide (SX16.out.below hbd)
  clear SA16 SB16 R3_16 R5_16 R7_16 R9_16 SS16 SX16
  clear hbd
  have hE0 := HSS.out _ R3_17.out R5_17.out R7_17.out R9_17.out
  refine wp_region_noPanic ?_
  refine wp_region_held_drew (S := fun w' => (w'.cell? ⟨X3, 0, none⟩ = some (.bool x3.1) ∧ w'.cell? ⟨X3, 1, none⟩ = some (.string x3.2.1) ∧ w'.cell? ⟨X3, 2, none⟩ = some (.string x3.2.2)) ∧ (w'.cell? ⟨X5, 0, none⟩ = some (.bool x5.1) ∧ w'.cell? ⟨X5, 1, none⟩ = some (.string x5.2.1) ∧ w'.cell? ⟨X5, 2, none⟩ = some (.string x5.2.2)) ∧ (w'.cell? ⟨X7, 0, none⟩ = some (.bool x7.1) ∧ w'.cell? ⟨X7, 1, none⟩ = some (.string x7.2.1) ∧ w'.cell? ⟨X7, 2, none⟩ = some (.string x7.2.2)) ∧ (w'.cell? ⟨X9, 0, none⟩ = some (.bool x9.1) ∧ w'.cell? ⟨X9, 1, none⟩ = some (.string x9.2.1) ∧ w'.cell? ⟨X9, 2, none⟩ = some (.string x9.2.2))) (by kernel_rfl) (by rw [hwd]; exact hE0) (fun hHeld => ?_)
  rw [hwd] at hHeld ⊢
  clear hwd hE0
  change wpAnyH _ _ _ _ _ 35 #[false, false, false, false, false, false, false, false, false, false, false, false, false, false, false, false, false, false, false, false, false, false, false, false, false, false, false, false, false, false, false, false, false, false, false] _ _
  refine wpAnyH_take (i := 0) (oi := _) (v := ?_) rfl (by kernel_rfl) (by kernel_rfl) (by kernel_rfl) (fun _ _ _ h => h) (Or.inl ⟨by rfl, ?_⟩) (by assumption) ?_
  rotate_left
  · intro w hSw
    (try dsimp only at hSw)
    go_simp
    try with_reducible rfl
  try simp only [List.getElem_toArray, List.getElem_cons_zero, List.getElem_cons_succ, List.get, Act.put, List.setIfInBounds_toArray, List.set_cons_zero, List.set_cons_succ]
  refine wpAnyH_take (i := 1) (oi := _) (v := ?_) rfl (by kernel_rfl) (by kernel_rfl) (by kernel_rfl) (fun _ _ _ h => h) (Or.inl ⟨by rfl, ?_⟩) (by assumption) ?_
  rotate_left
  · intro w hSw
    (try dsimp only at hSw)
    go_simp
    try with_reducible rfl
  try simp only [List.getElem_toArray, List.getElem_cons_zero, List.getElem_cons_succ, List.get, Act.put, List.setIfInBounds_toArray, List.set_cons_zero, List.set_cons_succ]
  refine wpAnyH_take (i := 2) (oi := _) (v := ?_) rfl (by kernel_rfl) (by kernel_rfl) (by kernel_rfl) (fun _ _ _ h => h) (Or.inl ⟨by rfl, ?_⟩) (by assumption) ?_
  rotate_left
  · intro w hSw
    (try dsimp only at hSw)
    go_simp
    try with_reducible rfl
  try simp only [List.getElem_toArray, List.getElem_cons_zero, List.getElem_cons_succ, List.get, Act.put, List.setIfInBounds_toArray, List.set_cons_zero, List.set_cons_succ]
  refine wpAnyH_take (i := 3) (oi := _) (v := ?_) rfl (by kernel_rfl) (by kernel_rfl) (by kernel_rfl) (fun _ _ _ h => h) (Or.inl ⟨by rfl, ?_⟩) (by assumption) ?_
  rotate_left
  · intro w hSw
    (try dsimp only at hSw)
    go_simp
    try with_reducible rfl
  try simp only [List.getElem_toArray, List.getElem_cons_zero, List.getElem_cons_succ, List.get, Act.put, List.setIfInBounds_toArray, List.set_cons_zero, List.set_cons_succ]
  refine wpAnyH_ready (rs := [4]) (by kernel_rfl) (by simp) ?_
  refine AllReadyH.cons (o := _) rfl (fun K hK => ?_) AllReadyH.nil
  go_simp
  refine (HR_x3.out _ B17.out).mono ?_
  rintro e w18 ⟨rfl, hb⟩
  have B18 := hide (bStepM B17.out hb)
  have SA18 := hide (SA17.out.below hb)
  have SB18 := hide (SB17.out.below hb)
  have R3_18 := hide (R3_17.out.below hb)
  have R5_18 := hide (R5_17.out.below hb)
  have R7_18 := hide (R7_17.out.below hb)
  have R9_18 := hide (R9_17.out.below hb)
  have SS18 := hide (SS17.out.below hb)
  have SX18 := hide (SX17.out.below hb)
  clear SA17 SB17 R3_17 R5_17 R7_17 R9_17 SS17 SX17
  clear hb
  refine hK.out _ _ (HSS.out _ R3_18.out R5_18.out R7_18.out R9_18.out) (fun hHeld => ?_)
  clear hK K
  try simp only [List.getElem_toArray, List.getElem_cons_zero, List.getElem_cons_succ, List.get, Act.put, List.setIfInBounds_toArray, List.set_cons_zero, List.set_cons_succ]
  refine wpAnyH_take (i := 5) (oi := _) (v := ?_) rfl (by kernel_rfl) (by kernel_rfl) (by kernel_rfl) (fun _ _ _ h => h) (Or.inl ⟨by rfl, ?_⟩) (by assumption) ?_
  rotate_left
  · intro w hSw
    (try dsimp only at hSw)
    go_simp
    try with_reducible rfl
  try simp only [List.getElem_toArray, List.getElem_cons_zero, List.getElem_cons_succ, List.get, Act.put, List.setIfInBounds_toArray, List.set_cons_zero, List.set_cons_succ]
  refine wpAnyH_take (i := 6) (oi := _) (v := ?_) rfl (by kernel_rfl) (by kernel_rfl) (by kernel_rfl) (fun _ _ _ h => h) (Or.inl ⟨by rfl, ?_⟩) (by assumption) ?_
  rotate_left
  · intro w hSw
    (try dsimp only at hSw)
    go_simp
    try with_reducible rfl
  try simp only [List.getElem_toArray, List.getElem_cons_zero, List.getElem_cons_succ, List.get, Act.put, List.setIfInBounds_toArray, List.set_cons_zero, List.set_cons_succ]
  refine wpAnyH_take (i := 7) (oi := _) (v := ?_) rfl (by kernel_rfl) (by kernel_rfl) (by kernel_rfl) (fun _ _ _ h => h) (Or.inl ⟨by rfl, ?_⟩) (by assumption) ?_
  rotate_left
  · intro w hSw
    (try dsimp only at hSw)
    go_simp
    try with_reducible rfl
  try simp only [List.getElem_toArray, List.getElem_cons_zero, List.getElem_cons_succ, List.get, Act.put, List.setIfInBounds_toArray, List.set_cons_zero, List.set_cons_succ]
  refine wpAnyH_take (i := 8) (oi := _) (v := ?_) rfl (by kernel_rfl) (by kernel_rfl) (by kernel_rfl) (fun _ _ _ h => h) (Or.inl ⟨by rfl, ?_⟩) (by assumption) ?_
  rotate_left
  · intro w hSw
    (try dsimp only at hSw)
    go_simp
    try with_reducible rfl
  try simp only [List.getElem_toArray, List.getElem_cons_zero, List.getElem_cons_succ, List.get, Act.put, List.setIfInBounds_toArray, List.set_cons_zero, List.set_cons_succ]
  refine wpAnyH_take (i := 9) (oi := _) (v := ?_) rfl (by kernel_rfl) (by kernel_rfl) (by kernel_rfl) (fun _ _ _ h => h) (Or.inl ⟨by rfl, ?_⟩) (by assumption) ?_
  rotate_left
  · intro w hSw
    (try dsimp only at hSw)
    go_simp
    try with_reducible rfl
  try simp only [List.getElem_toArray, List.getElem_cons_zero, List.getElem_cons_succ, List.get, Act.put, List.setIfInBounds_toArray, List.set_cons_zero, List.set_cons_succ]
  refine wpAnyH_take (i := 10) (oi := _) (v := ?_) rfl (by kernel_rfl) (by kernel_rfl) (by kernel_rfl) (fun _ _ _ h => h) (Or.inl ⟨by rfl, ?_⟩) (by assumption) ?_
  rotate_left
  · intro w hSw
    (try dsimp only at hSw)
    go_simp
    try with_reducible rfl
  try simp only [List.getElem_toArray, List.getElem_cons_zero, List.getElem_cons_succ, List.get, Act.put, List.setIfInBounds_toArray, List.set_cons_zero, List.set_cons_succ]
  refine wpAnyH_take (i := 11) (oi := _) (v := ?_) rfl (by kernel_rfl) (by kernel_rfl) (by kernel_rfl) (fun _ _ _ h => h) (Or.inl ⟨by rfl, ?_⟩) (by assumption) ?_
  rotate_left
  · intro w hSw
    (try dsimp only at hSw)
    go_simp
    try with_reducible rfl
  try simp only [List.getElem_toArray, List.getElem_cons_zero, List.getElem_cons_succ, List.get, Act.put, List.setIfInBounds_toArray, List.set_cons_zero, List.set_cons_succ]
  refine wpAnyH_take (i := 12) (oi := _) (v := ?_) rfl (by kernel_rfl) (by kernel_rfl) (by kernel_rfl) (fun _ _ _ h => h) (Or.inl ⟨by rfl, ?_⟩) (by assumption) ?_
  rotate_left
  · intro w hSw
    (try dsimp only at hSw)
    go_simp
    try with_reducible rfl
  try simp only [List.getElem_toArray, List.getElem_cons_zero, List.getElem_cons_succ, List.get, Act.put, List.setIfInBounds_toArray, List.set_cons_zero, List.set_cons_succ]
  refine wpAnyH_ready (rs := [13]) (by kernel_rfl) (by simp) ?_
  refine AllReadyH.cons (o := _) rfl (fun K hK => ?_) AllReadyH.nil
  go_simp
  refine (HR_x5.out _ B18.out).mono ?_
  rintro e w19 ⟨rfl, hb⟩
  have B19 := hide (bStepM B18.out hb)
  have SA19 := hide (SA18.out.below hb)
  have SB19 := hide (SB18.out.below hb)
  have R3_19 := hide (R3_18.out.below hb)
  have R5_19 := hide (R5_18.out.below hb)
  have R7_19 := hide (R7_18.out.below hb)
  have R9_19 := hide (R9_18.out.below hb)
  have SS19 := hide (SS18.out.below hb)
  have SX19 := hide (SX18.out.below hb)
  clear SA18 SB18 R3_18 R5_18 R7_18 R9_18 SS18 SX18
  clear hb
  refine hK.out _ _ (HSS.out _ R3_19.out R5_19.out R7_19.out R9_19.out) (fun hHeld => ?_)
  clear hK K
  try simp only [List.getElem_toArray, List.getElem_cons_zero, List.getElem_cons_succ, List.get, Act.put, List.setIfInBounds_toArray, List.set_cons_zero, List.set_cons_succ]
  refine wpAnyH_take (i := 14) (oi := _) (v := ?_) rfl (by kernel_rfl) (by kernel_rfl) (by kernel_rfl) (fun _ _ _ h => h) (Or.inl ⟨by rfl, ?_⟩) (by assumption) ?_
  rotate_left
  · intro w hSw
    (try dsimp only at hSw)
    go_simp
    try with_reducible rfl
  try simp only [List.getElem_toArray, List.getElem_cons_zero, List.getElem_cons_succ, List.get, Act.put, List.setIfInBounds_toArray, List.set_cons_zero, List.set_cons_succ]
  refine wpAnyH_take (i := 15) (oi := _) (v := ?_) rfl (by kernel_rfl) (by kernel_rfl) (by kernel_rfl) (fun _ _ _ h => h) (Or.inl ⟨by rfl, ?_⟩) (by assumption) ?_
  rotate_left
  · intro w hSw
    (try dsimp only at hSw)
    go_simp
    try with_reducible rfl
  try simp only [List.getElem_toArray, List.getElem_cons_zero, List.getElem_cons_succ, List.get, Act.put, List.setIfInBounds_toArray, List.set_cons_zero, List.set_cons_succ]
  refine wpAnyH_take (i := 16) (oi := _) (v := ?_) rfl (by kernel_rfl) (by kernel_rfl) (by kernel_rfl) (fun _ _ _ h => h) (Or.inl ⟨by rfl, ?_⟩) (by assumption) ?_
  rotate_left
  · intro w hSw
    (try dsimp only at hSw)
    go_simp
    try with_reducible rfl
  try simp only [List.getElem_toArray, List.getElem_cons_zero, List.getElem_cons_succ, List.get, Act.put, List.setIfInBounds_toArray, List.set_cons_zero, List.set_cons_succ]
  refine wpAnyH_take (i := 17) (oi := _) (v := ?_) rfl (by kernel_rfl) (by kernel_rfl) (by kernel_rfl) (fun _ _ _ h => h) (Or.inl ⟨by rfl, ?_⟩) (by assumption) ?_
  rotate_left
  · intro w hSw
    (try dsimp only at hSw)
    go_simp
    try with_reducible rfl
  try simp only [List.getElem_toArray, List.getElem_cons_zero, List.getElem_cons_succ, List.get, Act.put, List.setIfInBounds_toArray, List.set_cons_zero, List.set_cons_succ]
  refine wpAnyH_take (i := 18) (oi := _) (v := ?_) rfl (by kernel_rfl) (by kernel_rfl) (by kernel_rfl) (fun _ _ _ h => h) (Or.inl ⟨by rfl, ?_⟩) (by assumption) ?_
  rotate_left
  · intro w hSw
    (try dsimp only at hSw)
    go_simp
    try with_reducible rfl
  try simp only [List.getElem_toArray, List.getElem_cons_zero, List.getElem_cons_succ, List.get, Act.put, List.setIfInBounds_toArray, List.set_cons_zero, List.set_cons_succ]
  refine wpAnyH_take (i := 19) (oi := _) (v := ?_) rfl (by kernel_rfl) (by kernel_rfl) (by kernel_rfl) (fun _ _ _ h => h) (Or.inl ⟨by rfl, ?_⟩) (by assumption) ?_
  rotate_left
  · intro w hSw
    (try dsimp only at hSw)
    go_simp
    try with_reducible rfl
  try simp only [List.getElem_toArray, List.getElem_cons_zero, List.getElem_cons_succ, List.get, Act.put, List.setIfInBounds_toArray, List.set_cons_zero, List.set_cons_succ]
  refine wpAnyH_take (i := 20) (oi := _) (v := ?_) rfl (by kernel_rfl) (by kernel_rfl) (by kernel_rfl) (fun _ _ _ h => h) (Or.inl ⟨by rfl, ?_⟩) (by assumption) ?_
  rotate_left
  · intro w hSw
    (try dsimp only at hSw)
    go_simp
    try with_reducible rfl
  try simp only [List.getElem_toArray, List.getElem_cons_zero, List.getElem_cons_succ, List.get, Act.put, List.setIfInBounds_toArray, List.set_cons_zero, List.set_cons_succ]
  refine wpAnyH_take (i := 21) (oi := _) (v := ?_) rfl (by kernel_rfl) (by kernel_rfl) (by kernel_rfl) (fun _ _ _ h => h) (Or.inl ⟨by rfl, ?_⟩) (by assumption) ?_
  rotate_left
  · intro w hSw
    (try dsimp only at hSw)
    go_simp
    try with_reducible rfl
  try simp only [List.getElem_toArray, List.getElem_cons_zero, List.getElem_cons_succ, List.get, Act.put, List.setIfInBounds_toArray, List.set_cons_zero, List.set_cons_succ]
  refine wpAnyH_ready (rs := [22]) (by kernel_rfl) (by simp) ?_
  refine AllReadyH.cons (o := _) rfl (fun K hK => ?_) AllReadyH.nil
  go_simp
  refine (HR_x7.out _ B19.out).mono ?_
  rintro e w20 ⟨rfl, hb⟩
  have B20 := hide (bStepM B19.out hb)
  have SA20 := hide (SA19.out.below hb)
  have SB20 := hide (SB19.out.below hb)
  have R3_20 := hide (R3_19.out.below hb)
  have R5_20 := hide (R5_19.out.below hb)
  have R7_20 := hide (R7_19.out.below hb)
  have R9_20 := hide (R9_19.out.below hb)
  have SS20 := hide (SS19.out.below hb)
  have SX20 := hide (SX19.out.below hb)
  clear SA19 SB19 R3_19 R5_19 R7_19 R9_19 SS19 SX19
  clear hb
  refine hK.out _ _ (HSS.out _ R3_20.out R5_20.out R7_20.out R9_20.out) (fun hHeld => ?_)
  clear hK K
  try simp only [List.getElem_toArray, List.getElem_cons_zero, List.getElem_cons_succ, List.get, Act.put, List.setIfInBounds_toArray, List.set_cons_zero, List.set_cons_succ]
  refine wpAnyH_take (i := 23) (oi := _) (v := ?_) rfl (by kernel_rfl) (by kernel_rfl) (by kernel_rfl) (fun _ _ _ h => h) (Or.inl ⟨by rfl, ?_⟩) (by assumption) ?_
  rotate_left
  · intro w hSw
    (try dsimp only at hSw)
    go_simp
    try with_reducible rfl
  try simp only [List.getElem_toArray, List.getElem_cons_zero, List.getElem_cons_succ, List.get, Act.put, List.setIfInBounds_toArray, List.set_cons_zero, List.set_cons_succ]
  refine wpAnyH_take (i := 24) (oi := _) (v := ?_) rfl (by kernel_rfl) (by kernel_rfl) (by kernel_rfl) (fun _ _ _ h => h) (Or.inl ⟨by rfl, ?_⟩) (by assumption) ?_
  rotate_left
  · intro w hSw
    (try dsimp only at hSw)
    go_simp
    try with_reducible rfl
  try simp only [List.getElem_toArray, List.getElem_cons_zero, List.getElem_cons_succ, List.get, Act.put, List.setIfInBounds_toArray, List.set_cons_zero, List.set_cons_succ]
  refine wpAnyH_take (i := 25) (oi := _) (v := ?_) rfl (by kernel_rfl) (by kernel_rfl) (by kernel_rfl) (fun _ _ _ h => h) (Or.inl ⟨by rfl, ?_⟩) (by assumption) ?_
  rotate_left
  · intro w hSw
    (try dsimp only at hSw)
    go_simp
    try with_reducible rfl
  try simp only [List.getElem_toArray, List.getElem_cons_zero, List.getElem_cons_succ, List.get, Act.put, List.setIfInBounds_toArray, List.set_cons_zero, List.set_cons_succ]
  refine wpAnyH_take (i := 26) (oi := _) (v := ?_) rfl (by kernel_rfl) (by kernel_rfl) (by kernel_rfl) (fun _ _ _ h => h) (Or.inl ⟨by rfl, ?_⟩) (by assumption) ?_
  rotate_left
  · intro w hSw
    (try dsimp only at hSw)
    go_simp
    try with_reducible rfl
  try simp only [List.getElem_toArray, List.getElem_cons_zero, List.getElem_cons_succ, List.get, Act.put, List.setIfInBounds_toArray, List.set_cons_zero, List.set_cons_succ]
  refine wpAnyH_take (i := 27) (oi := _) (v := ?_) rfl (by kernel_rfl) (by kernel_rfl) (by kernel_rfl) (fun _ _ _ h => h) (Or.inl ⟨by rfl, ?_⟩) (by assumption) ?_
  rotate_left
  · intro w hSw
    (try dsimp only at hSw)
    go_simp
    try with_reducible rfl
  try simp only [List.getElem_toArray, List.getElem_cons_zero, List.getElem_cons_succ, List.get, Act.put, List.setIfInBounds_toArray, List.set_cons_zero, List.set_cons_succ]
  refine wpAnyH_take (i := 28) (oi := _) (v := ?_) rfl (by kernel_rfl) (by kernel_rfl) (by kernel_rfl) (fun _ _ _ h => h) (Or.inl ⟨by rfl, ?_⟩) (by assumption) ?_
  rotate_left
  · intro w hSw
    (try dsimp only at hSw)
    go_simp
    try with_reducible rfl
  try simp only [List.getElem_toArray, List.getElem_cons_zero, List.getElem_cons_succ, List.get, Act.put, List.setIfInBounds_toArray, List.set_cons_zero, List.set_cons_succ]
  refine wpAnyH_take (i := 29) (oi := _) (v := ?_) rfl (by kernel_rfl) (by kernel_rfl) (by kernel_rfl) (fun _ _ _ h => h) (Or.inl ⟨by rfl, ?_⟩) (by assumption) ?_
  rotate_left
  · intro w hSw
    (try dsimp only at hSw)
    go_simp
    try with_reducible rfl
  try simp only [List.getElem_toArray, List.getElem_cons_zero, List.getElem_cons_succ, List.get, Act.put, List.setIfInBounds_toArray, List.set_cons_zero, List.set_cons_succ]
  refine wpAnyH_take (i := 30) (oi := _) (v := ?_) rfl (by kernel_rfl) (by kernel_rfl) (by kernel_rfl) (fun _ _ _ h => h) (Or.inl ⟨by rfl, ?_⟩) (by assumption) ?_
  rotate_left
  · intro w hSw
    (try dsimp only at hSw)
    go_simp
    try with_reducible rfl
  try simp only [List.getElem_toArray, List.getElem_cons_zero, List.getElem_cons_succ, List.get, Act.put, List.setIfInBounds_toArray, List.set_cons_zero, List.set_cons_succ]
  refine wpAnyH_ready (rs := [31]) (by kernel_rfl) (by simp) ?_
  refine AllReadyH.cons (o := _) rfl (fun K hK => ?_) AllReadyH.nil
  go_simp
  refine (HR_x9.out _ B20.out).mono ?_
  rintro e w21 ⟨rfl, hb⟩
  have B21 := hide (bStepM B20.out hb)
  have SA21 := hide (SA20.out.below hb)
  have SB21 := hide (SB20.out.below hb)
  have R3_21 := hide (R3_20.out.below hb)
  have R5_21 := hide (R5_20.out.below hb)
  have R7_21 := hide (R7_20.out.below hb)
  have R9_21 := hide (R9_20.out.below hb)
  have SS21 := hide (SS20.out.below hb)
  have SX21 := hide (SX20.out.below hb)
  clear SA20 SB20 R3_20 R5_20 R7_20 R9_20 SS20 SX20
  clear hb
  refine hK.out _ _ (HSS.out _ R3_21.out R5_21.out R7_21.out R9_21.out) (fun hHeld => ?_)
  clear hK K
  try simp only [List.getElem_toArray, List.getElem_cons_zero, List.getElem_cons_succ, List.get, Act.put, List.setIfInBounds_toArray, List.set_cons_zero, List.set_cons_succ]
  refine wpAnyH_take (i := 32) (oi := _) (v := ?_) rfl (by kernel_rfl) (by kernel_rfl) (by kernel_rfl) (fun _ _ _ h => h) (Or.inl ⟨by rfl, ?_⟩) (by assumption) ?_
  rotate_left
  · intro w hSw
    (try dsimp only at hSw)
    go_simp
    try with_reducible rfl
  try simp only [List.getElem_toArray, List.getElem_cons_zero, List.getElem_cons_succ, List.get, Act.put, List.setIfInBounds_toArray, List.set_cons_zero, List.set_cons_succ]
  refine wpAnyH_take (i := 33) (oi := _) (v := ?_) rfl (by kernel_rfl) (by kernel_rfl) (by kernel_rfl) (fun _ _ _ h => h) (Or.inl ⟨by rfl, ?_⟩) (by assumption) ?_
  rotate_left
  · intro w hSw
    (try dsimp only at hSw)
    go_simp
    try with_reducible rfl
  try simp only [List.getElem_toArray, List.getElem_cons_zero, List.getElem_cons_succ, List.get, Act.put, List.setIfInBounds_toArray, List.set_cons_zero, List.set_cons_succ]
  refine wpAnyH_take (i := 34) (oi := _) (v := ?_) rfl (by kernel_rfl) (by kernel_rfl) (by kernel_rfl) (fun _ _ _ h => h) (Or.inl ⟨by rfl, ?_⟩) (by assumption) ?_
  rotate_left
  · intro w hSw
    (try dsimp only at hSw)
    go_simp
    try with_reducible rfl
  try simp only [List.getElem_toArray, List.getElem_cons_zero, List.getElem_cons_succ, List.get, Act.put, List.setIfInBounds_toArray, List.set_cons_zero, List.set_cons_succ]
  refine wpAnyH_done (by kernel_rfl) ?_ _
  refine NoPanic.normal ?_
  clear hHeld
  go_wp2_with fail
  refine (c_ptsS HL.out B21.out).mono ?_
  rintro e w22 ⟨aP, cP, rfl, hs, hb⟩
  have B22 := hide (bStepM B21.out hb)
  have SA22 := hide (SA21.out.below hb)
  have SB22 := hide (SB21.out.below hb)
  have R3_22 := hide (R3_21.out.below hb)
  have R5_22 := hide (R5_21.out.below hb)
  have R7_22 := hide (R7_21.out.below hb)
  have R9_22 := hide (R9_21.out.below hb)
  have SS22 := hide (SS21.out.below hb)
  have SX22 := hide (SX21.out.below hb)
  clear SA21 SB21 R3_21 R5_21 R7_21 R9_21 SS21 SX21
  have SP22 := hide hs
  clear hs hb
  go_wp2_with fail
  refine (HSAME.out (exS.map encP) _ _ _ (by simp [exS]) SS22.out SP22.out).mono ?_
  rintro e w23 ⟨rfl, hb⟩
  have B23 := hide (bStepM B22.out hb)
  have SA23 := hide (SA22.out.below hb)
  have SB23 := hide (SB22.out.below hb)
  have R3_23 := hide (R3_22.out.below hb)
  have R5_23 := hide (R5_22.out.below hb)
  have R7_23 := hide (R7_22.out.below hb)
  have R9_23 := hide (R9_22.out.below hb)
  have SS23 := hide (SS22.out.below hb)
  have SX23 := hide (SX22.out.below hb)
  have SP23 := hide (SP22.out.below hb)
  clear SA22 SB22 R3_22 R5_22 R7_22 R9_22 SS22 SX22 SP22
  clear hb
  go_wp2_with fail
  refine (c_ptsX HL.out B23.out).mono ?_
  rintro e w24 ⟨aQ, cQ, rfl, hs, hb⟩
  have B24 := hide (bStepM B23.out hb)
  have SA24 := hide (SA23.out.below hb)
  have SB24 := hide (SB23.out.below hb)
  have R3_24 := hide (R3_23.out.below hb)
  have R5_24 := hide (R5_23.out.below hb)
  have R7_24 := hide (R7_23.out.below hb)
  have R9_24 := hide (R9_23.out.below hb)
  have SS24 := hide (SS23.out.below hb)
  have SX24 := hide (SX23.out.below hb)
  have SP24 := hide (SP23.out.below hb)
  clear SA23 SB23 R3_23 R5_23 R7_23 R9_23 SS23 SX23 SP23
  have SQ24 := hide hs
  clear hs hb
  go_wp2_with fail
  refine (HSAME.out (exX.map encP) _ _ _ (by simp [exX]) SX24.out SQ24.out).mono ?_
  rintro e w25 ⟨rfl, hb⟩
  have B25 := hide (bStepM B24.out hb)
  have SA25 := hide (SA24.out.below hb)
  have SB25 := hide (SB24.out.below hb)
  have R3_25 := hide (R3_24.out.below hb)
  have R5_25 := hide (R5_24.out.below hb)
  have R7_25 := hide (R7_24.out.below hb)
  have R9_25 := hide (R9_24.out.below hb)
  have SS25 := hide (SS24.out.below hb)
  have SX25 := hide (SX24.out.below hb)
  have SP25 := hide (SP24.out.below hb)
  have SQ25 := hide (SQ24.out.below hb)
  clear SA24 SB24 R3_24 R5_24 R7_24 R9_24 SS24 SX24 SP24 SQ24
  clear hb
  go_wp2_with fail
  refine (HVA.out _ _ B25.out SA25.out).mono ?_
  rintro e w26 ⟨rfl, hb⟩
  have B26 := hide (bStepM B25.out hb)
  have SA26 := hide (SA25.out.below hb)
  have SB26 := hide (SB25.out.below hb)
  have R3_26 := hide (R3_25.out.below hb)
  have R5_26 := hide (R5_25.out.below hb)
  have R7_26 := hide (R7_25.out.below hb)
  have R9_26 := hide (R9_25.out.below hb)
  have SS26 := hide (SS25.out.below hb)
  have SX26 := hide (SX25.out.below hb)
  have SP26 := hide (SP25.out.below hb)
  have SQ26 := hide (SQ25.out.below hb)
  clear SA25 SB25 R3_25 R5_25 R7_25 R9_25 SS25 SX25 SP25 SQ25
  clear hb
  go_wp2_with fail
  refine (c_ptsD HL.out B26.out).mono ?_
  rintro e w27 ⟨aR, cR, rfl, hs, hb⟩
  have B27 := hide (bStepM B26.out hb)
  have SA27 := hide (SA26.out.below hb)
  have SB27 := hide (SB26.out.below hb)
  have R3_27 := hide (R3_26.out.below hb)
  have R5_27 := hide (R5_26.out.below hb)
  have R7_27 := hide (R7_26.out.below hb)
  have R9_27 := hide (R9_26.out.below hb)
  have SS27 := hide (SS26.out.below hb)
  have SX27 := hide (SX26.out.below hb)
  have SP27 := hide (SP26.out.below hb)
  have SQ27 := hide (SQ26.out.below hb)
  clear SA26 SB26 R3_26 R5_26 R7_26 R9_26 SS26 SX26 SP26 SQ26
  have SR27 := hide hs
  clear hs hb
  go_wp2_with fail
  refine (HVD.out _ _ B27.out SR27.out).mono ?_
  rintro e w28 ⟨rfl, hb⟩
  have B28 := hide (bStepM B27.out hb)
  have SA28 := hide (SA27.out.below hb)
  have SB28 := hide (SB27.out.below hb)
  have R3_28 := hide (R3_27.out.below hb)
  have R5_28 := hide (R5_27.out.below hb)
  have R7_28 := hide (R7_27.out.below hb)
  have R9_28 := hide (R9_27.out.below hb)
  have SS28 := hide (SS27.out.below hb)
  have SX28 := hide (SX27.out.below hb)
  have SP28 := hide (SP27.out.below hb)
  have SQ28 := hide (SQ27.out.below hb)
  have SR28 := hide (SR27.out.below hb)
  clear SA27 SB27 R3_27 R5_27 R7_27 R9_27 SS27 SX27 SP27 SQ27 SR27
  clear hb
  go_wp2_with fail
  go_ret
  exact ⟨by first | rfl | simp, B28.out⟩
end Go.Proofs.YtblpnekjnaaeoaaGreatDoor
