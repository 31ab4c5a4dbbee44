/- moments: Insert walked. -/
import Derived.Test.YtblpnekjnaaeoaaGreatDoorMoH
set_option linter.unusedVariables false
set_option linter.unusedSimpArgs false
namespace Go.Proofs.YtblpnekjnaaeoaaGreatDoor
open Go.RowKit

theorem vPr_take {M : List (T3 × T3)} {n k : Nat} (h : M.length = n) (hk : k ≤ n) : (flatV vPr (M.take k)).length = k * 6 := by
  rw [flatV_length vPr_len, List.length_take, h, Nat.min_eq_left hk]
theorem vPr_drop {M : List (T3 × T3)} {n k : Nat} (h : M.length = n) : (flatV vPr (M.drop k)).length = (n - k) * 6 := by
  rw [flatV_length vPr_len, List.length_drop, h]
/-- The cells after both copies. -/
theorem own_ins {W' : World} {B b off c n k : Nat} {M : List (T3 × T3)} (p : T3 × T3) (hM : M.length = n) (hk : k ≤ n) (hn : n + 1 ≤ c) (hc : c ≤ maxLen) (hB : B ≤ b) (hb : b < W'.heap.size)
    (hsp : ∀ j, j < c * 6 → (W'.cell? ⟨b, off + j, none⟩).isSome = true ∧ W'.frozen? ⟨b, off + j, none⟩ = false)
    (h1 : ∀ j u, (flatV vPr (M.take k))[j]? = some u → W'.cell? ⟨b, off + j, none⟩ = some u)
    (h2 : ∀ j u, (vPr p)[j]? = some u → W'.cell? ⟨b, off + k * 6 + j, none⟩ = some u)
    (h3 : ∀ j u, (flatV vPr (M.drop k))[j]? = some u → W'.cell? ⟨b, off + (k + 1) * 6 + j, none⟩ = some u) :
    OwnS W' B 6 (.slice (some ⟨b, off, none⟩) (n + 1) c) (n + 1) (flatV vPr (M.take k ++ p :: M.drop k)) := by
  have hl1 := vPr_take hM hk
  have hl3 := vPr_drop (k := k) hM
  have e : flatV vPr (M.take k ++ p :: M.drop k) = flatV vPr (M.take k) ++ (vPr p ++ flatV vPr (M.drop k)) := by
    rw [flatV_append]; rfl
  have hl2 : (vPr p).length = 6 := rfl
  refine ⟨by rw [e, List.length_append, List.length_append, hl1, hl2, hl3]; omega, .inr ⟨b, off, c, rfl, hB, hb, hn, hc, hsp, fun j u hj => ?_⟩⟩
  rw [e, List.getElem?_append] at hj
  split at hj
  · exact h1 j u hj
  · rename_i g1
    rw [hl1] at hj g1
    rw [List.getElem?_append] at hj
    split at hj
    · have := h2 _ u hj
      rwa [show off + k * 6 + (j - k * 6) = off + j by omega] at this
    · rename_i g2
      rw [hl2] at hj g2
      have := h3 _ u hj
      rwa [show off + (k + 1) * 6 + (j - k * 6 - 6) = off + j by omega] at this
theorem grown_setCells (w : World) (b o : Nat) (vs : List Value) : w.grownBy (w.setCells b o vs) (some b) :=
  ⟨(setCells_rest b vs o w).1, (setCells_rest b vs o w).2.1, (setCells_rest b vs o w).2.2, by rw [setCells_size]; exact Nat.le_refl _, fun k _ hne => setCells_block b vs o w k fun e => hne (by rw [e])⟩
theorem grown_drew (w : World) (row : Option Nat) : w.grownBy w.drew row := grown_belowM ((Below.refl _ w).drew) row
theorem isSome2 {W : World} {b o : Nat} {vs : List Value} {q : Nat} (hs : ∀ j, j < vs.length → (W.cell? ⟨b, o + j, none⟩).isSome = true) (h : (W.cell? ⟨b, q, none⟩).isSome = true ∧ W.frozen? ⟨b, q, none⟩ = false) :
    ((W.setCells b o vs).cell? ⟨b, q, none⟩).isSome = true ∧ (W.setCells b o vs).frozen? ⟨b, q, none⟩ = false :=
  ⟨isSome_setCells b vs o W hs q h.1, by rw [setCells_frozen]; exact h.2⟩
/-- First what stands behind, then the point. -/
theorem own_insA {W : World} {B b off c n k : Nat} {M : List (T3 × T3)} (p : T3 × T3) (hM : M.length = n) (hk : k ≤ n) (hn : n + 1 ≤ c) (hc : c ≤ maxLen) (hB : B ≤ b) (hb : b < W.heap.size)
    (hsp : ∀ j, j < c * 6 → (W.cell? ⟨b, off + j, none⟩).isSome = true ∧ W.frozen? ⟨b, off + j, none⟩ = false)
    (h1 : ∀ j u, (flatV vPr (M.take k))[j]? = some u → W.cell? ⟨b, off + j, none⟩ = some u) :
    OwnS ((W.setCells b (off + (k + 1) * 6) (flatV vPr (M.drop k))).setCells b (off + k * 6) (vPr p)) B 6 (.slice (some ⟨b, off, none⟩) (n + 1) c) (n + 1) (flatV vPr (M.take k ++ p :: M.drop k)) := by
  have hl1 := vPr_take hM hk
  have hl3 := vPr_drop (k := k) hM
  have hl2 : (vPr p).length = 6 := rfl
  have s1 : ∀ j, j < (flatV vPr (M.drop k)).length → (W.cell? ⟨b, off + (k + 1) * 6 + j, none⟩).isSome = true := fun j hj => by
    have := (hsp ((k + 1) * 6 + j) (by omega)).1
    rwa [show off + ((k + 1) * 6 + j) = off + (k + 1) * 6 + j by omega] at this
  have s2 : ∀ j, j < (vPr p).length → ((W.setCells b (off + (k + 1) * 6) (flatV vPr (M.drop k))).cell? ⟨b, off + k * 6 + j, none⟩).isSome = true := fun j hj => by
    have := hsp (k * 6 + j) (by omega)
    rw [show off + (k * 6 + j) = off + k * 6 + j by omega] at this
    exact (isSome2 s1 this).1
  refine own_ins p hM hk hn hc hB (by rw [setCells_size, setCells_size]; exact hb) (fun j hj => isSome2 s2 (isSome2 s1 (hsp j hj))) (fun j u hj => ?_) (fun j u hj => ?_) (fun j u hj => ?_)
  · have hjl := (List.getElem?_eq_some_iff.1 hj).1
    rw [World.cell?_setCells_out b _ _ _ _ (fun _ _ => by show off + j < _ ∨ _; omega), World.cell?_setCells_out b _ _ _ _ (fun _ _ => by show off + j < _ ∨ _; omega)]
    exact h1 j u hj
  · have hjl := (List.getElem?_eq_some_iff.1 hj).1
    rw [World.cell?_setCells_in b _ _ _ s2 j hjl, ← List.getElem?_eq_getElem hjl]
    exact hj
  · have hjl := (List.getElem?_eq_some_iff.1 hj).1
    rw [World.cell?_setCells_out b _ _ _ _ (fun _ _ => by show off + (k + 1) * 6 + j < _ ∨ _ ≤ off + (k + 1) * 6 + j; omega), World.cell?_setCells_in b _ _ _ s1 j hjl, ← List.getElem?_eq_getElem hjl]
    exact hj
/-- First the point, then what stands behind. -/
theorem own_insB {W : World} {B b off c n k : Nat} {M : List (T3 × T3)} (p : T3 × T3) (hM : M.length = n) (hk : k ≤ n) (hn : n + 1 ≤ c) (hc : c ≤ maxLen) (hB : B ≤ b) (hb : b < W.heap.size)
    (hsp : ∀ j, j < c * 6 → (W.cell? ⟨b, off + j, none⟩).isSome = true ∧ W.frozen? ⟨b, off + j, none⟩ = false)
    (h1 : ∀ j u, (flatV vPr (M.take k))[j]? = some u → W.cell? ⟨b, off + j, none⟩ = some u) :
    OwnS ((W.setCells b (off + k * 6) (vPr p)).setCells b (off + (k + 1) * 6) (flatV vPr (M.drop k))) B 6 (.slice (some ⟨b, off, none⟩) (n + 1) c) (n + 1) (flatV vPr (M.take k ++ p :: M.drop k)) := by
  have hl1 := vPr_take hM hk
  have hl3 := vPr_drop (k := k) hM
  have hl2 : (vPr p).length = 6 := rfl
  have s1 : ∀ j, j < (vPr p).length → (W.cell? ⟨b, off + k * 6 + j, none⟩).isSome = true := fun j hj => by
    have := (hsp (k * 6 + j) (by omega)).1
    rwa [show off + (k * 6 + j) = off + k * 6 + j by omega] at this
  have s2 : ∀ j, j < (flatV vPr (M.drop k)).length → ((W.setCells b (off + k * 6) (vPr p)).cell? ⟨b, off + (k + 1) * 6 + j, none⟩).isSome = true := fun j hj => by
    have := hsp ((k + 1) * 6 + j) (by omega)
    rw [show off + ((k + 1) * 6 + j) = off + (k + 1) * 6 + j by omega] at this
    exact (isSome2 s1 this).1
  refine own_ins p hM hk hn hc hB (by rw [setCells_size, setCells_size]; exact hb) (fun j hj => isSome2 s2 (isSome2 s1 (hsp j hj))) (fun j u hj => ?_) (fun j u hj => ?_) (fun j u hj => ?_)
  · have hjl := (List.getElem?_eq_some_iff.1 hj).1
    rw [World.cell?_setCells_out b _ _ _ _ (fun _ _ => by show off + j < _ ∨ _; omega), World.cell?_setCells_out b _ _ _ _ (fun _ _ => by show off + j < _ ∨ _; omega)]
    exact h1 j u hj
  · have hjl := (List.getElem?_eq_some_iff.1 hj).1
    rw [World.cell?_setCells_out b _ _ _ _ (fun _ _ => by show off + k * 6 + j < _ ∨ _ ≤ off + k * 6 + j; omega), World.cell?_setCells_in b _ _ _ s1 j hjl, ← List.getElem?_eq_getElem hjl]
    exact hj
  · have hjl := (List.getElem?_eq_some_iff.1 hj).1
    rw [World.cell?_setCells_in b _ _ _ s2 j hjl, ← List.getElem?_eq_getElem hjl]
    exact hj

/-- 'append(s, x...)' in a plain region, something being appended: where the result lies. -/
theorem wpList_append_sliceM {α : Type} {P : Program} {w : World} {ops : Array Oper} {rest : List Oper} {o : Oper} {a : Act} {Q : Exit → Act → World → Prop} {f : α → List Value} (hw : Region.wanted o (yielded ops a.tmps) = true) (s x : Operand) (t : TypeId)
    (ho : o.op = .call { callee := .builtin .append, args := #[s, x], argTypes := #[t, t] })
    (B : Nat) (e : TypeId) (i : TypeInfo) (z : Value) (size bytes : Nat) (ht : P.underlying t = some (.slice e)) (hi : P.info? e = some i) (hz : i.zero = some z)
    (hsize : i.size = size) (hby : i.bytes = bytes) (hzs : z.cells.size = size) (hsz : 0 < size) (hf : ∀ a, (f a).length = size) (h1 : ∀ a, ∀ u ∈ f a, u.oneCell' = true)
    (v : Value) (n : Nat) (xs : List Value) (hs : a.eval s = v) (hown : OwnS w B size v n xs) (vx : Value) (l : List α) (hxe : a.eval x = vx) (hx : SliceOf f size w vx l) (h0 : 0 < l.length)
    (h63 : n + l.length ≤ maxLen) (hbytes : (n + l.length) * bytes ≤ 140737488355328) (hbase : B ≤ w.heap.size)
    (h : ∀ g off cap w', OwnS w' B size (.slice (some ⟨g, off, none⟩) (n + l.length) cap) (n + l.length) (xs ++ flatV f l) → w.grownBy w' v.ownBlock → Below B w w' → (v.ownBlock = some g ∨ w.heap.size ≤ g) → wpList P ops Q rest (a.put o.dst (.slice (some ⟨g, off, none⟩) (n + l.length) cap)) w') : wpList P ops Q (o :: rest) a w := by
  obtain ⟨b, off, c, rfl, e1, e2⟩ := hx.brings hf hsz h0
  obtain ⟨g, off', cap, w', hrun, h2, hg, hat⟩ := run_append_S (P := P) w t o.type B e i z size bytes ht hi hz hsize hby hzs hsz v n xs hown ⟨b, off, none⟩ l.length c (flatV f l) e1 e2 (flat_one h1 l) h0 h63 hbytes hbase
  refine wpList_step fun K hK => ?_
  rw [if_pos hw]
  unfold Oper.wp execOp
  simp only [ho, resolve, invoke, builtin, Sem.run_bind, Sem.run_pure, Result.andThen_ok, List.map_toArray, List.map_cons, List.map_nil, hs, hxe, hrun]
  exact hK _ _ (h g off' cap w' h2 hg (below_of_grown hown hg hbase) hat)
set_option maxHeartbeats 4000000 in
set_option maxRecDepth 100000 in
/-- At the end. -/
theorem mo_insert_end (B n H : Nat) (M : List (T3 × T3)) (p : T3 × T3) (hM : M.length = n) (hn : n ≤ 1000000) (u : Value) (w : World) (hown : OwnS w B 6 u n (flatV vPr M)) (hp : LitP w H p) (hB : B ≤ w.heap.size) :
    Calls Tryz.prog 72 #[u, .int .i64 n, .slice (some ⟨H, 0, none⟩) 1 1] w fun x w' => ∃ g o cap, x = .returned (.slice (some ⟨g, o, none⟩) (n + 1) cap) ∧ OwnS w' B 6 (.slice (some ⟨g, o, none⟩) (n + 1) cap) (n + 1) (flatV vPr (M.take n ++ p :: M.drop n)) ∧ w.grownBy w' u.ownBlock ∧ Below B w w' ∧ (u.ownBlock = some g ∨ w.heap.size ≤ g) := by
  obtain ⟨i0, hi0, hz0, hzs, hzb⟩ := info_parts Tryz.infoPt
  have hm : M.take n ++ p :: M.drop n = M ++ [p] := by rw [← hM, List.take_length, List.drop_length]
  rw [hm]
  have HX := hide hp.slice
  have HO := hide hown
  have HB := hide hB
  have hnI : (n : Int) ≤ 1000000 := by omega
  have hn0 : (0 : Int) ≤ (n : Int) := by omega
  have hN := hide hn
  have HA := hide (flatV_append vPr M [p])
  have hu : ∃ ao cp, u = .slice ao n cp ∧ (n : Int) ≤ (cp : Int) ∧ (ao = none → n = 0) ∧ (n = 0 → True) ∧ (∀ a, ao = some a → ∃ b o, a = ⟨b, o, none⟩ ∨ n = 0 ∧ cp = 0) := by
    rcases hown.2 with ⟨ao, h1, h2, h3⟩ | ⟨g, off, cap, hv, hb, hlt, hnc, hm, hc, hx⟩
    · subst h2
      exact ⟨ao, 0, h1, by omega, fun _ => rfl, fun _ => trivial, fun a _ => ⟨0, 0, .inr ⟨rfl, rfl⟩⟩⟩
    · exact ⟨_, cap, hv, by omega, (fun h => by cases h), fun _ => trivial, fun a ha => ⟨g, off, .inl (by injection ha with ha; exact ha.symm)⟩⟩
  obtain ⟨ao, cp, rfl, hcp, hn0', _, hao⟩ := hu
  clear hown hp hB hn
  go_enter Tryz.func72, Tryz.ntmps72
  cases ao with
  | none =>
    obtain rfl := hn0' rfl
    go_wp2_with (at_builtin; refine wpList_append_sliceM rfl _ _ 22 rfl B 41 i0 _ 6 80 Tryz.underlying22 hi0 hz0 hzs hzb rfl (by decide) vPr_len vPr_one _ 0 (flatV vPr M) rfl HO.out _ [p] rfl HX.out (show 0 < 1 by decide) (by show 0 + 1 ≤ maxLen; unfold maxLen; omega) (by show (0 + 1) * 80 ≤ _; omega) HB.out ?_)
    intro ao' off' cap' w' r1 r2 r3 r4
    go_wp2_with fail
    go_ret
    exact ⟨ao', off', cap', rfl, by rw [HA.out]; exact r1, r2, r3, r4⟩
  | some a =>
    obtain ⟨ab, aof, asp⟩ := a
    go_wp2_with (at_builtin; refine wpList_append_sliceM rfl _ _ 22 rfl B 41 i0 _ 6 80 Tryz.underlying22 hi0 hz0 hzs hzb rfl (by decide) vPr_len vPr_one _ n (flatV vPr M) rfl HO.out _ [p] rfl HX.out (show 0 < 1 by decide) (by have := hN.out; show n + 1 ≤ maxLen; unfold maxLen; omega) (by have := hN.out; show (n + 1) * 80 ≤ _; omega) HB.out ?_)
    all_goals
      intro ao' off' cap' w' r1 r2 r3 r4
      go_wp2_with fail
      go_ret
      exact ⟨ao', off', cap', rfl, by rw [HA.out]; exact r1, r2, r3, r4⟩

set_option maxHeartbeats 4000000 in
set_option maxRecDepth 100000 in
/-- There is room. -/
theorem mo_insert_shift (B n k H b off c : Nat) (M : List (T3 × T3)) (p : T3 × T3) (hM : M.length = n) (hk : k < n) (hroom : n + 1 ≤ c) (hc63 : c ≤ maxLen) (w : World) (hBb : B ≤ b) (hb : b < w.heap.size) (hHb : H ≠ b)
    (hsp : ∀ j, j < c * 6 → (w.cell? ⟨b, off + j, none⟩).isSome = true ∧ w.frozen? ⟨b, off + j, none⟩ = false)
    (hcs : ∀ j u, (flatV vPr M)[j]? = some u → w.cell? ⟨b, off + j, none⟩ = some u) (hp : LitP w H p) :
    Calls Tryz.prog 72 #[.slice (some ⟨b, off, none⟩) n c, .int .i64 k, .slice (some ⟨H, 0, none⟩) 1 1] w fun x w' => x = .returned (.slice (some ⟨b, off, none⟩) (n + 1) c) ∧ OwnS w' B 6 (.slice (some ⟨b, off, none⟩) (n + 1) c) (n + 1) (flatV vPr (M.take k ++ p :: M.drop k)) ∧ w.grownBy w' (some b) := by
  obtain ⟨i0, hi0, hz0, hzs, hzb⟩ := info_parts Tryz.infoPt
  have hsz : (Tryz.prog.info? 41).map (·.size) = some 6 := by rw [hi0]; simp [hzs]
  have hov : ∀ o lb cb, (callFunc 97 #[.slice (some ⟨H, 0, none⟩) 1 1, .slice (some ⟨b, o, none⟩) lb cb]).run Tryz.prog w = .ok (.value (.bool false)) w := fun o lb cb => by
    have := (hsp 0 (by omega)).1
    rw [Nat.add_zero] at this
    cases hq : w.cell? ⟨b, off, none⟩ with
    | none => simp [hq] at this
    | some v => exact mo_overlaps w H b o lb cb p v hHb hp hq
  have hdl := vPr_drop (k := k) hM
  have hmx : maxLen = 9223372036854775807 := rfl
  rw [hmx] at hc63
  have hkI : (k : Int) < (n : Int) := by omega
  have hkN : ¬ ((k : Int) = (n : Int)) := by omega
  have hkn : ¬ (k = n) := by omega
  have hnc : (n : Int) + 1 ≤ (c : Int) := by omega
  have hcI : (c : Int) ≤ 9223372036854775807 := by omega
  have hk0 : (0 : Int) ≤ (k : Int) := by omega
  have hw1 : IntKind.i64.wrap ((k : Int) + 1) = (k : Int) + 1 := by rw [IntKind.wrap_i64]; omega
  have hw2 : IntKind.i64.wrap ((n : Int) + 1) = (n : Int) + 1 := by rw [IntKind.wrap_i64]; omega
  have htn : ((k : Int) + 1).toNat = k + 1 := by omega
  have htn2 : ((n : Int) + 1).toNat = n + 1 := by omega
  have hb2 : ¬ (c = k + 1) := by omega
  have hb4 : ¬ (c = k) := by omega
  have hb3 : (k : Int) ≤ (n : Int) + 1 := by omega
  have hb5 : (0 : Int) ≤ (k : Int) + 1 := by omega
  have hb6 : (0 : Int) ≤ (n : Int) + 1 := by omega
  have hb7 : (k : Int) ≤ (n : Int) := by omega
  have hin : k ≤ n := by omega
  have hcp1 : ∀ ty dc sc, (Builtin.copy_ #[22, 22] ty #[.slice (some ⟨b, off + (k + 1) * 6, none⟩) (n - k) dc, .slice (some ⟨b, off + k * 6, none⟩) (n + 1 - k) sc]).run Tryz.prog w.drew = .ok (goInt (n - k : Nat)) (w.drew.setCells b (off + (k + 1) * 6) (flatV vPr (M.drop k))) := fun ty dc sc =>
    run_copy_k w.drew _ _ ty 41 6 b (off + (k + 1) * 6) (n - k) dc ⟨b, off + k * 6, none⟩ (n + 1 - k) sc (n - k) (flatV vPr (M.drop k)) Tryz.underlying22 hsz (by simp only [Nat.min_def]; split <;> omega) hdl
      (fun j v hj => by
        rw [addr_add]
        have e : (flatV vPr M)[k * 6 + j]? = some v := by
          have h1 : M = M.take k ++ M.drop k := (List.take_append_drop k M).symm
          rw [h1, flatV_append, List.getElem?_append_right (by rw [vPr_take hM (by omega)]; omega), vPr_take hM (by omega), show k * 6 + j - k * 6 = j by omega]
          exact hj
        rw [Nat.add_assoc]; exact hcs _ v e)
      (fun j hj => by rw [Nat.add_assoc]; exact (hsp _ (by omega)).1) (fun j hj => by rw [Nat.add_assoc]; exact (hsp _ (by omega)).2) (fun v hv => by
        unfold flatV at hv
        obtain ⟨x, _, hx⟩ := List.mem_flatMap.1 hv
        exact vPr_one x v hx)
  obtain ⟨W1, hW1⟩ : ∃ W1, W1 = w.drew.setCells b (off + (k + 1) * 6) (flatV vPr (M.drop k)) := ⟨_, rfl⟩
  have hs1 : ∀ j, j < (flatV vPr (M.drop k)).length → (w.drew.cell? ⟨b, off + (k + 1) * 6 + j, none⟩).isSome = true := fun j hj => by
    have := (hsp ((k + 1) * 6 + j) (by omega)).1
    rwa [show off + ((k + 1) * 6 + j) = off + (k + 1) * 6 + j by omega] at this
  have hcp2 : ∀ (W : World), (∀ x, W.cell? x = W1.cell? x) → (∀ x, W.frozen? x = W1.frozen? x) → ∀ ty dc, (Builtin.copy_ #[22, 22] ty #[.slice (some ⟨b, off + k * 6, none⟩) (n + 1 - k) dc, .slice (some ⟨H, 0, none⟩) 1 1]).run Tryz.prog W = .ok (goInt (1 : Nat)) (W.setCells b (off + k * 6) (vPr p)) := fun W hWc hWf ty dc =>
    run_copy_k W _ _ ty 41 6 b (off + k * 6) (n + 1 - k) dc ⟨H, 0, none⟩ 1 1 1 (vPr p) Tryz.underlying22 hsz (by simp only [Nat.min_def]; split <;> omega) rfl
      (fun j v hj => by
        rw [addr_add, Nat.zero_add, hWc, hW1, World.cell?_setCells_out b _ _ _ _ (fun h _ => absurd h hHb)]
        exact hp.cell j v hj)
      (fun j hj => by
        have hj : j < 6 := hj
        rw [hWc, hW1]
        have := hsp (k * 6 + j) (by omega)
        rw [show off + (k * 6 + j) = off + k * 6 + j by omega] at this
        exact (isSome2 (W := w.drew) hs1 this).1) (fun j hj => by
        have hj : j < 6 := hj
        rw [hWf, hW1, World.frozen?_setCells, Nat.add_assoc]; exact (hsp _ (by omega)).2) (vPr_one p)
  rw [← hW1] at hcp1
  have HFIN : Hid (OwnS ((w.drew.setCells b (off + (k + 1) * 6) (flatV vPr (M.drop k))).setCells b (off + k * 6) (vPr p)) B 6 (.slice (some ⟨b, off, none⟩) (n + 1) c) (n + 1) (flatV vPr (M.take k ++ p :: M.drop k)) ∧ w.grownBy ((w.drew.setCells b (off + (k + 1) * 6) (flatV vPr (M.drop k))).setCells b (off + k * 6) (vPr p)) (some b)) := by
    exact ⟨own_insA (W := w.drew) p hM (by omega) hroom hc63 hBb hb hsp (fun j u hj => hcs j u (by
      have h1 : M = M.take k ++ M.drop k := (List.take_append_drop k M).symm
      rw [h1, flatV_append]
      rw [List.getElem?_append_left (List.getElem?_eq_some_iff.1 hj).1]
      exact hj)), World.grownBy.trans (World.grownBy.trans (grown_drew w _) (grown_setCells _ b _ _)) (grown_setCells _ b _ _)⟩
  clear hs1 hsp hcs hp hdl hM hmx
  go_enter Tryz.func72, Tryz.ntmps72
  go_wp2_with (simp only [hov])
  have mixed : Tryz.prog.follows .mixedOrders = true := by kernel_rfl
  go_region_law_o (refine step_copy_runI rfl _ _ 22 22 rfl _ _ (by simp [Act.eval, Act.put]) (by simp [Act.eval, Act.put]) (hcp1 _ _ _) ?_)
  go_wp2_with fail
  go_ret
  exact ⟨rfl, HFIN.out.1, HFIN.out.2⟩
end Go.Proofs.YtblpnekjnaaeoaaGreatDoor
