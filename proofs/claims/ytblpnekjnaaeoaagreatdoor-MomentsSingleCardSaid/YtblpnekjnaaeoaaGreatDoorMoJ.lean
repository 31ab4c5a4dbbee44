/- moments: Insert into a new row. -/
import Derived.Test.YtblpnekjnaaeoaaGreatDoorMoI
set_option linter.unusedVariables false
set_option linter.unusedSimpArgs false
namespace Go.Proofs.YtblpnekjnaaeoaaGreatDoor
open Go.RowKit

def zPt : Value := .agg #[.bool false, .string ⟨#[]⟩, .string ⟨#[]⟩, .bool false, .string ⟨#[]⟩, .string ⟨#[]⟩]
theorem zeros_size : ∀ n, (Builtin.zeroCells zPt.cells n).size = n * 6 := fun n => by
  unfold Builtin.zeroCells
  simp [zPt, Value.cells]
set_option maxHeartbeats 4000000 in
set_option maxRecDepth 100000 in
/-- There is no room. -/
theorem mo_insert_grow (B n k H b off c : Nat) (M : List (T3 × T3)) (p : T3 × T3) (hM : M.length = n) (hn : n ≤ 1000000) (hk : k < n) (hnc : n ≤ c) (hroom : c < n + 1) (w : World) (hB : B ≤ w.heap.size) (hb : b < w.heap.size) (hH : H < w.heap.size)
    (hcs : ∀ j u, (flatV vPr M)[j]? = some u → w.cell? ⟨b, off + j, none⟩ = some u) (hp : LitP w H p) :
    Calls Tryz.prog 72 #[.slice (some ⟨b, off, none⟩) n c, .int .i64 k, .slice (some ⟨H, 0, none⟩) 1 1] w fun x w' => ∃ g o cap, x = .returned (.slice (some ⟨g, o, none⟩) (n + 1) cap) ∧ OwnS w' B 6 (.slice (some ⟨g, o, none⟩) (n + 1) cap) (n + 1) (flatV vPr (M.take k ++ p :: M.drop k)) ∧ w.grownBy w' (some b) ∧ Below B w w' ∧ w.heap.size ≤ g := by
  obtain ⟨i0, hi0, hz0, hzs, hzb⟩ := info_parts Tryz.infoPt
  have hsz : (Tryz.prog.info? 41).map (·.size) = some 6 := by rw [hi0]; simp [hzs]
  have hdl := vPr_drop (k := k) hM
  have htl := vPr_take hM (show k ≤ n by omega)
  have hsplit : flatV vPr M = flatV vPr (M.take k) ++ flatV vPr (M.drop k) := by rw [← flatV_append, List.take_append_drop]
  have hkk : (n : Int) + 1 - (k : Int) = ((n + 1 - k : Nat) : Int) := by omega
  have hik : k + (n + 1 - k) = n + 1 := by omega
  have hold : (Builtin.firstCells i0.size k (.slice (some ⟨b, off, none⟩) k c)).run Tryz.prog w.drew = .ok (flatV vPr (M.take k)).toArray w.drew := by
    rw [hzs]
    exact run_firstCells_some w.drew 6 k ⟨b, off, none⟩ k c (flatV vPr (M.take k)) htl (fun j v hj => by
      rw [addr_add]
      refine hcs j v ?_
      rw [hsplit, List.getElem?_append_left (List.getElem?_eq_some_iff.1 hj).1]
      exact hj)
  have hrz : ∀ ty, (Builtin.append_ #[22, 3] ty #[.slice (some ⟨b, off, none⟩) k c, .int .i64 ((n : Int) + 1 - (k : Int))]).run Tryz.prog w =
      .ok (.slice (some ⟨w.heap.size, 0, none⟩) (n + 1) (grownCap w (n + 1) c 41)) (w.drew.alloc (.cells ((flatV vPr (M.take k)).toArray ++ Builtin.zeroCells zPt.cells (n + 1 - k) ++ Builtin.zeroCells zPt.cells (grownCap w (n + 1) c 41 - (n + 1))) 41)) := fun ty => by
    have h := Lib.run_append_grow_zeros w 22 3 ty 41 i0 _ .i64 .i64 Tryz.underlying22 Tryz.underlying3 hi0 hz0 (some ⟨b, off, none⟩) k c (flatV vPr (M.take k)) hold (n + 1 - k) (by omega) (by omega) (by omega) (by omega) (by rw [hzb]; omega) (by rw [hzb, hik]; exact growslice_fits hroom (by omega))
    rw [hik] at h
    rw [hkk]
    exact h
  obtain ⟨G, hG⟩ : ∃ G, G = grownCap w (n + 1) c 41 := ⟨_, rfl⟩
  obtain ⟨ROW, hROW⟩ : ∃ ROW : Array Value, ROW = (flatV vPr (M.take k)).toArray ++ Builtin.zeroCells zPt.cells (n + 1 - k) ++ Builtin.zeroCells zPt.cells (G - (n + 1)) := ⟨_, rfl⟩
  rw [← hG] at hrz
  rw [← hROW] at hrz
  have hGn : n + 1 ≤ G := by rw [hG]; exact grownCap_ge w _ _ _
  have hGm : G ≤ maxLen := by
    rw [hG]
    exact grownCap_le_maxLen w (n + 1) c 41 (by unfold maxLen; omega)
  have hRl : ROW.size = G * 6 := by
    rw [hROW, Array.size_append, Array.size_append, zeros_size, zeros_size, List.size_toArray, htl]
    omega
  obtain ⟨W1, hW1⟩ : ∃ W1, W1 = (w.alloc (.cells ROW 41)).drew := ⟨_, rfl⟩
  have hWd : ∀ x, W1.cell? x = (w.drew.alloc (.cells ROW 41)).cell? x := fun x => by rw [hW1]; rfl
  have hWf : ∀ x, W1.frozen? x = (w.drew.alloc (.cells ROW 41)).frozen? x := fun x => by rw [hW1]; rfl
  have hN : ∀ j, j < G * 6 → (W1.cell? ⟨w.heap.size, j, none⟩).isSome = true := fun j hj => by
    rw [hWd, World.cell?_alloc_at (w := w.drew) ROW _ w.heap.size j rfl, Array.getElem?_eq_getElem (by omega)]; rfl
  have hNf : ∀ j, W1.frozen? ⟨w.heap.size, j, none⟩ = false := fun j => by rw [hWf]; exact World.frozen?_alloc_at (w := w.drew) ROW _ w.heap.size j rfl
  have hO : ∀ e j v, e < w.heap.size → w.cell? ⟨e, j, none⟩ = some v → W1.cell? ⟨e, j, none⟩ = some v := fun e j v he h => by rw [hWd, World.cell?_alloc_past (w := w.drew) _ e j he]; exact h
  have hhead : ∀ j u, (flatV vPr (M.take k))[j]? = some u → W1.cell? ⟨w.heap.size, 0 + j, none⟩ = some u := fun j u hj => by
    rw [hWd, World.cell?_alloc_at (w := w.drew) ROW _ w.heap.size (0 + j) rfl, Nat.zero_add, hROW, Array.append_assoc, Array.getElem?_append_left (by rw [List.size_toArray]; exact (List.getElem?_eq_some_iff.1 hj).1)]
    simpa using hj
  have hcpA : ∀ (W : World), (∀ x, W.cell? x = W1.cell? x) → (∀ x, W.frozen? x = W1.frozen? x) → ∀ ty dc, (Builtin.copy_ #[22, 22] ty #[.slice (some ⟨w.heap.size, k * 6, none⟩) (n + 1 - k) dc, .slice (some ⟨H, 0, none⟩) 1 1]).run Tryz.prog W = .ok (goInt (1 : Nat)) (W.setCells w.heap.size (k * 6) (vPr p)) := fun W hWc hWf ty dc =>
    run_copy_k W _ _ ty 41 6 w.heap.size (k * 6) (n + 1 - k) dc ⟨H, 0, none⟩ 1 1 1 (vPr p) Tryz.underlying22 hsz (by simp only [Nat.min_def]; split <;> omega) rfl
      (fun j v hj => by rw [addr_add, Nat.zero_add, hWc]; exact hO _ _ _ hH (hp.cell j v hj))
      (fun j hj => by
        have hj : j < 6 := hj
        rw [hWc]; exact hN _ (by omega)) (fun j hj => by rw [hWf]; exact hNf _) (vPr_one p)
  have hGi : ¬ (G = k) := by omega
  have hGim : ¬ (G = k + 1) := by omega
  have hci : ¬ (c = k) := by omega
  have hbN : b ≠ w.heap.size := by omega
  have hs1 : ∀ j, j < (vPr p).length → (W1.cell? ⟨w.heap.size, k * 6 + j, none⟩).isSome = true := fun j hj => by
    have hj : j < 6 := hj
    exact hN _ (by omega)
  have hcpB : ∀ (W : World), (∀ x, W.cell? x = (W1.setCells w.heap.size (k * 6) (vPr p)).cell? x) → (∀ x, W.frozen? x = (W1.setCells w.heap.size (k * 6) (vPr p)).frozen? x) → ∀ ty dc sc, (Builtin.copy_ #[22, 22] ty #[.slice (some ⟨w.heap.size, (k + 1) * 6, none⟩) (n - k) dc, .slice (some ⟨b, off + k * 6, none⟩) (n - k) sc]).run Tryz.prog W = .ok (goInt (n - k : Nat)) (W.setCells w.heap.size ((k + 1) * 6) (flatV vPr (M.drop k))) := fun W hWc hWf ty dc sc =>
    run_copy_k W _ _ ty 41 6 w.heap.size ((k + 1) * 6) (n - k) dc ⟨b, off + k * 6, none⟩ (n - k) sc (n - k) (flatV vPr (M.drop k)) Tryz.underlying22 hsz (by simp only [Nat.min_def]; split <;> omega) hdl
      (fun j v hj => by
        rw [addr_add, hWc, World.cell?_setCells_out _ _ _ _ _ (fun h _ => absurd h hbN), Nat.add_assoc]
        refine hO _ _ _ hb (hcs _ v ?_)
        rw [hsplit, List.getElem?_append_right (by rw [htl]; omega), htl, show k * 6 + j - k * 6 = j by omega]
        exact hj)
      (fun j hj => by rw [hWc]; exact isSome_setCells _ _ _ _ hs1 _ (hN _ (by omega)))
      (fun j hj => by rw [hWf, World.frozen?_setCells]; exact hNf _) (fun v hv => by
        unfold flatV at hv
        obtain ⟨x, _, hx⟩ := List.mem_flatMap.1 hv
        exact vPr_one x v hx)
  have hgW : w.grownBy W1.drew (some b) := by
    rw [hW1]
    exact World.grownBy.trans (World.grownBy.trans (grown_belowM (bAlloc (Below.refl _ _) _) _) (grown_drew _ _)) (grown_drew _ _)
  have hbW : Below B w W1.drew := by
    rw [hW1]
    exact ((Below.refl B w).alloc hB _).drew.drew
  have hsz1 : W1.drew.heap.size = w.heap.size + 1 := by
    rw [hW1]; simp
  have HOWN := hide (own_insB (W := W1.drew) (off := 0) (b := w.heap.size) p hM (by omega) hGn hGm hB (by omega) (fun j hj => by rw [Nat.zero_add]; exact ⟨hN j hj, hNf j⟩) hhead)
  have HGW : Hid (w.grownBy ((W1.drew.setCells w.heap.size (k * 6) (vPr p)).setCells w.heap.size ((k + 1) * 6) (flatV vPr (M.drop k))) (some b) ∧ Below B w ((W1.drew.setCells w.heap.size (k * 6) (vPr p)).setCells w.heap.size ((k + 1) * 6) (flatV vPr (M.drop k)))) := by
    have hg2 := World.grownBy.trans (grown_setCells W1.drew w.heap.size (k * 6) (vPr p)) (grown_setCells _ w.heap.size ((k + 1) * 6) (flatV vPr (M.drop k)))
    refine ⟨⟨hg2.os.trans hgW.os, hg2.tape.trans hgW.tape, hg2.output.trans hgW.output, Nat.le_trans hgW.size hg2.size, fun j hj hne => (hg2.block j (by omega) (by intro h; injection h with h; omega)).trans (hgW.block j hj hne)⟩, hbW.grown hg2 (by omega) (fun j hj => by injection hj with hj; omega)⟩
  simp only [Nat.zero_add] at HOWN
  have hG63 : G ≤ 9223372036854775807 := hGm
  have hkI : (k : Int) < (n : Int) := by omega
  have hkN : ¬ ((k : Int) = (n : Int)) := by omega
  have hkn : ¬ (k = n) := by omega
  have hz3 : (c : Int) < (n : Int) + 1 := by omega
  have hncI : (n : Int) ≤ (c : Int) := by omega
  have hnI : (n : Int) ≤ 1000000 := by omega
  have hk0 : (0 : Int) ≤ (k : Int) := by omega
  have hw1 : IntKind.i64.wrap ((k : Int) + 1) = (k : Int) + 1 := by rw [IntKind.wrap_i64]; omega
  have hw2 : IntKind.i64.wrap ((n : Int) + 1) = (n : Int) + 1 := by rw [IntKind.wrap_i64]; omega
  have htn : ((k : Int) + 1).toNat = k + 1 := by omega
  have hb5 : (0 : Int) ≤ (k : Int) + 1 := by omega
  have hb7 : (k : Int) ≤ (n : Int) := by omega
  have hin : k ≤ n := by omega
  subst hW1
  have hF1' : ∀ (W : World) (vs : List Value) x, ((W.setCells w.heap.size (k * 6) vs).drew).cell? x = (W.setCells w.heap.size (k * 6) vs).cell? x := fun W vs x => rfl
  have hF2' : ∀ (W : World) (vs : List Value) x, ((W.setCells w.heap.size (k * 6) vs).drew).frozen? x = (W.setCells w.heap.size (k * 6) vs).frozen? x := fun W vs x => rfl
  have hF1 := hF1' (w.alloc (.cells ROW 41)).drew (vPr p)
  have hF2 := hF2' (w.alloc (.cells ROW 41)).drew (vPr p)
  have hcA := hcpA _ (fun _ => rfl) (fun _ => rfl)
  have hcB := hcpB _ hF1 hF2
  clear hF1' hF2' hWd hWf hcpA hcpB hF1 hF2
  clear hkk hik hold hROW hG hRl hN hNf hO hhead hs1 hgW hbW hsz1 hcs hp hdl htl hsplit hGm hM
  have mixed : Tryz.prog.follows .mixedOrders = true := by kernel_rfl
  go_enter Tryz.func72, Tryz.ntmps72
  go_upto_region 11 with (at_builtin; refine Lib.wpList_append_run _ rfl _ _ _ _ rfl _ _ rfl rfl _ _ (hrz _) ?_)
  go_wp2_with fail
  go_region_law_o (refine step_copy_runI rfl _ _ 22 22 rfl (.slice (some ⟨w.heap.size, (k + 1) * 6, none⟩) (n - k) (G - (k + 1))) (.slice (some ⟨b, off + k * 6, none⟩) (n - k) (c - k)) (by simp [Act.eval, Act.put]) (by simp [Act.eval, Act.put]) (hcB 3 (G - (k + 1)) (c - k)) ?_)
  go_wp2_with fail
  go_ret
  rw [drew_setCells]
  exact ⟨_, _, _, rfl, HOWN.out, HGW.out.1, HGW.out.2, Nat.le_refl _⟩
end Go.Proofs.YtblpnekjnaaeoaaGreatDoor
