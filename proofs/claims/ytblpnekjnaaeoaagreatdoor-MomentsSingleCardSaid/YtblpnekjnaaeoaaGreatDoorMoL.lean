/- moments: DeleteFunc. -/
import Derived.Test.YtblpnekjnaaeoaaGreatDoorMoK
set_option linter.unusedVariables false
set_option linter.unusedSimpArgs false
namespace Go.Proofs.YtblpnekjnaaeoaaGreatDoor
open Go.RowKit

theorem run_clear_k (w : World) (ty : TypeId) (b o n c : Nat) (hn : 0 < n) (hc : ∀ j, j < n * 6 → (w.cell? ⟨b, o + j, none⟩).isSome = true) (hf : ∀ j, j < n * 6 → w.frozen? ⟨b, o + j, none⟩ = false) :
    (Builtin.clear_ #[22] ty #[.slice (some ⟨b, o, none⟩) n c]).run Tryz.prog w = .ok (.tuple #[]) (w.setCells b o (Builtin.zeroCells zPt.cells n).toList) := by
  obtain ⟨i0, hi0, hz0, hzs, hzb⟩ := info_parts Tryz.infoPt
  have hl : (Builtin.zeroCells zPt.cells n).toList.length = n * 6 := by rw [Array.length_toList, zeros_size]
  have hst := run_storeCells_cells (P := Tryz.prog) b o (Builtin.zeroCells zPt.cells n).toList 0 w (by rw [hl]; simpa using hc) (by rw [hl]; simpa using hf) (by
    intro v hv
    have hv' := Array.mem_toList_iff.1 hv
    unfold Builtin.zeroCells at hv'
    obtain ⟨i, _, rfl⟩ := Array.mem_map.1 hv'
    have h6 : zPt.cells.size = 6 := rfl
    rw [h6]
    have hlt : i % 6 < 6 := Nat.mod_lt _ (by decide)
    generalize i % 6 = q at hlt
    match q, hlt with
    | 0, _ => rfl
    | 1, _ => rfl
    | 2, _ => rfl
    | 3, _ => rfl
    | 4, _ => rfl
    | 5, _ => rfl)
  simp only [Nat.add_zero] at hst
  obtain ⟨m, rfl⟩ : ∃ m, n = m + 1 := ⟨n - 1, by omega⟩
  have hz : ∀ w, (zeroValue 41).run Tryz.prog w = .ok zPt w := fun w => by simp [zeroValue, typeInfo, hi0, hz0, zPt]
  simp [Builtin.clear_, run_underlying Tryz.underlying22, hz, hst]
def F6 (w : World) (b o : Nat) : Prop := w.frozen? ⟨b, o, none⟩ = false ∧ w.frozen? ⟨b, o + 1, none⟩ = false ∧ w.frozen? ⟨b, o + 2, none⟩ = false ∧ w.frozen? ⟨b, o + 3, none⟩ = false ∧ w.frozen? ⟨b, o + 4, none⟩ = false ∧ w.frozen? ⟨b, o + 5, none⟩ = false
theorem F6.below {w W : World} {b o : Nat} (h : F6 w b o) (hlt : b < w.heap.size) (hb : Below w.heap.size w W) : F6 W b o :=
  ⟨(hb.frozen (p := ⟨b, o, none⟩) hlt).trans h.1, (hb.frozen (p := ⟨b, o + 1, none⟩) hlt).trans h.2.1, (hb.frozen (p := ⟨b, o + 2, none⟩) hlt).trans h.2.2.1, (hb.frozen (p := ⟨b, o + 3, none⟩) hlt).trans h.2.2.2.1, (hb.frozen (p := ⟨b, o + 4, none⟩) hlt).trans h.2.2.2.2.1, (hb.frozen (p := ⟨b, o + 5, none⟩) hlt).trans h.2.2.2.2.2⟩
theorem OwnS.parts {W : World} {B g off n cap : Nat} {xs : List Value} (h : OwnS W B 6 (.slice (some ⟨g, off, none⟩) n cap) n xs) (h0 : 0 < n) : B ≤ g ∧ g < W.heap.size ∧ n ≤ cap ∧ cap ≤ maxLen ∧
    (∀ j, j < cap * 6 → (W.cell? ⟨g, off + j, none⟩).isSome = true ∧ W.frozen? ⟨g, off + j, none⟩ = false) ∧ ∀ j u, xs[j]? = some u → W.cell? ⟨g, off + j, none⟩ = some u := by
  rcases h.2 with ⟨ao, h1, h2, h3⟩ | ⟨g', off', cap', hv, hb, hlt, hn, hm, hc, hx⟩
  · omega
  · injection hv with e1 _ e2
    injection e1 with e1
    injection e1 with e1 e3 _
    subst e1 e2 e3
    exact ⟨hb, hlt, hn, hm, hc, hx⟩
/-- An element of an owned slice, ready to be read and written. -/
theorem OwnS.pt {W : World} {B g off n cap : Nat} {M : List (T3 × T3)} (h : OwnS W B 6 (.slice (some ⟨g, off, none⟩) n cap) n (flatV vPr M)) (hM : M.length = n) {i : Nat} (hi : i < n) :
    B ≤ g ∧ g < W.heap.size ∧ P6 W g (off + i * 6) (M[i]'(by omega)) ∧ F6 W g (off + i * 6) := by
  obtain ⟨hb, hlt, hn, hm, hc, hx⟩ := h.parts (by omega)
  have hr : ∀ j u, (vPr (M[i]'(by omega)))[j]? = some u → W.cell? ⟨g, off + i * 6 + j, none⟩ = some u := fun j u hj => by
    have hj6 : j < 6 := (List.getElem?_eq_some_iff.1 hj).1
    have := hx (i * 6 + j) u (by rw [flatV_get vPr_len M i (by omega) j hj6]; exact hj)
    rwa [← Nat.add_assoc] at this
  have hf : ∀ j, j < 6 → W.frozen? ⟨g, off + i * 6 + j, none⟩ = false := fun j hj => by
    have := (hc (i * 6 + j) (by omega)).2
    rwa [← Nat.add_assoc] at this
  exact ⟨hb, hlt, ⟨hr 0 _ rfl, hr 1 _ rfl, hr 2 _ rfl, hr 3 _ rfl, hr 4 _ rfl, hr 5 _ rfl⟩, ⟨hf 0 (by omega), hf 1 (by omega), hf 2 (by omega), hf 3 (by omega), hf 4 (by omega), hf 5 (by omega)⟩⟩
/-- An element is written. -/
theorem OwnS.setPt {W : World} {B g off n cap : Nat} {M : List (T3 × T3)} (h : OwnS W B 6 (.slice (some ⟨g, off, none⟩) n cap) n (flatV vPr M)) (hM : M.length = n) {i : Nat} (hi : i < n) (p : T3 × T3) :
    OwnS (W.setCells g (off + i * 6) (vPr p)) B 6 (.slice (some ⟨g, off, none⟩) n cap) n (flatV vPr (M.set i p)) := by
  obtain ⟨hb, hlt, hn, hm, hc, hx⟩ := h.parts (by omega)
  have hs : ∀ j, j < (vPr p).length → (W.cell? ⟨g, off + i * 6 + j, none⟩).isSome = true := fun j hj => by
    have hj6 : j < 6 := hj
    have := (hc (i * 6 + j) (by omega)).1
    rwa [← Nat.add_assoc] at this
  refine ⟨by rw [flatV_length vPr_len, List.length_set, hM], .inr ⟨g, off, cap, rfl, hb, by rw [setCells_size]; exact hlt, hn, hm, fun j hj => isSome2 hs (hc j hj), fun j u hj => ?_⟩⟩
  have hjl := (List.getElem?_eq_some_iff.1 hj).1
  rw [flatV_length vPr_len, List.length_set, hM] at hjl
  have hq : j / 6 < n := by omega
  have hdm : j = j / 6 * 6 + j % 6 := by omega
  have hm6 : j % 6 < 6 := Nat.mod_lt _ (by decide)
  by_cases e : j / 6 = i
  · subst e
    have h1 := flatV_get vPr_len (M.set (j / 6) p) (j / 6) (by rw [List.length_set]; omega) (j % 6) hm6
    rw [← hdm, hj, List.getElem_set_self] at h1
    have h2 := World.cell?_setCells_in g _ _ _ hs (j % 6) (show j % 6 < (vPr p).length from hm6)
    rw [show off + j / 6 * 6 + j % 6 = off + j by omega] at h2
    rw [h2, ← List.getElem?_eq_getElem, ← h1]
  · have h1 := flatV_get vPr_len (M.set i p) (j / 6) (by rw [List.length_set]; omega) (j % 6) hm6
    have h3 := flatV_get vPr_len M (j / 6) (by omega) (j % 6) hm6
    rw [← hdm] at h1 h3
    rw [List.getElem_set_ne (fun h => e h.symm)] at h1
    rw [World.cell?_setCells_out g _ _ _ _ (fun _ _ => by show off + j < _ ∨ off + i * 6 + 6 ≤ off + j; omega)]
    exact hx j u (by rw [h3, ← h1]; exact hj)
/-- The first elements stay while those behind are cleared. -/
theorem OwnS.cut {W : World} {B g off n cap i : Nat} {M : List (T3 × T3)} (h : OwnS W B 6 (.slice (some ⟨g, off, none⟩) n cap) n (flatV vPr M)) (hM : M.length = n) (hi : i < n) (zs : List Value) (hz : zs.length = (n - i) * 6) :
    OwnS (W.setCells g (off + i * 6) zs) B 6 (.slice (some ⟨g, off, none⟩) i cap) i (flatV vPr (M.take i)) := by
  obtain ⟨hb, hlt, hn, hm, hc, hx⟩ := h.parts (by omega)
  have hs : ∀ j, j < zs.length → (W.cell? ⟨g, off + i * 6 + j, none⟩).isSome = true := fun j hj => by
    have := (hc (i * 6 + j) (by omega)).1
    rwa [← Nat.add_assoc] at this
  have hl := vPr_take hM (show i ≤ n by omega)
  refine ⟨hl, .inr ⟨g, off, cap, rfl, hb, by rw [setCells_size]; exact hlt, by omega, hm, fun j hj => isSome2 hs (hc j hj), fun j u hj => ?_⟩⟩
  have hjl := (List.getElem?_eq_some_iff.1 hj).1
  rw [World.cell?_setCells_out g _ _ _ _ (fun _ _ => by show off + j < _ ∨ _; omega)]
  refine hx j u ?_
  have e : flatV vPr M = flatV vPr (M.take i) ++ flatV vPr (M.drop i) := by rw [← flatV_append, List.take_append_drop]
  rw [e, List.getElem?_append_left hjl]
  exact hj
theorem filt_idx {M : List (T3 × T3)} {k : Nat} (h : ∀ j (hj : j < M.length), j < k → isZ M[j] = false) (hk : k ≤ M.length) : (M.take k).filter (fun x => !isZ x) = M.take k := by
  refine List.filter_eq_self.2 fun x hx => ?_
  obtain ⟨j, hj, rfl⟩ := List.getElem_of_mem hx
  rw [List.length_take] at hj
  rw [List.getElem_take, h j (by omega) (by omega)]; rfl

set_option maxHeartbeats 8000000 in
set_option maxRecDepth 100000 in
theorem mo_delete (B n : Nat) (M : List (T3 × T3)) (hM : M.length = n) (hn : n ≤ 1000000) (u : Value) (w0 w : World) (hown : OwnS w B 6 u n (flatV vPr M)) (hL : LawM w0) (hB0 : Below w0.heap.size w0 w) (hBB : w0.heap.size ≤ B) (hB : B ≤ w.heap.size) :
    Calls Tryz.prog 73 #[u, .func (.func 74) #[] #[]] w fun x w' => ∃ ao m cap, x = .returned (.slice ao m cap) ∧ (M.filter fun x => !isZ x).length = m ∧ OwnS w' B 6 (.slice ao m cap) m (flatV vPr (M.filter fun x => !isZ x)) ∧ w.grownBy w' u.ownBlock ∧ Below B w w' := by
  have HO := hide hown
  have HS := hide (OwnS.slice vPr_len (by rw [hM]; exact hown))
  have HI := hide (mo_index M (by omega) u w HS.out (hL.below hB0))
  have HLW : Hid (∀ W, Below B w W → LawM W) := fun W hW => hL.below (hB0.trans (hW.mono hBB))
  have HBB := hide hB
  have HM := hide hM
  clear hown hL hB0 hBB hM hB
  have hnI : (n : Int) ≤ 1000000 := by omega
  go_enter Tryz.func73, Tryz.ntmps73
  go_wp2_with fail
  refine HI.out.mono ?_
  rintro e w1 ⟨k, hz, rfl, hb1⟩
  have HB1 := hide hb1
  by_cases hk : k < M.length
  · have hkn : k < n := by rw [← HM.out]; exact hk
    have hkI : (k : Int) < (n : Int) := by omega
    have hk0 : (0 : Int) ≤ (k : Int) := by omega
    have hkm : ¬ ((k : Int) = -1) := by omega
    have HZ := hide hz
    clear hz hb1 HI
    rw [if_pos hk]
    clear hk
    obtain ⟨g, off, cap, rfl⟩ : ∃ g off cap, u = .slice (some ⟨g, off, none⟩) n cap := by
      rcases HO.out.2 with ⟨ao, h1, h2, h3⟩ | ⟨g, off, cap, hv, _⟩
      · omega
      · exact ⟨g, off, cap, hv⟩
    have HO1 := hide (HO.out.below HB1.out)
    obtain ⟨hBg, hgl, hncap, hcapm, hcx, hxx⟩ := HO1.out.parts (by omega)
    have HBg := hide hBg
    have hcI : (n : Int) ≤ (cap : Int) := by omega
    have hcM : (cap : Int) ≤ 9223372036854775807 := by unfold maxLen at hcapm; omega
    have hw1 : IntKind.i64.wrap ((k : Int) + 1) = (k : Int) + 1 := IntWalk.i64_in _ (by omega)
    have HBW := hide (HB1.out.mono HBB.out)
    have HGW : Hid (w.grownBy w1 (some g)) := grown_belowM HB1.out _
    clear HO HS hBg hgl hcapm HB1 hcx hxx
    go_wp2_with fail
    go_loopw [5, 6] (fun i5 j6 wx => ∃ (i j : Nat) (M' : List (T3 × T3)), i < j ∧ j ≤ n ∧ i5 = .int .i64 (i : Int) ∧ j6 = .int .i64 (j : Int) ∧ M'.length = n ∧ M'.take i = (M.take j).filter (fun x => !isZ x) ∧ M'.drop j = M.drop j ∧ OwnS wx B 6 (.slice (some ⟨g, off, none⟩) n cap) n (flatV vPr M') ∧ w.grownBy wx (some g) ∧ Below B w wx) (fun _ j6 _ => n - (intOf j6).toNat)
    case atStart =>
      refine ⟨k, k + 1, M, by omega, by omega, rfl, by go_num, HM.out, ?_, rfl, HO1.out, HGW.out, HBW.out⟩
      have h1 := filt_idx HZ.out.2.1 HZ.out.1
      have hkl : k < M.length := by rw [HM.out]; exact hkn
      rw [List.take_succ_eq_append_getElem hkl, List.filter_append, h1]
      simp [HZ.out.2.2 hkl]
    case round =>
      obtain ⟨i, j, M', hij, hjn, rfl, rfl, hm, ht, hd, ho, hg, hb⟩ := hrel
      have HMM := hide hm
      have HT := hide ht
      have HD := hide hd
      have HO := hide ho
      have HG := hide hg
      have HB := hide hb
      clear hm ht hd ho hg hb
      have hi0 : (0 : Int) ≤ (i : Int) := by omega
      have hj0 : (0 : Int) ≤ (j : Int) := by omega
      have hinI : (i : Int) < (n : Int) := by omega
      have hiw : IntKind.i64.wrap ((i : Int) + 1) = (i : Int) + 1 := IntWalk.i64_in _ (by omega)
      by_cases hlt : j < n
      · have hltI : (j : Int) < (n : Int) := by omega
        have hjw : IntKind.i64.wrap ((j : Int) + 1) = (j : Int) + 1 := IntWalk.i64_in _ (by omega)
        obtain ⟨_, hgl, hpj, _⟩ := HO.out.pt HMM.out hlt
        obtain ⟨_, _, hpi, hfi⟩ := HO.out.pt HMM.out (show i < n by omega)
        have hjm : j < M.length := by rw [HM.out]; exact hlt
        have hjm' : j < M'.length := by rw [HMM.out]; exact hlt
        have HE : Hid (M'[j] = M[j]) := by
          have h1 : (M'.drop j)[0]? = (M.drop j)[0]? := by rw [HD.out]
          rw [List.getElem?_drop, List.getElem?_drop, Nat.add_zero, List.getElem?_eq_getElem hjm', List.getElem?_eq_getElem hjm] at h1
          exact Option.some.inj h1
        have HF : Hid ((M.take (j + 1)).filter (fun x => !isZ x) = (M.take j).filter (fun x => !isZ x) ++ if isZ M[j] = true then [] else [M[j]]) := by
          show _ = _
          rw [List.take_succ_eq_append_getElem hjm, List.filter_append]
          cases h : isZ M[j] <;> simp [h]
        have HDD : Hid (M'.drop (j + 1) = M.drop (j + 1)) := by
          show _ = _
          have h1 := congrArg (List.drop 1) HD.out
          rwa [List.drop_drop, List.drop_drop] at h1
        rw [HE.out] at hpj
        obtain ⟨q, hq⟩ : ∃ q, isZ M[j] = q := ⟨_, rfl⟩
        obtain ⟨p, hpe⟩ : ∃ p, M[j] = p := ⟨_, rfl⟩
        rw [hq] at HF
        rw [hpe] at hpj HF HE hq
        have HQ := hide hq
        obtain ⟨d0, d1, d2, d3, d4, d5⟩ := (id hpj : P6 wr g (off + j * 6) p)
        have HPI := hide hpi
        have HFI := hide hfi
        have HGL := hide hgl
        clear HE hpe hq hpj hpi hfi hjm hjm' hgl
        go_upto_region 8 with fail
        have HBA := hide (bAlloc (Below.refl wr.heap.size wr) (.cells #[.bool p.1.1, .string p.1.2.1, .string p.1.2.2, .bool p.2.1, .string p.2.2.1, .string p.2.2.2] 41))
        have HPB := hide (P6.new wr p 41)
        obtain ⟨w2, hw2⟩ : ∃ W, wr.alloc (.cells #[.bool p.1.1, .string p.1.2.1, .string p.1.2.2, .bool p.2.1, .string p.2.2.1, .string p.2.2.2] 41) = W := ⟨_, rfl⟩
        obtain ⟨A, hA⟩ : ∃ A, wr.heap.size = A := ⟨_, rfl⟩
        rw [hw2] at HBA HPB
        rw [hA] at HPB
        rw [hw2, hA]
        have HBW2 := hide (HB.out.trans (HBA.out.mono (Nat.le_trans HBB.out HG.out.size)))
        have HX := hide (mo_isz p w2 (HLW.out _ HBW2.out))
        rw [HQ.out] at HX
        have HAg : Hid (g ≠ A) := by
          have := HGL.out
          show g ≠ A
          omega
        obtain ⟨c0, c1, c2, c3, c4, c5⟩ := (id HPB.out : P6 w2 A 0 p)
        clear hw2 hA d0 d1 d2 d3 d4 d5
        go_upto_region 9 with fail
        all_goals (refine HX.out.mono ?_)
        all_goals
          rintro e w5 ⟨rfl, hb5⟩
          have HB5 := hide hb5
          have HBX := hide (bStepM HBA.out hb5)
          have HP5 := hide (HPB.out.keep hb5)
          have HI5 := hide (HPI.out.keep HBX.out)
          have HF5 := hide (HFI.out.below HGL.out HBX.out)
          have HO5 := hide (HO.out.below HBX.out)
          have HG5 := hide (grown_then HG.out (HBX.out.mono HG.out.size))
          have HBW5 := hide (HBW2.out.trans (hb5.mono (Nat.le_trans HBB.out HBW2.out.size)))
          obtain ⟨c0, c1, c2, c3, c4, c5⟩ := (id HP5.out : P6 w5 A 0 p)
          obtain ⟨r0, r1, r2, r3, r4, r5⟩ := (id HI5.out : P6 w5 g (off + i * 6) _)
          obtain ⟨f0, f1, f2, f3, f4, f5⟩ := (id HF5.out : F6 w5 g (off + i * 6))
          have hAg := HAg.out
          have hgA : ¬ (A = g) := fun h => hAg h.symm
          clear hb5
          cases q with
          | false =>
            have HO6 : Hid (OwnS ((((((w5.setCell ⟨g, off + i * 6, none⟩ (.bool p.1.1)).setCell ⟨g, off + i * 6 + 1, none⟩ (.string p.1.2.1)).setCell ⟨g, off + i * 6 + 2, none⟩ (.string p.1.2.2)).setCell ⟨g, off + i * 6 + 3, none⟩ (.bool p.2.1)).setCell ⟨g, off + i * 6 + 4, none⟩ (.string p.2.2.1)).setCell ⟨g, off + i * 6 + 5, none⟩ (.string p.2.2.2)) B 6 (.slice (some ⟨g, off, none⟩) n cap) n (flatV vPr (M'.set i p))) := HO5.out.setPt HMM.out (show i < n by omega) p
            have HG6 : Hid (w.grownBy ((((((w5.setCell ⟨g, off + i * 6, none⟩ (.bool p.1.1)).setCell ⟨g, off + i * 6 + 1, none⟩ (.string p.1.2.1)).setCell ⟨g, off + i * 6 + 2, none⟩ (.string p.1.2.2)).setCell ⟨g, off + i * 6 + 3, none⟩ (.bool p.2.1)).setCell ⟨g, off + i * 6 + 4, none⟩ (.string p.2.2.1)).setCell ⟨g, off + i * 6 + 5, none⟩ (.string p.2.2.2)) (some g)) := HG5.out.trans (grown_setCells w5 g (off + i * 6) (vPr p))
            have HB6 : Hid (Below B w ((((((w5.setCell ⟨g, off + i * 6, none⟩ (.bool p.1.1)).setCell ⟨g, off + i * 6 + 1, none⟩ (.string p.1.2.1)).setCell ⟨g, off + i * 6 + 2, none⟩ (.string p.1.2.2)).setCell ⟨g, off + i * 6 + 3, none⟩ (.bool p.2.1)).setCell ⟨g, off + i * 6 + 4, none⟩ (.string p.2.2.1)).setCell ⟨g, off + i * 6 + 5, none⟩ (.string p.2.2.2))) := HBW5.out.grown (grown_setCells w5 g (off + i * 6) (vPr p)) (Nat.le_trans HBB.out HBW5.out.size) (fun k hk => by injection hk with hk; rw [← hk]; exact HBg.out)
            have HM6 : Hid ((M'.set i p).length = n) := (by rw [List.length_set]; exact HMM.out : (M'.set i p).length = n)
            have HT6 : Hid ((M'.set i p).take (i + 1) = (M.take (j + 1)).filter (fun x => !isZ x)) := by
              show _ = _
              rw [HF.out, ← HT.out, List.take_succ_eq_append_getElem (by rw [HM6.out]; omega), List.getElem_set_self, List.take_set_of_le (by omega)]
              simp
            have HD6 : Hid ((M'.set i p).drop (j + 1) = M.drop (j + 1)) := by
              show _ = _
              rw [List.drop_set_of_lt (by omega)]
              exact HDD.out
            go_wp2_with fail
            refine ⟨?_, ?measure⟩
            · first
                | exact ⟨i + 1, j + 1, M'.set i p, by omega, by omega, by go_num, by go_num, HM6.out, HT6.out, HD6.out, HO6.out, HG6.out, HB6.out⟩
                | ((repeat apply Exists.intro)
                   refine ⟨?rel, rfl⟩
                   case rel => exact ⟨i + 1, j + 1, M'.set i p, by omega, by omega, by go_num, by go_num, HM6.out, HT6.out, HD6.out, HO6.out, HG6.out, HB6.out⟩)
            case measure => (simp [intOf]; omega)
          | true =>
            have HT6 : Hid (M'.take i = (M.take (j + 1)).filter (fun x => !isZ x)) := by
              show _ = _
              rw [HF.out, HT.out]
              simp
            go_wp2_with fail
            refine ⟨?_, ?measure⟩
            · first
                | exact ⟨i, j + 1, M', by omega, by omega, rfl, by go_num, HMM.out, HT6.out, HDD.out, HO5.out, HG5.out, HBW5.out⟩
                | ((repeat apply Exists.intro)
                   refine ⟨?rel, rfl⟩
                   case rel => exact ⟨i, j + 1, M', by omega, by omega, rfl, by go_num, HMM.out, HT6.out, HDD.out, HO5.out, HG5.out, HBW5.out⟩)
            case measure => (simp [intOf]; omega)
      · have hltI : ¬ ((j : Int) < (n : Int)) := by omega
        have hjn' : j = n := by omega
        have HTT : Hid (M'.take i = M.filter (fun x => !isZ x)) := by
          show _ = _
          rw [HT.out, hjn', List.take_of_length_le (by rw [HM.out]; exact Nat.le_refl _)]
        have HLEN : Hid ((M.filter (fun x => !isZ x)).length = i) := by
          show _ = _
          rw [← HTT.out, List.length_take, HMM.out]
          omega
        obtain ⟨_, _, _, _, hcx, _⟩ := HO.out.parts (by omega)
        have hcl : ∀ ty c, (Builtin.clear_ #[22] ty #[.slice (some ⟨g, off + i * 6, none⟩) (n - i) c]).run Tryz.prog wr = .ok (.tuple #[]) (wr.setCells g (off + i * 6) (Builtin.zeroCells zPt.cells (n - i)).toList) := fun ty c =>
          run_clear_k wr ty g (off + i * 6) (n - i) c (by omega) (fun q hq => by rw [Nat.add_assoc]; exact (hcx _ (by omega)).1) (fun q hq => by rw [Nat.add_assoc]; exact (hcx _ (by omega)).2)
        have HO6 : Hid (OwnS (wr.setCells g (off + i * 6) (Builtin.zeroCells zPt.cells (n - i)).toList) B 6 (.slice (some ⟨g, off, none⟩) i cap) i (flatV vPr (M'.take i))) := HO.out.cut HMM.out (by omega) _ (by rw [Array.length_toList, zeros_size])
        rw [HTT.out] at HO6
        have HG6 := hide (HG.out.trans (grown_setCells wr g (off + i * 6) (Builtin.zeroCells zPt.cells (n - i)).toList))
        have HB6 := hide (HB.out.grown (grown_setCells wr g (off + i * 6) (Builtin.zeroCells zPt.cells (n - i)).toList) (Nat.le_trans HBB.out HB.out.size) (fun k hk => by injection hk with hk; rw [← hk]; exact HBg.out))
        generalize (Builtin.zeroCells zPt.cells (n - i)).toList = zs at hcl HO6 HG6 HB6
        have hin : i ≤ n := by omega
        have hic : ¬ (cap = i) := by omega
        have hinI' : (i : Int) ≤ (n : Int) := by omega
        have hicI : (i : Int) ≤ (cap : Int) := by omega
        clear hcx hjn'
        go_wp2_with fail
        go_ret
        exact ⟨_, i, cap, rfl, HLEN.out, HO6.out, HG6.out, HB6.out⟩
  · have hkm : k = M.length := by have := hz.1; omega
    have HF : Hid (M.filter (fun x => !isZ x) = M) := by
      have h1 := filt_idx hz.2.1 hz.1
      rw [hkm, List.take_length] at h1
      exact h1
    have HO1 := hide (HO.out.below HB1.out)
    rw [if_neg hk]
    have HR : Hid (∃ ao cap, u = .slice ao n cap) := by
      rcases HO.out.2 with ⟨ao, h1, h2, h3⟩ | ⟨g, off, cap, hv, _⟩
      · exact ⟨ao, 0, by rw [h2]; exact h1⟩
      · exact ⟨_, cap, hv⟩
    have HGW : Hid (w.grownBy w1 u.ownBlock) := grown_belowM HB1.out _
    have HBW := hide (HB1.out.mono HBB.out)
    clear hz hb1 hk hkm HI
    obtain ⟨ao, cap, rfl⟩ := HR.out
    go_wp2_with fail
    go_ret
    exact ⟨ao, n, cap, rfl, by rw [HF.out]; exact HM.out, by rw [HF.out]; exact HO1.out, HGW.out, HBW.out⟩
end Go.Proofs.YtblpnekjnaaeoaaGreatDoor
