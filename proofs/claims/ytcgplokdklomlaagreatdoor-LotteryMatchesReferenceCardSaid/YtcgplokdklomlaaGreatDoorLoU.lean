/- law 29: merits, in plain Lean. -/
import Derived.Test.YtcgplokdklomlaaGreatDoorLoT
set_option linter.unusedVariables false
set_option linter.unusedSimpArgs false
namespace Go.Proofs.YtcgplokdklomlaaGreatDoor
open Go.RowKit

theorem sN_scale {c : Nat} (hc : 0 < c) (ws : List Nat) (t i : Nat) : sN (ws.map (c * ·)) t i = sN ws t i := by
  unfold sN
  rw [dhN_scale hc, atP_map]
section
variable {sh ow me me' : List Nat}
theorem own_mem {p i k : Nat} : i ∈ ownN ow p k ↔ i < k ∧ owN ow i = p := by
  unfold ownN
  rw [List.mem_filter, List.mem_range, beq_iff_eq]
theorem valL_congr {p : Nat} (h : ∀ i, i < ow.length → owN ow i = p → me'.getD i 0 = me.getD i 0) : valL me' ow p = valL me ow p := by
  unfold valL
  refine List.map_congr_left fun i hi => ?_
  obtain ⟨h1, h2⟩ := own_mem.1 hi
  exact h i h1 h2
theorem valL_scale {p c : Nat} (h : ∀ i, i < ow.length → owN ow i = p → me'.getD i 0 = c * me.getD i 0) : valL me' ow p = (valL me ow p).map (c * ·) := by
  unfold valL
  rw [List.map_map]
  refine List.map_congr_left fun i hi => ?_
  obtain ⟨h1, h2⟩ := own_mem.1 hi
  exact h i h1 h2
theorem outN_congr {i : Nat} (h : valL me' ow (owN ow i) = valL me ow (owN ow i)) : outN sh ow me' i = outN sh ow me i := by unfold outN; rw [h]
theorem wN_valL {p j : Nat} (hj : j < (ownN ow p ow.length).length) : wN (valL me ow p) j = me.getD (ownN ow p ow.length)[j] 0 := by
  unfold wN
  rw [List.getD_eq_getElem?_getD, List.getElem?_eq_getElem (by rw [valL_len]; exact hj)]
  simp [valL]
theorem outN_up {k : Nat} (hk : k < ow.length) (hu : me.getD k 0 ≤ me'.getD k 0) (ho : ∀ i, i ≠ k → me'.getD i 0 = me.getD i 0) : outN sh ow me k ≤ outN sh ow me' k := by
  have hat := ownN_at (ow := ow) hk
  obtain ⟨hj, hje⟩ := List.getElem?_eq_some_iff.1 hat
  have hpos : 0 < (ownN ow (owN ow k) ow.length).length := by omega
  have s1 := sum_dh (ws := valL me ow (owN ow k)) (by rw [valL_len]; exact hpos) (totN sh ow (owN ow k))
  have s2 := sum_dh (ws := valL me' ow (owN ow k)) (by rw [valL_len]; exact hpos) (totN sh ow (owN ow k))
  have i1 := inv_dh (valL me ow (owN ow k)) (totN sh ow (owN ow k))
  have i2 := inv_dh (valL me' ow (owN ow k)) (totN sh ow (owN ow k))
  rw [valL_len] at s1 s2 i1 i2
  unfold outN
  refine inv_mono i1 i2 (by rw [s1, s2]; exact Nat.le_refl _) hj ?_ fun j hj' hne => ?_
  · rw [wN_valL hj, wN_valL hj, hje]; exact hu
  · rw [wN_valL hj', wN_valL hj', ho _ (fun e => ?_)]
    · exact Nat.le_refl _
    · have := (ownN_get hj').2.2
      rw [e] at this
      exact hne this.symm
end
theorem toN_getD (l : List Int) (i : Nat) : (toN l).getD i 0 = (l.getD i 0).toNat := by
  unfold toN
  rw [List.getD_eq_getElem?_getD, List.getD_eq_getElem?_getD, List.getElem?_map]
  cases l[i]? <;> rfl
theorem tkL_get {sh ow me : List Int} (h : vldL sh ow me = true) {i : Nat} (hi : i < ow.length) : (tkL sh ow me).getD i 0 = ((outN (toN sh) (toN ow) (toN me) i : Nat) : Int) := by
  unfold tkL
  rw [if_pos h, getD_toI, outL_getD (by rw [toN_len]; exact hi)]
theorem vld_parts {sh ow me : List Int} (h : vldL sh ow me = true) : me.length = ow.length ∧ (∀ x ∈ ow, 0 ≤ x ∧ x < (sh.length : Int)) ∧ ∀ x ∈ me, 1 ≤ x ∧ x ≤ 10000 := by
  unfold vldL at h
  simp only [Bool.and_eq_true, decide_eq_true_eq] at h
  obtain ⟨h1, h2, h3, h4, h5, h6⟩ := h
  refine ⟨h3.symm, fun x hx => ?_, inB_iff.1 h6⟩
  have := inB_iff.1 h5 x hx
  omega
theorem vld_me {sh ow me me' : List Int} (h : vldL sh ow me = true) (hl : me'.length = me.length) (hb : ∀ x ∈ me', 1 ≤ x ∧ x ≤ 10000) : vldL sh ow me' = true := by
  unfold vldL at h ⊢
  simp only [Bool.and_eq_true, decide_eq_true_eq] at h ⊢
  obtain ⟨h1, h2, h3, h4, h5, h6⟩ := h
  exact ⟨h1, h2, by rw [hl]; exact h3, h4, h5, inB_iff.2 hb⟩
theorem getD_mem' {l : List Int} {x : Int} (h : x ∈ l) : ∃ i, i < l.length ∧ l.getD i 0 = x := by
  obtain ⟨i, hi, e⟩ := List.mem_iff_getElem.1 h
  exact ⟨i, hi, by rw [getD_at hi]; exact e⟩
theorem owN_toN {ow : List Int} (h : ∀ x ∈ ow, 0 ≤ x) {i j : Nat} (hi : i < ow.length) (hj : j < ow.length) : owN (toN ow) i = owN (toN ow) j ↔ ow.getD i 0 = ow.getD j 0 := by
  unfold owN
  rw [toN_getD, toN_getD, getD_at hi, getD_at hj]
  have h1 := h _ (List.getElem_mem hi)
  have h2 := h _ (List.getElem_mem hj)
  omega
theorem mer_up {sh ow me me' : List Int} (h : vldL sh ow me = true) (hl : me'.length = me.length) {k : Nat} (hk : k < ow.length) (hu : me.getD k 0 ≤ me'.getD k 0) (hb : me'.getD k 0 ≤ 10000) (ho : ∀ i, i ≠ k → me'.getD i 0 = me.getD i 0) :
    vldL sh ow me' = true ∧ (tkL sh ow me).getD k 0 ≤ (tkL sh ow me').getD k 0 ∧ ∀ i, i < ow.length → ow.getD i 0 ≠ ow.getD k 0 → (tkL sh ow me').getD i 0 = (tkL sh ow me).getD i 0 := by
  obtain ⟨p1, p2, p3⟩ := vld_parts h
  have h' : vldL sh ow me' = true := vld_me h hl fun x hx => by
    obtain ⟨i, hi, rfl⟩ := getD_mem' hx
    by_cases e : i = k
    · subst e
      have := p3 _ (List.getElem_mem (show i < me.length by omega))
      rw [getD_at (show i < me.length by omega)] at hu
      omega
    · rw [ho i e, getD_at (show i < me.length by omega)]
      exact p3 _ (List.getElem_mem _)
  refine ⟨h', ?_, fun i hi hne => ?_⟩
  · rw [tkL_get h hk, tkL_get h' hk]
    refine Int.ofNat_le.2 (outN_up (by rw [toN_len]; exact hk) ?_ fun i hi => ?_)
    · rw [toN_getD, toN_getD]; omega
    · rw [toN_getD, toN_getD, ho i hi]
  · rw [tkL_get h hi, tkL_get h' hi, outN_congr]
    refine valL_congr fun j hj hjo => ?_
    rw [toN_getD, toN_getD, ho j]
    rintro rfl
    rw [toN_len] at hj
    exact hne ((owN_toN (fun x hx => (p2 x hx).1) hj hi).1 hjo).symm
set_option maxRecDepth 100000 in
theorem mer_scale {sh ow me me' : List Int} (h : vldL sh ow me = true) (hl : me'.length = me.length) {k : Nat} {c : Int} (hc : 1 ≤ c) (hk : k < ow.length) (hb : ∀ x ∈ me', x ≤ 10000)
    (ho : ∀ i, i < ow.length → me'.getD i 0 = if ow.getD i 0 = ow.getD k 0 then me.getD i 0 * c else me.getD i 0) : vldL sh ow me' = true ∧ tkL sh ow me' = tkL sh ow me := by
  obtain ⟨p1, p2, p3⟩ := vld_parts h
  have hpos : ∀ i, i < ow.length → 1 ≤ me.getD i 0 := fun i hi => by
    rw [getD_at (show i < me.length by omega)]
    exact (p3 _ (List.getElem_mem _)).1
  have h' : vldL sh ow me' = true := vld_me h hl fun x hx => by
    refine ⟨?_, hb x hx⟩
    obtain ⟨i, hi, rfl⟩ := getD_mem' hx
    have h1 := hpos i (by omega)
    rw [ho i (by omega)]
    split
    · have := Int.mul_le_mul h1 hc (by omega) (by omega)
      omega
    · exact h1
  refine ⟨h', ?_⟩
  unfold tkL
  rw [if_pos h, if_pos h']
  refine congrArg toI ?_
  unfold outL
  refine List.map_congr_left fun i hi => ?_
  have hi' : i < ow.length := by have := List.mem_range.1 hi; rw [toN_len] at this; exact this
  by_cases e : ow.getD i 0 = ow.getD k 0
  · have hv : valL (toN me') (toN ow) (owN (toN ow) i) = (valL (toN me) (toN ow) (owN (toN ow) i)).map (c.toNat * ·) := valL_scale fun j hj hjo => by
      rw [toN_len] at hj
      have h2 := (owN_toN (fun x hx => (p2 x hx).1) hj hi').1 hjo
      rw [toN_getD, toN_getD, ho j hj, if_pos (h2.trans e)]
      have h1 := hpos j hj
      obtain ⟨a, ha⟩ : ∃ a : Nat, me.getD j 0 = (a : Int) := ⟨(me.getD j 0).toNat, by omega⟩
      obtain ⟨b, hb'⟩ : ∃ a : Nat, c = (a : Int) := ⟨c.toNat, by omega⟩
      rw [ha, hb', Int.mul_comm, ← Int.natCast_mul]
      rfl
    unfold outN
    rw [hv, sN_scale (by omega)]
  · refine outN_congr (valL_congr fun j hj hjo => ?_)
    rw [toN_len] at hj
    have h2 := (owN_toN (fun x hx => (p2 x hx).1) hj hi').1 hjo
    rw [toN_getD, toN_getD, ho j hj, if_neg (fun n => e (h2.symm.trans n))]
theorem flat_set (l : List Int) (k : Nat) (x : Int) : (flatV vI l).set k (.int .i64 x) = flatV vI (l.set k x) := by
  have e : ∀ l : List Int, flatV vI l = l.map (Value.int .i64) := fun l => by
    induction l with
    | nil => rfl
    | cons a l ih => show vI a ++ flatV vI l = _; rw [ih]; rfl
  rw [e, e, List.map_set]
theorem OwnS.spot1 {w : World} {B : Nat} {v : Value} {n : Nat} {vs : List Value} (h : OwnS w B 1 v n vs) (hn : 0 < n) : ∃ g off cap, v = .slice (some ⟨g, off, none⟩) n cap ∧ B ≤ g ∧ n ≤ cap ∧ cap ≤ maxLen ∧ (∀ j u, vs[j]? = some u → w.cell? ⟨g, off + j, none⟩ = some u) ∧ ∀ j, j < n → w.frozen? ⟨g, off + j, none⟩ = false := by
  rcases h.2 with ⟨ao, _, h2, _⟩ | ⟨g, off, cap, hv, hb, hlt, hn', hm, hc, hx⟩
  · omega
  · exact ⟨g, off, cap, hv, hb, hn', hm, fun j u hu => hx j u hu, fun j hj => (hc j (by omega)).2⟩
theorem flat_at {l : List Int} {k : Nat} (hk : k < l.length) : (flatV vI l)[k]? = some (.int .i64 l[k]) := by
  have := flatV_get vI_len l k hk 0 (by omega)
  rw [Nat.mul_one, Nat.add_zero] at this
  exact this
end Go.Proofs.YtcgplokdklomlaaGreatDoor
