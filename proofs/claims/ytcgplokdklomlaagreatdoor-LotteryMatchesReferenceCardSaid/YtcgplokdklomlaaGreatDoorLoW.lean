/- law 29: splits, in plain Lean. -/
import Derived.Test.YtcgplokdklomlaaGreatDoorLoU
set_option linter.unusedVariables false
set_option linter.unusedSimpArgs false
namespace Go.Proofs.YtcgplokdklomlaaGreatDoor
open Go.RowKit

def sft (k i : Nat) : Nat := if k < i then i + 1 else i
section
variable {sh ow me ow' me' : List Nat} {k : Nat}
theorem own_A (h2 : ∀ j, j ≤ k → owN ow' j = owN ow j) {p : Nat} : ∀ i, i ≤ k + 1 → ownN ow' p i = (ownN ow p i).map (sft k)
  | 0, _ => rfl
  | i + 1, hi => by
    rw [ownN_succ, ownN_succ, h2 i (by omega), own_A h2 i (by omega)]
    split
    · rw [List.map_append]
      have : sft k i = i := by unfold sft; rw [if_neg (by omega)]
      simp [this]
    · rfl
theorem own_B (h2 : ∀ j, j ≤ k → owN ow' j = owN ow j) (h3 : ∀ j, k ≤ j → owN ow' (j + 1) = owN ow j) {p : Nat} (hp : owN ow k ≠ p) : ∀ d, ownN ow' p (k + 1 + d + 1) = (ownN ow p (k + 1 + d)).map (sft k)
  | 0 => by
    rw [Nat.add_zero, ownN_succ, h3 k (Nat.le_refl _), if_neg hp]
    exact own_A h2 _ (Nat.le_refl _)
  | d + 1 => by
    show ownN ow' p (k + 1 + d + 1 + 1) = (ownN ow p (k + 1 + d + 1)).map (sft k)
    have e1 := ownN_succ ow' p (k + 1 + d + 1)
    have e2 := ownN_succ ow p (k + 1 + d)
    rw [e1, e2, h3 (k + 1 + d) (by omega), own_B h2 h3 hp d]
    split
    · rw [List.map_append]
      have : sft k (k + 1 + d) = k + 1 + d + 1 := by unfold sft; rw [if_pos (by omega)]
      simp [this]
    · rfl
theorem own_sft (h2 : ∀ j, j ≤ k → owN ow' j = owN ow j) (h3 : ∀ j, k ≤ j → owN ow' (j + 1) = owN ow j) {p : Nat} (hp : owN ow k ≠ p) (i : Nat) : ownN ow' p (sft k i) = (ownN ow p i).map (sft k) := by
  unfold sft
  by_cases h : k < i
  · rw [if_pos h]
    have := own_B h2 h3 hp (i - (k + 1))
    rw [show k + 1 + (i - (k + 1)) = i by omega] at this
    exact this
  · rw [if_neg h]
    exact own_A h2 i (by omega)
theorem val_sft (hk : k < ow.length) (hl : ow'.length = ow.length + 1) (h2 : ∀ j, j ≤ k → owN ow' j = owN ow j) (h3 : ∀ j, k ≤ j → owN ow' (j + 1) = owN ow j) (m2 : ∀ j, j ≠ k → me'.getD (sft k j) 0 = me.getD j 0) {p : Nat} (hp : owN ow k ≠ p) : valL me' ow' p = valL me ow p := by
  unfold valL
  have e : ow'.length = sft k ow.length := by unfold sft; rw [if_pos hk, hl]
  rw [e, own_sft h2 h3 hp, List.map_map]
  refine List.map_congr_left fun j hj => ?_
  refine m2 j ?_
  rintro rfl
  exact hp (own_mem.1 hj).2
theorem wt_same (hm : ∀ x, x ∈ ow' ↔ x ∈ ow) : wtL sh ow' = wtL sh ow := by
  unfold wtL
  refine List.map_congr_left fun p _ => ?_
  by_cases h : p ∈ ow
  · rw [wtK_in h, wtK_in ((hm p).2 h)]
  · rw [wtK_out h, wtK_out fun n => h ((hm p).1 n)]
theorem mem_owN {x : Nat} : x ∈ ow ↔ ∃ i, i < ow.length ∧ owN ow i = x := by
  constructor
  · intro h
    obtain ⟨i, hi, e⟩ := List.mem_iff_getElem.1 h
    exact ⟨i, hi, by unfold owN; rw [List.getD_eq_getElem?_getD, List.getElem?_eq_getElem hi]; exact e⟩
  · rintro ⟨i, hi, rfl⟩
    exact getD_mem hi
theorem out_sft (hk : k < ow.length) (hl : ow'.length = ow.length + 1) (h2 : ∀ j, j ≤ k → owN ow' j = owN ow j) (h3 : ∀ j, k ≤ j → owN ow' (j + 1) = owN ow j) (m2 : ∀ j, j ≠ k → me'.getD (sft k j) 0 = me.getD j 0) {i : Nat} (hne : owN ow i ≠ owN ow k) : outN sh ow' me' (sft k i) = outN sh ow me i := by
  have hp : owN ow k ≠ owN ow i := fun e => hne e.symm
  have ho : owN ow' (sft k i) = owN ow i := by
    unfold sft
    by_cases h : k < i
    · rw [if_pos h, h3 i (by omega)]
    · rw [if_neg h, h2 i (by omega)]
  have hm : ∀ x, x ∈ ow' ↔ x ∈ ow := fun x => by
    rw [mem_owN, mem_owN]
    constructor
    · rintro ⟨j, hj, rfl⟩
      by_cases h : j ≤ k
      · exact ⟨j, by omega, (h2 j h).symm⟩
      · refine ⟨j - 1, by omega, ?_⟩
        have := h3 (j - 1) (by omega)
        rw [show j - 1 + 1 = j by omega] at this
        exact this.symm
    · rintro ⟨j, hj, rfl⟩
      by_cases h : j ≤ k
      · exact ⟨j, by omega, h2 j h⟩
      · exact ⟨j + 1, by omega, h3 j (by omega)⟩
  unfold outN totN
  rw [ho, wt_same hm, val_sft hk hl h2 h3 m2 hp, own_sft h2 h3 hp, List.length_map]
end
theorem vld_split {sh ow me ow' me' : List Int} (h : vldL sh ow me = true) (h29 : ow.length ≤ 199) (hl : ow'.length = ow.length + 1) (hl' : me'.length = me.length + 1) (ho : ∀ x ∈ ow', x ∈ ow) (hm : ∀ x ∈ me', 1 ≤ x ∧ x ≤ 10000) : vldL sh ow' me' = true := by
  unfold vldL at h ⊢
  simp only [Bool.and_eq_true, decide_eq_true_eq] at h ⊢
  obtain ⟨h1, h2, h3, h4, h5, h6⟩ := h
  exact ⟨h1, by omega, by omega, h4, inB_iff.2 (fun x hx => inB_iff.1 h5 x (ho x hx)), inB_iff.2 hm⟩
/-- The lists with a request split. -/
def splO (ow : List Int) (k : Nat) : List Int := ow.take (k + 1) ++ [ow.getD k 0] ++ ow.drop (k + 1)
def splM (me : List Int) (k : Nat) (a b : Int) : List Int := me.take k ++ [a, b] ++ me.drop (k + 1)
theorem splO_len {ow : List Int} {k : Nat} (hk : k < ow.length) : (splO ow k).length = ow.length + 1 := by
  unfold splO; simp only [List.length_append, List.length_take, List.length_drop, List.length_cons, List.length_nil]; omega
theorem splM_len {me : List Int} {k : Nat} {a b : Int} (hk : k < me.length) : (splM me k a b).length = me.length + 1 := by
  unfold splM; simp only [List.length_append, List.length_take, List.length_drop, List.length_cons, List.length_nil]; omega
theorem splO_lo {ow : List Int} {k j : Nat} (hk : k < ow.length) (hj : j ≤ k) : (splO ow k).getD j 0 = ow.getD j 0 := by
  unfold splO
  rw [List.append_assoc, List.getD_eq_getElem?_getD, List.getElem?_append_left (by rw [List.length_take]; omega), List.getElem?_take_of_lt (by omega), ← List.getD_eq_getElem?_getD]
theorem splO_hi {ow : List Int} {k j : Nat} (hk : k < ow.length) (hj : k ≤ j) : (splO ow k).getD (j + 1) 0 = ow.getD j 0 := by
  unfold splO
  by_cases e : j = k
  · subst e
    rw [List.append_assoc, List.getD_eq_getElem?_getD, List.getElem?_append_right (by rw [List.length_take]; omega), List.length_take, show j + 1 - min (j + 1) ow.length = 0 by omega]
    rfl
  · have hlen : (ow.take (k + 1) ++ [ow.getD k 0]).length = k + 2 := by simp only [List.length_append, List.length_take, List.length_cons, List.length_nil]; omega
    rw [List.getD_eq_getElem?_getD, List.getElem?_append_right (by rw [hlen]; omega), hlen, List.getElem?_drop, show k + 1 + (j + 1 - (k + 2)) = j by omega, ← List.getD_eq_getElem?_getD]
theorem splM_sft {me : List Int} {k j : Nat} {a b : Int} (hk : k < me.length) (hj : j ≠ k) : (splM me k a b).getD (sft k j) 0 = me.getD j 0 := by
  unfold splM sft
  by_cases h : k < j
  · have hlen : (me.take k ++ [a, b]).length = k + 2 := by simp only [List.length_append, List.length_take, List.length_cons, List.length_nil]; omega
    rw [if_pos h, List.getD_eq_getElem?_getD, List.getElem?_append_right (by rw [hlen]; omega), hlen, List.getElem?_drop, show k + 1 + (j + 1 - (k + 2)) = j by omega, ← List.getD_eq_getElem?_getD]
  · rw [if_neg h, List.append_assoc, List.getD_eq_getElem?_getD, List.getElem?_append_left (by rw [List.length_take]; omega), List.getElem?_take_of_lt (by omega), ← List.getD_eq_getElem?_getD]
set_option maxRecDepth 100000 in
theorem spl_ok {sh ow me : List Int} (h : vldL sh ow me = true) (h29 : ow.length ≤ 199) {k : Nat} (hk : k < ow.length) {a b : Int} (ha : 1 ≤ a ∧ a ≤ 10000) (hb : 1 ≤ b ∧ b ≤ 10000) :
    vldL sh (splO ow k) (splM me k a b) = true ∧ ∀ i, i < ow.length → ow.getD i 0 ≠ ow.getD k 0 → (tkL sh (splO ow k) (splM me k a b)).getD (sft k i) 0 = (tkL sh ow me).getD i 0 := by
  obtain ⟨p1, p2, p3⟩ := vld_parts h
  have hkm : k < me.length := by omega
  have h' : vldL sh (splO ow k) (splM me k a b) = true := by
    refine vld_split h h29 (splO_len hk) (splM_len hkm) (fun x hx => ?_) (fun x hx => ?_)
    · unfold splO at hx
      rw [List.mem_append, List.mem_append, List.mem_singleton] at hx
      rcases hx with (hx | rfl) | hx
      · exact List.mem_of_mem_take hx
      · rw [getD_at hk]; exact List.getElem_mem hk
      · exact List.mem_of_mem_drop hx
    · unfold splM at hx
      rw [List.mem_append, List.mem_append] at hx
      rcases hx with (hx | hx) | hx
      · exact p3 _ (List.mem_of_mem_take hx)
      · simp only [List.mem_cons, List.not_mem_nil, or_false] at hx
        rcases hx with rfl | rfl
        · exact ha
        · exact hb
      · exact p3 _ (List.mem_of_mem_drop hx)
  refine ⟨h', fun i hi hne => ?_⟩
  rw [tkL_get h' (by rw [splO_len hk]; unfold sft; split <;> omega), tkL_get h hi]
  refine congrArg Int.ofNat (out_sft (by rw [toN_len]; exact hk) (by rw [toN_len, toN_len, splO_len hk]) (fun j hj => ?_) (fun j hj => ?_) (fun j hj => ?_) ?_)
  · unfold owN; rw [toN_getD, toN_getD, splO_lo hk hj]
  · unfold owN; rw [toN_getD, toN_getD, splO_hi hk hj]
  · rw [toN_getD, toN_getD, splM_sft hkm hj]
  · intro e
    exact hne ((owN_toN (fun x hx => (p2 x hx).1) hi hk).1 e)
end Go.Proofs.YtcgplokdklomlaaGreatDoor
