/- The plain laws of preempt: decisions with a greater budget, of two lists far apart, with all costs multiplied. No program in sight. -/
import Derived.Test.YtahlhiiekgnmpaaPreP
namespace Go.Proofs.Ytahlhiiekgnmpaa
set_option linter.unusedSectionVars false

/-- The decision about interruption k. -/
def decK (win bud : Int) (l : List IP) (k : Nat) : Bool := okQ win bud (qK win bud l k) (l.getD k (0, 0))
theorem outK_map (win bud : Int) (l : List IP) : ∀ k, outK win bud l k = (List.range k).map (decK win bud l)
  | 0 => rfl
  | k + 1 => by rw [outK, outK_map win bud l k, List.range_succ, List.map_append]; rfl
theorem outK_get {win bud : Int} {l : List IP} {k n : Nat} (h : k < n) : (outK win bud l n)[k]? = some (decK win bud l k) := by
  rw [outK_map, List.getElem?_map, List.getElem?_range h]; rfl
theorem decK_iff {win bud : Int} {l : List IP} (hv : vldL l = true) (hw : 1 ≤ win) (hw2 : win ≤ 38400) {k : Nat} (hk : k < l.length) :
    decK win bud l k = decide (costW win (l.getD k (0, 0)).1 (tkK win bud l k) + (l.getD k (0, 0)).2 ≤ bud) := ok_iff hv hw hw2 hk
theorem tkK_succ (win bud : Int) (l : List IP) (k : Nat) : tkK win bud l (k + 1) = if decK win bud l k then tkK win bud l k ++ [l.getD k (0, 0)] else tkK win bud l k := rfl

/-! ### A greater budget -/
theorem qK_same {win bud bud' : Int} {l : List IP} : ∀ n, (∀ k, k < n → decK win bud l k = decK win bud' l k) → qK win bud l n = qK win bud' l n
  | 0, _ => rfl
  | n + 1, h => by
    have ih := qK_same n fun k hk => h k (by omega)
    have hn := h n (by omega)
    rw [qK, qK]
    unfold decK okQ at hn
    unfold stepQ
    rw [ih] at hn ⊢
    have h0 := decide_eq_decide.1 hn
    by_cases h1 : sumC (dropT ((l.getD n (0, 0)).1 - win) (qK win bud' l n)) + (l.getD n (0, 0)).2 ≤ bud
    · rw [if_pos h1, if_pos (h0.1 h1)]
    · rw [if_neg h1, if_neg fun h => h1 (h0.2 h)]
theorem more_first {win bud bud' : Int} {l : List IP} {n : Nat} (hb : bud ≤ bud') (h : ∀ k, k < n → decK win bud l k = decK win bud' l k) (hne : decK win bud l n ≠ decK win bud' l n) : decK win bud' l n = true := by
  have hq := qK_same n h
  unfold decK okQ at hne ⊢
  rw [hq] at hne
  generalize sumC (dropT ((l.getD n (0, 0)).1 - win) (qK win bud' l n)) + (l.getD n (0, 0)).2 = A at *
  by_cases h1 : A ≤ bud'
  · simpa using h1
  · exact absurd ((decide_eq_false (show ¬ A ≤ bud by omega)).trans (decide_eq_false h1).symm) hne

/-! ### Two lists far apart -/
def shf (d : Int) (x : IP) : IP := (x.1 + d, x.2)
theorem costW_shf (win m d : Int) : ∀ l : List IP, costW win (m + d) (l.map (shf d)) = costW win m l
  | [] => rfl
  | x :: l => by
    show (if m + d - win < x.1 + d ∧ x.1 + d ≤ m + d then x.2 else 0) + costW win (m + d) (l.map (shf d)) = (if m - win < x.1 ∧ x.1 ≤ m then x.2 else 0) + costW win m l
    rw [costW_shf win m d l]
    by_cases h : m - win < x.1 ∧ x.1 ≤ m
    · rw [if_pos h, if_pos (by omega)]
    · rw [if_neg h, if_neg (by omega)]
theorem getD_left {a c : List IP} {k : Nat} (h : k < a.length) : (a ++ c).getD k (0, 0) = a.getD k (0, 0) := by
  rw [List.getD_eq_getElem?_getD, List.getD_eq_getElem?_getD, List.getElem?_append_left h]
theorem getD_right (a c : List IP) (j : Nat) : (a ++ c).getD (a.length + j) (0, 0) = c.getD j (0, 0) := by
  rw [List.getD_eq_getElem?_getD, List.getD_eq_getElem?_getD, List.getElem?_append_right (by omega), Nat.add_sub_cancel_left]
theorem getD_shf {d : Int} {b : List IP} {j : Nat} (h : j < b.length) : (b.map (shf d)).getD j (0, 0) = shf d (b.getD j (0, 0)) := by
  rw [List.getD_eq_getElem?_getD, List.getElem?_map, List.getElem?_eq_getElem h, getD_at h]; rfl
theorem qK_prefix (win bud : Int) (a c : List IP) : ∀ k, k ≤ a.length → qK win bud (a ++ c) k = qK win bud a k
  | 0, _ => rfl
  | k + 1, h => by rw [qK, qK, qK_prefix win bud a c k (by omega), getD_left (by omega)]
theorem decK_prefix (win bud : Int) (a c : List IP) {k : Nat} (h : k < a.length) : decK win bud (a ++ c) k = decK win bud a k := by
  unfold decK; rw [qK_prefix win bud a c k (by omega), getD_left h]
theorem tkK_prefix (win bud : Int) (a c : List IP) : ∀ k, k ≤ a.length → tkK win bud (a ++ c) k = tkK win bud a k
  | 0, _ => rfl
  | k + 1, h => by rw [tkK_succ, tkK_succ, tkK_prefix win bud a c k (by omega), getD_left (by omega), decK_prefix win bud a c (by omega)]
section
variable {win bud d : Int} {a b : List IP} (ha : vldL a = true) (hb : vldL b = true) (hall : vldL (a ++ b.map (shf d)) = true) (hw : 1 ≤ win) (hw2 : win ≤ 38400) (hgap : ∀ x ∈ a, ∀ y ∈ b, x.1 + win ≤ y.1 + d)
include ha hb hall hw hw2 hgap
theorem apart_dec {j : Nat} (hj : j < b.length) (htk : tkK win bud (a ++ b.map (shf d)) (a.length + j) = tkK win bud a a.length ++ (tkK win bud b j).map (shf d)) :
    decK win bud (a ++ b.map (shf d)) (a.length + j) = decK win bud b j := by
  rw [decK_iff hall hw hw2 (by simp; omega), decK_iff hb hw hw2 hj, htk, getD_right, getD_shf hj, costW_append]
  have h0 : costW win (shf d (b.getD j (0, 0))).1 (tkK win bud a a.length) = 0 := by
    refine costW_none fun x hx h => ?_
    have h1 := hgap x (List.mem_of_mem_take ((tkK_sub win bud a a.length (Nat.le_refl _)).subset hx)) _ (getD_mem hj)
    have h2 : (shf d (b.getD j (0, 0))).1 = (b.getD j (0, 0)).1 + d := rfl
    omega
  rw [h0, Int.zero_add]
  show decide (costW win ((b.getD j (0, 0)).1 + d) _ + (b.getD j (0, 0)).2 ≤ bud) = _
  rw [costW_shf]
theorem apart_tk : ∀ j, j ≤ b.length → tkK win bud (a ++ b.map (shf d)) (a.length + j) = tkK win bud a a.length ++ (tkK win bud b j).map (shf d)
  | 0, _ => by rw [Nat.add_zero, tkK_prefix win bud a _ _ (Nat.le_refl _)]; simp [tkK]
  | j + 1, h => by
    have ih := apart_tk j (by omega)
    have hd := apart_dec ha hb hall hw hw2 hgap (bud := bud) (j := j) (by omega) ih
    rw [show a.length + (j + 1) = (a.length + j) + 1 by omega, tkK_succ, tkK_succ, hd, ih, getD_right, getD_shf (by omega)]
    split
    · rw [List.map_append, List.append_assoc]; rfl
    · rfl
theorem apart_out : outK win bud (a ++ b.map (shf d)) (a ++ b.map (shf d)).length = outK win bud a a.length ++ outK win bud b b.length := by
  rw [List.length_append, List.length_map, outK_map, outK_map, outK_map, List.range_add, List.map_append, List.map_map]
  congr 1
  · exact List.map_congr_left fun k hk => decK_prefix win bud a _ (by simpa using hk)
  · exact List.map_congr_left fun k hk => apart_dec ha hb hall hw hw2 hgap (by simpa using hk) (apart_tk ha hb hall hw hw2 hgap k (Nat.le_of_lt (by simpa using hk)))
end
/-- The gap between both lists. -/
theorem apart_gap {win : Int} {a b : List IP} (ha : vldL a = true) (hb : vldL b = true) (hb0 : 0 < b.length) {d : Int} (hd : lastAt a + win - (b.getD 0 (0, 0)).1 ≤ d) : ∀ x ∈ a, ∀ y ∈ b, x.1 + win ≤ y.1 + d := by
  intro x hx y hy
  obtain ⟨i, hi, rfl⟩ := List.getElem_of_mem hx
  obtain ⟨j, hj, rfl⟩ := List.getElem_of_mem hy
  have h1 := srt_get (vldL_iff.1 ha).2.1 (show i ≤ a.length - 1 by omega) (by omega)
  have h2 := srt_get (vldL_iff.1 hb).2.1 (show 0 ≤ j by omega) hj
  rw [getD_at hi] at h1
  rw [getD_at hj] at h2
  unfold lastAt at hd
  omega
theorem lastAt_append {a b : List IP} {d : Int} (hb0 : 0 < b.length) : lastAt (a ++ b.map (shf d)) = lastAt b + d := by
  unfold lastAt
  rw [List.length_append, List.length_map, show a.length + b.length - 1 = a.length + (b.length - 1) by omega, getD_right, getD_shf (by omega)]; rfl
theorem apart_valid {win : Int} {a b : List IP} (ha : vldL a = true) (hb : vldL b = true) (hb0 : 0 < b.length) {d : Int} (hd0 : 0 ≤ d) (hw : 1 ≤ win) (hl : a.length + b.length ≤ 200)
    (hgap : ∀ x ∈ a, ∀ y ∈ b, x.1 + win ≤ y.1 + d) : vldL (a ++ b.map (shf d)) = decide (lastAt b + d ≤ 38399) := by
  by_cases h : lastAt b + d ≤ 38399
  · rw [decide_eq_true h]
    obtain ⟨a1, a2, _⟩ := vldL_iff.1 ha
    obtain ⟨b1, b2, _⟩ := vldL_iff.1 hb
    refine vldL_iff.2 ⟨fun x hx => ?_, List.pairwise_append.2 ⟨a2, ?_, ?_⟩, by simpa using hl⟩
    · rcases List.mem_append.1 hx with h1 | h1
      · exact a1 x h1
      · obtain ⟨y, hy, rfl⟩ := List.mem_map.1 h1
        have h2 := b1 y hy
        obtain ⟨j, hj, rfl⟩ := List.getElem_of_mem hy
        have h3 := srt_get b2 (show j ≤ b.length - 1 by omega) (by omega)
        rw [getD_at hj] at h3
        unfold lastAt at h
        unfold bd4 at *
        simp only [shf]
        omega
    · rw [List.pairwise_map]
      exact b2.imp fun {x y} hxy => by simp only [shf]; omega
    · intro x hx y hy
      obtain ⟨z, hz, rfl⟩ := List.mem_map.1 hy
      have := hgap x hx z hz
      simp only [shf]
      omega
  · rw [decide_eq_false h, Bool.eq_false_iff]
    intro hv
    have h1 := (vldL_iff.1 hv).1 _ (getD_mem (show (a ++ b.map (shf d)).length - 1 < (a ++ b.map (shf d)).length by simp; omega))
    have h2 : lastAt (a ++ b.map (shf d)) = lastAt b + d := lastAt_append hb0
    unfold lastAt at h2 h
    unfold bd4 at h1
    rw [h2] at h1
    omega

/-! ### All costs multiplied, all moments moved -/
def scl (k d : Int) (x : IP) : IP := (x.1 + d, k * x.2)
theorem costW_scl (win m k d : Int) : ∀ l : List IP, costW win (m + d) (l.map (scl k d)) = k * costW win m l
  | [] => (Int.mul_zero k).symm
  | x :: l => by
    show (if m + d - win < x.1 + d ∧ x.1 + d ≤ m + d then k * x.2 else 0) + costW win (m + d) (l.map (scl k d)) = k * ((if m - win < x.1 ∧ x.1 ≤ m then x.2 else 0) + costW win m l)
    rw [costW_scl win m k d l, Int.mul_add]
    by_cases h : m - win < x.1 ∧ x.1 ≤ m
    · rw [if_pos h, if_pos (by omega)]
    · rw [if_neg h, if_neg (by omega), Int.mul_zero]
theorem getD_scl {k d : Int} {b : List IP} {j : Nat} (h : j < b.length) : (b.map (scl k d)).getD j (0, 0) = scl k d (b.getD j (0, 0)) := by
  rw [List.getD_eq_getElem?_getD, List.getElem?_map, List.getElem?_eq_getElem h, getD_at h]; rfl
section
variable {win bud k d : Int} {l : List IP} (hv : vldL l = true) (hv2 : vldL (l.map (scl k d)) = true) (hw : 1 ≤ win) (hw2 : win ≤ 38400) (hk : 1 ≤ k)
include hv hv2 hw hw2 hk
theorem scl_dec {j : Nat} (hj : j < l.length) (htk : tkK win (k * bud) (l.map (scl k d)) j = (tkK win bud l j).map (scl k d)) : decK win (k * bud) (l.map (scl k d)) j = decK win bud l j := by
  rw [decK_iff hv2 hw hw2 (by simpa using hj), decK_iff hv hw hw2 hj, htk, getD_scl hj]
  show decide (costW win ((l.getD j (0, 0)).1 + d) _ + k * (l.getD j (0, 0)).2 ≤ k * bud) = _
  rw [costW_scl, ← Int.mul_add]
  refine decide_eq_decide.2 ⟨fun h => Int.le_of_mul_le_mul_left h (by omega), fun h => Int.mul_le_mul_of_nonneg_left h (by omega)⟩
theorem scl_tk : ∀ j, j ≤ l.length → tkK win (k * bud) (l.map (scl k d)) j = (tkK win bud l j).map (scl k d)
  | 0, _ => rfl
  | j + 1, h => by
    have ih := scl_tk j (by omega)
    have hd := scl_dec hv hv2 hw hw2 hk (bud := bud) (j := j) (by omega) ih
    rw [tkK_succ, tkK_succ, hd, ih, getD_scl (by omega)]
    split
    · rw [List.map_append]; rfl
    · rfl
theorem scl_out : outK win (k * bud) (l.map (scl k d)) (l.map (scl k d)).length = outK win bud l l.length := by
  rw [List.length_map, outK_map, outK_map]
  exact List.map_congr_left fun j hj => scl_dec hv hv2 hw hw2 hk (by simpa using hj) (scl_tk hv hv2 hw hw2 hk j (Nat.le_of_lt (by simpa using hj)))
end

/-! ### The interruptions that were accepted -/
def accK (l : List IP) (bs : List Bool) : Nat → List IP
  | 0 => []
  | k + 1 => if bs.getD k false then accK l bs k ++ [l.getD k (0, 0)] else accK l bs k
theorem accK_tk {win bud : Int} {l : List IP} {n : Nat} : ∀ k, k ≤ n → accK l (outK win bud l n) k = tkK win bud l k
  | 0, _ => rfl
  | k + 1, h => by
    rw [accK, tkK_succ, accK_tk k (by omega), List.getD_eq_getElem?_getD, outK_get (show k < n by omega)]; rfl
theorem accK_take {l : List IP} {bs : List Bool} {i : Nat} : ∀ k, k ≤ i → accK (l.take i) bs k = accK l bs k
  | 0, _ => rfl
  | k + 1, h => by
    have e : (l.take i).getD k (0, 0) = l.getD k (0, 0) := by
      rw [List.getD_eq_getElem?_getD, List.getElem?_take_of_lt (by omega), ← List.getD_eq_getElem?_getD]
    rw [accK, accK, accK_take k (by omega), e]
theorem accK_sub (l : List IP) (bs : List Bool) : ∀ k, k ≤ l.length → (accK l bs k).Sublist (l.take k)
  | 0, _ => by simp [accK]
  | k + 1, hk => by
    have ih := accK_sub l bs k (by omega)
    rw [take_getD (by omega), accK]
    split
    · exact ih.append (List.Sublist.refl _)
    · exact ih.trans (List.sublist_append_left _ _)
theorem accK_length (l : List IP) (bs : List Bool) : ∀ k, (accK l bs k).length ≤ k
  | 0 => by simp [accK]
  | k + 1 => by
    have ih := accK_length l bs k
    rw [accK]
    split
    · simp; omega
    · omega
/-- A refused interruption would have exceeded the budget. -/
theorem refused {win bud : Int} {l : List IP} (hv : vldL l = true) (hw : 1 ≤ win) (hw2 : win ≤ 38400) {k : Nat} (hk : k < l.length) (hd : decK win bud l k = false) :
    bud < costW win (l.getD k (0, 0)).1 (tkK win bud l k) + (l.getD k (0, 0)).2 := by
  rw [decK_iff hv hw hw2 hk] at hd
  have := of_decide_eq_false hd
  omega
end Go.Proofs.Ytahlhiiekgnmpaa
