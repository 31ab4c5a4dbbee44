/- The plain laws on the tiles within a distance: order, members, number; steps towards a tile. -/
import Derived.Test.YtahlhiiekgnmpaaSkyD
namespace Go.Proofs.Ytahlhiiekgnmpaa
open Go.RowKit

def imin (x y : Int) : Int := min x y
def imax (x y : Int) : Int := max x y
theorem imin_if (x y : Int) : (if y < x then y else x) = imin x y := by unfold imin; omega
theorem imax_if (x y : Int) : (if x < y then y else x) = imax x y := by unfold imax; omega

/-! ### Members and order -/
theorem nearK_mem (a r : Int) : ∀ (k : Nat) (t : Int), t ∈ nearK a r k ↔ 0 ≤ t ∧ t < k ∧ distI a t ≤ r
  | 0, t => by simp [nearK]; omega
  | k + 1, t => by
    have ih := nearK_mem a r k t
    unfold nearK
    split
    · rename_i h
      rw [List.mem_append, ih, List.mem_singleton]
      constructor
      · rintro (h' | h')
        · exact ⟨h'.1, by omega, h'.2.2⟩
        · subst h'; exact ⟨by omega, by omega, h⟩
      · rintro ⟨h1, h2, h3⟩
        by_cases h4 : t = k
        · exact .inr h4
        · exact .inl ⟨h1, by omega, h3⟩
    · rename_i h
      rw [ih]
      constructor
      · rintro ⟨h1, h2, h3⟩
        exact ⟨h1, by omega, h3⟩
      · rintro ⟨h1, h2, h3⟩
        refine ⟨h1, ?_, h3⟩
        by_cases h4 : t = k
        · subst h4; exact absurd h3 h
        · omega
theorem nearK_sorted (a r : Int) : ∀ k : Nat, (nearK a r k).Pairwise (· < ·)
  | 0 => by simp [nearK]
  | k + 1 => by
    have ih := nearK_sorted a r k
    unfold nearK
    split
    · rw [List.pairwise_append]
      refine ⟨ih, by simp, fun x hx y hy => ?_⟩
      have h1 := (nearK_mem a r k x).1 hx
      have h2 : y = k := by simpa using hy
      omega
    · exact ih
theorem nearK_lt {a r : Int} {k n : Nat} (h : n + 1 < (nearK a r k).length) : (nearK a r k)[n] < (nearK a r k)[n + 1] :=
  List.pairwise_iff_getElem.1 (nearK_sorted a r k) n (n + 1) (by omega) h (by omega)

/-! ### The number -/
def cnt (f : Nat → Bool) : Nat → Nat
  | 0 => 0
  | k + 1 => cnt f k + if f k then 1 else 0
theorem nearK_length (a r : Int) : ∀ k, (nearK a r k).length = cnt (fun t => decide (distI a t ≤ r)) k
  | 0 => rfl
  | k + 1 => by
    have ih := nearK_length a r k
    unfold nearK cnt
    by_cases h : distI a k ≤ r
    · rw [if_pos h, if_pos (by simpa using h), List.length_append, ih]; rfl
    · rw [if_neg h, if_neg (by simpa using h), ih]; rfl
theorem cnt_congr {f g : Nat → Bool} : ∀ {k : Nat}, (∀ i, i < k → f i = g i) → cnt f k = cnt g k
  | 0, _ => rfl
  | k + 1, h => by
    unfold cnt
    rw [cnt_congr fun i hi => h i (by omega), h k (by omega)]
theorem cnt_add (f : Nat → Bool) (m : Nat) : ∀ k, cnt f (m + k) = cnt f m + cnt (fun i => f (m + i)) k
  | 0 => rfl
  | k + 1 => by
    show cnt f (m + k) + (if f (m + k) then 1 else 0) = cnt f m + (cnt (fun i => f (m + i)) k + if f (m + k) then 1 else 0)
    rw [cnt_add f m k]
    omega
theorem cnt_and (p : Nat → Bool) (b : Bool) (k : Nat) : cnt (fun i => p i && b) k = if b then cnt p k else 0 := by
  cases b
  · induction k with
    | zero => rfl
    | succ k ih => unfold cnt; rw [ih]; simp
  · simp
theorem cnt_grid (p q : Nat → Bool) : ∀ m, cnt (fun t => p (t % 32) && q (t / 32)) (32 * m) = cnt p 32 * cnt q m
  | 0 => rfl
  | m + 1 => by
    rw [show 32 * (m + 1) = 32 * m + 32 by omega, cnt_add, cnt_grid p q m]
    have e : cnt (fun i => p ((32 * m + i) % 32) && q ((32 * m + i) / 32)) 32 = cnt (fun i => p i && q m) 32 :=
      cnt_congr fun i hi => by rw [show (32 * m + i) % 32 = i by omega, show (32 * m + i) / 32 = m by omega]
    rw [e, cnt_and]
    show _ = cnt p 32 * (cnt q m + if q m then 1 else 0)
    rw [Nat.mul_add]
    cases q m <;> simp
def colOk (x r c : Nat) : Bool := decide (min (absI ((x : Int) - c)) (32 - absI ((x : Int) - c)) ≤ (r : Int))
def bandOk (y r b : Nat) : Bool := decide (absI ((y : Int) - b) ≤ (r : Int))
theorem cols_all : ∀ x, x < 32 → ∀ r, r < 32 → cnt (colOk x r) 32 = min (2 * r + 1) 32 := by decide +kernel
theorem bands_all : ∀ y, y < 16 → ∀ r, r < 32 → cnt (bandOk y r) 16 = min (y + r) 15 - (y - r) + 1 := by decide +kernel
theorem near_number (a r : Nat) (ha : a < 512) (hr : r < 32) : (nearK a r 512).length = min (2 * r + 1) 32 * (min (a / 32 + r) 15 - (a / 32 - r) + 1) := by
  rw [nearK_length]
  have e : cnt (fun t => decide (distI a t ≤ r)) 512 = cnt (fun t => colOk (a % 32) r (t % 32) && bandOk (a / 32) r (t / 32)) (32 * 16) := by
    refine cnt_congr fun t ht => ?_
    rw [Bool.eq_iff_iff]
    unfold colOk bandOk distI
    rw [Bool.and_eq_true, decide_eq_true_iff, decide_eq_true_iff, decide_eq_true_iff]
    have e1 : ((a % 32 : Nat) : Int) = (a : Int) % 32 := by omega
    have e2 : ((t % 32 : Nat) : Int) = (t : Int) % 32 := by omega
    have e3 : ((a / 32 : Nat) : Int) = (a : Int) / 32 := by omega
    have e4 : ((t / 32 : Nat) : Int) = (t : Int) / 32 := by omega
    rw [e1, e2, e3, e4]
    omega
  rw [e, cnt_grid, cols_all _ (by omega) _ hr, bands_all _ (by omega) _ hr]
theorem near_number_int (a r : Int) (h1 : 0 ≤ a) (h2 : a < 512) (h3 : 0 ≤ r) (h4 : r < 32) :
    imin (2 * r + 1) 32 * (imin (a / 32 + r) 15 - imax (a / 32 - r) 0 + 1) = ((nearK a r 512).length : Int) := by
  obtain ⟨a, rfl⟩ := Int.eq_ofNat_of_zero_le h1
  obtain ⟨r, rfl⟩ := Int.eq_ofNat_of_zero_le h3
  rw [near_number a r (by omega) (by omega), Int.natCast_mul]
  unfold imin imax
  congr 1 <;> omega

/-! ### Steps -/
def stepX (x z : Int) : Int := if x = z then x else if (z - x) % 32 ≤ 16 then (x + 1) % 32 else (x + 31) % 32
def stepY (y z : Int) : Int := if y = z then y else if y < z then y + 1 else y - 1
def stepI (a b : Int) : Int := 32 * stepY (a / 32) (b / 32) + stepX (a % 32) (b % 32)
theorem stepX_spec (x z : Int) (h1 : 0 ≤ x) (h2 : x < 32) (h3 : 0 ≤ z) (h4 : z < 32) :
    0 ≤ stepX x z ∧ stepX x z < 32 ∧ min (absI (x - stepX x z)) (32 - absI (x - stepX x z)) ≤ 1 ∧
      min (absI (stepX x z - z)) (32 - absI (stepX x z - z)) ≤ max 0 (min (absI (x - z)) (32 - absI (x - z)) - 1) := by
  unfold stepX absI
  split
  · omega
  · split <;> omega
theorem stepY_spec (y z : Int) (h1 : 0 ≤ y) (h2 : y < 16) (h3 : 0 ≤ z) (h4 : z < 16) :
    0 ≤ stepY y z ∧ stepY y z < 16 ∧ absI (y - stepY y z) ≤ 1 ∧ absI (stepY y z - z) ≤ max 0 (absI (y - z) - 1) := by
  unfold stepY absI
  split
  · omega
  · split <;> omega
theorem stepI_spec (a b : Int) (h1 : 0 ≤ a) (h2 : a < 512) (h3 : 0 ≤ b) (h4 : b < 512) (h : 0 < distI a b) :
    0 ≤ stepI a b ∧ stepI a b < 512 ∧ distI a (stepI a b) ≤ 1 ∧ distI (stepI a b) b ≤ distI a b - 1 := by
  have hx := stepX_spec (a % 32) (b % 32) (by omega) (by omega) (by omega) (by omega)
  have hy := stepY_spec (a / 32) (b / 32) (by omega) (by omega) (by omega) (by omega)
  have e1 : stepI a b / 32 = stepY (a / 32) (b / 32) := by unfold stepI; omega
  have e2 : stepI a b % 32 = stepX (a % 32) (b % 32) := by unfold stepI; omega
  refine ⟨by unfold stepI; omega, by unfold stepI; omega, ?_, ?_⟩
  · unfold distI
    rw [e1, e2]
    omega
  · unfold distI at h ⊢
    rw [e1, e2]
    omega
/-- The least distance from b over the first k of a list, and d. -/
def leastK (l : List Int) (b d : Int) : Nat → Int
  | 0 => d
  | k + 1 => imin (leastK l b d k) (distI (l.getD k 0) b)
theorem leastK_ge (l : List Int) (b d e : Int) (hd : e ≤ d) (h : ∀ t ∈ l, e ≤ distI t b) : ∀ k, k ≤ l.length → e ≤ leastK l b d k
  | 0, _ => hd
  | k + 1, hk => by
    have h1 := leastK_ge l b d e hd h k (by omega)
    have h2 := h (l.getD k 0) (by rw [List.getD_eq_getElem?_getD, List.getElem?_eq_getElem (by omega)]; exact List.getElem_mem _)
    show e ≤ imin _ _
    unfold imin
    omega
theorem leastK_le (l : List Int) (b d e : Int) : ∀ k, k ≤ l.length → (d ≤ e ∨ ∃ i, i < k ∧ distI (l.getD i 0) b ≤ e) → leastK l b d k ≤ e
  | 0, _, h => by
    rcases h with h | ⟨i, hi, _⟩
    · exact h
    · omega
  | k + 1, hk, h => by
    show imin _ _ ≤ e
    unfold imin
    by_cases h' : d ≤ e ∨ ∃ i, i < k ∧ distI (l.getD i 0) b ≤ e
    · have := leastK_le l b d e k (by omega) h'
      omega
    · rcases h with h | ⟨i, hi, h⟩
      · exact absurd (.inl h) h'
      · by_cases hik : i = k
        · subst hik; omega
        · exact absurd (.inr ⟨i, by omega, h⟩) h'
theorem least_steps (a b : Int) (h1 : 0 ≤ a) (h2 : a < 512) (h3 : 0 ≤ b) (h4 : b < 512) :
    leastK (nearK a 1 512) b (distI a b) (nearK a 1 512).length = if distI a b = 0 then 0 else distI a b - 1 := by
  have hb := distI_bounds a b h1 h2 h3 h4
  have hge : ∀ t ∈ nearK a 1 512, distI a b - 1 ≤ distI t b ∧ 0 ≤ distI t b := by
    intro t ht
    obtain ⟨t1, t2, t3⟩ := (nearK_mem a 1 512 t).1 ht
    have := distI_tri a b t h1 h2 h3 h4 t1 (by omega)
    have := distI_bounds t b t1 (by omega) h3 h4
    omega
  by_cases hd : distI a b = 0
  · rw [if_pos hd]
    have e1 := leastK_ge (nearK a 1 512) b (distI a b) 0 hb.1 (fun t ht => (hge t ht).2) _ (Nat.le_refl _)
    have e2 := leastK_le (nearK a 1 512) b (distI a b) 0 _ (Nat.le_refl _) (.inl (by omega))
    omega
  · rw [if_neg hd]
    obtain ⟨s1, s2, s3, s4⟩ := stepI_spec a b h1 h2 h3 h4 (by omega)
    have hm : stepI a b ∈ nearK a 1 512 := (nearK_mem a 1 512 _).2 ⟨s1, by omega, s3⟩
    obtain ⟨i, hi, he⟩ := List.getElem_of_mem hm
    have e1 := leastK_ge (nearK a 1 512) b (distI a b) (distI a b - 1) (by omega) (fun t ht => (hge t ht).1) _ (Nat.le_refl _)
    have e2 := leastK_le (nearK a 1 512) b (distI a b) (distI a b - 1) _ (Nat.le_refl _) (.inr ⟨i, hi, by rw [List.getD_eq_getElem?_getD, List.getElem?_eq_getElem hi, Option.getD_some, he]; exact s4⟩)
    omega
end Go.Proofs.Ytahlhiiekgnmpaa
