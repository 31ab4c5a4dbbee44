/- The reference of layer 6: Interpolate. -/
import Derived.Test.YtahlhiiekgnmpabFldD
namespace Go.Proofs.Ytahlhiiekgnmpab
open Go.RowKit

def px (ps : List (FP × FP)) (k : Nat) : FP := (ps.getD k (0, 0)).1
def py (ps : List (FP × FP)) (k : Nat) : FP := (ps.getD k (0, 0)).2
theorem px_at {ps : List (FP × FP)} {k : Nat} (h : k < ps.length) : ps[k].1 = px ps k := by unfold px; simp [List.getD, h]
theorem py_at {ps : List (FP × FP)} {k : Nat} (h : k < ps.length) : ps[k].2 = py ps k := by unfold py; simp [List.getD, h]
def dstB (ps : List (FP × FP)) : Bool := decide (ps.map Prod.fst).Nodup
theorem dst_iff (ps : List (FP × FP)) : dstB ps = true ↔ ∀ p q, p < q → q < ps.length → px ps p ≠ px ps q := by
  unfold dstB
  rw [decide_eq_true_iff, List.nodup_iff_pairwise_ne, List.pairwise_map, List.pairwise_iff_getElem]
  constructor
  · intro h p q h1 h2
    rw [← px_at (by omega), ← px_at h2]
    exact h p q (by omega) h2 h1
  · intro h p q h1 h2 h3
    rw [px_at h1, px_at h2]
    exact h p q h3 h2
theorem dst_all {ps : List (FP × FP)} (h : ∀ i, i < ps.length → ∀ k, k < ps.length → k ≠ i → px ps k ≠ px ps i) : dstB ps = true :=
  (dst_iff ps).2 fun p q h1 h2 => h q h2 p (by omega) (by omega)
theorem dst_not {ps : List (FP × FP)} {i k : Nat} (hi : i < ps.length) (hk : k < ps.length) (hne : k ≠ i) (h : px ps k = px ps i) : dstB ps = false := by
  rcases Bool.eq_false_or_eq_true (dstB ps) with hd | hd
  · rcases Nat.lt_or_gt_of_ne hne with h1 | h1
    · exact absurd h ((dst_iff ps).1 hd k i h1 hi)
    · exact absurd h.symm ((dst_iff ps).1 hd i k h1 hk)
  · exact hd
def itV (ps : List (FP × FP)) (x : FP) : Int := if dstB ps then va (nv (px ps) (py ps) x 0 (ps.length - 1)) else 0
def itE (ps : List (FP × FP)) : Int := if dstB ps then 0 else 8
theorem itV_lag {ps : List (FP × FP)} (h : dstB ps = true) (h0 : 0 < ps.length) (x : FP) : itV ps x = va (lagS (px ps) (py ps) x ps.length ps.length) ∧ itE ps = 0 := by
  unfold itV itE
  rw [if_pos h, if_pos h]
  refine ⟨?_, rfl⟩
  obtain ⟨n, hn⟩ : ∃ n, ps.length = n + 1 := ⟨ps.length - 1, by omega⟩
  have hd := (dst_iff ps).1 h
  rw [hn] at hd ⊢
  rw [lag_nv hd]
  rfl
theorem itV_not {ps : List (FP × FP)} (h : dstB ps = false) (x : FP) : itV ps x = 0 ∧ itE ps = 8 := by
  unfold itV itE
  rw [h]; exact ⟨rfl, rfl⟩
def vF2 (p : FP × FP) : List Value := [.int .i64 (va p.1), .int .i64 (va p.2)]
theorem vF2_len (p : FP × FP) : (vF2 p).length = 2 := rfl
theorem f2_cells {w : World} {b off : Nat} {l : List (FP × FP)} (h : ∀ i (h : i < l.length) j u, (vF2 l[i])[j]? = some u → w.cell? ⟨b, off + i * 2 + j, none⟩ = some u) {k : Nat} (hk : k < l.length) :
    w.cell? ⟨b, off + k * 2, none⟩ = some (.int .i64 (va (px l k))) ∧ w.cell? ⟨b, off + k * 2 + 1, none⟩ = some (.int .i64 (va (py l k))) := by
  have h0 := h k hk 0 _ rfl
  have h1 := h k hk 1 _ rfl
  rw [← px_at hk, ← py_at hk]
  exact ⟨by simpa using h0, h1⟩
theorem power_inv (x : FP) : x⁻¹ = x ^ 2147483645 := by
  by_cases h : x = 0
  · subst h
    have e : (0 : FP)⁻¹ = 0 := finInv_zero
    rw [e, show 2147483645 = 2147483644 + 1 from rfl, Lean.Grind.Semiring.pow_succ]; grind
  · exact finInv_pow x h
end Go.Proofs.Ytahlhiiekgnmpab
