/- The reference of layer 6: Interpolate. -/
import Derived.Test.YtahlhiiekgnmpaaFldD
namespace Go.Proofs.Ytahlhiiekgnmpaa
open Go.RowKit

def px (ps : List (FP × FP)) (k : Nat) : FP := (ps.getD k (0, 0)).1
def py (ps : List (FP × FP)) (k : Nat) : FP := (ps.getD k (0, 0)).2
theorem px_at {ps : List (FP × FP)} {k : Nat} (h : k < ps.length) : ps[k].1 = px ps k := by unfold px; simp [List.getD, h]
theorem py_at {ps : List (FP × FP)} {k : Nat} (h : k < ps.length) : ps[k].2 = py ps k := by unfold py; simp [List.getD, h]
def dstB (ps : List (FP × FP)) : Bool := decide (ps.map Prod.fst).Nodup
theorem dst_iff (ps : List (FP × FP)) : dstB ps = true ↔ ∀ p q, p < q → q < ps.length → px ps p ≠ px ps q := by
  unfold dstB
  rw [decide_eq_true_iff, List.nodup_iff_pairwise_ne, List.pairwise_map, List.pairwise_iff_getElem]
  constructor
  · intro h p q h1 h2
    rw [← px_at (by omega), ← px_at h2]
    exact h p q (by omega) h2 h1
  · intro h p q h1 h2 h3
    rw [px_at h1, px_at h2]
    exact h p q h3 h2
theorem dst_all {ps : List (FP × FP)} (h : ∀ i, i < ps.length → ∀ k, k < ps.length → k ≠ i → px ps k ≠ px ps i) : dstB ps = true :=
  (dst_iff ps).2 fun p q h1 h2 => h q h2 p (by omega) (by omega)
theorem dst_not {ps : List (FP × FP)} {i k : Nat} (hi : i < ps.length) (hk : k < ps.length) (hne : k ≠ i) (h : px ps k = px ps i) : dstB ps = false := by
  rcases Bool.eq_false_or_eq_true (dstB ps) with hd | hd
  · rcases Nat.lt_or_gt_of_ne hne with h1 | h1
    · exact absurd h ((dst_iff ps).1 hd k i h1 hi)
    · exact absurd h.symm ((dst_iff ps).1 hd i k h1 hk)
  · exact hd
def itV (ps : List (FP × FP)) (x : FP) : Int := if dstB ps then va (nv (px ps) (py ps) x 0 (ps.length - 1)) else 0
def itE (ps : List (FP × FP)) : Int := if dstB ps then 0 else 8
theorem itV_lag {ps : List (FP × FP)} (h : dstB ps = true) (h0 : 0 < ps.length) (x : FP) : itV ps x = va (lagS (px ps) (py ps) x ps.length ps.length) ∧ itE ps = 0 := by
  unfold itV itE
  rw [if_pos h, if_pos h]
  refine ⟨?_, rfl⟩
  obtain ⟨n, hn⟩ : ∃ n, ps.length = n + 1 := ⟨ps.length - 1, by omega⟩
  have hd := (dst_iff ps).1 h
  rw [hn] at hd ⊢
  rw [lag_nv hd]
  rfl
theorem itV_not {ps : List (FP × FP)} (h : dstB ps = false) (x : FP) : itV ps x = 0 ∧ itE ps = 8 := by
  unfold itV itE
  rw [h]; exact ⟨rfl, rfl⟩
def vF2 (p : FP × FP) : List Value := [.int .i64 (va p.1), .int .i64 (va p.2)]
theorem vF2_len (p : FP × FP) : (vF2 p).length = 2 := rfl
theorem f2_cells {w : World} {b off : Nat} {l : List (FP × FP)} (h : ∀ i (h : i < l.length) j u, (vF2 l[i])[j]? = some u → w.cell? ⟨b, off + i * 2 + j, none⟩ = some u) {k : Nat} (hk : k < l.length) :
    w.cell? ⟨b, off + k * 2, none⟩ = some (.int .i64 (va (px l k))) ∧ w.cell? ⟨b, off + k * 2 + 1, none⟩ = some (.int .i64 (va (py l k))) := by
  have h0 := h k hk 0 _ rfl
  have h1 := h k hk 1 _ rfl
  rw [← px_at hk, ← py_at hk]
  exact ⟨by simpa using h0, h1⟩
theorem power_inv (x : FP) : x⁻¹ = x ^ 2147483645 := by
  by_cases h : x = 0
  · subst h
    have e : (0 : FP)⁻¹ = 0 := finInv_zero
    rw [e, show 2147483645 = 2147483644 + 1 from rfl, Lean.Grind.Semiring.pow_succ]; grind
  · exact finInv_pow x h
theorem ref06_power_inv' (x : FP) (w : World) : Calls Try.prog 76 #[.int .i64 (va x), .int .i64 2147483645] w fun e w' => e = .returned (.int .i64 (va x⁻¹)) ∧ w = w' := by
  rw [power_inv x]
  exact ref06_power x 2147483645 w (by omega) (by omega)

set_option maxHeartbeats 4000000 in
set_option maxRecDepth 100000 in
theorem ref06_interpolate_ok (ps : List (FP × FP)) (x : FP) (v : Value) (w : World) (h : SliceOf vF2 2 w v ps) (hl0 : 0 < ps.length) (hl : ps.length ≤ 16) :
    Calls Try.prog 49 #[v, .int .i64 (va x)] w fun e w' => e = .returned (.tuple #[.int .i64 (itV ps x), .int .i64 (itE ps)]) ∧ ∃ n, w.drewN n = w' := by
  obtain ⟨ao, cp, rfl⟩ := h.shape
  obtain ⟨b, off, rfl, hb, hcap, hmx, hc⟩ := h.at_ hl0
  have HC : Hid (∀ k, k < ps.length → w.cell? ⟨b, off + k * 2, none⟩ = some (.int .i64 (va (px ps k))) ∧ w.cell? ⟨b, off + k * 2 + 1, none⟩ = some (.int .i64 (va (py ps k)))) := fun k hk => f2_cells hc hk
  clear h hc
  have hl' : (ps.length : Int) ≤ 16 := by omega
  have hl0' : (1 : Int) ≤ (ps.length : Int) := by omega
  have hmc : (cp : Int) ≤ 9223372036854775807 := by unfold maxLen at hmx; omega
  clear hmx
  have HV0 := hide va_zero
  have HV1 := hide va_one
  go_enter Try.func49, Try.ntmps49
  go_wp2_with fail
  refine (ref06_in_at _ true _ (inF_va x)).mono ?_
  rintro e w' ⟨rfl, rfl⟩
  go_wp2_with fail
  go_loop [6] (fun i => ∃ k : Nat, k ≤ ps.length ∧ i = .int .i64 k) (fun i => ps.length - (intOf i).toNat)
  case atStart => exact ⟨0, Nat.zero_le _, rfl⟩
  case round =>
    obtain ⟨k, hk, rfl⟩ := hrel
    by_cases hlt : k < ps.length
    · obtain ⟨c0, c1⟩ := HC.out k hlt
      have hki : (k : Int) < (ps.length : Int) := by omega
      have hk0 : (0 : Int) ≤ (k : Int) := by omega
      go_wp2_with fail
      refine (ref06_in_at _ true _ (inF_va _)).mono ?_
      rintro e w' ⟨rfl, rfl⟩
      go_wp2_with fail
      refine (ref06_in_at _ true _ (inF_va _)).mono ?_
      rintro e w' ⟨rfl, rfl⟩
      go_wp2_with fail
      go_round
      case rel => exact ⟨k + 1, by omega, by go_num⟩
      case measure => simp [intOf]; omega
    · have hk' : k = ps.length := by omega
      subst hk'
      clear hk hlt
      go_wp2_with fail
      go_loopw [7, 8] (fun s i wr => ∃ (k n : Nat), k ≤ ps.length ∧ i = .int .i64 k ∧ s = .int .i64 (va (lagS (px ps) (py ps) x ps.length k)) ∧ wr = w.drewN n ∧ (∀ j, j < k → ∀ i, i < ps.length → i ≠ j → px ps i ≠ px ps j)) (fun _ i _ => ps.length - (intOf i).toNat)
      case atStart => exact ⟨0, 0, Nat.zero_le _, rfl, congrArg (Value.int .i64) HV0.out.symm, rfl, fun j hj => absurd hj (Nat.not_lt_zero j)⟩
      case round =>
        obtain ⟨k, n, hk, rfl, rfl, rfl, hdis⟩ := hrel
        have HD := hide hdis
        clear hdis
        by_cases hlt : k < ps.length
        · obtain ⟨c0, c1⟩ := HC.out k hlt
          have hki : (k : Int) < (ps.length : Int) := by omega
          have hk0 : (0 : Int) ≤ (k : Int) := by omega
          have HLS : Hid (lagS (px ps) (py ps) x ps.length (k + 1) = lagS (px ps) (py ps) x ps.length k + abv (px ps) (py ps) x k ps.length * (blw (px ps) k ps.length)⁻¹) := rfl
          obtain ⟨S, hS⟩ : ∃ S, lagS (px ps) (py ps) x ps.length k = S := ⟨_, rfl⟩
          rw [hS] at HLS ⊢
          clear hS
          go_wp2_with fail
          go_loopw [9, 10, 11] (fun a bl i wr => ∃ (m n : Nat), m ≤ ps.length ∧ i = .int .i64 m ∧ a = .int .i64 (va (abv (px ps) (py ps) x k m)) ∧ bl = .int .i64 (va (blw (px ps) k m)) ∧ wr = w.drewN n ∧ (∀ j, j < m → j ≠ k → px ps j ≠ px ps k)) (fun _ _ i _ => ps.length - (intOf i).toNat)
          case atStart => exact ⟨0, n, Nat.zero_le _, rfl, rfl, congrArg (Value.int .i64) HV1.out.symm, rfl, fun j hj => absurd hj (Nat.not_lt_zero j)⟩
          case round =>
            obtain ⟨m, n, hm, rfl, rfl, rfl, rfl, hdj⟩ := hrel
            have HJ := hide hdj
            clear hdj
            by_cases hmt : m < ps.length
            · obtain ⟨d0, _⟩ := HC.out m hmt
              have hmi : (m : Int) < (ps.length : Int) := by omega
              have hm0 : (0 : Int) ≤ (m : Int) := by omega
              have HA : Hid (abv (px ps) (py ps) x k (m + 1) = if m = k then abv (px ps) (py ps) x k m else abv (px ps) (py ps) x k m * (x - px ps m)) := rfl
              have HB : Hid (blw (px ps) k (m + 1) = if m = k then blw (px ps) k m else blw (px ps) k m * (px ps k - px ps m)) := rfl
              by_cases hmk : m = k
              · subst hmk
                have hne : ((m : Int) == (m : Int)) = true := by simp
                go_wp2_with fail
                go_roundw
                case rel => exact ⟨m + 1, n, by omega, by go_num, by rw [HA.out, if_pos rfl], by rw [HB.out, if_pos rfl], rfl, fun j hj hne => HJ.out j (by omega) hne⟩
                case measure => simp [intOf]; omega
              · have hne : ((m : Int) == (k : Int)) = false := beq_eq_false_iff_ne.2 (by omega)
                have HN := hide (fun (e : px ps m = px ps k) => itV_not (dst_not hlt hmt hmk e) x)
                obtain ⟨A, hAA⟩ : ∃ A, abv (px ps) (py ps) x k m = A := ⟨_, rfl⟩
                obtain ⟨B, hBB⟩ : ∃ B, blw (px ps) k m = B := ⟨_, rfl⟩
                obtain ⟨p, hp⟩ : ∃ p, px ps m = p := ⟨_, rfl⟩
                obtain ⟨q, hq⟩ : ∃ q, px ps k = q := ⟨_, rfl⟩
                rw [if_neg hmk, hAA, hp] at HA
                rw [if_neg hmk, hBB, hp, hq] at HB
                rw [hp, hq] at HN
                rw [hq] at c0
                rw [hp] at d0
                rw [hAA, hBB]
                have HJ2 : Hid (p ≠ q → ∀ j, j < m + 1 → j ≠ k → px ps j ≠ px ps k) := fun hpq j hj hjk => by
                  by_cases e : j = m
                  · rw [e, hp, hq]; exact hpq
                  · exact HJ.out j (by omega) hjk
                clear hAA hBB hp hq hmk
                by_cases hpq : p = q
                · have heq : (va p == va q) = true := by rw [hpq]; simp
                  obtain ⟨z1, z2⟩ := HN.out hpq
                  have Z1 := hide z1
                  have Z2 := hide z2
                  clear z1 z2 hpq HN HJ2
                  go_wp2_with fail
                  go_quiet (fail)
                  go_wp2_with fail
                  go_ret2
                  exact ⟨ret_v2 Z1.out.symm Z2.out.symm, _, by first | rfl | exact (World.drewN_drewN _ _ _).symm⟩
                · have heq : (va p == va q) = false := beq_eq_false_iff_ne.2 fun e => hpq (va_inj e)
                  have HJ3 := hide (HJ2.out hpq)
                  clear HN HJ2 hpq
                  go_wp2_with fail
                  go_quiet (fail)
                  go_wp2_with fail
                  refine (ref06_minus x p _).mono ?_
                  rintro e w' ⟨rfl, rfl⟩
                  go_wp2_with fail
                  refine (ref06_mul A (x - p) _).mono ?_
                  rintro e w' ⟨rfl, rfl⟩
                  go_wp2_with fail
                  go_quiet ((first
                    | (go_at_call 80; first | exact qt_same_add (ref06_minus q p _) | exact qt_same (ref06_minus q p _))
                    | (go_at_call 73; first | exact qt_same_add (ref06_mul B (q - p) _) | exact qt_same (ref06_mul B (q - p) _))))
                  go_wp2_with fail
                  go_roundw
                  case rel => exact ⟨m + 1, _, by omega, by go_num, by rw [HA.out], by rw [HB.out], by first | rfl | exact World.drewN_drewN _ _ _, HJ3.out⟩
                  case measure => simp [intOf]; omega
            · have hm' : m = ps.length := by omega
              subst hm'
              have HD2 : Hid (∀ j, j < k + 1 → ∀ i, i < ps.length → i ≠ j → px ps i ≠ px ps j) := fun j hj i hi hij => by
                by_cases e : j = k
                · rw [e]; exact HJ.out i hi (by omega)
                · exact HD.out j (by omega) i hi hij
              obtain ⟨A, hAA⟩ : ∃ A, abv (px ps) (py ps) x k ps.length = A := ⟨_, rfl⟩
              obtain ⟨B, hBB⟩ : ∃ B, blw (px ps) k ps.length = B := ⟨_, rfl⟩
              rw [hAA, hBB] at HLS
              rw [hAA, hBB]
              clear hAA hBB HD HJ
              have b1 := va_bd S
              have b2 := va_bd (A * B⁻¹)
              have hw2 : IntKind.i64.wrap (va S + va (A * B⁻¹)) = va S + va (A * B⁻¹) := IntWalk.i64_in _ (by omega)
              have hm1 := sum_va S (A * B⁻¹)
              have hm2 := sum_va' S (A * B⁻¹)
              go_wp2_with fail
              refine (ref06_power_inv' B _).mono ?_
              rintro e w' ⟨rfl, rfl⟩
              go_wp2_with fail
              refine (ref06_mul A B⁻¹ _).mono ?_
              rintro e w' ⟨rfl, rfl⟩
              go_wp2_with fail
              go_roundw
              case rel => exact ⟨k + 1, _, by omega, by go_num, by rw [HLS.out], rfl, HD2.out⟩
              case measure => simp [intOf]; omega
        · have hk' : k = ps.length := by omega
          subst hk'
          obtain ⟨z1, z2⟩ := itV_lag (dst_all HD.out) hl0 x
          have Z1 := hide z1
          have Z2 := hide z2
          clear z1 z2
          go_wp2_with fail
          go_ret2
          exact ⟨ret_v2 Z1.out.symm Z2.out.symm, n, rfl⟩
end Go.Proofs.Ytahlhiiekgnmpaa
