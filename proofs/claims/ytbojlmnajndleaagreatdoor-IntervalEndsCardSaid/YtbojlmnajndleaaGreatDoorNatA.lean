/- natural: limb, trimmed, compare; the closures of add, sub, times. -/
import Derived.Test.YtbojlmnajndleaaGreatDoorNatL
import Derived.Test.YtbojlmnajndleaaGreatDoorAppend
set_option linter.unusedVariables false
set_option linter.unusedSimpArgs false
namespace Go.Proofs.YtbojlmnajndleaaGreatDoor
open Go.RowKit

def vN (x : Nat) : List Value := [.int .i64 (x : Int)]
theorem vN_len (x : Nat) : (vN x).length = 1 := rfl
theorem vN_one (a : Nat) : ∀ u ∈ vN a, u.oneCell' = true := by intro u hu; simp [vN] at hu; subst hu; rfl
theorem nat_cell {w : World} {b off : Nat} {l : List Nat} (h : ∀ i (h : i < l.length) j u, (vN l[i])[j]? = some u → w.cell? ⟨b, off + i * 1 + j, none⟩ = some u) {k : Nat} (hk : k < l.length) : w.cell? ⟨b, off + k, none⟩ = some (.int .i64 (l[k] : Int)) := by
  have := h k hk 0 _ rfl
  simpa using this
theorem cmpI_lt {a b : Int} (h : a < b) : decide (a < b) = true := by simp [h]

set_option maxHeartbeats 400000 in
theorem limb_any (l : List Nat) (v : Value) (i : Nat) (w : World) (h : SliceOf vN 1 w v l) (hl : l.length ≤ 1000000) (hi : i ≤ 1000000) :
    Calls Tryz.prog 89 #[v, .int .i64 (i : Int)] w fun e w' => e = .returned (.int .i64 (limbN l i)) ∧ w = w' := by
  by_cases hlt : i < l.length
  · obtain ⟨b, off, cap, rfl, hb, h1, h2, hc⟩ := h.some_of_pos (by omega)
    have c0 := nat_cell hc hlt
    have hx : limbN l i = (l[i] : Int) := limbN_in hlt
    have H := hide hx
    have hi0 : (0 : Int) ≤ (i : Int) := by omega
    have hi1 : (i : Int) < (l.length : Int) := by omega
    have hi2 : decide ((l.length : Int) ≤ (i : Int)) = false := by simp; omega
    have hi3 : decide (l.length ≤ i) = false := by simp; omega
    clear hx
    go_enter Tryz.func89, Tryz.ntmps89
    go_wp2_with fail
    go_ret
    exact ⟨ret_int H.out.symm, rfl⟩
  · obtain ⟨ao, cap, rfl⟩ := h.shape
    have hx : limbN l i = 0 := limbN_out (by omega)
    have H := hide hx
    have hi1 : (l.length : Int) ≤ (i : Int) := by omega
    clear hx
    go_enter Tryz.func89, Tryz.ntmps89
    go_wp2_with fail
    go_ret
    exact ⟨ret_int H.out.symm, rfl⟩

theorem trim_stop {l : List Nat} (hl : Lm l) {j : Nat} (hj : j < l.length) (hv : lval (l.take (j + 1)) = lval l) (h : l[j] ≠ 0) : l.take (j + 1) = lim (lval l) :=
  trim_done hl (by omega) hv fun j' hj' e => by obtain rfl : j = j' := by omega
                                                exact h
theorem trim_none {l : List Nat} (hl : Lm l) (hv : lval (l.take 0) = lval l) : l.take 0 = lim (lval l) :=
  trim_done hl (by omega) hv fun j' hj' e => by omega
/-- The prefix of a slice. -/
theorem SliceOf.take {α : Type} {f : α → List Value} {size : Nat} {w : World} {b off cap : Nat} {l : List α} (h : SliceOf f size w (.slice (some ⟨b, off, none⟩) l.length cap) l) (k : Nat) (hk : k ≤ l.length) : SliceOf f size w (.slice (some ⟨b, off, none⟩) k cap) (l.take k) := by
  by_cases h0 : 0 < l.length
  · obtain ⟨b', off', cap', e, hb, h1, h2, hc⟩ := h.some_of_pos h0
    simp only [Value.slice.injEq, Option.some.injEq, Addr.mk.injEq, and_true, true_and] at e
    obtain ⟨⟨rfl, rfl⟩, rfl⟩ := e
    have e1 : (l.take k).length = k := by rw [List.length_take]; omega
    refine .inr ⟨b, off, cap, by rw [e1], hb, by omega, h2, fun i hi j u hu => hc i (by omega) j u ?_⟩
    rw [List.getElem_take] at hu
    exact hu
  · obtain rfl : l = [] := List.eq_nil_of_length_eq_zero (by omega)
    obtain rfl : k = 0 := by simp at hk; exact hk
    rcases h with ⟨ao, e, _⟩ | ⟨b', off', cap', e, hb, h1, h2, hc⟩
    · simp only [Value.slice.injEq] at e
      obtain ⟨rfl, _, rfl⟩ := e
      exact .inl ⟨_, rfl, rfl⟩
    · simp only [Value.slice.injEq, Option.some.injEq, Addr.mk.injEq, and_true, true_and] at e
      obtain ⟨⟨rfl, rfl⟩, rfl⟩ := e
      exact .inr ⟨b, off, cap, rfl, hb, h1, h2, fun i hi => by simp at hi⟩

set_option maxHeartbeats 400000 in
theorem trimmed_any (l : List Nat) (v : Value) (w : World) (h : SliceOf vN 1 w v l) (hl : l.length ≤ 1000000) (hm : Lm l) :
    Calls Tryz.prog 86 #[v] w fun e w' => (∃ v', e = .returned v' ∧ SliceOf vN 1 w v' (lim (lval l)) ∧ v'.ownBlock = v.ownBlock) ∧ w = w' := by
  by_cases h0 : 0 < l.length
  · obtain ⟨b, off, cap, rfl, hb, h1, h2, hc⟩ := h.some_of_pos h0
    have HL := hide hm
    have HS := hide h
    have HCP := hide h2
    clear h hm h2
    go_enter Tryz.func86, Tryz.ntmps86
    go_wp2_with fail
    go_loop [3] (fun i => ∃ k : Nat, k ≤ l.length ∧ i = .int .i64 (k : Int) ∧ lval (l.take k) = lval l) (fun i => (intOf i).toNat)
    case atStart => exact ⟨l.length, Nat.le_refl _, rfl, by rw [List.take_length]⟩
    case round =>
      obtain ⟨k, hk, rfl, hv⟩ := hrel
      have HV := hide hv
      clear hv
      by_cases hk0 : 0 < k
      · obtain ⟨j, rfl⟩ : ∃ j, k = j + 1 := ⟨k - 1, by omega⟩
        have c0 := nat_cell hc (show j < l.length by omega)
        have e1 : IntKind.i64.wrap (((j + 1 : Nat) : Int) - 1) = (j : Int) := by rw [IntWalk.i64_in _ (by omega)]; omega
        have hj0 : (0 : Int) ≤ (j : Int) := by omega
        have hj1 : (j : Int) < (l.length : Int) := by omega
        obtain ⟨x, hx⟩ : ∃ x, l[j] = x := ⟨_, rfl⟩
        have HX := hide hx
        rw [hx] at c0
        clear hx
        have hjc : ((j + 1 : Nat) : Int) = (j : Int) + 1 := by omega
        rw [hjc]
        have hsub : (j : Int) + 1 - 1 = (j : Int) := by omega
        by_cases hz : x = 0
        · subst hz
          go_wp2_with fail
          go_round
          case rel =>
            refine ⟨j, by omega, by first | rfl | go_num, ?_⟩
            have := lval_take_succ (l := l) (k := j) (by omega)
            rw [HX.out, Nat.mul_zero] at this
            have hv := HV.out
            omega
          case measure => (simp [intOf]; try omega)
        · have hz1 : ((x : Int) == 0) = false := beq_eq_false_iff_ne.2 (by omega)
          have hz2 : (x == 0) = false := beq_eq_false_iff_ne.2 hz
          go_wp2_with fail
          go_ret
          exact ⟨⟨_, rfl, by rw [← trim_stop HL.out (by omega) HV.out (by rw [HX.out]; exact hz)]; exact HS.out.take (j + 1) (by omega), rfl⟩, rfl⟩
      · obtain rfl : k = 0 := by omega
        go_wp2_with fail
        go_ret
        exact ⟨⟨_, rfl, by rw [← trim_none HL.out HV.out]; exact HS.out.take 0 (by omega), rfl⟩, rfl⟩
  · obtain rfl : l = [] := List.eq_nil_of_length_eq_zero (by omega)
    obtain ⟨ao, cap, rfl⟩ := h.shape
    have HS := hide h
    have HE : Hid (lim (lval []) = []) := lim_zero
    clear h
    go_enter Tryz.func86, Tryz.ntmps86
    go_wp2_with fail
    go_loop [3] (fun i => i = .int .i64 0) (fun i => (intOf i).toNat)
    case atStart => rfl
    case round =>
      obtain rfl := hrel
      go_wp2_with fail
      go_ret
      exact ⟨⟨_, rfl, by rw [HE.out]; exact HS.out, rfl⟩, rfl⟩
end Go.Proofs.YtbojlmnajndleaaGreatDoor
