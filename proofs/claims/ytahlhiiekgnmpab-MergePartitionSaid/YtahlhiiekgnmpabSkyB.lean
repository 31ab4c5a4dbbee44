/- The exported functions of package sky, but for Near. -/
import Derived.Test.YtahlhiiekgnmpabSkyA
set_option linter.unusedVariables false
set_option linter.unusedSimpArgs false
namespace Go.Proofs.Ytahlhiiekgnmpab
open Go.RowKit

/-! ### `is`: every one of some numbers is a tile -/
theorem take_snoc {l : List Int} {k : Nat} (h : k < l.length) : l.take (k + 1) = l.take k ++ [l[k]] := by
  rw [List.take_succ_eq_append_getElem h]
def allTiles (l : List Int) : Bool := l.all isTile
theorem allTiles_snoc (l : List Int) (k : Nat) (h : k < l.length) : allTiles (l.take (k + 1)) = (allTiles (l.take k) && isTile l[k]) := by
  unfold allTiles; rw [take_snoc h, List.all_append]; simp
theorem allTiles_no (l : List Int) (k : Nat) (h : k < l.length) (h' : isTile l[k] = false) : allTiles l = false := by
  unfold allTiles; rw [List.all_eq_false]; exact ⟨l[k], List.getElem_mem h, by simp [h']⟩

theorem sky_is (l : List Int) (b off cap : Nat) (w : World) (hm : l.length ≤ 1000) (_hcap : l.length ≤ cap)
    (hc : ∀ i (h : i < l.length), w.cell? ⟨b, off + i, none⟩ = some (.int .i64 l[i])) :
    Calls Try.prog 56 #[.slice (some ⟨b, off, none⟩) l.length cap] w fun e w' => e = .returned (.bool (allTiles l)) ∧ w = w' := by
  go_enter Try.func56, Try.ntmps56
  go_wp2
  go_loop [7] (fun i => ∃ k : Nat, k ≤ l.length ∧ i = .int .i64 k ∧ allTiles (l.take k) = true) (fun i => l.length - (intOf i).toNat)
  case atStart => exact ⟨0, Nat.zero_le _, rfl, by simp [allTiles]⟩
  case round =>
    obtain ⟨k, hk, rfl, hall⟩ := hrel
    have Hall := hide hall
    clear hall
    by_cases hlt : k < l.length
    · have hcx := hc k hlt
      have H1 := hide (allTiles_snoc l k hlt)
      have H2 := hide (allTiles_no l k hlt)
      by_cases c1 : 0 ≤ l[k]
      · by_cases c2 : l[k] < 512
        · have H3 := hide (isTile_iff.2 ⟨c1, c2⟩)
          go_wp2
          go_round
          case rel => exact ⟨k + 1, by omega, by go_num, by rw [H1.out, Hall.out, H3.out]; rfl⟩
          case measure => simp [intOf]; omega
        · have H3 := hide (isTile_no.2 (show ¬ (0 ≤ l[k] ∧ l[k] < 512) by omega))
          go_wp2
          go_ret
          exact ⟨ret_bool (H2.out H3.out).symm, rfl⟩
      · have H3 := hide (isTile_no.2 (show ¬ (0 ≤ l[k] ∧ l[k] < 512) by omega))
        go_wp2
        go_ret
        exact ⟨ret_bool (H2.out H3.out).symm, rfl⟩
    · have hk' : k = l.length := by omega
      have H4 : Hid (allTiles l = true) := by have := Hall.out; rw [hk', List.take_length] at this; exact this
      clear hk'
      go_wp2
      go_ret
      exact ⟨ret_bool H4.out.symm, rfl⟩
theorem sky_is1 (a : Int) (b cap : Nat) (w : World) (hc : w.cell? ⟨b, 0, none⟩ = some (.int .i64 a)) (h : 1 ≤ cap) :
    Calls Try.prog 56 #[.slice (some ⟨b, 0, none⟩) 1 cap] w fun e w' => e = .returned (.bool (isTile a)) ∧ w = w' := by
  refine (sky_is [a] b 0 cap w (by simp) h ?_).mono ?_
  · intro i hi
    match i, hi with
    | 0, _ => exact hc
  · rintro e w' ⟨rfl, rfl⟩
    exact ⟨ret_bool (by simp [allTiles]), rfl⟩
theorem sky_is2 (a c : Int) (b cap : Nat) (w : World) (hc : w.cell? ⟨b, 0, none⟩ = some (.int .i64 a)) (hd : w.cell? ⟨b, 1, none⟩ = some (.int .i64 c)) (h : 2 ≤ cap) :
    Calls Try.prog 56 #[.slice (some ⟨b, 0, none⟩) 2 cap] w fun e w' => e = .returned (.bool (isTile a && isTile c)) ∧ w = w' := by
  refine (sky_is [a, c] b 0 cap w (by simp) h ?_).mono ?_
  · intro i hi
    match i, hi with
    | 0, _ => exact hc
    | 1, _ => exact hd
  · rintro e w' ⟨rfl, rfl⟩
    exact ⟨ret_bool (by simp [allTiles]), rfl⟩

theorem sky_Distance (a b : Int) (w : World) :
    Calls Try.prog 53 #[.int .i64 a, .int .i64 b] w fun e w' => e = .returned (.tuple #[.int .i64 (distV a b), .int .i64 (errB (isTile a && isTile b))]) ∧ Below w.heap.size w w' := by
  by_cases hv : (isTile a && isTile b) = true
  · obtain ⟨ha, hb⟩ : isTile a = true ∧ isTile b = true := by simpa using hv
    obtain ⟨h1, h2⟩ := isTile_iff.1 ha
    obtain ⟨h3, h4⟩ := isTile_iff.1 hb
    have E1 := hide (show distV a b = distI a b by unfold distV; rw [if_pos hv])
    have E3 := hide (show errB (isTile a && isTile b) = 0 by unfold errB; rw [hv]; rfl)
    go_enter Try.func53, Try.ntmps53
    go_wp2_with fail
    refine (sky_is2 a b _ _ _ (by simp [go_sem]) (by simp [go_sem]) (by omega)).mono ?_
    rintro e w1 ⟨rfl, rfl⟩
    rw [hv]
    go_wp2_with fail
    refine (sky_distance _ _ _ h1 h2 h3 h4).mono ?_
    rintro e w2 ⟨rfl, hb2⟩
    go_wp2_with fail
    go_ret2
    exact ⟨ret_ints2 E1.out.symm E3.out.symm, ((Below.refl _ _).alloc (Nat.le_refl _) _).trans (hb2.mono (by simp))⟩
  · have hv' : (isTile a && isTile b) = false := by simpa using hv
    have E1 := hide (show distV a b = 0 by unfold distV; rw [if_neg hv])
    have E3 := hide (show errB (isTile a && isTile b) = 1 by unfold errB; rw [hv']; rfl)
    have Hv := hide hv'
    clear hv hv'
    go_enter Try.func53, Try.ntmps53
    go_wp2_with fail
    refine (sky_is2 a b _ _ _ (by simp [go_sem]) (by simp [go_sem]) (by omega)).mono ?_
    rintro e w1 ⟨rfl, rfl⟩
    rw [Hv.out]
    go_wp2_with fail
    go_ret2
    exact ⟨ret_ints2 E1.out.symm E3.out.symm, (Below.refl _ _).alloc (Nat.le_refl _) _⟩
end Go.Proofs.Ytahlhiiekgnmpab
