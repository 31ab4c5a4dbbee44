/- The exported functions of package sky, but for Near. -/
import Derived.Test.YtahlhiiekgnmpaaSkyA
namespace Go.Proofs.Ytahlhiiekgnmpaa
open Go.RowKit

theorem sky_tile (x y : Int) (w : World) :
    Calls Try.prog 16 #[.agg #[.int .i64 x, .int .i64 y]] w fun e w' => e = .returned (.tuple #[.int .i64 (tileV x y), .int .i64 (errB (vldPos x y))]) ∧ Below w.heap.size w w' := by
  by_cases hv : vldPos x y = true
  · obtain ⟨h1, h2, h3, h4⟩ := vldPos_iff.1 hv
    have e1 : tileV x y = 32 * (y / 180) + x / 180 := by unfold tileV; rw [if_pos hv]
    have E1 := hide e1
    clear e1
    have e2 : errB (vldPos x y) = 0 := by unfold errB; rw [hv]; rfl
    have E2 := hide e2
    clear e2
    go_enter Try.func16, Try.ntmps16
    go_wp2_with fail
    refine (sky_valid x y _).mono ?_
    rintro e w1 ⟨rfl, hb1⟩
    obtain ⟨hc, hf⟩ := bcell hb1
    have hz : w.heap.size + 1 ≤ w1.heap.size := by have := hb1.size; simpa using this
    rw [hv]
    go_wp2_with fail
    refine (sky_each_tile x y _ h1 h2 h3 h4).mono ?_
    rintro e w2 ⟨rfl, hb2⟩
    go_wp2_with fail
    go_ret2
    refine ⟨ret_ints2 E1.out.symm E2.out.symm, ?_⟩
    have b1 : Below w.heap.size w w1 := ((Below.refl _ _).alloc (Nat.le_refl _) _).trans (hb1.mono (by simp))
    have b2 : Below w.heap.size w w2 := b1.trans (hb2.mono b1.size)
    exact b2.alloc b2.size _
  · have hv' : vldPos x y = false := by simpa using hv
    have e1 : tileV x y = 0 := by unfold tileV; rw [if_neg hv]
    have E1 := hide e1
    clear e1
    have e2 : errB (vldPos x y) = 1 := by unfold errB; rw [hv']; rfl
    have E2 := hide e2
    clear e2
    go_enter Try.func16, Try.ntmps16
    go_wp2_with fail
    refine (sky_valid x y _).mono ?_
    rintro e w1 ⟨rfl, hb1⟩
    rw [hv']
    go_wp2_with fail
    go_ret2
    refine ⟨ret_ints2 E1.out.symm E2.out.symm, ?_⟩
    exact ((Below.refl _ _).alloc (Nat.le_refl _) _).trans (hb1.mono (by simp))
theorem sky_cell (x y : Int) (w : World) :
    Calls Try.prog 18 #[.agg #[.int .i64 x, .int .i64 y]] w fun e w' => e = .returned (.tuple #[.int .i64 (cellV x y), .int .i64 (errB (vldPos x y))]) ∧ Below w.heap.size w w' := by
  by_cases hv : vldPos x y = true
  · obtain ⟨h1, h2, h3, h4⟩ := vldPos_iff.1 hv
    have e1 : cellV x y = 2 * (y % 180 * 2 / 180) + x % 180 * 2 / 180 := by unfold cellV; rw [if_pos hv]
    have E1 := hide e1
    clear e1
    have e2 : errB (vldPos x y) = 0 := by unfold errB; rw [hv]; rfl
    have E2 := hide e2
    clear e2
    go_enter Try.func18, Try.ntmps18
    go_wp2_with fail
    refine (sky_valid x y _).mono ?_
    rintro e w1 ⟨rfl, hb1⟩
    obtain ⟨hc, hf⟩ := bcell hb1
    have hz : w.heap.size + 1 ≤ w1.heap.size := by have := hb1.size; simpa using this
    rw [hv]
    go_wp2_with fail
    refine (sky_each_cell x y _ h1 h2 h3 h4).mono ?_
    rintro e w2 ⟨rfl, hb2⟩
    go_wp2_with fail
    go_ret2
    refine ⟨ret_ints2 E1.out.symm E2.out.symm, ?_⟩
    have b1 : Below w.heap.size w w1 := ((Below.refl _ _).alloc (Nat.le_refl _) _).trans (hb1.mono (by simp))
    have b2 : Below w.heap.size w w2 := b1.trans (hb2.mono b1.size)
    exact b2.alloc b2.size _
  · have hv' : vldPos x y = false := by simpa using hv
    have e1 : cellV x y = 0 := by unfold cellV; rw [if_neg hv]
    have E1 := hide e1
    clear e1
    have e2 : errB (vldPos x y) = 1 := by unfold errB; rw [hv']; rfl
    have E2 := hide e2
    clear e2
    go_enter Try.func18, Try.ntmps18
    go_wp2_with fail
    refine (sky_valid x y _).mono ?_
    rintro e w1 ⟨rfl, hb1⟩
    rw [hv']
    go_wp2_with fail
    go_ret2
    refine ⟨ret_ints2 E1.out.symm E2.out.symm, ?_⟩
    exact ((Below.refl _ _).alloc (Nat.le_refl _) _).trans (hb1.mono (by simp))

/-! ### `is`: every one of some numbers is a tile -/
theorem take_snoc {l : List Int} {k : Nat} (h : k < l.length) : l.take (k + 1) = l.take k ++ [l[k]] := by
  rw [List.take_succ_eq_append_getElem h]
def allTiles (l : List Int) : Bool := l.all isTile
theorem allTiles_snoc (l : List Int) (k : Nat) (h : k < l.length) : allTiles (l.take (k + 1)) = (allTiles (l.take k) && isTile l[k]) := by
  unfold allTiles; rw [take_snoc h, List.all_append]; simp
theorem allTiles_no (l : List Int) (k : Nat) (h : k < l.length) (h' : isTile l[k] = false) : allTiles l = false := by
  unfold allTiles; rw [List.all_eq_false]; exact ⟨l[k], List.getElem_mem h, by simp [h']⟩

theorem sky_is (l : List Int) (b off cap : Nat) (w : World) (hm : l.length ≤ 1000) (_hcap : l.length ≤ cap)
    (hc : ∀ i (h : i < l.length), w.cell? ⟨b, off + i, none⟩ = some (.int .i64 l[i])) :
    Calls Try.prog 55 #[.slice (some ⟨b, off, none⟩) l.length cap] w fun e w' => e = .returned (.bool (allTiles l)) ∧ w = w' := by
  go_enter Try.func55, Try.ntmps55
  go_wp2
  go_loop [7] (fun i => ∃ k : Nat, k ≤ l.length ∧ i = .int .i64 k ∧ allTiles (l.take k) = true) (fun i => l.length - (intOf i).toNat)
  case atStart => exact ⟨0, Nat.zero_le _, rfl, by simp [allTiles]⟩
  case round =>
    obtain ⟨k, hk, rfl, hall⟩ := hrel
    have Hall := hide hall
    clear hall
    by_cases hlt : k < l.length
    · have hcx := hc k hlt
      have H1 := hide (allTiles_snoc l k hlt)
      have H2 := hide (allTiles_no l k hlt)
      by_cases c1 : 0 ≤ l[k]
      · by_cases c2 : l[k] < 512
        · have H3 := hide (isTile_iff.2 ⟨c1, c2⟩)
          go_wp2
          go_round
          case rel => exact ⟨k + 1, by omega, by go_num, by rw [H1.out, Hall.out, H3.out]; rfl⟩
          case measure => simp [intOf]; omega
        · have H3 := hide (isTile_no.2 (show ¬ (0 ≤ l[k] ∧ l[k] < 512) by omega))
          go_wp2
          go_ret
          exact ⟨ret_bool (H2.out H3.out).symm, rfl⟩
      · have H3 := hide (isTile_no.2 (show ¬ (0 ≤ l[k] ∧ l[k] < 512) by omega))
        go_wp2
        go_ret
        exact ⟨ret_bool (H2.out H3.out).symm, rfl⟩
    · have hk' : k = l.length := by omega
      have H4 : Hid (allTiles l = true) := by have := Hall.out; rw [hk', List.take_length] at this; exact this
      clear hk'
      go_wp2
      go_ret
      exact ⟨ret_bool H4.out.symm, rfl⟩
theorem sky_is1 (a : Int) (b cap : Nat) (w : World) (hc : w.cell? ⟨b, 0, none⟩ = some (.int .i64 a)) (h : 1 ≤ cap) :
    Calls Try.prog 55 #[.slice (some ⟨b, 0, none⟩) 1 cap] w fun e w' => e = .returned (.bool (isTile a)) ∧ w = w' := by
  refine (sky_is [a] b 0 cap w (by simp) h ?_).mono ?_
  · intro i hi
    match i, hi with
    | 0, _ => exact hc
  · rintro e w' ⟨rfl, rfl⟩
    exact ⟨ret_bool (by simp [allTiles]), rfl⟩
theorem sky_is2 (a c : Int) (b cap : Nat) (w : World) (hc : w.cell? ⟨b, 0, none⟩ = some (.int .i64 a)) (hd : w.cell? ⟨b, 1, none⟩ = some (.int .i64 c)) (h : 2 ≤ cap) :
    Calls Try.prog 55 #[.slice (some ⟨b, 0, none⟩) 2 cap] w fun e w' => e = .returned (.bool (isTile a && isTile c)) ∧ w = w' := by
  refine (sky_is [a, c] b 0 cap w (by simp) h ?_).mono ?_
  · intro i hi
    match i, hi with
    | 0, _ => exact hc
    | 1, _ => exact hd
  · rintro e w' ⟨rfl, rfl⟩
    exact ⟨ret_bool (by simp [allTiles]), rfl⟩

theorem sky_centre (a : Int) (w : World) :
    Calls Try.prog 20 #[.int .i64 a] w fun e w' => e = .returned (.tuple #[.agg #[.int .i64 (centreX a), .int .i64 (centreY a)], .int .i64 (errB (isTile a))]) ∧ Below w.heap.size w w' := by
  by_cases hv : isTile a = true
  · obtain ⟨h1, h2⟩ := isTile_iff.1 hv
    have E1 := hide (show centreX a = 180 * (a % 32) + 90 by unfold centreX; rw [if_pos hv])
    have E2 := hide (show centreY a = 180 * (a / 32) + 90 by unfold centreY; rw [if_pos hv])
    have E3 := hide (show errB (isTile a) = 0 by unfold errB; rw [hv]; rfl)
    go_enter Try.func20, Try.ntmps20
    go_wp2_with fail
    refine (sky_is1 a _ _ _ (by simp [go_sem]) (by omega)).mono ?_
    rintro e w1 ⟨rfl, rfl⟩
    rw [hv]
    go_wp2_with fail
    refine (sky_split _ _ h1 h2).mono ?_
    rintro e w2 ⟨rfl, hb2⟩
    obtain ⟨hc, hf⟩ := bcell hb2
    have hz : w.heap.size + 1 < w2.heap.size := by have := hb2.size; simp at this; omega
    have hz0 : w.heap.size < w2.heap.size := by omega
    go_wp2_with fail
    have k0 : w2.cell? ⟨w.heap.size, 0, none⟩ = some (.int .i64 0) := by rw [hc _ _ (by simp; omega)]; simp [go_sem]
    have k1 : w2.cell? ⟨w.heap.size, 1, none⟩ = some (.int .i64 0) := by rw [hc _ _ (by simp; omega)]; simp [go_sem]
    refine bodyPost_ret (v := .tuple #[.agg #[.int .i64 (180 * (a % 32) + 90), .int .i64 (180 * (a / 32) + 90)], .int .i64 0]) (by simp [results, Try.results20, go_sem, k0, k1, hz0]) rfl ⟨by rw [E1.out, E2.out, E3.out], ?_⟩
    have b1 := (((Below.refl w.heap.size w).alloc (Nat.le_refl _) (.cells #[.int .i64 0, .int .i64 0] 23)).alloc (by simp) (.cells #[.int .i64 a] 3)).trans (hb2.mono (by simp; omega))
    exact ((b1.setCell (by simp) _).setCell (by simp) _).alloc (by simp; omega) _
  · have hv' : isTile a = false := by simpa using hv
    have E1 := hide (show centreX a = 0 by unfold centreX; rw [if_neg hv])
    have E2 := hide (show centreY a = 0 by unfold centreY; rw [if_neg hv])
    have E3 := hide (show errB (isTile a) = 1 by unfold errB; rw [hv']; rfl)
    go_enter Try.func20, Try.ntmps20
    go_wp2_with fail
    refine (sky_is1 a _ _ _ (by simp [go_sem]) (by omega)).mono ?_
    rintro e w1 ⟨rfl, rfl⟩
    rw [hv']
    go_wp2_with fail
    refine bodyPost_ret (v := .tuple #[.agg #[.int .i64 0, .int .i64 0], .int .i64 1]) (by simp [results, Try.results20, go_sem]) rfl ⟨by rw [E1.out, E2.out, E3.out], ?_⟩
    repeat (first | exact Below.refl _ _ | refine Below.setCell ?_ (by simp) _ | refine Below.alloc ?_ (by simp) _)

theorem sky_Distance (a b : Int) (w : World) :
    Calls Try.prog 22 #[.int .i64 a, .int .i64 b] w fun e w' => e = .returned (.tuple #[.int .i64 (distV a b), .int .i64 (errB (isTile a && isTile b))]) ∧ Below w.heap.size w w' := by
  by_cases hv : (isTile a && isTile b) = true
  · obtain ⟨ha, hb⟩ : isTile a = true ∧ isTile b = true := by simpa using hv
    obtain ⟨h1, h2⟩ := isTile_iff.1 ha
    obtain ⟨h3, h4⟩ := isTile_iff.1 hb
    have E1 := hide (show distV a b = distI a b by unfold distV; rw [if_pos hv])
    have E3 := hide (show errB (isTile a && isTile b) = 0 by unfold errB; rw [hv]; rfl)
    go_enter Try.func22, Try.ntmps22
    go_wp2_with fail
    refine (sky_is2 a b _ _ _ (by simp [go_sem]) (by simp [go_sem]) (by omega)).mono ?_
    rintro e w1 ⟨rfl, rfl⟩
    rw [hv]
    go_wp2_with fail
    refine (sky_distance _ _ _ h1 h2 h3 h4).mono ?_
    rintro e w2 ⟨rfl, hb2⟩
    go_wp2_with fail
    go_ret2
    exact ⟨ret_ints2 E1.out.symm E3.out.symm, ((Below.refl _ _).alloc (Nat.le_refl _) _).trans (hb2.mono (by simp))⟩
  · have hv' : (isTile a && isTile b) = false := by simpa using hv
    have E1 := hide (show distV a b = 0 by unfold distV; rw [if_neg hv])
    have E3 := hide (show errB (isTile a && isTile b) = 1 by unfold errB; rw [hv']; rfl)
    have Hv := hide hv'
    clear hv hv'
    go_enter Try.func22, Try.ntmps22
    go_wp2_with fail
    refine (sky_is2 a b _ _ _ (by simp [go_sem]) (by simp [go_sem]) (by omega)).mono ?_
    rintro e w1 ⟨rfl, rfl⟩
    rw [Hv.out]
    go_wp2_with fail
    go_ret2
    exact ⟨ret_ints2 E1.out.symm E3.out.symm, (Below.refl _ _).alloc (Nat.le_refl _) _⟩
end Go.Proofs.Ytahlhiiekgnmpaa
