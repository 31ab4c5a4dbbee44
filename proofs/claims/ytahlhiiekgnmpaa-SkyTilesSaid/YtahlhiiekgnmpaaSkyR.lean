/- The reference functions of layer 10. -/
import Derived.Test.YtahlhiiekgnmpaaSkyC
namespace Go.Proofs.Ytahlhiiekgnmpaa
open Go.RowKit

theorem ref10_valid (x y : Int) (w : World) :
    Calls Try.prog 53 #[.agg #[.int .i64 x, .int .i64 y]] w fun e w' => e = .returned (.bool (vldPos x y)) ∧ Below w.heap.size w w' := by
  have hb := (Below.refl w.heap.size w).alloc (Nat.le_refl _) (.cells #[.int .i64 x, .int .i64 y] 23)
  by_cases c1 : 0 ≤ x
  · by_cases c2 : x < 5760
    · by_cases c3 : 0 ≤ y
      · by_cases c4 : y < 2880
        · go_enter Try.func53, Try.ntmps53
          go_wp2
          go_ret
          exact ⟨ret_bool (vldPos_iff.2 (by omega)).symm, hb⟩
        · go_enter Try.func53, Try.ntmps53
          go_wp2
          go_ret
          exact ⟨ret_bool (vldPos_no.2 (by omega)).symm, hb⟩
      · go_enter Try.func53, Try.ntmps53
        go_wp2
        go_ret
        exact ⟨ret_bool (vldPos_no.2 (by omega)).symm, hb⟩
    · go_enter Try.func53, Try.ntmps53
      go_wp2
      go_ret
      exact ⟨ret_bool (vldPos_no.2 (by omega)).symm, hb⟩
  · go_enter Try.func53, Try.ntmps53
    go_wp2
    go_ret
    exact ⟨ret_bool (vldPos_no.2 (by omega)).symm, hb⟩


theorem ref10_tile (x y : Int) (w : World) :
    Calls Try.prog 17 #[.agg #[.int .i64 x, .int .i64 y]] w fun e w' => e = .returned (.tuple #[.int .i64 (tileV x y), .int .i64 (errB (vldPos x y))]) ∧ Below w.heap.size w w' := by
  have hw : Below w.heap.size w (w.alloc (.cells #[.int .i64 x, .int .i64 y] 23)) := (Below.refl _ _).alloc (Nat.le_refl _) _
  by_cases hv : vldPos x y = true
  · obtain ⟨h1, h2, h3, h4⟩ := vldPos_iff.1 hv
    have E1 := hide (show tileV x y = 32 * (y / 180) + x / 180 by unfold tileV; rw [if_pos hv])
    have E2 := hide (show errB (vldPos x y) = 0 by unfold errB; rw [hv]; rfl)
    go_enter Try.func17, Try.ntmps17
    go_wp2_with fail
    refine (ref10_valid x y _).mono ?_
    rintro e w1 ⟨rfl, hb1⟩
    obtain ⟨hc, hf⟩ := bcell hb1
    rw [hv]
    go_wp2_with fail
    go_ret2
    exact ⟨ret_ints2 E1.out.symm E2.out.symm, hw.trans (hb1.mono (by simp))⟩
  · have hv' : vldPos x y = false := by simpa using hv
    have E1 := hide (show tileV x y = 0 by unfold tileV; rw [if_neg hv])
    have E2 := hide (show errB (vldPos x y) = 1 by unfold errB; rw [hv']; rfl)
    go_enter Try.func17, Try.ntmps17
    go_wp2_with fail
    refine (ref10_valid x y _).mono ?_
    rintro e w1 ⟨rfl, hb1⟩
    rw [hv']
    go_wp2_with fail
    go_ret2
    exact ⟨ret_ints2 E1.out.symm E2.out.symm, hw.trans (hb1.mono (by simp))⟩
theorem ref10_cell (x y : Int) (w : World) :
    Calls Try.prog 19 #[.agg #[.int .i64 x, .int .i64 y]] w fun e w' => e = .returned (.tuple #[.int .i64 (cellV x y), .int .i64 (errB (vldPos x y))]) ∧ Below w.heap.size w w' := by
  have hw : Below w.heap.size w (w.alloc (.cells #[.int .i64 x, .int .i64 y] 23)) := (Below.refl _ _).alloc (Nat.le_refl _) _
  by_cases hv : vldPos x y = true
  · obtain ⟨h1, h2, h3, h4⟩ := vldPos_iff.1 hv
    have E1 := hide (show cellV x y = 2 * (y % 180 / 90) + x % 180 / 90 by unfold cellV; rw [if_pos hv]; omega)
    have E2 := hide (show errB (vldPos x y) = 0 by unfold errB; rw [hv]; rfl)
    go_enter Try.func19, Try.ntmps19
    go_wp2_with fail
    refine (ref10_valid x y _).mono ?_
    rintro e w1 ⟨rfl, hb1⟩
    obtain ⟨hc, hf⟩ := bcell hb1
    rw [hv]
    go_wp2_with fail
    go_ret2
    exact ⟨ret_ints2 E1.out.symm E2.out.symm, hw.trans (hb1.mono (by simp))⟩
  · have hv' : vldPos x y = false := by simpa using hv
    have E1 := hide (show cellV x y = 0 by unfold cellV; rw [if_neg hv])
    have E2 := hide (show errB (vldPos x y) = 1 by unfold errB; rw [hv']; rfl)
    go_enter Try.func19, Try.ntmps19
    go_wp2_with fail
    refine (ref10_valid x y _).mono ?_
    rintro e w1 ⟨rfl, hb1⟩
    rw [hv']
    go_wp2_with fail
    go_ret2
    exact ⟨ret_ints2 E1.out.symm E2.out.symm, hw.trans (hb1.mono (by simp))⟩

theorem ref10_is (a : Int) (w : World) : Calls Try.prog 57 #[.int .i64 a] w fun e w' => e = .returned (.bool (isTile a)) ∧ w = w' := by
  by_cases c1 : 0 ≤ a
  · by_cases c2 : a < 512
    · go_enter Try.func57, Try.ntmps57
      go_wp2
      go_ret
      exact ⟨ret_bool (isTile_iff.2 ⟨c1, c2⟩).symm, rfl⟩
    · go_enter Try.func57, Try.ntmps57
      go_wp2
      go_ret
      exact ⟨ret_bool (isTile_no.2 (by omega)).symm, rfl⟩
  · go_enter Try.func57, Try.ntmps57
    go_wp2
    go_ret
    exact ⟨ret_bool (isTile_no.2 (by omega)).symm, rfl⟩

theorem ref10_around (a b : Int) (w : World) (h1 : 0 ≤ a) (h2 : a < 32) (h3 : 0 ≤ b) (h4 : b < 32) :
    Calls Try.prog 59 #[.int .i64 a, .int .i64 b] w fun e w' => e = .returned (.int .i64 (min (absI (a - b)) (32 - absI (a - b)))) ∧ w = w' := by
  go_enter Try.func59, Try.ntmps59
  go_wp2
  all_goals
    go_ret
    exact ⟨ret_int (by unfold absI; omega), rfl⟩

theorem ref10_centre (a : Int) (w : World) :
    Calls Try.prog 21 #[.int .i64 a] w fun e w' => e = .returned (.tuple #[.agg #[.int .i64 (centreX a), .int .i64 (centreY a)], .int .i64 (errB (isTile a))]) ∧ Below w.heap.size w w' := by
  by_cases hv : isTile a = true
  · obtain ⟨h1, h2⟩ := isTile_iff.1 hv
    have E1 := hide (show centreX a = a % 32 * 180 + 90 by unfold centreX; rw [if_pos hv]; omega)
    have E2 := hide (show centreY a = a / 32 * 180 + 90 by unfold centreY; rw [if_pos hv]; omega)
    have E3 := hide (show errB (isTile a) = 0 by unfold errB; rw [hv]; rfl)
    go_enter Try.func21, Try.ntmps21
    go_wp2_with fail
    refine (ref10_is a _).mono ?_
    rintro e w1 ⟨rfl, rfl⟩
    rw [hv]
    go_wp2_with fail
    refine bodyPost_ret (v := .tuple #[.agg #[.int .i64 (a % 32 * 180 + 90), .int .i64 (a / 32 * 180 + 90)], .int .i64 0]) (by simp [results, Try.results21, go_sem]) rfl ⟨by rw [E1.out, E2.out, E3.out], ?_⟩
    exact (Below.refl _ _).alloc (Nat.le_refl _) _
  · have hv' : isTile a = false := by simpa using hv
    have E1 := hide (show centreX a = 0 by unfold centreX; rw [if_neg hv])
    have E2 := hide (show centreY a = 0 by unfold centreY; rw [if_neg hv])
    have E3 := hide (show errB (isTile a) = 1 by unfold errB; rw [hv']; rfl)
    go_enter Try.func21, Try.ntmps21
    go_wp2_with fail
    refine (ref10_is a _).mono ?_
    rintro e w1 ⟨rfl, rfl⟩
    rw [hv']
    go_wp2_with fail
    refine bodyPost_ret (v := .tuple #[.agg #[.int .i64 0, .int .i64 0], .int .i64 1]) (by simp [results, Try.results21, go_sem]) rfl ⟨by rw [E1.out, E2.out, E3.out], ?_⟩
    exact (Below.refl _ _).alloc (Nat.le_refl _) _

theorem ref10_distance (a b : Int) (w : World) :
    Calls Try.prog 23 #[.int .i64 a, .int .i64 b] w fun e w' => e = .returned (.tuple #[.int .i64 (distV a b), .int .i64 (errB (isTile a && isTile b))]) ∧ w = w' := by
  by_cases ha : isTile a = true
  · obtain ⟨h1, h2⟩ := isTile_iff.1 ha
    by_cases hb : isTile b = true
    · obtain ⟨h3, h4⟩ := isTile_iff.1 hb
      have E1 := hide (show distV a b = distI a b by unfold distV; rw [if_pos (by simp [ha, hb])])
      have E3 := hide (show errB (isTile a && isTile b) = 0 by unfold errB; rw [ha, hb]; rfl)
      have hd : 0 ≤ absI (a % 32 - b % 32) ∧ absI (a % 32 - b % 32) ≤ 32 := by unfold absI; omega
      go_enter Try.func23, Try.ntmps23
      go_wp2_with fail
      refine (ref10_is a _).mono ?_
      rintro e w1 ⟨rfl, rfl⟩
      rw [ha]
      go_wp2_with fail
      refine (ref10_is b _).mono ?_
      rintro e w1 ⟨rfl, rfl⟩
      rw [hb]
      go_wp2_with fail
      all_goals
        refine (ref10_around _ _ _ (by omega) (by omega) (by omega) (by omega)).mono ?_
        rintro e w1 ⟨rfl, rfl⟩
        go_wp2_with fail
      all_goals
        go_ret2
        exact ⟨ret_ints2 (by rw [E1.out]; unfold distI; rename_i h5; generalize absI (a % 32 - b % 32) = d at *; unfold absI; omega) (by first | exact E3.out.symm | rfl), rfl⟩
    · have hb' : isTile b = false := by simpa using hb
      have E1 := hide (show distV a b = 0 by unfold distV; rw [if_neg (by simp [hb'])])
      have E3 := hide (show errB (isTile a && isTile b) = 1 by unfold errB; rw [ha, hb']; rfl)
      go_enter Try.func23, Try.ntmps23
      go_wp2_with fail
      refine (ref10_is a _).mono ?_
      rintro e w1 ⟨rfl, rfl⟩
      rw [ha]
      go_wp2_with fail
      refine (ref10_is b _).mono ?_
      rintro e w1 ⟨rfl, rfl⟩
      rw [hb']
      go_wp2_with fail
      go_ret2
      exact ⟨ret_ints2 E1.out.symm E3.out.symm, rfl⟩
  · have ha' : isTile a = false := by simpa using ha
    have E1 := hide (show distV a b = 0 by unfold distV; rw [if_neg (by simp [ha'])])
    have E3 := hide (show errB (isTile a && isTile b) = 1 by unfold errB; rw [ha']; rfl)
    go_enter Try.func23, Try.ntmps23
    go_wp2_with fail
    refine (ref10_is a _).mono ?_
    rintro e w1 ⟨rfl, rfl⟩
    rw [ha']
    go_wp2_with fail
    go_ret2
    exact ⟨ret_ints2 E1.out.symm E3.out.symm, rfl⟩

/-- The slice's shape, whatever it holds. -/
theorem IntSlice.shape {w : World} {v : Value} {l : List Int} (h : IntSlice w v l) : ∃ ao cap, v = .slice ao l.length cap := by
  rcases h with ⟨h, rfl⟩ | ⟨b, off, cap, h, _⟩
  · exact ⟨_, _, h⟩
  · exact ⟨_, _, h⟩

theorem ref10_ints_len (ao bo : Option Addr) (n m c d : Nat) (w : World) (h : n ≠ m) :
    Calls Try.prog 26 #[.slice ao n c, .slice bo m d] w fun e w' => e = .returned (.bool false) ∧ w = w' := by
  have h' : ((n : Int) == (m : Int)) = false := beq_eq_false_iff_ne.2 (by omega)
  have h'' : ((n : Int) != (m : Int)) = true := by rw [bne_iff_ne]; omega
  go_enter Try.func26, Try.ntmps26
  go_wp2
  go_ret
  exact ⟨rfl, rfl⟩
theorem ref10_ints_nil (ao bo : Option Addr) (c d : Nat) (w : World) :
    Calls Try.prog 26 #[.slice ao 0 c, .slice bo 0 d] w fun e w' => e = .returned (.bool true) ∧ w = w' := by
  go_enter Try.func26, Try.ntmps26
  go_wp2
  go_loop [5] (fun i => i = .int .i64 0) (fun _ => 0)
  case atStart => rfl
  case round =>
    subst hrel
    go_wp2
    go_ret
    exact ⟨rfl, rfl⟩

theorem ref10_ints_some (l m : List Int) (b off c b' off' c' : Nat) (w : World) (hl : l.length = m.length) (hm : l.length ≤ maxLen)
    (hc : ∀ i (h : i < l.length), w.cell? ⟨b, off + i, none⟩ = some (.int .i64 l[i])) (hc' : ∀ i (h : i < m.length), w.cell? ⟨b', off' + i, none⟩ = some (.int .i64 m[i])) :
    Calls Try.prog 26 #[.slice (some ⟨b, off, none⟩) l.length c, .slice (some ⟨b', off', none⟩) l.length c'] w fun e w' => e = .returned (.bool (decide (l = m))) ∧ ∃ n, w' = w.drewN n := by
  unfold maxLen at hm
  have Hl := hide hl
  clear hl
  go_enter Try.func26, Try.ntmps26
  go_wp2
  go_loopw [5] (fun i wr => ∃ k n : Nat, k ≤ l.length ∧ i = .int .i64 k ∧ l.take k = m.take k ∧ wr = w.drewN n) (fun i _ => l.length - (intOf i).toNat)
  case atStart => exact ⟨0, 0, Nat.zero_le _, rfl, rfl, rfl⟩
  case round =>
    obtain ⟨k, n, hk, rfl, hall, rfl⟩ := hrel
    have Hall := hide hall
    clear hall
    by_cases hlt : k < l.length
    · have hlt' : k < m.length := by have := Hl.out; omega
      have hcx := hc k hlt
      have hcx' := hc' k hlt'
      have hki : (k : Int) < (l.length : Int) := by omega
      have Hn1 := hide (take_snoc hlt)
      have Hn2 := hide (take_snoc hlt')
      by_cases he : l[k] = m[k]
      · have he1 : (l[k] != m[k]) = false := by simp [he]
        have Hs : Hid (l.take (k + 1) = m.take (k + 1)) := by
          have := Hall.out
          show l.take (k + 1) = m.take (k + 1)
          rw [Hid.out Hn1, Hid.out Hn2, this, he]
        go_wp2
        go_quiet (fail)
        go_wp2
        go_roundw
        case rel => exact ⟨k + 1, _, by omega, by go_num, Hs.out, by first | rfl | exact World.drewN_drewN _ _ _⟩
        case measure => simp [intOf]; omega
      · have he1 : (l[k] != m[k]) = true := by rw [bne_iff_ne]; exact he
        have Hne : Hid (decide (l = m) = false) := by
          simp only [Hid, decide_eq_false_iff_not]
          intro e
          subst e
          exact he rfl
        go_wp2
        go_quiet (fail)
        go_wp2
        go_ret
        exact ⟨ret_bool Hne.out.symm, _, World.drewN_drewN _ _ _⟩
    · have Hs : Hid (decide (l = m) = true) := by
        have h2 := Hall.out
        have h3 := Hl.out
        have h4 : k = l.length := by omega
        rw [h4, List.take_length, h3, List.take_length] at h2
        simp [Hid, h2]
      go_wp2
      go_ret
      exact ⟨ret_bool Hs.out.symm, _, rfl⟩

theorem ref10_ints (l m : List Int) (v u : Value) (w : World) (hl : IntSlice w v l) (hm : IntSlice w u m) :
    Calls Try.prog 26 #[v, u] w fun e w' => e = .returned (.bool (decide (l = m))) ∧ ∃ n, w' = w.drewN n := by
  by_cases hlen : l.length = m.length
  · by_cases h0 : l.length = 0
    · have e1 : l = [] := List.eq_nil_of_length_eq_zero h0
      have e2 : m = [] := List.eq_nil_of_length_eq_zero (by omega)
      subst e1 e2
      obtain ⟨ao, c, rfl⟩ := hl.shape
      obtain ⟨bo, d, rfl⟩ := hm.shape
      exact (ref10_ints_nil ao bo c d w).mono fun e w' ⟨he, hw⟩ => ⟨by rw [he]; rfl, 0, hw.symm⟩
    · rcases hl with ⟨_, e⟩ | ⟨b, off, c, rfl, _, h3, h4, hc⟩
      · subst e; simp at h0
      rcases hm with ⟨_, e⟩ | ⟨b', off', c', rfl, _, h3', h4', hc'⟩
      · subst e; exact absurd hlen h0
      rw [← hlen]
      exact ref10_ints_some l m b off c b' off' c' w hlen (Nat.le_trans h3 h4) hc hc'
  · obtain ⟨ao, c, rfl⟩ := hl.shape
    obtain ⟨bo, d, rfl⟩ := hm.shape
    refine (ref10_ints_len ao bo _ _ c d w hlen).mono fun e w' ⟨he, hw⟩ => ⟨by rw [he]; refine ret_bool (decide_eq_false ?_).symm; intro e; exact hlen (by rw [e]), 0, hw.symm⟩
end Go.Proofs.Ytahlhiiekgnmpaa
