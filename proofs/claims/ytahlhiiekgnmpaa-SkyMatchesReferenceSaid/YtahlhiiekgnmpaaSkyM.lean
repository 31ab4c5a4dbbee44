/- observatoryref10.Near, and SkyMatchesReference: the walk of the statement. -/
import Derived.Test.YtahlhiiekgnmpaaSkyH
namespace Go.Proofs.Ytahlhiiekgnmpaa
open Go.RowKit

theorem ref10_distance_tiles (a b : Int) (w : World) (h1 : 0 ≤ a) (h2 : a < 512) (h3 : 0 ≤ b) (h4 : b < 512) :
    Calls Try.prog 23 #[.int .i64 a, .int .i64 b] w fun e w' => e = .returned (.tuple #[.int .i64 (distI a b), .int .i64 0]) ∧ w = w' := by
  have ha := isTile_iff.2 ⟨h1, h2⟩
  have hb := isTile_iff.2 ⟨h3, h4⟩
  have := ref10_distance a b w
  unfold distV at this
  rw [ha, hb] at this
  exact this

set_option maxHeartbeats 1000000 in
set_option maxRecDepth 100000 in
theorem ref10_near_ok (a r : Int) (w : World) (ha : isTile a = true) (h1 : 0 ≤ r) (h2 : r < 32) :
    Calls Try.prog 25 #[.int .i64 a, .int .i64 r] w fun e w' => ∃ v, e = .returned (.tuple #[v, .int .i64 0]) ∧ IntSlice w' v (nearK a r 512) ∧ Below w.heap.size w w' := by
  obtain ⟨i0, hi, hz0, hz1, hz2⟩ := info_parts Try.info3
  obtain ⟨a1, a2⟩ := isTile_iff.1 ha
  go_enter Try.func25, Try.ntmps25
  go_wp2_with fail
  refine (ref10_is a _).mono ?_
  rintro e w1 ⟨rfl, rfl⟩
  rw [ha]
  go_wp2_with fail
  go_loopw [6, 7] (fun v i wr => ∃ k : Nat, k ≤ 512 ∧ i = .int .i64 k ∧ wr.ownsRow w.heap.size 3 1 v (nearK a r k).length ((nearK a r k).map (Value.int .i64)) ∧ Below w.heap.size w wr)
    (fun _ i _ => 512 - (intOf i).toNat)
  case atStart => exact ⟨0, Nat.zero_le _, rfl, World.ownsRow_nil _ _ _ _, Below.refl _ _⟩
  case round =>
    obtain ⟨k, hk, rfl, hown, hb⟩ := hrel
    by_cases hlt : k < 512
    · go_wp2_with fail
      refine (ref10_distance_tiles a k _ a1 a2 (by omega) (by omega)).mono ?_
      rintro e w2 ⟨rfl, rfl⟩
      have hlen := nearK_le a r k
      by_cases hd : distI a k ≤ r
      · go_wp2_with (at_builtin; refine wpList_append1 rfl _ _ 31 rfl w.heap.size 3 i0 (.int .i64 0) 1 8 Try.underlying31 hi hz0 hz1 hz2 rfl (by decide) _ _ _ rfl hown #[.int .i64 k] 3 1 rfl rfl ?_ ?_ (by decide) hb.size ?_)
        · first | rfl | (intro u hu; simp at hu; subst hu; rfl)
        · omega
        · intro v' w4 hown4 _ hb4
          have hown5 := near_yes hd hown4
          have hb5 := hb.trans hb4
          clear hown4 hown
          go_wp2
          go_roundw
          case rel => exact ⟨k + 1, by omega, by go_num, hown5, hb5⟩
          case measure => simp [intOf]; omega
      · have hno := nearK_no hd
        rw [← hno] at hown
        have Hno := hide hno
        clear hno
        go_wp2_with fail
        go_roundw
        case rel => exact ⟨k + 1, by omega, by go_num, hown, hb⟩
        case measure => simp [intOf]; omega
    · have hk' : k = 512 := by omega
      subst hk'
      go_wp2_with fail
      go_ret2
      exact ⟨_, rfl, IntSlice.of_owns hown, hb⟩

set_option maxHeartbeats 1000000 in
theorem ref10_near_bad (a r : Int) (w : World) (h : nearB a r = false) :
    Calls Try.prog 25 #[.int .i64 a, .int .i64 r] w fun e w' => e = .returned (.tuple #[.slice none 0 0, .int .i64 1]) ∧ w = w' := by
  by_cases ha : isTile a = true
  · have hr : ¬ (0 ≤ r ∧ r < 32) := by simpa [nearB, ha] using h
    clear h
    by_cases h1 : 0 ≤ r
    · have h2 : 31 < r := by omega
      clear hr
      go_enter Try.func25, Try.ntmps25
      go_wp2_with fail
      refine (ref10_is a _).mono ?_
      rintro e w1 ⟨rfl, rfl⟩
      rw [ha]
      go_wp2_with fail
      go_ret2
      exact ⟨rfl, rfl⟩
    · clear hr
      go_enter Try.func25, Try.ntmps25
      go_wp2_with fail
      refine (ref10_is a _).mono ?_
      rintro e w1 ⟨rfl, rfl⟩
      rw [ha]
      go_wp2_with fail
      go_ret2
      exact ⟨rfl, rfl⟩
  · have ha' : isTile a = false := by simpa using ha
    clear ha h
    go_enter Try.func25, Try.ntmps25
    go_wp2_with fail
    refine (ref10_is a _).mono ?_
    rintro e w1 ⟨rfl, rfl⟩
    rw [ha']
    go_wp2_with fail
    go_ret2
    exact ⟨rfl, rfl⟩

theorem ref10_near (a r : Int) (w : World) :
    Calls Try.prog 25 #[.int .i64 a, .int .i64 r] w fun e w' => ∃ v, e = .returned (.tuple #[v, .int .i64 (errB (nearB a r))]) ∧ IntSlice w' v (nearV a r) ∧ Below w.heap.size w w' := by
  by_cases h : nearB a r = true
  · have h' : (isTile a && decide (0 ≤ r ∧ r < 32)) = true := h
    have h2 : isTile a = true ∧ 0 ≤ r ∧ r < 32 := by simpa using h'
    rw [h]
    unfold nearV
    rw [if_pos h']
    exact ref10_near_ok a r w h2.1 h2.2.1 h2.2.2
  · have h3 : nearB a r = false := by simpa using h
    have h' : ¬ (isTile a && decide (0 ≤ r ∧ r < 32)) = true := h
    rw [h3]
    unfold nearV
    rw [if_neg h']
    exact (ref10_near_bad a r w h3).mono fun e w' ⟨he, hb⟩ => ⟨_, he, .inl ⟨rfl, rfl⟩, hb ▸ Below.refl _ _⟩

set_option maxHeartbeats 2000000 in
set_option maxRecDepth 100000 in
theorem skyMatches_walk (x y a b r : Int) (w : World) :
    Calls Try.prog 3 #[.agg #[.int .i64 x, .int .i64 y], .int .i64 a, .int .i64 b, .int .i64 r] w fun e w' => e = .returned (.bool true) ∧ Below w.heap.size w w' := by
  go_enter Try.func3, Try.ntmps3
  go_wp2_with fail
  refine (sky_head _).mono ?_
  rintro e w1 ⟨rfl, hb⟩
  have c0 : w1.cell? ⟨w.heap.size, 0, none⟩ = some (.int .i64 x) := keep_cell hb (by simp [go_sem])
  have c1 : w1.cell? ⟨w.heap.size, 1, none⟩ = some (.int .i64 y) := keep_cell hb (by simp [go_sem])
  replace hb : Below w.heap.size w w1 := btrans ((Below.refl _ _).alloc (Nat.le_refl _) _) (by simp) hb
  go_wp2_with fail
  refine (sky_tile x y _).mono ?_
  rintro e w2 ⟨rfl, h2⟩
  replace c0 := keep_cell h2 c0
  replace c1 := keep_cell h2 c1
  replace hb := btrans hb hb.size h2
  clear h2
  go_wp2_with fail
  refine (ref10_tile x y _).mono ?_
  rintro e w3 ⟨rfl, h2⟩
  replace c0 := keep_cell h2 c0
  replace c1 := keep_cell h2 c1
  replace hb := btrans hb hb.size h2
  clear h2
  go_wp2_with fail
  refine (sky_cell x y _).mono ?_
  rintro e w4 ⟨rfl, h2⟩
  replace c0 := keep_cell h2 c0
  replace c1 := keep_cell h2 c1
  replace hb := btrans hb hb.size h2
  clear h2
  go_wp2_with fail
  refine (ref10_cell x y _).mono ?_
  rintro e w5 ⟨rfl, h2⟩
  clear c0 c1
  replace hb := btrans hb hb.size h2
  clear h2
  go_wp2_with fail
  refine (sky_centre a _).mono ?_
  rintro e w6 ⟨rfl, h2⟩
  replace hb := btrans hb hb.size h2
  clear h2
  go_wp2_with fail
  refine (ref10_centre a _).mono ?_
  rintro e w7 ⟨rfl, h2⟩
  have c0 : w7.cell? ⟨w6.heap.size, 0, none⟩ = some (.int .i64 (centreX a)) := keep_cell h2 (by simp [go_sem])
  have c1 : w7.cell? ⟨w6.heap.size, 1, none⟩ = some (.int .i64 (centreY a)) := keep_cell h2 (by simp [go_sem])
  replace hb := btrans (hb.alloc hb.size _) (by simpa using Nat.le_succ_of_le hb.size) h2
  clear h2
  go_wp2_with fail
  refine (sky_Distance a b _).mono ?_
  rintro e w8 ⟨rfl, h2⟩
  replace c0 : w8.cell? ⟨w6.heap.size, 0, none⟩ = some (.int .i64 (centreX a)) := keep_cell h2 (by simp [go_sem, c0, World.block_lt_of_cell? _ _ c0])
  replace c1 : w8.cell? ⟨w6.heap.size, 1, none⟩ = some (.int .i64 (centreY a)) := keep_cell h2 (by simp [go_sem, c1, World.block_lt_of_cell? _ _ c1])
  have d0 : w8.cell? ⟨w7.heap.size, 0, none⟩ = some (.int .i64 (centreX a)) := keep_cell h2 (by simp [go_sem])
  have d1 : w8.cell? ⟨w7.heap.size, 1, none⟩ = some (.int .i64 (centreY a)) := keep_cell h2 (by simp [go_sem])
  replace hb := btrans (hb.alloc hb.size _) (by simpa using Nat.le_succ_of_le hb.size) h2
  clear h2
  go_wp2_with fail
  refine (ref10_distance a b _).mono ?_
  rintro e w9 ⟨rfl, rfl⟩
  go_wp2_with fail
  refine (sky_near a r _).mono ?_
  rintro e w10 ⟨v, rfl, hv, h2⟩
  replace c0 := keep_cell h2 c0
  replace c1 := keep_cell h2 c1
  replace d0 := keep_cell h2 d0
  replace d1 := keep_cell h2 d1
  replace hb := btrans hb hb.size h2
  clear h2
  have Hv := hide hv
  clear hv
  go_wp2_with fail
  refine (ref10_near a r _).mono ?_
  rintro e w11 ⟨u, rfl, hu, h2⟩
  have Hv2 := hide (Hv.out.below h2)
  replace c0 := keep_cell h2 c0
  replace c1 := keep_cell h2 c1
  replace d0 := keep_cell h2 d0
  replace d1 := keep_cell h2 d1
  replace hb := btrans hb hb.size h2
  clear h2 Hv
  have Hu := hide hu
  clear hu
  go_wp2_with fail
  refine (ref10_ints (nearV a r) (nearV a r) _ _ _ Hv2.out Hu.out).mono ?_
  rintro e w12 ⟨rfl, n, rfl⟩
  have e1 : decide (nearV a r = nearV a r) = true := by simp
  rw [e1]
  go_wp2_with fail
  go_ret
  exact ⟨rfl, below_drewN hb n⟩
end Go.Proofs.Ytahlhiiekgnmpaa
