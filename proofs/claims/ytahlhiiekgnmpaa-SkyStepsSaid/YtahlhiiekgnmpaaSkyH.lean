/- The statements' own helpers of layer 10: head (the chapter's examples) and place. -/
import Derived.Test.YtahlhiiekgnmpaaSkyR
namespace Go.Proofs.Ytahlhiiekgnmpaa
open Go.RowKit

theorem sky_tile_at (x y t f : Int) (w : World) (h1 : tileV x y = t) (h2 : errB (vldPos x y) = f) :
    Calls Try.prog 16 #[.agg #[.int .i64 x, .int .i64 y]] w fun e w' => e = .returned (.tuple #[.int .i64 t, .int .i64 f]) ∧ Below w.heap.size w w' := by
  subst h1 h2; exact sky_tile x y w
theorem sky_cell_at (x y t f : Int) (w : World) (h1 : cellV x y = t) (h2 : errB (vldPos x y) = f) :
    Calls Try.prog 18 #[.agg #[.int .i64 x, .int .i64 y]] w fun e w' => e = .returned (.tuple #[.int .i64 t, .int .i64 f]) ∧ Below w.heap.size w w' := by
  subst h1 h2; exact sky_cell x y w
theorem sky_centre_at (a x y f : Int) (w : World) (h0 : centreX a = x) (h1 : centreY a = y) (h2 : errB (isTile a) = f) :
    Calls Try.prog 20 #[.int .i64 a] w fun e w' => e = .returned (.tuple #[.agg #[.int .i64 x, .int .i64 y], .int .i64 f]) ∧ Below w.heap.size w w' := by
  subst h0 h1 h2; exact sky_centre a w
theorem sky_Distance_at (a b t f : Int) (w : World) (h1 : distV a b = t) (h2 : errB (isTile a && isTile b) = f) :
    Calls Try.prog 22 #[.int .i64 a, .int .i64 b] w fun e w' => e = .returned (.tuple #[.int .i64 t, .int .i64 f]) ∧ Below w.heap.size w w' := by
  subst h1 h2; exact sky_Distance a b w
theorem sky_near_at (a r f : Int) (l : List Int) (w : World) (h1 : nearV a r = l) (h2 : errB (nearB a r) = f) :
    Calls Try.prog 24 #[.int .i64 a, .int .i64 r] w fun e w' => ∃ v, e = .returned (.tuple #[v, .int .i64 f]) ∧ IntSlice w' v l ∧ Below w.heap.size w w' := by
  subst h1 h2; exact sky_near a r w

theorem near01 : nearV 0 1 = [0, 1, 31, 32, 33, 63] := by decide +kernel

set_option maxHeartbeats 1000000 in
set_option maxRecDepth 100000 in
theorem sky_head (w : World) : Calls Try.prog 15 #[] w fun e w' => e = .returned (.bool true) ∧ Below w.heap.size w w' := by
  go_enter Try.func15, Try.ntmps15
  go_wp2_with fail
  refine (sky_tile_at 5759 0 31 0 _ (by decide) (by decide)).mono ?_
  rintro e w1 ⟨rfl, b1⟩
  go_wp2_with fail
  refine (sky_tile_at 180 360 65 0 _ (by decide) (by decide)).mono ?_
  rintro e w2 ⟨rfl, hb⟩
  replace b1 := btrans b1 b1.size hb
  clear hb
  go_wp2_with fail
  refine (sky_cell_at 5759 0 1 0 _ (by decide) (by decide)).mono ?_
  rintro e w3 ⟨rfl, hb⟩
  replace b1 := btrans b1 b1.size hb
  clear hb
  go_wp2_with fail
  refine (sky_cell_at 180 450 2 0 _ (by decide) (by decide)).mono ?_
  rintro e w4 ⟨rfl, hb⟩
  replace b1 := btrans b1 b1.size hb
  clear hb
  go_wp2_with fail
  refine (sky_centre_at 65 270 450 0 _ (by decide) (by decide) (by decide)).mono ?_
  rintro e w5 ⟨rfl, hb⟩
  replace b1 := btrans b1 b1.size hb
  clear hb
  go_wp2_with fail
  refine (sky_Distance_at 0 31 1 0 _ (by decide) (by decide)).mono ?_
  rintro e w6 ⟨rfl, hb⟩
  have k0 : w6.cell? ⟨w5.heap.size, 0, none⟩ = some (.int .i64 270) := by rw [(bcell hb).1 _ _ (by simp)]; simp [go_sem]
  have k1 : w6.cell? ⟨w5.heap.size, 1, none⟩ = some (.int .i64 450) := by rw [(bcell hb).1 _ _ (by simp)]; simp [go_sem]
  have z1 : w5.heap.size < w6.heap.size := by have := hb.size; simp at this; omega
  replace b1 := btrans (b1.alloc b1.size _) (by simpa using Nat.le_succ_of_le b1.size) hb
  clear hb
  go_wp2_with fail
  refine (sky_Distance_at 0 16 16 0 _ (by decide) (by decide)).mono ?_
  rintro e w7 ⟨rfl, hb⟩
  replace k0 := ((bcell hb).1 w5.heap.size 0 z1).trans k0
  replace k1 := ((bcell hb).1 w5.heap.size 1 z1).trans k1
  replace z1 := Nat.lt_of_lt_of_le z1 hb.size
  replace b1 := btrans b1 b1.size hb
  clear hb
  go_wp2_with fail
  refine (sky_Distance_at 0 511 15 0 _ (by decide) (by decide)).mono ?_
  rintro e w8 ⟨rfl, hb⟩
  replace k0 := ((bcell hb).1 w5.heap.size 0 z1).trans k0
  replace k1 := ((bcell hb).1 w5.heap.size 1 z1).trans k1
  replace z1 := Nat.lt_of_lt_of_le z1 hb.size
  replace b1 := btrans b1 b1.size hb
  clear hb
  go_wp2_with fail
  refine (sky_near_at 0 1 0 _ _ near01 (by decide)).mono ?_
  rintro e w9 ⟨v, rfl, hv, hb⟩
  replace k0 := ((bcell hb).1 w5.heap.size 0 z1).trans k0
  replace k1 := ((bcell hb).1 w5.heap.size 1 z1).trans k1
  replace z1 := Nat.lt_of_lt_of_le z1 hb.size
  replace b1 := btrans b1 b1.size hb
  clear hb
  have Hv := hide hv
  clear hv
  go_wp2_with fail
  refine (ref10_ints [0, 1, 31, 32, 33, 63] [0, 1, 31, 32, 33, 63] _ _ _ (Hv.out.below ((Below.refl _ _).alloc (Nat.le_refl _) _)) (IntSlice.lit w9 [0, 1, 31, 32, 33, 63] 3 (by decide))).mono ?_
  rintro e w10 ⟨rfl, n, rfl⟩
  have e1 : decide (([0, 1, 31, 32, 33, 63] : List Int) = [0, 1, 31, 32, 33, 63]) = true := by decide
  rw [e1]
  go_wp2_with fail
  go_ret
  exact ⟨rfl, below_drewN (b1.alloc b1.size _) n⟩

/-- place: a valid position out of two small numbers. -/
theorem sky_place (x y : Int) (w : World) (h1 : 0 ≤ x) (h2 : x < 65536) (h3 : 0 ≤ y) (h4 : y < 65536) :
    Calls Try.prog 27 #[.int .u16 x, .int .u16 y] w fun e w' => e = .returned (.agg #[.int .i64 (x % 5760), .int .i64 (y % 2880)]) ∧ Below w.heap.size w w' := by
  go_enter Try.func27, Try.ntmps27
  go_wp2
  refine bodyPost_ret (v := .agg #[.int .i64 (x % 5760), .int .i64 (y % 2880)]) (by simp [results, Try.results27, go_sem]) rfl ⟨rfl, ?_⟩
  exact (Below.refl _ _).alloc (Nat.le_refl _) _
end Go.Proofs.Ytahlhiiekgnmpaa
