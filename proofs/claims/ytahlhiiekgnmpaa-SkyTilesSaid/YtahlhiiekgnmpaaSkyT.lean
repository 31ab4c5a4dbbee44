/- SkyTiles: the walk of the statement. -/
import Derived.Test.YtahlhiiekgnmpaaSkyH
namespace Go.Proofs.Ytahlhiiekgnmpaa
open Go.RowKit

theorem tile_mid (x y qx qy : Int) (h1 : 0 ≤ x) (h2 : x < 5760) (h3 : 0 ≤ y) (h4 : y < 2880) (h5 : 0 ≤ qx) (h6 : qx < 5760) (h7 : 0 ≤ qy) (h8 : qy < 2880) :
    (32 * (y / 180) + x / 180 = 32 * (qy / 180) + qx / 180 ↔ x / 180 = qx / 180 ∧ y / 180 = qy / 180) := by omega

set_option maxHeartbeats 4000000 in
set_option maxRecDepth 100000 in
theorem skyTiles_one (px py qx qy a b c mx my t f t' f' : Int) (w : World) (i j k l : Int) (i0 : 0 ≤ i) (i1 : i < 65536) (j0 : 0 ≤ j) (j1 : j < 65536) (k0 : 0 ≤ k) (k1 : k < 65536) (l0 : 0 ≤ l) (l1 : l < 65536)
    (hpx : Hid (i % 5760 = px)) (hpy : Hid (j % 2880 = py)) (hqx : Hid (k % 5760 = qx)) (hqy : Hid (l % 2880 = qy))
    (h1 : 0 ≤ px) (h2 : px < 5760) (h3 : 0 ≤ py) (h4 : py < 2880) (h5 : 0 ≤ qx) (h6 : qx < 5760) (h7 : 0 ≤ qy) (h8 : qy < 2880)
    (ha : ∀ W, Calls Try.prog 16 #[.agg #[.int .i64 px, .int .i64 py]] W fun e w' => e = .returned (.tuple #[.int .i64 a, .int .i64 0]) ∧ Below W.heap.size W w')
    (hb : ∀ W, Calls Try.prog 16 #[.agg #[.int .i64 qx, .int .i64 qy]] W fun e w' => e = .returned (.tuple #[.int .i64 b, .int .i64 0]) ∧ Below W.heap.size W w')
    (hc : ∀ W, Calls Try.prog 18 #[.agg #[.int .i64 px, .int .i64 py]] W fun e w' => e = .returned (.tuple #[.int .i64 c, .int .i64 0]) ∧ Below W.heap.size W w')
    (hm : ∀ W, Calls Try.prog 20 #[.int .i64 a] W fun e w' => e = .returned (.tuple #[.agg #[.int .i64 mx, .int .i64 my], .int .i64 0]) ∧ Below W.heap.size W w')
    (ht : ∀ W, Calls Try.prog 16 #[.agg #[.int .i64 (px + 180), .int .i64 py]] W fun e w' => e = .returned (.tuple #[.int .i64 t, .int .i64 f]) ∧ Below W.heap.size W w')
    (ht' : ∀ W, Calls Try.prog 16 #[.agg #[.int .i64 px, .int .i64 (py + 180)]] W fun e w' => e = .returned (.tuple #[.int .i64 t', .int .i64 f']) ∧ Below W.heap.size W w')
    (a0 : 0 ≤ a) (a1 : a < 512) (c0 : 0 ≤ c) (c1 : c ≤ 3) (m0 : mx - 90 ≤ px) (m1 : px < mx + 90) (m2 : my - 90 ≤ py) (m3 : py < my + 90) (m4 : mx ≤ 5760) (m5 : my ≤ 2880) (m6 : 0 ≤ mx) (m7 : 0 ≤ my)
    (e1 : (a == b) = (py / 180 == qy / 180)) (e2 : ((px / 180) == (qx / 180)) = true) (e3 : (c % 2 == 0) = decide (px < mx)) (e4 : (c / 2 == 0) = decide (py < my))
    (f0 : px + 180 < 5760 → f = 0) (f1 : px + 180 < 5760 → t = a + 1) (f0' : ¬ px + 180 < 5760 → f = 1) (f2 : py + 180 < 2880 → f' = 0) (f3 : py + 180 < 2880 → t' = a + 32) (f2' : ¬ py + 180 < 2880 → f' = 1) :
    Calls Try.prog 4 #[.int .u16 i, .int .u16 j, .int .u16 k, .int .u16 l] w fun e w' => e = .returned (.bool true) ∧ Below w.heap.size w w' := by
  have Ha := hide ha
  have Hb := hide hb
  have Hc := hide hc
  have Hm := hide hm
  have Ht := hide ht
  have Ht' := hide ht'
  clear ha hb hc hm ht ht'
  go_enter Try.func4, Try.ntmps4
  go_wp2_with fail
  refine (sky_head _).mono ?_
  rintro e w1 ⟨rfl, hw⟩
  go_wp2_with fail
  refine (sky_place i j _ i0 i1 j0 j1).mono ?_
  rintro e w2 ⟨rfl, h⟩
  rw [hpx.out, hpy.out]
  replace hw := btrans hw hw.size h
  clear h
  go_wp2_with fail
  refine (sky_place k l _ k0 k1 l0 l1).mono ?_
  rintro e w3 ⟨rfl, h⟩
  rw [hqx.out, hqy.out]
  replace hw := btrans hw hw.size h
  clear h
  go_wp2_with fail
  refine (Ha.out _).mono ?_
  rintro e w4 ⟨rfl, h⟩
  have p0 : w4.cell? ⟨w3.heap.size, 0, none⟩ = some (.int .i64 px) := keep_cell h (by simp [go_sem])
  have p1 : w4.cell? ⟨w3.heap.size, 1, none⟩ = some (.int .i64 py) := keep_cell h (by simp [go_sem])
  have q0 : w4.cell? ⟨w3.heap.size + 1, 0, none⟩ = some (.int .i64 qx) := keep_cell h (by simp [go_sem])
  have q1 : w4.cell? ⟨w3.heap.size + 1, 1, none⟩ = some (.int .i64 qy) := keep_cell h (by simp [go_sem])
  have fr : w4.frozen? ⟨w3.heap.size, 0, none⟩ = false := by rw [(bcell h).2 _ _ (by simp; omega)]; simp [go_sem]
  have fr' : w4.frozen? ⟨w3.heap.size, 1, none⟩ = false := by rw [(bcell h).2 _ _ (by simp; omega)]; simp [go_sem]
  have z0 : w3.heap.size < w4.heap.size := World.block_lt_of_cell? _ _ p0
  have zq : w3.heap.size + 1 < w4.heap.size := World.block_lt_of_cell? _ _ q0
  have z1 : w.heap.size ≤ w3.heap.size := hw.size
  replace hw := btrans ((hw.alloc hw.size (.cells #[.int .i64 px, .int .i64 py] 23)).alloc (by simp; omega) (.cells #[.int .i64 qx, .int .i64 qy] 23)) (by simp; omega) h
  clear h
  go_wp2_with fail
  refine (Hb.out _).mono ?_
  rintro e w5 ⟨rfl, h⟩
  replace p0 := keep_cell h p0
  replace p1 := keep_cell h p1
  replace q0 := keep_cell h q0
  replace q1 := keep_cell h q1
  replace fr := ((bcell h).2 _ _ z0).trans fr
  replace fr' := ((bcell h).2 _ _ z0).trans fr'
  replace z0 := Nat.lt_of_lt_of_le z0 h.size
  replace zq := Nat.lt_of_lt_of_le zq h.size
  replace hw := btrans hw hw.size h
  clear h
  go_wp2_with fail
  refine (Hc.out _).mono ?_
  rintro e w6 ⟨rfl, h⟩
  replace p0 := keep_cell h p0
  replace p1 := keep_cell h p1
  replace q0 := keep_cell h q0
  replace q1 := keep_cell h q1
  replace fr := ((bcell h).2 _ _ z0).trans fr
  replace fr' := ((bcell h).2 _ _ z0).trans fr'
  replace z0 := Nat.lt_of_lt_of_le z0 h.size
  replace zq := Nat.lt_of_lt_of_le zq h.size
  replace hw := btrans hw hw.size h
  clear h
  go_wp2_with fail
  refine (Hm.out _).mono ?_
  rintro e w7 ⟨rfl, h⟩
  replace p0 := keep_cell h p0
  replace p1 := keep_cell h p1
  replace q0 := keep_cell h q0
  replace q1 := keep_cell h q1
  replace fr := ((bcell h).2 _ _ z0).trans fr
  replace fr' := ((bcell h).2 _ _ z0).trans fr'
  replace z0 := Nat.lt_of_lt_of_le z0 h.size
  replace zq := Nat.lt_of_lt_of_le zq h.size
  replace hw := btrans hw hw.size h
  clear h
  go_wp2_with fail
  refine (Ht.out _).mono ?_
  rintro e w8 ⟨rfl, h⟩
  have p0' : w8.cell? ⟨w3.heap.size, 0, none⟩ = some (.int .i64 (px + 180)) := keep_cell h (by simp [go_sem, p0, z0])
  have p1' : w8.cell? ⟨w3.heap.size, 1, none⟩ = some (.int .i64 py) := keep_cell h (by simp [go_sem, p1, z0])
  have z8 : w8.heap.size ≥ w7.heap.size := by have := h.size; simp at this; omega
  replace fr : w8.frozen? ⟨w3.heap.size, 0, none⟩ = false := by rw [(bcell h).2 _ _ (by simp; omega)]; simp [go_sem, fr, z0]
  replace fr' : w8.frozen? ⟨w3.heap.size, 1, none⟩ = false := by rw [(bcell h).2 _ _ (by simp; omega)]; simp [go_sem, fr', z0]
  replace hw := btrans ((hw.setCell (p := ⟨w3.heap.size, 0, none⟩) z1 (.int .i64 (px + 180))).alloc (by simpa using hw.size) (.cells #[.int .i64 mx, .int .i64 my] 23)) (by have := hw.size; simp; omega) h
  replace z0 : w3.heap.size < w8.heap.size := by omega
  clear p0 p1 q0 q1 h
  have F2 := hide f2
  have F3 := hide f3
  have F2' := hide f2'
  clear f2 f3 f2'
  by_cases hX : px + 180 < 5760
  · have g0 := f0 (by omega)
    have g1 := f1 (by omega)
    subst g0 g1
    clear f0 f1 f0'
    go_wp2_with fail
    refine (Ht'.out _).mono ?_
    rintro e w9 ⟨rfl, h⟩
    have p1 : w9.cell? ⟨w3.heap.size, 1, none⟩ = some (.int .i64 (py + 180)) := keep_cell h (by simp [go_sem, p0', p1'])
    replace hw := btrans ((hw.setCell (p := ⟨w3.heap.size, 0, none⟩) z1 (.int .i64 px)).setCell (p := ⟨w3.heap.size, 1, none⟩) z1 (.int .i64 (py + 180))) (by have := hw.size; simpa using this) h
    clear h p0' p1'
    by_cases hY : py + 180 < 2880
    · have g2 := F2.out (by omega)
      have g3 := F3.out (by omega)
      subst g2 g3
      go_wp2_with fail
      go_ret
      exact ⟨rfl, hw⟩
    · have g2 := F2'.out (by omega)
      subst g2
      go_wp2_with fail
      go_ret
      exact ⟨rfl, hw⟩
  · have g0 := f0' (by omega)
    subst g0
    clear f0 f1 f0'
    go_wp2_with fail
    refine (Ht'.out _).mono ?_
    rintro e w9 ⟨rfl, h⟩
    have p1 : w9.cell? ⟨w3.heap.size, 1, none⟩ = some (.int .i64 (py + 180)) := keep_cell h (by simp [go_sem, p0', p1'])
    replace hw := btrans ((hw.setCell (p := ⟨w3.heap.size, 0, none⟩) z1 (.int .i64 px)).setCell (p := ⟨w3.heap.size, 1, none⟩) z1 (.int .i64 (py + 180))) (by have := hw.size; simpa using this) h
    clear h p0' p1'
    by_cases hY : py + 180 < 2880
    · have g2 := F2.out (by omega)
      have g3 := F3.out (by omega)
      subst g2 g3
      go_wp2_with fail
      go_ret
      exact ⟨rfl, hw⟩
    · have g2 := F2'.out (by omega)
      subst g2
      go_wp2_with fail
      go_ret
      exact ⟨rfl, hw⟩

set_option maxHeartbeats 4000000 in
set_option maxRecDepth 100000 in
theorem skyTiles_two (px py qx qy a b c mx my t f t' f' : Int) (w : World) (i j k l : Int) (i0 : 0 ≤ i) (i1 : i < 65536) (j0 : 0 ≤ j) (j1 : j < 65536) (k0 : 0 ≤ k) (k1 : k < 65536) (l0 : 0 ≤ l) (l1 : l < 65536)
    (hpx : Hid (i % 5760 = px)) (hpy : Hid (j % 2880 = py)) (hqx : Hid (k % 5760 = qx)) (hqy : Hid (l % 2880 = qy))
    (h1 : 0 ≤ px) (h2 : px < 5760) (h3 : 0 ≤ py) (h4 : py < 2880) (h5 : 0 ≤ qx) (h6 : qx < 5760) (h7 : 0 ≤ qy) (h8 : qy < 2880)
    (ha : ∀ W, Calls Try.prog 16 #[.agg #[.int .i64 px, .int .i64 py]] W fun e w' => e = .returned (.tuple #[.int .i64 a, .int .i64 0]) ∧ Below W.heap.size W w')
    (hb : ∀ W, Calls Try.prog 16 #[.agg #[.int .i64 qx, .int .i64 qy]] W fun e w' => e = .returned (.tuple #[.int .i64 b, .int .i64 0]) ∧ Below W.heap.size W w')
    (hc : ∀ W, Calls Try.prog 18 #[.agg #[.int .i64 px, .int .i64 py]] W fun e w' => e = .returned (.tuple #[.int .i64 c, .int .i64 0]) ∧ Below W.heap.size W w')
    (hm : ∀ W, Calls Try.prog 20 #[.int .i64 a] W fun e w' => e = .returned (.tuple #[.agg #[.int .i64 mx, .int .i64 my], .int .i64 0]) ∧ Below W.heap.size W w')
    (ht : ∀ W, Calls Try.prog 16 #[.agg #[.int .i64 (px + 180), .int .i64 py]] W fun e w' => e = .returned (.tuple #[.int .i64 t, .int .i64 f]) ∧ Below W.heap.size W w')
    (ht' : ∀ W, Calls Try.prog 16 #[.agg #[.int .i64 px, .int .i64 (py + 180)]] W fun e w' => e = .returned (.tuple #[.int .i64 t', .int .i64 f']) ∧ Below W.heap.size W w')
    (a0 : 0 ≤ a) (a1 : a < 512) (c0 : 0 ≤ c) (c1 : c ≤ 3) (m0 : mx - 90 ≤ px) (m1 : px < mx + 90) (m2 : my - 90 ≤ py) (m3 : py < my + 90) (m4 : mx ≤ 5760) (m5 : my ≤ 2880) (m6 : 0 ≤ mx) (m7 : 0 ≤ my)
    (e1 : (a == b) = false) (e2 : ((px / 180) == (qx / 180)) = false) (e3 : (c % 2 == 0) = decide (px < mx)) (e4 : (c / 2 == 0) = decide (py < my))
    (f0 : px + 180 < 5760 → f = 0) (f1 : px + 180 < 5760 → t = a + 1) (f0' : ¬ px + 180 < 5760 → f = 1) (f2 : py + 180 < 2880 → f' = 0) (f3 : py + 180 < 2880 → t' = a + 32) (f2' : ¬ py + 180 < 2880 → f' = 1) :
    Calls Try.prog 4 #[.int .u16 i, .int .u16 j, .int .u16 k, .int .u16 l] w fun e w' => e = .returned (.bool true) ∧ Below w.heap.size w w' := by
  have Ha := hide ha
  have Hb := hide hb
  have Hc := hide hc
  have Hm := hide hm
  have Ht := hide ht
  have Ht' := hide ht'
  clear ha hb hc hm ht ht'
  go_enter Try.func4, Try.ntmps4
  go_wp2_with fail
  refine (sky_head _).mono ?_
  rintro e w1 ⟨rfl, hw⟩
  go_wp2_with fail
  refine (sky_place i j _ i0 i1 j0 j1).mono ?_
  rintro e w2 ⟨rfl, h⟩
  rw [hpx.out, hpy.out]
  replace hw := btrans hw hw.size h
  clear h
  go_wp2_with fail
  refine (sky_place k l _ k0 k1 l0 l1).mono ?_
  rintro e w3 ⟨rfl, h⟩
  rw [hqx.out, hqy.out]
  replace hw := btrans hw hw.size h
  clear h
  go_wp2_with fail
  refine (Ha.out _).mono ?_
  rintro e w4 ⟨rfl, h⟩
  have p0 : w4.cell? ⟨w3.heap.size, 0, none⟩ = some (.int .i64 px) := keep_cell h (by simp [go_sem])
  have p1 : w4.cell? ⟨w3.heap.size, 1, none⟩ = some (.int .i64 py) := keep_cell h (by simp [go_sem])
  have q0 : w4.cell? ⟨w3.heap.size + 1, 0, none⟩ = some (.int .i64 qx) := keep_cell h (by simp [go_sem])
  have q1 : w4.cell? ⟨w3.heap.size + 1, 1, none⟩ = some (.int .i64 qy) := keep_cell h (by simp [go_sem])
  have fr : w4.frozen? ⟨w3.heap.size, 0, none⟩ = false := by rw [(bcell h).2 _ _ (by simp; omega)]; simp [go_sem]
  have fr' : w4.frozen? ⟨w3.heap.size, 1, none⟩ = false := by rw [(bcell h).2 _ _ (by simp; omega)]; simp [go_sem]
  have z0 : w3.heap.size < w4.heap.size := World.block_lt_of_cell? _ _ p0
  have zq : w3.heap.size + 1 < w4.heap.size := World.block_lt_of_cell? _ _ q0
  have z1 : w.heap.size ≤ w3.heap.size := hw.size
  replace hw := btrans ((hw.alloc hw.size (.cells #[.int .i64 px, .int .i64 py] 23)).alloc (by simp; omega) (.cells #[.int .i64 qx, .int .i64 qy] 23)) (by simp; omega) h
  clear h
  go_wp2_with fail
  refine (Hb.out _).mono ?_
  rintro e w5 ⟨rfl, h⟩
  replace p0 := keep_cell h p0
  replace p1 := keep_cell h p1
  replace q0 := keep_cell h q0
  replace q1 := keep_cell h q1
  replace fr := ((bcell h).2 _ _ z0).trans fr
  replace fr' := ((bcell h).2 _ _ z0).trans fr'
  replace z0 := Nat.lt_of_lt_of_le z0 h.size
  replace zq := Nat.lt_of_lt_of_le zq h.size
  replace hw := btrans hw hw.size h
  clear h
  go_wp2_with fail
  refine (Hc.out _).mono ?_
  rintro e w6 ⟨rfl, h⟩
  replace p0 := keep_cell h p0
  replace p1 := keep_cell h p1
  replace q0 := keep_cell h q0
  replace q1 := keep_cell h q1
  replace fr := ((bcell h).2 _ _ z0).trans fr
  replace fr' := ((bcell h).2 _ _ z0).trans fr'
  replace z0 := Nat.lt_of_lt_of_le z0 h.size
  replace zq := Nat.lt_of_lt_of_le zq h.size
  replace hw := btrans hw hw.size h
  clear h
  go_wp2_with fail
  refine (Hm.out _).mono ?_
  rintro e w7 ⟨rfl, h⟩
  replace p0 := keep_cell h p0
  replace p1 := keep_cell h p1
  replace q0 := keep_cell h q0
  replace q1 := keep_cell h q1
  replace fr := ((bcell h).2 _ _ z0).trans fr
  replace fr' := ((bcell h).2 _ _ z0).trans fr'
  replace z0 := Nat.lt_of_lt_of_le z0 h.size
  replace zq := Nat.lt_of_lt_of_le zq h.size
  replace hw := btrans hw hw.size h
  clear h
  go_wp2_with fail
  refine (Ht.out _).mono ?_
  rintro e w8 ⟨rfl, h⟩
  have p0' : w8.cell? ⟨w3.heap.size, 0, none⟩ = some (.int .i64 (px + 180)) := keep_cell h (by simp [go_sem, p0, z0])
  have p1' : w8.cell? ⟨w3.heap.size, 1, none⟩ = some (.int .i64 py) := keep_cell h (by simp [go_sem, p1, z0])
  have z8 : w8.heap.size ≥ w7.heap.size := by have := h.size; simp at this; omega
  replace fr : w8.frozen? ⟨w3.heap.size, 0, none⟩ = false := by rw [(bcell h).2 _ _ (by simp; omega)]; simp [go_sem, fr, z0]
  replace fr' : w8.frozen? ⟨w3.heap.size, 1, none⟩ = false := by rw [(bcell h).2 _ _ (by simp; omega)]; simp [go_sem, fr', z0]
  replace hw := btrans ((hw.setCell (p := ⟨w3.heap.size, 0, none⟩) z1 (.int .i64 (px + 180))).alloc (by simpa using hw.size) (.cells #[.int .i64 mx, .int .i64 my] 23)) (by have := hw.size; simp; omega) h
  replace z0 : w3.heap.size < w8.heap.size := by omega
  clear p0 p1 q0 q1 h
  have F2 := hide f2
  have F3 := hide f3
  have F2' := hide f2'
  clear f2 f3 f2'
  by_cases hX : px + 180 < 5760
  · have g0 := f0 (by omega)
    have g1 := f1 (by omega)
    subst g0 g1
    clear f0 f1 f0'
    go_wp2_with fail
    refine (Ht'.out _).mono ?_
    rintro e w9 ⟨rfl, h⟩
    have p1 : w9.cell? ⟨w3.heap.size, 1, none⟩ = some (.int .i64 (py + 180)) := keep_cell h (by simp [go_sem, p0', p1'])
    replace hw := btrans ((hw.setCell (p := ⟨w3.heap.size, 0, none⟩) z1 (.int .i64 px)).setCell (p := ⟨w3.heap.size, 1, none⟩) z1 (.int .i64 (py + 180))) (by have := hw.size; simpa using this) h
    clear h p0' p1'
    by_cases hY : py + 180 < 2880
    · have g2 := F2.out (by omega)
      have g3 := F3.out (by omega)
      subst g2 g3
      go_wp2_with fail
      go_ret
      exact ⟨rfl, hw⟩
    · have g2 := F2'.out (by omega)
      subst g2
      go_wp2_with fail
      go_ret
      exact ⟨rfl, hw⟩
  · have g0 := f0' (by omega)
    subst g0
    clear f0 f1 f0'
    go_wp2_with fail
    refine (Ht'.out _).mono ?_
    rintro e w9 ⟨rfl, h⟩
    have p1 : w9.cell? ⟨w3.heap.size, 1, none⟩ = some (.int .i64 (py + 180)) := keep_cell h (by simp [go_sem, p0', p1'])
    replace hw := btrans ((hw.setCell (p := ⟨w3.heap.size, 0, none⟩) z1 (.int .i64 px)).setCell (p := ⟨w3.heap.size, 1, none⟩) z1 (.int .i64 (py + 180))) (by have := hw.size; simpa using this) h
    clear h p0' p1'
    by_cases hY : py + 180 < 2880
    · have g2 := F2.out (by omega)
      have g3 := F3.out (by omega)
      subst g2 g3
      go_wp2_with fail
      go_ret
      exact ⟨rfl, hw⟩
    · have g2 := F2'.out (by omega)
      subst g2
      go_wp2_with fail
      go_ret
      exact ⟨rfl, hw⟩

theorem tileV_at {x y : Int} (h : vldPos x y = true) : tileV x y = 32 * (y / 180) + x / 180 := by unfold tileV; rw [if_pos h]
theorem cellV_at {x y : Int} (h : vldPos x y = true) : cellV x y = 2 * (y % 180 * 2 / 180) + x % 180 * 2 / 180 := by unfold cellV; rw [if_pos h]
theorem errB_yes {b : Bool} (h : b = true) : errB b = 0 := by rw [h]; rfl
theorem errB_no {b : Bool} (h : b = false) : errB b = 1 := by rw [h]; rfl
theorem beq_of_iff {a b c d : Int} (h : a = b ↔ c = d) : (a == b) = (c == d) := by
  by_cases h' : c = d
  · rw [beq_iff_eq.2 h', beq_iff_eq.2 (h.2 h')]
  · rw [beq_eq_false_iff_ne.2 h', beq_eq_false_iff_ne.2 fun e => h' (h.1 e)]
theorem beq_decide {a b : Int} {p : Prop} [Decidable p] (h : a = b ↔ p) : (a == b) = decide p := by
  by_cases h' : p
  · rw [decide_eq_true h', beq_iff_eq.2 (h.2 h')]
  · rw [decide_eq_false h', beq_eq_false_iff_ne.2 fun e => h' (h.1 e)]

theorem skyTiles_walk (i j k l : Int) (w : World) (i0 : 0 ≤ i) (i1 : i < 65536) (j0 : 0 ≤ j) (j1 : j < 65536) (k0 : 0 ≤ k) (k1 : k < 65536) (l0 : 0 ≤ l) (l1 : l < 65536) :
    Calls Try.prog 4 #[.int .u16 i, .int .u16 j, .int .u16 k, .int .u16 l] w fun e w' => e = .returned (.bool true) ∧ Below w.heap.size w w' := by
  obtain ⟨px, hpx⟩ : ∃ x, i % 5760 = x := ⟨_, rfl⟩
  obtain ⟨py, hpy⟩ : ∃ x, j % 2880 = x := ⟨_, rfl⟩
  obtain ⟨qx, hqx⟩ : ∃ x, k % 5760 = x := ⟨_, rfl⟩
  obtain ⟨qy, hqy⟩ : ∃ x, l % 2880 = x := ⟨_, rfl⟩
  have h1 : 0 ≤ px ∧ px < 5760 := by omega
  have h3 : 0 ≤ py ∧ py < 2880 := by omega
  have h5 : 0 ≤ qx ∧ qx < 5760 := by omega
  have h7 : 0 ≤ qy ∧ qy < 2880 := by omega
  have vp : vldPos px py = true := vldPos_iff.2 ⟨h1.1, h1.2, h3.1, h3.2⟩
  have vq : vldPos qx qy = true := vldPos_iff.2 ⟨h5.1, h5.2, h7.1, h7.2⟩
  have ta := tileV_at vp
  have tb := tileV_at vq
  have tc := cellV_at vp
  have tt : isTile (tileV px py) = true := isTile_iff.2 (by rw [ta]; omega)
  have cx : centreX (tileV px py) = 180 * (px / 180) + 90 := by
    have : centreX (tileV px py) = 180 * (tileV px py % 32) + 90 := by unfold centreX; rw [if_pos tt]
    rw [this, ta]; omega
  have cy : centreY (tileV px py) = 180 * (py / 180) + 90 := by
    have : centreY (tileV px py) = 180 * (tileV px py / 32) + 90 := by unfold centreY; rw [if_pos tt]
    rw [this, ta]; omega
  have t1 : px + 180 < 5760 → errB (vldPos (px + 180) py) = 0 := fun h => errB_yes (vldPos_iff.2 (by omega))
  have t1' : px + 180 < 5760 → tileV (px + 180) py = tileV px py + 1 := fun h => by rw [tileV_at (vldPos_iff.2 (by omega)), ta]; omega
  have t1'' : ¬ px + 180 < 5760 → errB (vldPos (px + 180) py) = 1 := fun h => errB_no (vldPos_no.2 (by omega))
  have t2 : py + 180 < 2880 → errB (vldPos px (py + 180)) = 0 := fun h => errB_yes (vldPos_iff.2 (by omega))
  have t2' : py + 180 < 2880 → tileV px (py + 180) = tileV px py + 32 := fun h => by rw [tileV_at (vldPos_iff.2 (by omega)), ta]; omega
  have t2'' : ¬ py + 180 < 2880 → errB (vldPos px (py + 180)) = 1 := fun h => errB_no (vldPos_no.2 (by omega))
  have mid := tile_mid px py qx qy h1.1 h1.2 h3.1 h3.2 h5.1 h5.2 h7.1 h7.2
  by_cases hs : px / 180 = qx / 180
  · refine skyTiles_one px py qx qy _ _ _ _ _ _ _ _ _ w i j k l i0 i1 j0 j1 k0 k1 l0 l1 hpx hpy hqx hqy h1.1 h1.2 h3.1 h3.2 h5.1 h5.2 h7.1 h7.2 (fun W => sky_tile_at px py _ 0 W rfl (errB_yes vp)) (fun W => sky_tile_at qx qy _ 0 W rfl (errB_yes vq)) (fun W => sky_cell_at px py _ 0 W rfl (errB_yes vp)) (fun W => sky_centre_at _ _ _ 0 W rfl rfl (errB_yes tt)) (fun W => sky_tile_at (px + 180) py _ _ W rfl rfl) (fun W => sky_tile_at px (py + 180) _ _ W rfl rfl)
      ?_ ?_ ?_ ?_ ?_ ?_ ?_ ?_ ?_ ?_ ?_ ?_ ?_ (beq_iff_eq.2 hs) ?_ ?_ t1 t1' t1'' t2 t2' t2''
    any_goals (first | (rw [cx]; omega) | (rw [cy]; omega) | (rw [tc]; omega) | (rw [ta]; omega))
    · refine beq_of_iff ?_
      rw [ta, tb, mid]; omega
    · refine beq_decide ?_
      rw [cx, tc]; omega
    · refine beq_decide ?_
      rw [cy, tc]; omega
  · refine skyTiles_two px py qx qy _ _ _ _ _ _ _ _ _ w i j k l i0 i1 j0 j1 k0 k1 l0 l1 hpx hpy hqx hqy h1.1 h1.2 h3.1 h3.2 h5.1 h5.2 h7.1 h7.2 (fun W => sky_tile_at px py _ 0 W rfl (errB_yes vp)) (fun W => sky_tile_at qx qy _ 0 W rfl (errB_yes vq)) (fun W => sky_cell_at px py _ 0 W rfl (errB_yes vp)) (fun W => sky_centre_at _ _ _ 0 W rfl rfl (errB_yes tt)) (fun W => sky_tile_at (px + 180) py _ _ W rfl rfl) (fun W => sky_tile_at px (py + 180) _ _ W rfl rfl)
      ?_ ?_ ?_ ?_ ?_ ?_ ?_ ?_ ?_ ?_ ?_ ?_ ?_ (beq_eq_false_iff_ne.2 hs) ?_ ?_ t1 t1' t1'' t2 t2' t2''
    any_goals (first | (rw [cx]; omega) | (rw [cy]; omega) | (rw [tc]; omega) | (rw [ta]; omega))
    · refine beq_eq_false_iff_ne.2 ?_
      rw [ta, tb]
      intro e
      exact hs (mid.1 e).1
    · refine beq_decide ?_
      rw [cx, tc]; omega
    · refine beq_decide ?_
      rw [cy, tc]; omega
end Go.Proofs.Ytahlhiiekgnmpaa
