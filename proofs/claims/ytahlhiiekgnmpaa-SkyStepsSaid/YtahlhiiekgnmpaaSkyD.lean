/- The plain laws on the distances of tiles. -/
import Derived.Test.YtahlhiiekgnmpaaSkyH
namespace Go.Proofs.Ytahlhiiekgnmpaa
open Go.RowKit

theorem distI_symm (a b : Int) : distI b a = distI a b := by unfold distI absI; omega
theorem distI_bounds (a b : Int) (h1 : 0 ≤ a) (h2 : a < 512) (h3 : 0 ≤ b) (h4 : b < 512) : 0 ≤ distI a b ∧ distI a b ≤ 16 := by unfold distI absI; omega
theorem distI_self (a : Int) : distI a a = 0 := by unfold distI absI; omega
theorem distI_ne (a b : Int) (h1 : 0 ≤ a) (h2 : a < 512) (h3 : 0 ≤ b) (h4 : b < 512) (h : a ≠ b) : distI a b ≠ 0 := by unfold distI absI; omega
theorem distI_tri (a b c : Int) (h1 : 0 ≤ a) (h2 : a < 512) (h3 : 0 ≤ b) (h4 : b < 512) (h5 : 0 ≤ c) (h6 : c < 512) : distI a b ≤ distI a c + distI c b := by
  unfold distI
  generalize a / 32 = x, b / 32 = y, c / 32 = z
  have p1 : 0 ≤ a % 32 ∧ a % 32 < 32 := by omega
  have p2 : 0 ≤ b % 32 ∧ b % 32 < 32 := by omega
  have p3 : 0 ≤ c % 32 ∧ c % 32 < 32 := by omega
  generalize a % 32 = p at *
  generalize b % 32 = q at *
  generalize c % 32 = r at *
  have e1 : absI (x - y) ≤ absI (x - z) + absI (z - y) := by unfold absI; omega
  have e2 : min (absI (p - q)) (32 - absI (p - q)) ≤ min (absI (p - r)) (32 - absI (p - r)) + min (absI (r - q)) (32 - absI (r - q)) := by unfold absI; omega
  omega
/-- A tile moved by some columns around the sky. -/
def movedI (t b : Int) : Int := t / 32 * 32 + (t % 32 + b) % 32
theorem movedI_tile (t b : Int) (h1 : 0 ≤ t) (h2 : t < 512) : 0 ≤ movedI t b ∧ movedI t b < 512 := by unfold movedI; omega
theorem distI_moved (a b k : Int) (h1 : 0 ≤ a) (h2 : a < 512) (h3 : 0 ≤ b) (h4 : b < 512) : distI (movedI a k) (movedI b k) = distI a b := by
  have e1 : movedI a k / 32 = a / 32 := by unfold movedI; omega
  have e2 : movedI b k / 32 = b / 32 := by unfold movedI; omega
  have e3 : movedI a k % 32 = (a % 32 + k) % 32 := by unfold movedI; omega
  have e4 : movedI b k % 32 = (b % 32 + k) % 32 := by unfold movedI; omega
  unfold distI
  rw [e1, e2, e3, e4]
  congr 1
  unfold absI
  omega

theorem distV_tiles {a b : Int} (h1 : 0 ≤ a) (h2 : a < 512) (h3 : 0 ≤ b) (h4 : b < 512) : distV a b = distI a b ∧ errB (isTile a && isTile b) = 0 := by
  have ha := isTile_iff.2 ⟨h1, h2⟩
  have hb := isTile_iff.2 ⟨h3, h4⟩
  unfold distV
  rw [ha, hb]
  exact ⟨rfl, rfl⟩
/-- Distance, at two tiles, its value under a name. -/
theorem sky_Distance_is (a b d : Int) (w : World) (h1 : 0 ≤ a) (h2 : a < 512) (h3 : 0 ≤ b) (h4 : b < 512) (hd : Hid (distI a b = d)) :
    Calls Try.prog 22 #[.int .i64 a, .int .i64 b] w fun e w' => e = .returned (.tuple #[.int .i64 d, .int .i64 0]) ∧ Below w.heap.size w w' := by
  obtain ⟨e1, e2⟩ := distV_tiles h1 h2 h3 h4
  exact sky_Distance_at a b d 0 w (e1.trans hd.out) e2

theorem sky_moved (t k : Int) (b : Nat) (w : World) (h1 : 0 ≤ t) (h2 : t < 512) (h3 : 0 ≤ k) (h4 : k < 256) (hc : w.cell? ⟨b, 0, none⟩ = some (.int .u8 k)) :
    Calls Try.prog 28 #[.int .i64 t, .pointer (some ⟨b, 0, none⟩)] w fun e w' => e = .returned (.int .i64 (movedI t k)) ∧ w = w' := by
  go_enter Try.func28, Try.ntmps28
  go_wp2
  go_ret
  exact ⟨ret_int (by unfold movedI; omega), rfl⟩

set_option maxHeartbeats 1000000 in
set_option maxRecDepth 100000 in
theorem skyDistances_walk (i j k b : Int) (w : World) (i0 : 0 ≤ i) (i1 : i < 65536) (j0 : 0 ≤ j) (j1 : j < 65536) (k0 : 0 ≤ k) (k1 : k < 65536) (b0 : 0 ≤ b) (b1 : b < 256) :
    Calls Try.prog 5 #[.int .u16 i, .int .u16 j, .int .u16 k, .int .u8 b] w fun e w' => e = .returned (.bool true) ∧ Below w.heap.size w w' := by
  obtain ⟨ab, hab⟩ : ∃ x, distI (i % 512) (j % 512) = x := ⟨_, rfl⟩
  obtain ⟨ac, hac⟩ : ∃ x, distI (i % 512) (k % 512) = x := ⟨_, rfl⟩
  obtain ⟨cb, hcb⟩ : ∃ x, distI (k % 512) (j % 512) = x := ⟨_, rfl⟩
  have hm := distI_moved (i % 512) (j % 512) b (by omega) (by omega) (by omega) (by omega)
  have ht := distI_tri (i % 512) (j % 512) (k % 512) (by omega) (by omega) (by omega) (by omega) (by omega) (by omega)
  have hs := distI_symm (i % 512) (j % 512)
  have n1 := distI_bounds (i % 512) (j % 512) (by omega) (by omega) (by omega) (by omega)
  have n2 := distI_bounds (i % 512) (k % 512) (by omega) (by omega) (by omega) (by omega)
  have n3 := distI_bounds (k % 512) (j % 512) (by omega) (by omega) (by omega) (by omega)
  have m1 := movedI_tile (i % 512) b (by omega) (by omega)
  have m2 := movedI_tile (j % 512) b (by omega) (by omega)
  have hz : i % 512 ≠ j % 512 → ab ≠ 0 := fun h => hab ▸ distI_ne (i % 512) (j % 512) (by omega) (by omega) (by omega) (by omega) h
  have hz' : i % 512 = j % 512 → ab = 0 := fun h => by rw [← hab, h]; exact distI_self _
  rw [hab] at hm hs ht n1
  rw [hac] at ht n2
  rw [hcb] at ht n3
  have Hab := hide hab
  have Hac := hide hac
  have Hcb := hide hcb
  have Hm := hide hm
  have Hs := hide hs
  clear hab hac hcb hm hs
  by_cases he : i % 512 = j % 512
  · have h0 := hz' he
    have he1 : ((i % 512) == (j % 512)) = true := beq_iff_eq.2 he
    have h01 : (ab == 0) = true := beq_iff_eq.2 h0
    clear hz hz' he h0
    go_enter Try.func5, Try.ntmps5
    go_wp2_with fail
    refine (sky_head _).mono ?_
    rintro e w1 ⟨rfl, hb⟩
    have c0 : w1.cell? ⟨w.heap.size, 0, none⟩ = some (.int .u8 b) := keep_cell hb (by simp [go_sem])
    replace hb : Below w.heap.size w w1 := btrans ((Below.refl _ _).alloc (Nat.le_refl _) _) (by simp) hb
    go_wp2_with fail
    refine (sky_Distance_is _ _ ab _ (by omega) (by omega) (by omega) (by omega) Hab).mono ?_
    rintro e w2 ⟨rfl, h2⟩
    replace c0 := keep_cell h2 c0
    replace hb := btrans hb hb.size h2
    clear h2
    go_wp2_with fail
    refine (sky_Distance_is _ _ ab _ (by omega) (by omega) (by omega) (by omega) Hs).mono ?_
    rintro e w3 ⟨rfl, h2⟩
    replace c0 := keep_cell h2 c0
    replace hb := btrans hb hb.size h2
    clear h2
    go_wp2_with fail
    refine (sky_Distance_is _ _ ac _ (by omega) (by omega) (by omega) (by omega) Hac).mono ?_
    rintro e w4 ⟨rfl, h2⟩
    replace c0 := keep_cell h2 c0
    replace hb := btrans hb hb.size h2
    clear h2
    go_wp2_with fail
    refine (sky_Distance_is _ _ cb _ (by omega) (by omega) (by omega) (by omega) Hcb).mono ?_
    rintro e w5 ⟨rfl, h2⟩
    replace c0 := keep_cell h2 c0
    replace hb := btrans hb hb.size h2
    clear h2
    go_wp2_with fail
    refine (sky_moved _ b _ _ (by omega) (by omega) b0 b1 c0).mono ?_
    rintro e w6 ⟨rfl, rfl⟩
    go_wp2_with fail
    refine (sky_moved _ b _ _ (by omega) (by omega) b0 b1 c0).mono ?_
    rintro e w6 ⟨rfl, rfl⟩
    go_wp2_with fail
    refine (sky_Distance_is _ _ ab _ m1.1 m1.2 m2.1 m2.2 Hm).mono ?_
    rintro e w6 ⟨rfl, h2⟩
    replace hb := btrans hb hb.size h2
    clear h2
    go_wp2_with fail
    go_ret
    exact ⟨rfl, hb⟩
  · have h0 := hz he
    have he1 : ((i % 512) == (j % 512)) = false := beq_eq_false_iff_ne.2 he
    have h01 : (ab == 0) = false := beq_eq_false_iff_ne.2 h0
    clear hz hz' he h0
    go_enter Try.func5, Try.ntmps5
    go_wp2_with fail
    refine (sky_head _).mono ?_
    rintro e w1 ⟨rfl, hb⟩
    have c0 : w1.cell? ⟨w.heap.size, 0, none⟩ = some (.int .u8 b) := keep_cell hb (by simp [go_sem])
    replace hb : Below w.heap.size w w1 := btrans ((Below.refl _ _).alloc (Nat.le_refl _) _) (by simp) hb
    go_wp2_with fail
    refine (sky_Distance_is _ _ ab _ (by omega) (by omega) (by omega) (by omega) Hab).mono ?_
    rintro e w2 ⟨rfl, h2⟩
    replace c0 := keep_cell h2 c0
    replace hb := btrans hb hb.size h2
    clear h2
    go_wp2_with fail
    refine (sky_Distance_is _ _ ab _ (by omega) (by omega) (by omega) (by omega) Hs).mono ?_
    rintro e w3 ⟨rfl, h2⟩
    replace c0 := keep_cell h2 c0
    replace hb := btrans hb hb.size h2
    clear h2
    go_wp2_with fail
    refine (sky_Distance_is _ _ ac _ (by omega) (by omega) (by omega) (by omega) Hac).mono ?_
    rintro e w4 ⟨rfl, h2⟩
    replace c0 := keep_cell h2 c0
    replace hb := btrans hb hb.size h2
    clear h2
    go_wp2_with fail
    refine (sky_Distance_is _ _ cb _ (by omega) (by omega) (by omega) (by omega) Hcb).mono ?_
    rintro e w5 ⟨rfl, h2⟩
    replace c0 := keep_cell h2 c0
    replace hb := btrans hb hb.size h2
    clear h2
    go_wp2_with fail
    refine (sky_moved _ b _ _ (by omega) (by omega) b0 b1 c0).mono ?_
    rintro e w6 ⟨rfl, rfl⟩
    go_wp2_with fail
    refine (sky_moved _ b _ _ (by omega) (by omega) b0 b1 c0).mono ?_
    rintro e w6 ⟨rfl, rfl⟩
    go_wp2_with fail
    refine (sky_Distance_is _ _ ab _ m1.1 m1.2 m2.1 m2.2 Hm).mono ?_
    rintro e w6 ⟨rfl, h2⟩
    replace hb := btrans hb hb.size h2
    clear h2
    go_wp2_with fail
    go_ret
    exact ⟨rfl, hb⟩
end Go.Proofs.Ytahlhiiekgnmpaa
