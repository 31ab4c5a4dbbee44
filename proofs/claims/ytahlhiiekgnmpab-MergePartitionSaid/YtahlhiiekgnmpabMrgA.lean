/- Package merge: valid alerts, close alerts, a new set. -/
import Derived.Test.YtahlhiiekgnmpabSkyB
import Derived.Test.YtahlhiiekgnmpabAppend
import Derived.Test.YtahlhiiekgnmpabMaps
set_option linter.unusedVariables false
set_option linter.unusedSimpArgs false
namespace Go.Proofs.Ytahlhiiekgnmpab
open Go.RowKit

/-! ### Plain -/
structure Al where
  tile : Int
  cell : Int
  flt : Int
  val : Int
  at_ : Int
def vAl (a : Al) : List Value := [.int .i64 a.tile, .int .i64 a.cell, .int .i64 a.flt, .int .i64 a.val, .int .i64 a.at_]
theorem vAl_len (a : Al) : (vAl a).length = 5 := rfl
theorem vAl_one (a : Al) : ∀ u ∈ vAl a, u.oneCell' = true := by
  intro u hu
  simp [vAl] at hu
  rcases hu with rfl | rfl | rfl | rfl | rfl <;> rfl
def momB (n : Int) : Bool := decide (0 ≤ n ∧ n ≤ 38399)
def valB (a : Al) : Bool := decide (0 ≤ a.tile ∧ a.tile < 512 ∧ 0 ≤ a.cell ∧ a.cell < 4 ∧ 0 ≤ a.flt ∧ a.flt < 8 ∧ 0 ≤ a.val ∧ a.val ≤ 65535 ∧ 0 ≤ a.at_ ∧ a.at_ ≤ 38399)
theorem valB_iff {a : Al} : valB a = true ↔ 0 ≤ a.tile ∧ a.tile < 512 ∧ 0 ≤ a.cell ∧ a.cell < 4 ∧ 0 ≤ a.flt ∧ a.flt < 8 ∧ 0 ≤ a.val ∧ a.val ≤ 65535 ∧ 0 ≤ a.at_ ∧ a.at_ ≤ 38399 := by
  unfold valB; rw [decide_eq_true_iff]
theorem valB_no {a : Al} : valB a = false ↔ ¬ (0 ≤ a.tile ∧ a.tile < 512 ∧ 0 ≤ a.cell ∧ a.cell < 4 ∧ 0 ≤ a.flt ∧ a.flt < 8 ∧ 0 ≤ a.val ∧ a.val ≤ 65535 ∧ 0 ≤ a.at_ ∧ a.at_ ≤ 38399) := by
  unfold valB; rw [decide_eq_false_iff_not]
theorem momB_iff {n : Int} : momB n = true ↔ 0 ≤ n ∧ n ≤ 38399 := by unfold momB; rw [decide_eq_true_iff]
theorem momB_no {n : Int} : momB n = false ↔ ¬ (0 ≤ n ∧ n ≤ 38399) := by unfold momB; rw [decide_eq_false_iff_not]
def nearB (win : Int) (a b : Al) : Bool := decide (distI a.tile b.tile ≤ 1 ∧ a.flt = b.flt ∧ a.at_ - b.at_ ≤ win ∧ b.at_ - a.at_ ≤ win)
theorem nearB_iff {win : Int} {a b : Al} : nearB win a b = true ↔ distI a.tile b.tile ≤ 1 ∧ a.flt = b.flt ∧ a.at_ - b.at_ ≤ win ∧ b.at_ - a.at_ ≤ win := by unfold nearB; rw [decide_eq_true_iff]
theorem nearB_no {win : Int} {a b : Al} : nearB win a b = false ↔ ¬ (distI a.tile b.tile ≤ 1 ∧ a.flt = b.flt ∧ a.at_ - b.at_ ≤ win ∧ b.at_ - a.at_ ≤ win) := by unfold nearB; rw [decide_eq_false_iff_not]
theorem nearB_symm (win : Int) (a b : Al) : nearB win b a = nearB win a b := by
  unfold nearB
  have h : distI b.tile a.tile = distI a.tile b.tile := by unfold distI absI; omega
  exact decide_eq_decide.2 (by rw [h]; omega)

/-! ### The walks -/
theorem mrg_moment (n : Int) (w : World) : Calls Try.prog 48 #[.int .i64 n] w fun e w' => e = .returned (.bool (momB n)) ∧ w = w' := by
  by_cases h0 : 0 ≤ n
  · by_cases h1 : n ≤ 38399
    · go_enter Try.func48, Try.ntmps48
      go_wp2_with fail
      go_ret
      exact ⟨ret_bool (momB_iff.2 ⟨h0, h1⟩).symm, rfl⟩
    · go_enter Try.func48, Try.ntmps48
      go_wp2_with fail
      go_ret
      exact ⟨ret_bool (momB_no.2 (by omega)).symm, rfl⟩
  · go_enter Try.func48, Try.ntmps48
    go_wp2_with fail
    go_ret
    exact ⟨ret_bool (momB_no.2 (by omega)).symm, rfl⟩
theorem mrg_moment_at (n : Int) (p : Bool) (w : World) (h : momB n = p) : Calls Try.prog 48 #[.int .i64 n] w fun e w' => e = .returned (.bool p) ∧ w = w' := by
  subst h; exact mrg_moment n w

set_option maxHeartbeats 2000000 in
set_option maxRecDepth 100000 in
theorem mrg_valid_at (t c f v a : Int) (w : World) :
    Calls Try.prog 49 #[.agg #[.int .i64 t, .int .i64 c, .int .i64 f, .int .i64 v, .int .i64 a]] w fun e w' => e = .returned (.bool (valB ⟨t, c, f, v, a⟩)) ∧ Below w.heap.size w w' := by
  have hb := hide ((Below.refl w.heap.size w).alloc (Nat.le_refl _) (.cells #[.int .i64 t, .int .i64 c, .int .i64 f, .int .i64 v, .int .i64 a] 57))
  by_cases hlow : 0 ≤ t ∧ t < 512 ∧ 0 ≤ c ∧ c < 4 ∧ 0 ≤ f ∧ f < 8 ∧ 0 ≤ v ∧ v ≤ 65535
  · obtain ⟨h1, h2, h3, h4, h5, h6, h7, h8⟩ := hlow
    have HM : Hid (momB a = valB ⟨t, c, f, v, a⟩) := by
      show momB a = valB _
      unfold momB valB
      exact decide_eq_decide.2 (by simp only; omega)
    go_enter Try.func49, Try.ntmps49
    go_wp2_with fail
    refine (mrg_moment_at a _ _ HM.out).mono ?_
    rintro e w' ⟨rfl, rfl⟩
    go_wp2_with fail
    go_ret
    exact ⟨rfl, hb.out⟩
  · have HF : Hid (valB ⟨t, c, f, v, a⟩ = false) := valB_no.2 (by simp only; omega)
    have H : t < 0 ∨ (0 ≤ t ∧ 512 ≤ t) ∨ (0 ≤ t ∧ t < 512 ∧ c < 0) ∨ (0 ≤ t ∧ t < 512 ∧ 0 ≤ c ∧ 4 ≤ c) ∨ (0 ≤ t ∧ t < 512 ∧ 0 ≤ c ∧ c < 4 ∧ f < 0) ∨ (0 ≤ t ∧ t < 512 ∧ 0 ≤ c ∧ c < 4 ∧ 0 ≤ f ∧ 8 ≤ f) ∨
        (0 ≤ t ∧ t < 512 ∧ 0 ≤ c ∧ c < 4 ∧ 0 ≤ f ∧ f < 8 ∧ v < 0) ∨ (0 ≤ t ∧ t < 512 ∧ 0 ≤ c ∧ c < 4 ∧ 0 ≤ f ∧ f < 8 ∧ 0 ≤ v ∧ 65535 < v) := by omega
    clear hlow
    rcases H with h1 | ⟨h1, h2⟩ | ⟨h1, h2, h3⟩ | ⟨h1, h2, h3, h4⟩ | ⟨h1, h2, h3, h4, h5⟩ | ⟨h1, h2, h3, h4, h5, h6⟩ | ⟨h1, h2, h3, h4, h5, h6, h7⟩ | ⟨h1, h2, h3, h4, h5, h6, h7, h8⟩
    all_goals
      go_enter Try.func49, Try.ntmps49
      go_wp2_with fail
      go_ret
      exact ⟨ret_bool HF.out.symm, hb.out⟩

theorem sky_Distance_ok (a b d : Int) (w : World) (a0 : 0 ≤ a) (a1 : a < 512) (b0 : 0 ≤ b) (b1 : b < 512) (hd : distI a b = d) :
    Calls Try.prog 53 #[.int .i64 a, .int .i64 b] w fun e w' => e = .returned (.tuple #[.int .i64 d, .int .i64 0]) ∧ Below w.heap.size w w' := by
  have h := sky_Distance a b w
  have e1 : distV a b = d := by unfold distV; rw [isTile_iff.2 ⟨a0, a1⟩, isTile_iff.2 ⟨b0, b1⟩]; exact hd
  have e2 : errB (isTile a && isTile b) = 0 := by rw [isTile_iff.2 ⟨a0, a1⟩, isTile_iff.2 ⟨b0, b1⟩]; rfl
  rw [e1, e2] at h
  exact h

set_option maxHeartbeats 2000000 in
theorem mrg_near (x y : Al) (win : Int) (R : Nat) (w : World) (hc : w.cell? ⟨R, 0, none⟩ = some (.int .i64 win)) (hx : valB x = true) (hy : valB y = true) :
    Calls Try.prog 50 #[.pointer (some ⟨R, 0, none⟩), .agg #[.int .i64 x.tile, .int .i64 x.cell, .int .i64 x.flt, .int .i64 x.val, .int .i64 x.at_], .agg #[.int .i64 y.tile, .int .i64 y.cell, .int .i64 y.flt, .int .i64 y.val, .int .i64 y.at_]] w
      fun e w' => e = .returned (.bool (nearB win x y)) ∧ Below w.heap.size w w' := by
  obtain ⟨x1, x2, x3, x4, x5, x6, x7, x8, x9, x10⟩ := valB_iff.1 hx
  obtain ⟨y1, y2, y3, y4, y5, y6, y7, y8, y9, y10⟩ := valB_iff.1 hy
  obtain ⟨t, c, f, v, a⟩ := x
  obtain ⟨t', c', f', v', a'⟩ := y
  simp only at x1 x2 x3 x4 x5 x6 x7 x8 x9 x10 y1 y2 y3 y4 y5 y6 y7 y8 y9 y10
  clear hx hy x3 x4 x7 x8 y3 y4 y7 y8
  have hw1 : IntKind.i64.wrap (a - a') = a - a' := IntWalk.i64_in _ (by omega)
  have hw2 : IntKind.i64.wrap (a' - a) = a' - a := IntWalk.i64_in _ (by omega)
  have hRw := World.block_lt_of_cell? _ _ hc
  have HN : Hid (∀ d, distI t t' = d → nearB win ⟨t, c, f, v, a⟩ ⟨t', c', f', v', a'⟩ = decide (d ≤ 1 ∧ f = f' ∧ a - a' ≤ win ∧ a' - a ≤ win)) := fun d hd => by rw [← hd]; rfl
  obtain ⟨d, hd⟩ : ∃ d, distI t t' = d := ⟨_, rfl⟩
  have HN2 := hide (HN.out d hd)
  have HD := hide hd
  clear hd HN
  have HB0 := hide (bAlloc (bAlloc (Below.refl w.heap.size w) (.cells #[.int .i64 t, .int .i64 c, .int .i64 f, .int .i64 v, .int .i64 a] 57)) (.cells #[.int .i64 t', .int .i64 c', .int .i64 f', .int .i64 v', .int .i64 a'] 57))
  go_enter Try.func50, Try.ntmps50
  go_wp2_with fail
  refine (sky_Distance_ok t t' d _ x1 x2 y1 y2 HD.out).mono ?_
  rintro e w1 ⟨rfl, hb⟩
  have k0 : w1.cell? ⟨R, 0, none⟩ = some (.int .i64 win) := keep_cell (HB0.out.trans (hb.mono HB0.out.size)) hc
  have k1 : w1.cell? ⟨w.heap.size, 2, none⟩ = some (.int .i64 f) := keep_cell hb (by simp [go_sem])
  have k2 : w1.cell? ⟨w.heap.size, 4, none⟩ = some (.int .i64 a) := keep_cell hb (by simp [go_sem])
  have k3 : w1.cell? ⟨w.heap.size + 1, 2, none⟩ = some (.int .i64 f') := keep_cell hb (by simp [go_sem])
  have k4 : w1.cell? ⟨w.heap.size + 1, 4, none⟩ = some (.int .i64 a') := keep_cell hb (by simp [go_sem])
  have B := hide (HB0.out.trans (hb.mono HB0.out.size))
  clear hb hc
  by_cases c1 : d ≤ 1
  · by_cases c2 : f = f'
    · have c2' : (f == f') = true := by rw [c2]; simp
      have HR : Hid (nearB win ⟨t, c, f, v, a⟩ ⟨t', c', f', v', a'⟩ = decide ((if a' - a ≤ a - a' then a - a' else a' - a) ≤ win)) := by
        show nearB _ _ _ = _
        rw [HN2.out]
        exact decide_eq_decide.2 (by split <;> omega)
      clear c2
      by_cases c3 : a' - a ≤ a - a'
      · rw [if_pos c3] at HR
        go_wp2_with fail
        go_quiet (fail)
        go_wp2_with fail
        go_ret
        exact ⟨ret_bool HR.out.symm, below_drewN B.out _⟩
      · rw [if_neg c3] at HR
        go_wp2_with fail
        go_quiet (fail)
        go_wp2_with fail
        go_ret
        exact ⟨ret_bool HR.out.symm, below_drewN B.out _⟩
    · have c2' : (f == f') = false := beq_eq_false_iff_ne.2 c2
      have HR : Hid (nearB win ⟨t, c, f, v, a⟩ ⟨t', c', f', v', a'⟩ = false) := nearB_no.2 (fun h => c2 h.2.1)
      clear c2
      go_wp2_with fail
      go_quiet (fail)
      go_wp2_with fail
      go_ret
      exact ⟨ret_bool HR.out.symm, below_drewN B.out _⟩
  · have c1' : decide (d ≤ 1) = false := decide_eq_false c1
    have HR : Hid (nearB win ⟨t, c, f, v, a⟩ ⟨t', c', f', v', a'⟩ = false) := by
      show nearB _ _ _ = _
      rw [HN2.out]
      exact decide_eq_false (fun h => c1 h.1)
    go_wp2_with fail
    go_quiet (fail)
    go_wp2_with fail
    go_ret
    exact ⟨ret_bool HR.out.symm, below_drewN B.out _⟩
end Go.Proofs.Ytahlhiiekgnmpab
