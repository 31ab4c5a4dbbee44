/- natural: compare; the closures of add, sub, times. -/
import Derived.Test.YtbojlmnajndleaaGreatDoorNatA
set_option linter.unusedVariables false
set_option linter.unusedSimpArgs false
namespace Go.Proofs.YtbojlmnajndleaaGreatDoor
open Go.RowKit

theorem cmp_len_lt {a b : Nat} (h : (lim a).length < (lim b).length) : (-1 : Int) = cmpN a b := (cmpN_lt (lim_len_lt h)).symm
theorem cmp_len_gt {a b : Nat} (h : (lim b).length < (lim a).length) : (1 : Int) = cmpN a b := (cmpN_gt (lim_len_lt h)).symm
theorem cmp_drop_lt {a b i : Nat} (h1 : i < (lim a).length) (h2 : i < (lim b).length) (e : (lim a).drop (i + 1) = (lim b).drop (i + 1)) (h : (lim a)[i] < (lim b)[i]) : (-1 : Int) = cmpN a b := by
  have := drop_lt (lim_Lm a) h1 h2 e h
  rw [lval_lim, lval_lim] at this
  exact (cmpN_lt this).symm
theorem cmp_drop_gt {a b i : Nat} (h1 : i < (lim a).length) (h2 : i < (lim b).length) (e : (lim a).drop (i + 1) = (lim b).drop (i + 1)) (h : (lim b)[i] < (lim a)[i]) : (1 : Int) = cmpN a b := by
  have := drop_lt (lim_Lm b) h2 h1 e.symm h
  rw [lval_lim, lval_lim] at this
  exact (cmpN_gt this).symm
theorem cmp_all {a b : Nat} (e : (lim a).drop 0 = (lim b).drop 0) : (0 : Int) = cmpN a b := by
  have : lval (lim a) = lval (lim b) := by simpa using congrArg lval e
  rw [lval_lim, lval_lim] at this
  rw [this, cmpN_eq]
theorem drop_same {l m : List Nat} {i : Nat} (h1 : i < l.length) (h2 : i < m.length) (e : l.drop (i + 1) = m.drop (i + 1)) (h : l[i] = m[i]) : l.drop i = m.drop i := by
  rw [List.drop_eq_getElem_cons h1, List.drop_eq_getElem_cons h2, e, h]

def CmpPost (w : World) (a b : Nat) (e : Ending) (w' : World) : Prop := e = .returned (.int .i64 (cmpN a b)) ∧ ∃ m, w.drewN m = w'
theorem cmp_post {w : World} {a b : Nat} {x : Int} {m : Nat} (h : x = cmpN a b) : CmpPost w a b (.returned (.int .i64 x)) (w.drewN m) := ⟨by rw [h], m, rfl⟩
theorem cmp_post0 {w : World} {a b : Nat} {x : Int} (h : x = cmpN a b) : CmpPost w a b (.returned (.int .i64 x)) w := ⟨by rw [h], 0, rfl⟩

set_option maxHeartbeats 800000 in
theorem compare_any (a b : Nat) (u v : Value) (w : World) (hu : SliceOf vN 1 w u (lim a)) (hv : SliceOf vN 1 w v (lim b)) (ha : (lim a).length ≤ 1000000) (hb : (lim b).length ≤ 1000000) :
    Calls Tryz.prog 66 #[u, v] w (CmpPost w a b) := by
  have HA : ∀ k (h : k < (lim a).length), ∃ bb off cap, u = .slice (some ⟨bb, off, none⟩) (lim a).length cap ∧ w.cell? ⟨bb, off + k, none⟩ = some (.int .i64 ((lim a)[k] : Int)) := fun k h => by
    obtain ⟨bb, off, cap, e, _, _, _, hc⟩ := hu.some_of_pos (by omega)
    exact ⟨bb, off, cap, e, nat_cell hc h⟩
  have HB : ∀ k (h : k < (lim b).length), ∃ bb off cap, v = .slice (some ⟨bb, off, none⟩) (lim b).length cap ∧ w.cell? ⟨bb, off + k, none⟩ = some (.int .i64 ((lim b)[k] : Int)) := fun k h => by
    obtain ⟨bb, off, cap, e, _, _, _, hc⟩ := hv.some_of_pos (by omega)
    exact ⟨bb, off, cap, e, nat_cell hc h⟩
  have HHA := hide HA
  have HHB := hide HB
  obtain ⟨ao, cp, rfl⟩ := hu.shape
  obtain ⟨ao', cp', rfl⟩ := hv.shape
  clear hu hv HA HB
  rcases Nat.lt_trichotomy (lim a).length (lim b).length with hlt | heq | hgt
  · have H := hide (cmp_len_lt hlt)
    have h1 : ((lim a).length : Int) < ((lim b).length : Int) := by omega
    have h2 : (((lim a).length : Int) != ((lim b).length : Int)) = true := by simp; omega
    have h3 : (((lim a).length : Int) == ((lim b).length : Int)) = false := by simp; omega
    have h4 : ((lim a).length == (lim b).length) = false := by simp; omega
    have h5 : ((lim a).length != (lim b).length) = true := by simp; omega
    have h6 : decide ((lim a).length < (lim b).length) = true := by simp; omega
    clear HHA HHB hlt
    go_enter Tryz.func66, Tryz.ntmps66
    go_wp2_with fail
    go_ret
    exact cmp_post0 H.out
  · rw [heq]
    obtain ⟨n, hm⟩ : ∃ n, (lim b).length = n := ⟨_, rfl⟩
    have HN : Hid ((lim a).length = n) := heq.trans hm
    have HM := hide hm
    rw [hm] at hb ⊢
    clear hm heq ha
    have hnn : ((n : Int) == (n : Int)) = true := by simp
    have hnm : ((n : Int) != (n : Int)) = false := by simp
    have hs : IntKind.i64.wrap ((n : Int) - 1) = (n : Int) - 1 := IntWalk.i64_in _ (by omega)
    have H0 : Hid ((lim a).drop n = (lim b).drop n) := by
      show _ = _
      rw [List.drop_eq_nil_of_le (by have := HN.out; omega), List.drop_eq_nil_of_le (by have := HM.out; omega)]
    go_enter Tryz.func66, Tryz.ntmps66
    go_wp2_with fail
    clear hs
    go_loopw [5] (fun i wx => ∃ k m : Nat, k ≤ n ∧ i = .int .i64 ((k : Int) - 1) ∧ wx = w.drewN m ∧ (lim a).drop k = (lim b).drop k) (fun i _ => (intOf i + 1).toNat)
    case atStart => exact ⟨n, 0, Nat.le_refl _, rfl, rfl, H0.out⟩
    case round =>
      obtain ⟨k, m, hk, rfl, rfl, hd⟩ := hrel
      have HD := hide hd
      clear hd H0
      by_cases hk0 : 0 < k
      · obtain ⟨j, rfl⟩ : ∃ j, k = j + 1 := ⟨k - 1, by omega⟩
        obtain ⟨b1, o1, cp1, e1, c1⟩ := HHA.out j (by have := HN.out; omega)
        obtain ⟨b2, o2, cp2, e2, c2⟩ := HHB.out j (by have := HM.out; omega)
        simp only [Value.slice.injEq] at e1 e2
        obtain ⟨rfl, _, rfl⟩ := e1
        obtain ⟨rfl, _, rfl⟩ := e2
        have hj1 : (j : Int) < (n : Int) := by omega
        have hj0 : (0 : Int) ≤ (j : Int) := by omega
        have hjc : ((j + 1 : Nat) : Int) - 1 = (j : Int) := by omega
        rw [hjc]
        have hjn : j < (lim a).length := by have := HN.out; omega
        have hjm : j < (lim b).length := by have := HM.out; omega
        obtain ⟨x, hx⟩ : ∃ x, (lim a)[j] = x := ⟨_, rfl⟩
        obtain ⟨y, hy⟩ : ∃ x, (lim b)[j] = x := ⟨_, rfl⟩
        have HX := hide hx
        have HY := hide hy
        rw [hx] at c1
        rw [hy] at c2
        clear hx hy
        rcases Nat.lt_trichotomy x y with hlt | heq | hgt
        · have H := hide (cmp_drop_lt hjn hjm HD.out (by rw [HX.out, HY.out]; exact hlt))
          have q1 : ((x : Int) != (y : Int)) = true := by simp; omega
          have q2 : ((x : Int) == (y : Int)) = false := by simp; omega
          have q3 : (x == y) = false := by simp; omega
          have q4 : (x : Int) < (y : Int) := by omega
          clear hlt
          go_wp2_with fail
          go_quiet (fail)
          go_wp2_with fail
          go_quiet (fail)
          go_wp2_with fail
          go_ret
          first | exact cmp_post H.out | (simp only [World.drewN_drewN]; exact cmp_post H.out)
        · subst heq
          have H := hide (drop_same hjn hjm HD.out (by rw [HX.out, HY.out]))
          have q1 : ((x : Int) != (x : Int)) = false := by simp
          have q2 : ((x : Int) == (x : Int)) = true := by simp
          have q3 : (x == x) = true := by simp
          have q5 : IntKind.i64.wrap ((j : Int) - 1) = (j : Int) - 1 := IntWalk.i64_in _ (by omega)
          go_wp2_with fail
          go_quiet (fail)
          go_wp2_with fail
          go_roundw
          case rel => exact ⟨j, _, by omega, rfl, by first | rfl | exact World.drewN_drewN _ _ _, H.out⟩
          case measure => (simp [intOf]; try omega)
        · have H := hide (cmp_drop_gt hjn hjm HD.out (by rw [HX.out, HY.out]; exact hgt))
          have q1 : ((x : Int) != (y : Int)) = true := by simp; omega
          have q2 : ((x : Int) == (y : Int)) = false := by simp; omega
          have q3 : (x == y) = false := by simp; omega
          have q4 : (y : Int) ≤ (x : Int) := by omega
          have q5 : ¬ (x : Int) < (y : Int) := by omega
          clear hgt
          go_wp2_with fail
          go_quiet (fail)
          go_wp2_with fail
          go_quiet (fail)
          go_wp2_with fail
          go_ret
          first | exact cmp_post H.out | (simp only [World.drewN_drewN]; exact cmp_post H.out)
      · obtain rfl : k = 0 := by omega
        have H := hide (cmp_all HD.out)
        go_wp2_with fail
        go_ret
        exact cmp_post H.out
  · have H := hide (cmp_len_gt hgt)
    have h1 : ((lim b).length : Int) < ((lim a).length : Int) := by omega
    have h2 : (((lim a).length : Int) != ((lim b).length : Int)) = true := by simp; omega
    have h3 : (((lim a).length : Int) == ((lim b).length : Int)) = false := by simp; omega
    have h4 : ((lim a).length == (lim b).length) = false := by simp; omega
    have h5 : ((lim a).length != (lim b).length) = true := by simp; omega
    have h6 : decide ((lim a).length < (lim b).length) = false := by simp; omega
    clear HHA HHB hgt
    go_enter Tryz.func66, Tryz.ntmps66
    go_wp2_with fail
    go_ret
    exact cmp_post0 H.out

set_option maxHeartbeats 400000 in
set_option maxRecDepth 100000 in
theorem addf_any (l m : List Nat) (u v : Value) (i c1 c2 : Nat) (w : World) (hu : SliceOf vN 1 w u l) (hv : SliceOf vN 1 w v m) (hl : l.length ≤ 1000000) (hm : m.length ≤ 1000000) (hi : i ≤ 1000000) (hL : Lm l) (hM : Lm m)
    (h1 : w.cell? ⟨c1, 0, none⟩ = some u) (h2 : w.cell? ⟨c2, 0, none⟩ = some v) :
    Calls Tryz.prog 108 #[.int .i64 (i : Int), .pointer (some ⟨c1, 0, none⟩), .pointer (some ⟨c2, 0, none⟩)] w fun e w' => e = .returned (.int .i64 (limbN l i + limbN m i)) ∧ ∃ n, w.drewN n = w' := by
  have q1 := limbN_bd hL i
  have q2 := limbN_bd hM i
  have q3 : IntKind.i64.wrap (limbN l i + limbN m i) = limbN l i + limbN m i := IntWalk.i64_in _ (by omega)
  have HU := hide hu
  have HV := hide hv
  clear hu hv hL hM
  go_enter Tryz.func108, Tryz.ntmps108
  go_wp2_with fail
  go_quiet ((go_at_call 89; exact qt_same (limb_any _ _ i _ (by first | exact HU.out.below (below_drewN (Below.refl _ _) _) | exact HV.out.below (below_drewN (Below.refl _ _) _)) (by first | exact hl | exact hm) hi)))
  go_wp2_with fail
  go_ret
  exact ⟨rfl, _, rfl⟩

set_option maxHeartbeats 400000 in
set_option maxRecDepth 100000 in
theorem subf_any (l m : List Nat) (u v : Value) (i c1 c2 : Nat) (w : World) (hu : SliceOf vN 1 w u l) (hv : SliceOf vN 1 w v m) (hl : l.length ≤ 1000000) (hm : m.length ≤ 1000000) (hi : i < l.length) (hL : Lm l) (hM : Lm m)
    (h1 : w.cell? ⟨c1, 0, none⟩ = some u) (h2 : w.cell? ⟨c2, 0, none⟩ = some v) :
    Calls Tryz.prog 88 #[.int .i64 (i : Int), .pointer (some ⟨c1, 0, none⟩), .pointer (some ⟨c2, 0, none⟩)] w fun e w' => e = .returned (.int .i64 (limbN l i - limbN m i)) ∧ ∃ n, w.drewN n = w' := by
  have q1 := limbN_bd hL i
  have q2 := limbN_bd hM i
  have q3 : IntKind.i64.wrap (limbN l i - limbN m i) = limbN l i - limbN m i := IntWalk.i64_in _ (by omega)
  obtain ⟨b, off, cap, rfl, _, _, _, hc⟩ := hu.some_of_pos (by omega)
  have c0 := nat_cell hc hi
  rw [← limbN_in hi] at c0
  have HV := hide hv
  have hi0 : (0 : Int) ≤ (i : Int) := by omega
  have hi1 : (i : Int) < (l.length : Int) := by omega
  have hi2 : i ≤ 1000000 := by omega
  clear hu hv hL hM hc
  go_enter Tryz.func88, Tryz.ntmps88
  go_wp2_with fail
  go_quiet ((go_at_call 89; exact qt_same (limb_any m v i _ (HV.out.below (below_drewN (Below.refl _ _) _)) hm hi2)))
  go_wp2_with fail
  go_ret
  exact ⟨rfl, _, rfl⟩

set_option maxHeartbeats 400000 in
set_option maxRecDepth 100000 in
theorem timesf_any (l : List Nat) (u : Value) (q : Nat) (i c1 c2 : Nat) (w : World) (hu : SliceOf vN 1 w u l) (hl : l.length ≤ 1000000) (hi : i ≤ 1000000) (hL : Lm l) (hq : q < 1000000000)
    (h1 : w.cell? ⟨c1, 0, none⟩ = some (.int .i64 (q : Int))) (h2 : w.cell? ⟨c2, 0, none⟩ = some u) :
    Calls Tryz.prog 117 #[.int .i64 (i : Int), .pointer (some ⟨c1, 0, none⟩), .pointer (some ⟨c2, 0, none⟩)] w fun e w' => e = .returned (.int .i64 ((q : Int) * limbN l i)) ∧ ∃ n, w.drewN n = w' := by
  have q1 := limbN_bd hL i
  have q3 : IntKind.i64.wrap ((q : Int) * limbN l i) = (q : Int) * limbN l i := by
    have h3 : 0 ≤ (q : Int) * limbN l i := Int.mul_nonneg (by omega) q1.1
    have h4 : (q : Int) * limbN l i ≤ 1000000000 * 1000000000 := Int.mul_le_mul (by omega) (by omega) q1.1 (by omega)
    exact IntWalk.i64_in _ (by omega)
  have HU := hide hu
  clear hu hL
  go_enter Tryz.func117, Tryz.ntmps117
  go_wp2_with fail
  go_quiet ((go_at_call 89; exact qt_same (limb_any l u i _ (HU.out.below (below_drewN (Below.refl _ _) _)) hl hi)))
  go_wp2_with fail
  go_ret
  exact ⟨rfl, _, rfl⟩
end Go.Proofs.YtbojlmnajndleaaGreatDoor
