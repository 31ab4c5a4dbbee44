/- The reference functions Valid and Allow of layer 40. -/
import Derived.Test.YtahlhiiekgnmpaaPreG
namespace Go.Proofs.Ytahlhiiekgnmpaa
open Go.RowKit

theorem quiet_eq {P : Program} {f : FuncId} {args : Array Value} {w : World} {n : Nat} {v : Value}
    (h : Calls P f args (w.drewN n) fun e w' => e = .returned v ∧ w.drewN n = w') : Calls P f args (w.drewN n) fun e w'' => e = .returned v ∧ ∃ m, w'' = w.drewN m :=
  h.mono fun _ _ ⟨he, hm⟩ => ⟨he, n, hm.symm⟩

theorem quiet_add {P : Program} {f : FuncId} {args : Array Value} {w : World} {a n : Nat} {v : Value}
    (h : Calls P f args (w.drewN (a + n)) fun e w' => e = .returned v ∧ w.drewN (a + n) = w') : Calls P f args (w.drewN (a + n)) fun e w'' => e = .returned v ∧ ∃ m, w'' = w.drewN (a + m) :=
  h.mono fun _ _ ⟨he, hm⟩ => ⟨he, n, hm.symm⟩

/-- The moment before interruption k. -/
def prevAt (l : List IP) : Nat → Int
  | 0 => 0
  | k + 1 => (l.getD k (0, 0)).1
theorem prevAt_succ {l : List IP} {k : Nat} (h : k < l.length) : prevAt l (k + 1) = l[k].1 := by rw [prevAt, getD_at h]

set_option maxHeartbeats 4000000 in
set_option maxRecDepth 100000 in
theorem ref40_valid_some (l : List IP) (b off cap : Nat) (w : World) (hm : l.length ≤ maxLen)
    (hc : ∀ i (h : i < l.length) j u, (vIP l[i])[j]? = some u → w.cell? ⟨b, off + i * 2 + j, none⟩ = some u) :
    Calls Try.prog 65 #[.slice (some ⟨b, off, none⟩) l.length cap] w fun e w' => e = .returned (.bool (vldL l)) ∧ ∃ n, w.drewN n = w' := by
  unfold maxLen at hm
  have Hc := hide hc
  clear hc
  go_enter Try.func65, Try.ntmps65
  go_wp2_with fail
  go_loopw [3] (fun i wr => ∃ (k n : Nat), k ≤ l.length ∧ i = .int .i64 k ∧ vldGo 0 l = vldGo (prevAt l k) (l.drop k) ∧ w.drewN n = wr) (fun i _ => l.length - (intOf i).toNat)
  case atStart => exact ⟨0, 0, Nat.zero_le _, rfl, rfl, rfl⟩
  case round =>
    obtain ⟨k, n, hk, rfl, hv, rfl⟩ := hrel
    have Hv := hide hv
    clear hv
    by_cases hlt : k < l.length
    · obtain ⟨x0, x1⟩ := ip_cells Hc.out hlt
      have hki : (k : Int) < (l.length : Int) := by omega
      have hs := vldGo_step (last := prevAt l k) hlt
      have hpr := prevAt_succ hlt
      obtain ⟨xa, hxa⟩ : ∃ x, l[k].1 = x := ⟨_, rfl⟩
      obtain ⟨xc, hxc⟩ : ∃ x, l[k].2 = x := ⟨_, rfl⟩
      have hok : okX (prevAt l k) l[k] = (inB xa 38399 && inB xc 1000 && decide (prevAt l k ≤ xa)) := by unfold okX; rw [hxa, hxc]
      rw [hxa] at x0 hs hpr
      rw [hxc] at x1
      rw [hok] at hs
      have Hs := hide hs
      have Hpr := hide hpr
      clear hs hok hxa hxc hpr
      rcases Bool.eq_false_or_eq_true (inB xa 38399) with c1 | c1
      · have hx := inB_yes.1 c1
        by_cases c2 : 0 ≤ xc
        · by_cases c3 : xc ≤ 1000
          · have H12 : Hid (inB xc 1000 = true) := inB_yes.2 ⟨c2, c3⟩
            have d2 : decide (xc < 0) = false := by simp; omega
            have d3 : decide (1000 < xc) = false := by simp; omega
            cases k with
            | zero =>
              have x00 : w.cell? ⟨b, off, none⟩ = some (.int .i64 xa) := by simpa using x0
              have x01 : w.cell? ⟨b, off + 1, none⟩ = some (.int .i64 xc) := by simpa using x1
              have HN : Hid (vldGo 0 l = vldGo (prevAt l (0 + 1)) (l.drop (0 + 1))) := by
                show vldGo 0 l = _
                rw [Hv.out, Hs.out, c1, H12.out, Hpr.out, decide_eq_true (show prevAt l 0 ≤ xa from hx.1)]; rfl
              clear x0 x1
              go_wp2_with fail
              go_quiet ((go_at_call 70; first | exact quiet_add (ref40_moment _ _) | exact quiet_eq (ref40_moment _ _)))
              go_wp2_with fail
              go_roundw
              case rel => exact ⟨0 + 1, _, by omega, by go_num, HN.out, rfl⟩
              case measure => simp [intOf]; omega
            | succ p =>
              obtain ⟨z0, _⟩ := ip_cells Hc.out (show p < l.length by omega)
              have hpp := prevAt_succ (l := l) (show p < l.length by omega)
              obtain ⟨za, hza⟩ : ∃ x, l[p].1 = x := ⟨_, rfl⟩
              rw [hza] at z0 hpp
              have Hpp := hide hpp
              clear hza hpp
              have e2 : decide ((0 : Int) < (p : Int) + 1) = true := by simp only [decide_eq_true_eq]; omega
              have e4 : (p : Int) + 1 < (l.length : Int) := by omega
              have e5 : (0 : Int) < (p : Int) + 1 := by omega
              have e6 : (0 : Int) ≤ (p : Int) + 1 := by omega
              have e3 : (p : Int) < (l.length : Int) := by omega
              by_cases c4 : za ≤ xa
              · have d4 : decide (xa < za) = false := by simp; omega
                have HN : Hid (vldGo 0 l = vldGo (prevAt l (p + 1 + 1)) (l.drop (p + 1 + 1))) := by
                  show vldGo 0 l = _
                  rw [Hv.out, Hs.out, c1, H12.out, Hpr.out, decide_eq_true (show prevAt l (p + 1) ≤ xa by rw [Hpp.out]; exact c4)]; rfl
                go_wp2_with fail
                go_quiet ((go_at_call 70; first | exact quiet_add (ref40_moment _ _) | exact quiet_eq (ref40_moment _ _)))
                go_wp2_with fail
                go_roundw
                case rel => exact ⟨p + 1 + 1, _, by omega, by go_num, HN.out, rfl⟩
                case measure => simp [intOf]; omega
              · have d4 : decide (xa < za) = true := by simp; omega
                have H3 : Hid (vldL l = false) := by
                  show vldL l = false
                  unfold vldL
                  rw [Hv.out, Hs.out, decide_eq_false (show ¬ prevAt l (p + 1) ≤ xa by rw [Hpp.out]; exact c4)]; simp
                go_wp2_with fail
                go_quiet ((go_at_call 70; first | exact quiet_add (ref40_moment _ _) | exact quiet_eq (ref40_moment _ _)))
                go_wp2_with fail
                go_ret
                exact ⟨ret_bool H3.out.symm, n + nq, by first | rfl | exact (World.drewN_drewN _ _ _).symm⟩
          · have H3 : Hid (vldL l = false) := by
              show vldL l = false
              unfold vldL
              rw [Hv.out, Hs.out, inB_no.2 (show ¬ (0 ≤ xc ∧ xc ≤ 1000) by omega)]; simp
            have d2 : decide (xc < 0) = false := by simp; omega
            have d3 : decide (1000 < xc) = true := by simp; omega
            go_wp2_with fail
            go_quiet ((go_at_call 70; first | exact quiet_add (ref40_moment _ _) | exact quiet_eq (ref40_moment _ _)))
            go_wp2_with fail
            go_ret
            exact ⟨ret_bool H3.out.symm, n + nq, by first | rfl | exact (World.drewN_drewN _ _ _).symm⟩
        · have H3 : Hid (vldL l = false) := by
            show vldL l = false
            unfold vldL
            rw [Hv.out, Hs.out, inB_no.2 (show ¬ (0 ≤ xc ∧ xc ≤ 1000) by omega)]; simp
          have d2 : decide (xc < 0) = true := by simp; omega
          go_wp2_with fail
          go_quiet ((go_at_call 70; first | exact quiet_add (ref40_moment _ _) | exact quiet_eq (ref40_moment _ _)))
          go_wp2_with fail
          go_ret
          exact ⟨ret_bool H3.out.symm, n + nq, by first | rfl | exact (World.drewN_drewN _ _ _).symm⟩
      · have H3 : Hid (vldL l = false) := by
          show vldL l = false
          unfold vldL
          rw [Hv.out, Hs.out, c1]; simp
        go_wp2_with fail
        go_quiet ((go_at_call 70; first | exact quiet_add (ref40_moment _ _) | exact quiet_eq (ref40_moment _ _)))
        go_wp2_with fail
        go_ret
        exact ⟨ret_bool H3.out.symm, n + nq, by first | rfl | exact (World.drewN_drewN _ _ _).symm⟩
    · have hk' : k = l.length := by omega
      subst hk'
      have hg : Hid (vldL l = decide ((l.length : Int) ≤ 200)) := by
        show vldL l = _
        unfold vldL
        rw [Hv.out, vldGo_end, Bool.true_and]
        exact decide_eq_decide.2 (by omega)
      go_wp2_with fail
      go_ret
      exact ⟨ret_bool hg.out.symm, _, rfl⟩
theorem ref40_valid (l : List IP) (v : Value) (w : World) (h : SliceOf vIP 2 w v l) :
    Calls Try.prog 65 #[v] w fun e w' => e = .returned (.bool (vldL l)) ∧ ∃ n, w.drewN n = w' := by
  rcases h with ⟨ao, rfl, rfl⟩ | ⟨b, off, cap, rfl, hb, h1, h2, hc⟩
  · go_enter Try.func65, Try.ntmps65
    go_wp2_with fail
    go_loop [3] (fun i => i = .int .i64 0) (fun _ => 0)
    case atStart => rfl
    case round =>
      subst hrel
      go_wp2_with fail
      go_ret
      exact ⟨rfl, 0, rfl⟩
  · exact ref40_valid_some l b off cap w (Nat.le_trans h1 h2) hc
end Go.Proofs.Ytahlhiiekgnmpaa
