/- law 18: the reference's small functions. -/
import Derived.Test.YtlagoiaiodjmhaaGreatDoorDeT
set_option linter.unusedVariables false
set_option linter.unusedSimpArgs false
namespace Go.Proofs.YtlagoiaiodjmhaaGreatDoor
open Go.RowKit

theorem slice_litD {α : Type} {f : α → List Value} {size : Nat} (hf : ∀ a, (f a).length = size) (w : World) (l : List α) (T : TypeId) (h : l.length ≤ maxLen) {s n : Nat} (hs : w.heap.size = s) (hn : l.length = n) {cs : Array Value} (hc : (flatV f l).toArray = cs) : SliceOf f size (w.alloc (.cells cs T)) (.slice (some ⟨s, 0, none⟩) n n) l := by
  subst hs hn hc
  exact slice_lit hf w l T h

set_option maxRecDepth 100000 in
theorem r18_within (n lo hi : Int) (w : World) : Calls Tryz.prog 31 #[.int .i64 n, .int .i64 lo, .int .i64 hi] w fun e w' => e = .returned (.bool (decide (lo ≤ n) && decide (n ≤ hi))) ∧ w' = w := by
  by_cases h1 : lo ≤ n
  · have d1 : decide (lo ≤ n) = true := decide_eq_true h1
    go_enter Tryz.func31, Tryz.ntmps31
    go_wp2_with fail
    go_ret
    exact ⟨by rw [d1, Bool.true_and]; rfl, rfl⟩
  · have d1 : decide (lo ≤ n) = false := decide_eq_false h1
    go_enter Tryz.func31, Tryz.ntmps31
    go_wp2_with fail
    go_ret
    exact ⟨by first | rfl | (rw [d1, Bool.false_and]; rfl), rfl⟩
set_option maxRecDepth 100000 in
theorem r9_is (n : Int) (w : World) : Calls Tryz.prog 30 #[.int .i64 n] w fun e w' => e = .returned (.bool (decide ((0 : Int) ≤ n) && decide (n ≤ 38399))) ∧ w' = w := by
  by_cases h1 : (0 : Int) ≤ n
  · have d1 : decide ((0 : Int) ≤ n) = true := decide_eq_true h1
    go_enter Tryz.func30, Tryz.ntmps30
    go_wp2_with fail
    go_ret
    exact ⟨by rw [d1, Bool.true_and]; rfl, rfl⟩
  · have d1 : decide ((0 : Int) ≤ n) = false := decide_eq_false h1
    go_enter Tryz.func30, Tryz.ntmps30
    go_wp2_with fail
    go_ret
    exact ⟨by first | rfl | (rw [d1, Bool.false_and]; rfl), rfl⟩
set_option maxHeartbeats 2000000 in
set_option maxRecDepth 100000 in
theorem r18_cal (k t f : Int) (w : World) : Calls Tryz.prog 51 #[.int .i64 k, .int .i64 t, .int .i64 f] w fun e w' => e = .returned (.bool (clsB k t f)) ∧ w' = w := by
  have HW := hide (fun n lo hi W => r18_within n lo hi W)
  obtain ⟨p, hp⟩ : ∃ p, (decide ((0 : Int) ≤ t) && decide (t ≤ 5)) = p := ⟨_, rfl⟩
  have HP := hide hp
  have HC : Hid (clsB k t f = (p && (if k = 1 then decide (f = -1) else if k = 2 ∨ k = 3 then decide (0 ≤ f) && decide (f ≤ 7) else false))) := by show _ = _; unfold clsB; rw [hp]
  rw [HC.out]
  clear hp HC
  cases p with
  | false =>
    rw [Bool.false_and]
    go_enter Tryz.func51, Tryz.ntmps51
    go_wp2_with fail
    refine (HW.out _ _ _ _).mono ?_
    rintro e w1 ⟨rfl, rfl⟩
    have hp := HP.out
    rw [hp]
    clear hp
    go_wp2_with fail
    go_ret
    exact ⟨rfl, rfl⟩
  | true =>
    by_cases k1 : k = 1
    · subst k1
      rw [if_pos rfl, Bool.true_and]
      go_enter Tryz.func51, Tryz.ntmps51
      go_wp2_with fail
      refine (HW.out _ _ _ _).mono ?_
      rintro e w1 ⟨rfl, rfl⟩
      have hp := HP.out
      rw [hp]
      clear hp
      go_wp2_with fail
      go_ret
      refine ⟨?_, rfl⟩
      first | rfl | (show Ending.returned (.bool (f == -1)) = _; congr 2)
    · by_cases k2 : k = 2 ∨ k = 3
      · rw [if_neg k1, if_pos k2, Bool.true_and]
        have e1 : (k == 1) = false := beq_eq_false_iff_ne.2 k1
        rcases k2 with rfl | rfl
        · skip
          go_enter Tryz.func51, Tryz.ntmps51
          go_wp2_with fail
          refine (HW.out _ _ _ _).mono ?_
          rintro e w1 ⟨rfl, rfl⟩
          have hp := HP.out
          rw [hp]
          clear hp
          go_wp2_with fail
          refine (HW.out _ _ _ _).mono ?_
          rintro e w2 ⟨rfl, rfl⟩
          go_wp2_with fail
          go_ret
          exact ⟨rfl, rfl⟩
        · skip
          go_enter Tryz.func51, Tryz.ntmps51
          go_wp2_with fail
          refine (HW.out _ _ _ _).mono ?_
          rintro e w1 ⟨rfl, rfl⟩
          have hp := HP.out
          rw [hp]
          clear hp
          go_wp2_with fail
          refine (HW.out _ _ _ _).mono ?_
          rintro e w2 ⟨rfl, rfl⟩
          go_wp2_with fail
          go_ret
          exact ⟨rfl, rfl⟩
      · rw [if_neg k1, if_neg k2, Bool.and_false]
        have e1 : (k == 1) = false := beq_eq_false_iff_ne.2 k1
        have e2 : (k == 2) = false := beq_eq_false_iff_ne.2 (fun e => k2 (.inl e))
        have e3 : (k == 3) = false := beq_eq_false_iff_ne.2 (fun e => k2 (.inr e))
        go_enter Tryz.func51, Tryz.ntmps51
        go_wp2_with fail
        refine (HW.out _ _ _ _).mono ?_
        rintro e w1 ⟨rfl, rfl⟩
        have hp := HP.out
        rw [hp]
        clear hp
        go_wp2_with fail
        go_ret
        exact ⟨rfl, rfl⟩
set_option maxHeartbeats 4000000 in
set_option maxRecDepth 100000 in
theorem r18_fits (d : Db) (p : Py) (m : Int) (w : World) : Calls Tryz.prog 35 #[.agg #[.int .i64 d.kd, .int .i64 d.tl, .int .i64 d.fl, .int .i64 d.fr, .int .i64 d.un, .int .i64 d.pr], .agg #[.int .i64 p.kd, .int .i64 p.tl, .int .i64 p.fl, .int .i64 p.mo], .int .i64 m] w fun e w' => e = .returned (.bool (fitB d p m)) ∧ Below w.heap.size w w' := by
  have hD := DbC.new w d 47
  have HB := hide (bAlloc (bAlloc (Below.refl w.heap.size w) (.cells #[.int .i64 d.kd, .int .i64 d.tl, .int .i64 d.fl, .int .i64 d.fr, .int .i64 d.un, .int .i64 d.pr] 47)) (.cells #[.int .i64 p.kd, .int .i64 p.tl, .int .i64 p.fl, .int .i64 p.mo] 49))
  obtain ⟨x0, x1, x2, x3, x4, x5⟩ := hD.keep (bAlloc (Below.refl _ (w.alloc (.cells #[.int .i64 d.kd, .int .i64 d.tl, .int .i64 d.fl, .int .i64 d.fr, .int .i64 d.un, .int .i64 d.pr] 47))) (.cells #[.int .i64 p.kd, .int .i64 p.tl, .int .i64 p.fl, .int .i64 p.mo] 49))
  obtain ⟨y0, y1, y2, y3⟩ := PyC.new_at (w.alloc (.cells #[.int .i64 d.kd, .int .i64 d.tl, .int .i64 d.fl, .int .i64 d.fr, .int .i64 d.un, .int .i64 d.pr] 47)) p 49 (b := w.heap.size + 1) (by simp [go_sem])
  simp only [Nat.zero_add] at x1 x2 x3 x4 x5 y1 y2 y3
  clear hD
  by_cases h0 : d.kd = p.kd
  · have e0 : (d.kd == p.kd) = true := by rw [h0]; simp
    by_cases h1 : d.tl = p.tl
    · have e1 : (d.tl == p.tl) = true := by rw [h1]; simp
      by_cases h2 : d.fl = p.fl
      · have e2 : (d.fl == p.fl) = true := by rw [h2]; simp
        by_cases h3 : d.fr ≤ p.mo
        · have e3 : decide (d.fr ≤ p.mo) = true := decide_eq_true h3
          by_cases h4 : p.mo ≤ d.un
          · have e4 : decide (p.mo ≤ d.un) = true := decide_eq_true h4
            by_cases h5 : p.mo ≤ m
            · have e5 : decide (p.mo ≤ m) = true := decide_eq_true h5
              have hF : fitB d p m = true := by unfold fitB; rw [decide_eq_true ⟨h0, h1, h2⟩, decide_eq_true h3, decide_eq_true (show p.mo ≤ min d.un m by omega)]; rfl
              rw [hF]
              clear hF h0 h1 h2 h3 h4 h5
              go_enter Tryz.func35, Tryz.ntmps35
              go_wp2_with fail
              go_ret
              exact ⟨rfl, HB.out⟩
            · have e5 : decide (p.mo ≤ m) = false := decide_eq_false h5
              have hF : fitB d p m = false := by unfold fitB; rw [decide_eq_false (show ¬ p.mo ≤ min d.un m by omega), Bool.and_false, Bool.and_false]
              rw [hF]
              clear hF h0 h1 h2 h3 h4 h5
              go_enter Tryz.func35, Tryz.ntmps35
              go_wp2_with fail
              go_ret
              exact ⟨rfl, HB.out⟩
          · have e4 : decide (p.mo ≤ d.un) = false := decide_eq_false h4
            have hF : fitB d p m = false := by unfold fitB; rw [decide_eq_false (show ¬ p.mo ≤ min d.un m by omega), Bool.and_false, Bool.and_false]
            rw [hF]
            clear hF h0 h1 h2 h3 h4
            go_enter Tryz.func35, Tryz.ntmps35
            go_wp2_with fail
            go_ret
            exact ⟨rfl, HB.out⟩
        · have e3 : decide (d.fr ≤ p.mo) = false := decide_eq_false h3
          have hF : fitB d p m = false := by unfold fitB; rw [decide_eq_false h3, Bool.false_and, Bool.and_false]
          rw [hF]
          clear hF h0 h1 h2 h3
          go_enter Tryz.func35, Tryz.ntmps35
          go_wp2_with fail
          go_ret
          exact ⟨rfl, HB.out⟩
      · have e2 : (d.fl == p.fl) = false := by simpa using h2
        have hF : fitB d p m = false := by unfold fitB; rw [decide_eq_false (fun e => h2 e.2.2), Bool.false_and]
        rw [hF]
        clear hF h0 h1 h2
        go_enter Tryz.func35, Tryz.ntmps35
        go_wp2_with fail
        go_ret
        exact ⟨rfl, HB.out⟩
    · have e1 : (d.tl == p.tl) = false := by simpa using h1
      have hF : fitB d p m = false := by unfold fitB; rw [decide_eq_false (fun e => h1 e.2.1), Bool.false_and]
      rw [hF]
      clear hF h0 h1
      go_enter Tryz.func35, Tryz.ntmps35
      go_wp2_with fail
      go_ret
      exact ⟨rfl, HB.out⟩
  · have e0 : (d.kd == p.kd) = false := by simpa using h0
    have hF : fitB d p m = false := by unfold fitB; rw [decide_eq_false (fun e => h0 e.1), Bool.false_and]
    rw [hF]
    clear hF h0
    go_enter Tryz.func35, Tryz.ntmps35
    go_wp2_with fail
    go_ret
    exact ⟨rfl, HB.out⟩
def fewD (n k : Nat) : Bool := decide ((n ≤ 12 ∨ (1000 ≤ n ∧ n ≤ 1002)) ∧ (k ≤ 12 ∨ (1000 ≤ k ∧ k ≤ 1002)) ∧ n + k ≤ 1020)
set_option maxHeartbeats 4000000 in
set_option maxRecDepth 100000 in
theorem r18_few (n k c1 c2 : Nat) (a1 a2 : Option Addr) (w : World) : Calls Tryz.prog 10 #[.slice a1 n c1, .slice a2 k c2] w fun e w' => e = .returned (.bool (fewD n k)) ∧ w' = w := by
  by_cases h0 : n ≤ 12
  · have e0 : decide ((n : Int) ≤ 12) = true := decide_eq_true (by omega)
    by_cases h3 : k ≤ 12
    · have e3 : decide ((k : Int) ≤ 12) = true := decide_eq_true (by omega)
      by_cases h6 : n + k ≤ 1020
      · have e6 : decide ((n : Int) + (k : Int) ≤ 1020) = true := decide_eq_true (by omega)
        have hF : fewD n k = true := decide_eq_true (by omega)
        have hs : IntKind.i64.wrap ((n : Int) + (k : Int)) = (n : Int) + (k : Int) := IntWalk.i64_in _ (by omega)
        rw [hF]
        clear hF
        go_enter Tryz.func10, Tryz.ntmps10
        go_wp2_with fail
        go_ret
        exact ⟨rfl, rfl⟩
      · have e6 : decide ((n : Int) + (k : Int) ≤ 1020) = false := decide_eq_false (by omega)
        have hF : fewD n k = false := decide_eq_false (by omega)
        have hs : IntKind.i64.wrap ((n : Int) + (k : Int)) = (n : Int) + (k : Int) := IntWalk.i64_in _ (by omega)
        rw [hF]
        clear hF
        go_enter Tryz.func10, Tryz.ntmps10
        go_wp2_with fail
        go_ret
        exact ⟨rfl, rfl⟩
    · have e3 : decide ((k : Int) ≤ 12) = false := decide_eq_false (by omega)
      by_cases h4 : 1000 ≤ k
      · have e4 : decide ((1000 : Int) ≤ (k : Int)) = true := decide_eq_true (by omega)
        by_cases h5 : k ≤ 1002
        · have e5 : decide ((k : Int) ≤ 1002) = true := decide_eq_true (by omega)
          by_cases h6 : n + k ≤ 1020
          · have e6 : decide ((n : Int) + (k : Int) ≤ 1020) = true := decide_eq_true (by omega)
            have hF : fewD n k = true := decide_eq_true (by omega)
            have hs : IntKind.i64.wrap ((n : Int) + (k : Int)) = (n : Int) + (k : Int) := IntWalk.i64_in _ (by omega)
            rw [hF]
            clear hF
            go_enter Tryz.func10, Tryz.ntmps10
            go_wp2_with fail
            go_ret
            exact ⟨rfl, rfl⟩
          · have e6 : decide ((n : Int) + (k : Int) ≤ 1020) = false := decide_eq_false (by omega)
            have hF : fewD n k = false := decide_eq_false (by omega)
            have hs : IntKind.i64.wrap ((n : Int) + (k : Int)) = (n : Int) + (k : Int) := IntWalk.i64_in _ (by omega)
            rw [hF]
            clear hF
            go_enter Tryz.func10, Tryz.ntmps10
            go_wp2_with fail
            go_ret
            exact ⟨rfl, rfl⟩
        · have e5 : decide ((k : Int) ≤ 1002) = false := decide_eq_false (by omega)
          have hF : fewD n k = false := decide_eq_false (by omega)
          rw [hF]
          clear hF
          go_enter Tryz.func10, Tryz.ntmps10
          go_wp2_with fail
          go_ret
          exact ⟨rfl, rfl⟩
      · have e4 : decide ((1000 : Int) ≤ (k : Int)) = false := decide_eq_false (by omega)
        have hF : fewD n k = false := decide_eq_false (by omega)
        rw [hF]
        clear hF
        go_enter Tryz.func10, Tryz.ntmps10
        go_wp2_with fail
        go_ret
        exact ⟨rfl, rfl⟩
  · have e0 : decide ((n : Int) ≤ 12) = false := decide_eq_false (by omega)
    by_cases h1 : 1000 ≤ n
    · have e1 : decide ((1000 : Int) ≤ (n : Int)) = true := decide_eq_true (by omega)
      by_cases h2 : n ≤ 1002
      · have e2 : decide ((n : Int) ≤ 1002) = true := decide_eq_true (by omega)
        by_cases h3 : k ≤ 12
        · have e3 : decide ((k : Int) ≤ 12) = true := decide_eq_true (by omega)
          by_cases h6 : n + k ≤ 1020
          · have e6 : decide ((n : Int) + (k : Int) ≤ 1020) = true := decide_eq_true (by omega)
            have hF : fewD n k = true := decide_eq_true (by omega)
            have hs : IntKind.i64.wrap ((n : Int) + (k : Int)) = (n : Int) + (k : Int) := IntWalk.i64_in _ (by omega)
            rw [hF]
            clear hF
            go_enter Tryz.func10, Tryz.ntmps10
            go_wp2_with fail
            go_ret
            exact ⟨rfl, rfl⟩
          · have e6 : decide ((n : Int) + (k : Int) ≤ 1020) = false := decide_eq_false (by omega)
            have hF : fewD n k = false := decide_eq_false (by omega)
            have hs : IntKind.i64.wrap ((n : Int) + (k : Int)) = (n : Int) + (k : Int) := IntWalk.i64_in _ (by omega)
            rw [hF]
            clear hF
            go_enter Tryz.func10, Tryz.ntmps10
            go_wp2_with fail
            go_ret
            exact ⟨rfl, rfl⟩
        · have e3 : decide ((k : Int) ≤ 12) = false := decide_eq_false (by omega)
          by_cases h4 : 1000 ≤ k
          · have e4 : decide ((1000 : Int) ≤ (k : Int)) = true := decide_eq_true (by omega)
            by_cases h5 : k ≤ 1002
            · have e5 : decide ((k : Int) ≤ 1002) = true := decide_eq_true (by omega)
              by_cases h6 : n + k ≤ 1020
              · have e6 : decide ((n : Int) + (k : Int) ≤ 1020) = true := decide_eq_true (by omega)
                have hF : fewD n k = true := decide_eq_true (by omega)
                have hs : IntKind.i64.wrap ((n : Int) + (k : Int)) = (n : Int) + (k : Int) := IntWalk.i64_in _ (by omega)
                rw [hF]
                clear hF
                go_enter Tryz.func10, Tryz.ntmps10
                go_wp2_with fail
                go_ret
                exact ⟨rfl, rfl⟩
              · have e6 : decide ((n : Int) + (k : Int) ≤ 1020) = false := decide_eq_false (by omega)
                have hF : fewD n k = false := decide_eq_false (by omega)
                have hs : IntKind.i64.wrap ((n : Int) + (k : Int)) = (n : Int) + (k : Int) := IntWalk.i64_in _ (by omega)
                rw [hF]
                clear hF
                go_enter Tryz.func10, Tryz.ntmps10
                go_wp2_with fail
                go_ret
                exact ⟨rfl, rfl⟩
            · have e5 : decide ((k : Int) ≤ 1002) = false := decide_eq_false (by omega)
              have hF : fewD n k = false := decide_eq_false (by omega)
              rw [hF]
              clear hF
              go_enter Tryz.func10, Tryz.ntmps10
              go_wp2_with fail
              go_ret
              exact ⟨rfl, rfl⟩
          · have e4 : decide ((1000 : Int) ≤ (k : Int)) = false := decide_eq_false (by omega)
            have hF : fewD n k = false := decide_eq_false (by omega)
            rw [hF]
            clear hF
            go_enter Tryz.func10, Tryz.ntmps10
            go_wp2_with fail
            go_ret
            exact ⟨rfl, rfl⟩
      · have e2 : decide ((n : Int) ≤ 1002) = false := decide_eq_false (by omega)
        have hF : fewD n k = false := decide_eq_false (by omega)
        rw [hF]
        clear hF
        go_enter Tryz.func10, Tryz.ntmps10
        go_wp2_with fail
        go_ret
        exact ⟨rfl, rfl⟩
    · have e1 : decide ((1000 : Int) ≤ (n : Int)) = false := decide_eq_false (by omega)
      have hF : fewD n k = false := decide_eq_false (by omega)
      rw [hF]
      clear hF
      go_enter Tryz.func10, Tryz.ntmps10
      go_wp2_with fail
      go_ret
      exact ⟨rfl, rfl⟩
set_option maxHeartbeats 8000000 in
set_option maxRecDepth 100000 in
theorem r18_owe (f : Fr) (w : World) (b : Bool) (hb : oweB f = b) : Calls Tryz.prog 12 #[vFr f] w fun e w' =>
    ∃ u, e = .returned (.tuple #[u, .int .i64 (oweE b)]) ∧ SliceOf vDb 6 w' u (oweR f b) ∧ Below w.heap.size w w' := by
  have HW := hide (fun n lo hi W => r18_within n lo hi W)
  have HIS := hide (fun n W => r9_is n W)
  have HBA := hide (bAlloc (Below.refl w.heap.size w) (.cells #[.int .i64 f.mo, .int .i64 f.tl, .int .i64 f.pr, .int .i64 f.ti, .int .i64 f.fl, .int .i64 f.r0, .int .i64 f.r1, .int .i64 f.r2, .int .i64 f.r3] 25))
  have c0 : (w.alloc (.cells #[.int .i64 f.mo, .int .i64 f.tl, .int .i64 f.pr, .int .i64 f.ti, .int .i64 f.fl, .int .i64 f.r0, .int .i64 f.r1, .int .i64 f.r2, .int .i64 f.r3] 25)).cell? ⟨w.heap.size, 0, none⟩ = some (.int .i64 f.mo) := by simp [go_sem]
  have c1 : (w.alloc (.cells #[.int .i64 f.mo, .int .i64 f.tl, .int .i64 f.pr, .int .i64 f.ti, .int .i64 f.fl, .int .i64 f.r0, .int .i64 f.r1, .int .i64 f.r2, .int .i64 f.r3] 25)).cell? ⟨w.heap.size, 1, none⟩ = some (.int .i64 f.tl) := by simp [go_sem]
  have c2 : (w.alloc (.cells #[.int .i64 f.mo, .int .i64 f.tl, .int .i64 f.pr, .int .i64 f.ti, .int .i64 f.fl, .int .i64 f.r0, .int .i64 f.r1, .int .i64 f.r2, .int .i64 f.r3] 25)).cell? ⟨w.heap.size, 2, none⟩ = some (.int .i64 f.pr) := by simp [go_sem]
  have c4 : (w.alloc (.cells #[.int .i64 f.mo, .int .i64 f.tl, .int .i64 f.pr, .int .i64 f.ti, .int .i64 f.fl, .int .i64 f.r0, .int .i64 f.r1, .int .i64 f.r2, .int .i64 f.r3] 25)).cell? ⟨w.heap.size, 4, none⟩ = some (.int .i64 f.fl) := by simp [go_sem]
  obtain ⟨p1, hp1⟩ : ∃ p, (decide ((0 : Int) ≤ f.mo) && decide (f.mo ≤ 38399)) = p := ⟨_, rfl⟩
  obtain ⟨p2, hp2⟩ : ∃ p, (decide ((0 : Int) ≤ f.tl) && decide (f.tl ≤ 5)) = p := ⟨_, rfl⟩
  obtain ⟨p3, hp3⟩ : ∃ p, (decide ((0 : Int) ≤ f.pr) && decide (f.pr ≤ 63)) = p := ⟨_, rfl⟩
  obtain ⟨p4, hp4⟩ : ∃ p, (decide ((0 : Int) ≤ f.fl) && decide (f.fl ≤ 7)) = p := ⟨_, rfl⟩
  have HB : Hid ((p1 && p3 && (p2 && p4)) = b) := by show _ = _; rw [← hb]; unfold oweB clsB; rw [hp1, hp2, hp3, if_neg (by decide), if_pos (.inl rfl), hp4]
  have HP1 := hide hp1
  have HP2 := hide hp2
  have HP3 := hide hp3
  have HP4 := hide hp4
  clear hp1 hp2 hp3 hp4 hb
  unfold vFr
  cases p1 with
  | false =>
    obtain rfl : b = false := by rw [← HB.out]; simp
    clear HB
    go_enter Tryz.func12, Tryz.ntmps12
    go_wp2_with fail
    refine (HIS.out _ _).mono ?_
    rintro e w1 ⟨rfl, rfl⟩
    have hp := HP1.out
    rw [hp]
    clear hp
    go_wp2_with fail
    go_ret2
    exact ⟨_, rfl, .inl ⟨none, rfl, rfl⟩, HBA.out⟩
  | true =>
    cases p2 with
    | false =>
      obtain rfl : b = false := by rw [← HB.out]; simp
      clear HB
      go_enter Tryz.func12, Tryz.ntmps12
      go_wp2_with fail
      refine (HIS.out _ _).mono ?_
      rintro e w1 ⟨rfl, rfl⟩
      have hp := HP1.out
      rw [hp]
      clear hp
      go_wp2_with fail
      refine (HW.out _ _ _ _).mono ?_
      rintro e w1 ⟨rfl, rfl⟩
      have hp := HP2.out
      rw [hp]
      clear hp
      go_wp2_with fail
      go_ret2
      exact ⟨_, rfl, .inl ⟨none, rfl, rfl⟩, HBA.out⟩
    | true =>
      cases p3 with
      | false =>
        obtain rfl : b = false := by rw [← HB.out]; simp
        clear HB
        go_enter Tryz.func12, Tryz.ntmps12
        go_wp2_with fail
        refine (HIS.out _ _).mono ?_
        rintro e w1 ⟨rfl, rfl⟩
        have hp := HP1.out
        rw [hp]
        clear hp
        go_wp2_with fail
        refine (HW.out _ _ _ _).mono ?_
        rintro e w1 ⟨rfl, rfl⟩
        have hp := HP2.out
        rw [hp]
        clear hp
        go_wp2_with fail
        refine (HW.out _ _ _ _).mono ?_
        rintro e w1 ⟨rfl, rfl⟩
        have hp := HP3.out
        rw [hp]
        clear hp
        go_wp2_with fail
        go_ret2
        exact ⟨_, rfl, .inl ⟨none, rfl, rfl⟩, HBA.out⟩
      | true =>
        cases p4 with
        | false =>
          obtain rfl : b = false := by rw [← HB.out]; simp
          clear HB
          go_enter Tryz.func12, Tryz.ntmps12
          go_wp2_with fail
          refine (HIS.out _ _).mono ?_
          rintro e w1 ⟨rfl, rfl⟩
          have hp := HP1.out
          rw [hp]
          clear hp
          go_wp2_with fail
          refine (HW.out _ _ _ _).mono ?_
          rintro e w1 ⟨rfl, rfl⟩
          have hp := HP2.out
          rw [hp]
          clear hp
          go_wp2_with fail
          refine (HW.out _ _ _ _).mono ?_
          rintro e w1 ⟨rfl, rfl⟩
          have hp := HP3.out
          rw [hp]
          clear hp
          go_wp2_with fail
          refine (HW.out _ _ _ _).mono ?_
          rintro e w1 ⟨rfl, rfl⟩
          have hp := HP4.out
          rw [hp]
          clear hp
          go_wp2_with fail
          go_ret2
          exact ⟨_, rfl, .inl ⟨none, rfl, rfl⟩, HBA.out⟩
        | true =>
          obtain rfl : b = true := by rw [← HB.out]; rfl
          have hmo : 0 ≤ f.mo ∧ f.mo ≤ 38399 := by have := HP1.out; simpa using this
          have e1 : IntKind.i64.wrap (f.mo - 96) = f.mo - 96 := IntWalk.i64_in _ (by omega)
          have e2 : IntKind.i64.wrap (f.mo + 96) = f.mo + 96 := IntWalk.i64_in _ (by omega)
          have e3 : IntKind.i64.wrap (f.mo - 288) = f.mo - 288 := IntWalk.i64_in _ (by omega)
          have e4 : IntKind.i64.wrap (f.mo + 288) = f.mo + 288 := IntWalk.i64_in _ (by omega)
          have e5 : IntKind.i64.wrap (f.mo + 48) = f.mo + 48 := IntWalk.i64_in _ (by omega)
          clear HB hmo
          go_enter Tryz.func12, Tryz.ntmps12
          go_wp2_with fail
          refine (HIS.out _ _).mono ?_
          rintro e w1 ⟨rfl, rfl⟩
          have hp := HP1.out
          rw [hp]
          clear hp
          go_wp2_with fail
          refine (HW.out _ _ _ _).mono ?_
          rintro e w1 ⟨rfl, rfl⟩
          have hp := HP2.out
          rw [hp]
          clear hp
          go_wp2_with fail
          refine (HW.out _ _ _ _).mono ?_
          rintro e w1 ⟨rfl, rfl⟩
          have hp := HP3.out
          rw [hp]
          clear hp
          go_wp2_with fail
          refine (HW.out _ _ _ _).mono ?_
          rintro e w1 ⟨rfl, rfl⟩
          have hp := HP4.out
          rw [hp]
          clear hp
          go_wp2_with fail
          go_ret2
          refine ⟨_, rfl, slice_litD vDb_len _ (oweL f) 47 (by show 3 ≤ maxLen; decide) (by simp [go_sem]) rfl rfl, ?_⟩
          exact bAlloc (bAlloc (bAlloc (bAlloc HBA.out _) _) _) _
end Go.Proofs.YtlagoiaiodjmhaaGreatDoor
