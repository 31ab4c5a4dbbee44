/- MergeWindows: the walk. -/
import Derived.Test.YtahlhiiekgnmpabMrgW
set_option linter.unusedVariables false
set_option linter.unusedSimpArgs false
namespace Go.Proofs.Ytahlhiiekgnmpab
open Go.RowKit

theorem near_win {lo hi : Int} (h : lo ≤ hi) {a b : Al} (k : nearB lo a b = true) : nearB hi a b = true := by
  rw [nearB_iff] at k ⊢
  exact ⟨k.1, k.2.1, by omega, by omega⟩
theorem adj_win {lo hi : Int} (h : lo ≤ hi) {l : List Al} {x y : Nat} (k : adj lo l x y) : adj hi l x y := by
  obtain ⟨a, b, h1, h2, h3⟩ := k
  exact ⟨a, b, h1, h2, near_win h h3⟩
theorem firsts_len {rt rt' : Nat → Nat} {n : Nat} (h : ∀ x y, x < n → y < n → rt x = rt y → rt' x = rt' y) : (gK rt' n).length ≤ (gK rt n).length := by
  rw [gK_len, gK_len]
  unfold firsts
  rw [← List.countP_eq_length_filter, ← List.countP_eq_length_filter]
  refine List.countP_mono_left fun i hi hf => ?_
  have hi' : i < n := by simpa using hi
  rw [firstB_iff] at hf ⊢
  intro j hj e
  exact hf j hj (h j i (by omega) hi' e)
theorem gok_rt {win : Int} {l : List Al} {M : List (List Int)} (h : GOk win l M) (he : gErr win l = 0) : ∃ rt, (∀ x y, x < l.length → y < l.length → (rt x = rt y ↔ Conn (adj win l) x y)) ∧ M = gK rt l.length := h.1 he
/-- The loops over all pairs: what is in one group for x is in one for y. -/
def Sub (n : Nat) (O O' : Nat → Nat) : Prop := ∀ i k, i < n → k < n → O i = O k → O' i = O' k

set_option maxHeartbeats 4000000 in
set_option maxRecDepth 100000 in
theorem mergeWindows_walk (l : List Al) (one two : Int) (v : Value) (w : World) (h : SliceOf vAl 5 w v l) :
    Calls Try.prog 13 #[v, .int .i64 one, .int .i64 two] w fun e w' => e = .returned (.bool true) ∧ Below w.heap.size w w' := by
  have HS := hide h
  obtain ⟨ao, cp, rfl⟩ := h.shape
  clear h
  rcases (by omega : two < one ∨ one < two ∨ one = two) with hord | hord | hord
  · have HLE : Hid (two ≤ one) := by show two ≤ one; omega
    have hor2 : two ≤ one := by omega
    go_enter Try.func13, Try.ntmps13
    go_wp2_with fail
    refine (law38_head _).mono ?_
    rintro e w1 ⟨rfl, hb1⟩
    have HB1 := hide hb1
    have HS1 := hide (HS.out.below hb1)
    clear hb1 HS
    go_wp2_with fail
    rcases Bool.eq_false_or_eq_true (fewB l.length) with hf | hf
    · have hn210 : l.length ≤ 210 := by
        unfold fewB at hf
        rw [decide_eq_true_iff] at hf
        omega
      have HF := hide hf
      clear hf
      refine (law38_few_at _ _ _ true _ HF.out).mono ?_
      rintro e w2 ⟨rfl, rfl⟩
      go_wp2_with fail
      obtain ⟨e1, he1⟩ : ∃ er, gErr two l = er := ⟨_, rfl⟩
      obtain ⟨e2, he2⟩ : ∃ er, gErr one l = er := ⟨_, rfl⟩
      have HE1 := hide he1
      have HE2 := hide he2
      clear he1 he2
      refine (mrg_groups_at l two e1 _ _ HS1.out HE1.out).mono ?_
      rintro e w3 ⟨u, M, rfl, hss, hb3, hok⟩
      have HA := hide hss
      have HB3 := hide (bstep' HB1.out hb3)
      have HS3 := hide (HS1.out.below hb3)
      have HK := hide hok
      obtain ⟨uo, uc, rfl⟩ := hss.shape
      clear hss hb3 hok HS1 HB1
      go_wp2_with fail
      refine (mrg_groups_at l one e2 _ _ HS3.out HE2.out).mono ?_
      rintro e w4 ⟨u', M', rfl, hss, hb4, hok⟩
      have HC := hide hss
      have HA4 := hide (HA.out.below hb4)
      have HB4 := hide (bstep' HB3.out hb4)
      have HK' := hide hok
      obtain ⟨uo', uc', rfl⟩ := hss.shape
      clear hss hb4 hok HS3 HA HB3
      by_cases z1 : e1 = 0
      · by_cases z2 : e2 = 0
        · subst z1 z2
          obtain ⟨rt, hrt, hM⟩ := gok_rt HK.out HE1.out
          obtain ⟨rt', hrt', hM'⟩ := gok_rt HK'.out HE2.out
          have hsub : ∀ x y, x < l.length → y < l.length → rt x = rt y → rt' x = rt' y := fun x y hx hy e => (hrt' x y hx hy).2 (((hrt x y hx hy).1 e).mono fun _ _ p => adj_win HLE.out p)
          have hlen := firsts_len hsub
          rw [← hM, ← hM'] at hlen
          have HSUB := hide hsub
          have HMA := hide hM
          have HMB := hide hM'
          have hlI : (M'.length : Int) ≤ (M.length : Int) := by omega
          clear hrt hrt' hsub hM hM'
          go_wp2_with fail
          refine (law38_of rt l.length _ _ (by rw [← HMA.out]; exact HA4.out) (by omega)).mono ?_
          rintro e w5 ⟨b, O, rfl, hlc, hb5, _, hO⟩
          have HL5 := hide hlc
          have HB5 := hide (bstep' HB4.out hb5)
          have HC5 := hide (HC.out.below hb5)
          have HOO := hide hO
          clear hlc hb5 hO
          go_wp2_with fail
          refine (law38_of rt' l.length _ _ (by rw [← HMB.out]; exact HC5.out) (by omega)).mono ?_
          rintro e w6 ⟨b', O', rfl, hlc, hb6, _, hO⟩
          have HL6 := hide (HL5.out.below hb6)
          have HM6 := hide hlc
          have HB6 := hide (bstep' HB5.out hb6)
          have HXY : Hid (Sub l.length O O') := fun x y hx hy e => (hO x y hx hy).2 (HSUB.out x y hx hy ((HOO.out x y hx hy).1 e))
          clear hlc hb6 hO HOO HSUB HMA HMB HC5 HL5 HB5 HA4 HC HB4 HK HK'
          go_wp2_with fail
          go_loopw [16] (fun i wx => ∃ k m : Nat, k ≤ l.length ∧ i = .int .i64 k ∧ wx = w6.drewN m) (fun i _ => l.length - (intOf i).toNat)
          case atStart => exact ⟨0, 0, Nat.zero_le _, rfl, rfl⟩
          case round =>
            obtain ⟨i, m, hi, rfl, rfl⟩ := hrel
            by_cases hil : i < l.length
            · have hii : (i : Int) < (l.length : Int) := by omega
              have hi0 : (0 : Int) ≤ (i : Int) := by omega
              have hlm : (l.length : Int) ≤ 210 := by omega
              have c1 := HL6.out.c i hil
              have c2 := HM6.out.c i hil
              go_wp2_with fail
              go_loopw [17] (fun x wx => ∃ k m : Nat, k ≤ i ∧ x = .int .i64 k ∧ wx = w6.drewN m) (fun x _ => i - (intOf x).toNat)
              case atStart => exact ⟨0, m, Nat.zero_le _, rfl, rfl⟩
              case round =>
                obtain ⟨k, m2, hk, rfl, rfl⟩ := hrel
                by_cases hkl : k < i
                · have hkn : k < l.length := by omega
                  have hki : (k : Int) < (i : Int) := by omega
                  have hkI : (k : Int) < (l.length : Int) := by omega
                  have hk0 : (0 : Int) ≤ (k : Int) := by omega
                  have d1 := HL6.out.c k hkn
                  have d2 := HM6.out.c k hkn
                  by_cases ho : O i = O k
                  · have ho' := HXY.out i k hil hkn ho
                    have q1 : ((O i : Int) == (O k : Int)) = true := by rw [ho]; simp
                    have q2 : ((O' i : Int) != (O' k : Int)) = false := by rw [ho']; simp
                    have q3 : (O i == O k) = true := by rw [ho]; simp
                    have q4 : (O' i != O' k) = false := by rw [ho']; simp
                    clear ho ho'
                    go_wp2_with fail
                    go_quiet (fail)
                    go_wp2_with fail
                    go_roundw
                    case rel => exact ⟨k + 1, _, by omega, by go_num, by first | rfl | exact World.drewN_drewN _ _ _⟩
                    case measure => simp [intOf]; omega
                  · have q1 : ((O i : Int) == (O k : Int)) = false := beq_eq_false_iff_ne.2 (by omega)
                    have q3 : (O i == O k) = false := beq_eq_false_iff_ne.2 ho
                    clear ho
                    go_wp2_with fail
                    go_quiet (fail)
                    go_wp2_with fail
                    go_roundw
                    case rel => exact ⟨k + 1, _, by omega, by go_num, by first | rfl | exact World.drewN_drewN _ _ _⟩
                    case measure => simp [intOf]; omega
                · have hk' : k = i := by omega
                  subst hk'
                  go_wp2_with fail
                  go_roundw
                  case rel => exact ⟨k + 1, m2, by omega, by go_num, rfl⟩
                  case measure => simp [intOf]; omega
            · have hi' : i = l.length := by omega
              subst hi'
              go_wp2_with fail
              go_ret
              exact ⟨rfl, bdraw HB6.out _⟩
        · have q1 : (e1 != 0) = false := by rw [z1]; rfl
          have q2 : (e2 != 0) = true := by rw [bne_iff_ne]; exact z2
          have q3 : (e1 == 0) = true := by rw [z1]; rfl
          have q4 : (e2 == 0) = false := beq_eq_false_iff_ne.2 z2
          clear z1 z2
          go_wp2_with fail
          go_ret
          exact ⟨rfl, HB4.out⟩
      · have q1 : (e1 != 0) = true := by rw [bne_iff_ne]; exact z1
        have q3 : (e1 == 0) = false := beq_eq_false_iff_ne.2 z1
        clear z1
        go_wp2_with fail
        go_ret
        exact ⟨rfl, HB4.out⟩
    · have HF := hide hf
      clear hf
      refine (law38_few_at _ _ _ false _ HF.out).mono ?_
      rintro e w2 ⟨rfl, rfl⟩
      go_wp2_with fail
      go_ret
      exact ⟨rfl, HB1.out⟩
  · have HLE : Hid (one ≤ two) := by show one ≤ two; omega
    have hor2 : one ≤ two := by omega
    have hor3 : ¬ two ≤ one := by omega
    go_enter Try.func13, Try.ntmps13
    go_wp2_with fail
    refine (law38_head _).mono ?_
    rintro e w1 ⟨rfl, hb1⟩
    have HB1 := hide hb1
    have HS1 := hide (HS.out.below hb1)
    clear hb1 HS
    go_wp2_with fail
    rcases Bool.eq_false_or_eq_true (fewB l.length) with hf | hf
    · have hn210 : l.length ≤ 210 := by
        unfold fewB at hf
        rw [decide_eq_true_iff] at hf
        omega
      have HF := hide hf
      clear hf
      refine (law38_few_at _ _ _ true _ HF.out).mono ?_
      rintro e w2 ⟨rfl, rfl⟩
      go_wp2_with fail
      obtain ⟨e1, he1⟩ : ∃ er, gErr one l = er := ⟨_, rfl⟩
      obtain ⟨e2, he2⟩ : ∃ er, gErr two l = er := ⟨_, rfl⟩
      have HE1 := hide he1
      have HE2 := hide he2
      clear he1 he2
      refine (mrg_groups_at l one e1 _ _ HS1.out HE1.out).mono ?_
      rintro e w3 ⟨u, M, rfl, hss, hb3, hok⟩
      have HA := hide hss
      have HB3 := hide (bstep' HB1.out hb3)
      have HS3 := hide (HS1.out.below hb3)
      have HK := hide hok
      obtain ⟨uo, uc, rfl⟩ := hss.shape
      clear hss hb3 hok HS1 HB1
      go_wp2_with fail
      refine (mrg_groups_at l two e2 _ _ HS3.out HE2.out).mono ?_
      rintro e w4 ⟨u', M', rfl, hss, hb4, hok⟩
      have HC := hide hss
      have HA4 := hide (HA.out.below hb4)
      have HB4 := hide (bstep' HB3.out hb4)
      have HK' := hide hok
      obtain ⟨uo', uc', rfl⟩ := hss.shape
      clear hss hb4 hok HS3 HA HB3
      by_cases z1 : e1 = 0
      · by_cases z2 : e2 = 0
        · subst z1 z2
          obtain ⟨rt, hrt, hM⟩ := gok_rt HK.out HE1.out
          obtain ⟨rt', hrt', hM'⟩ := gok_rt HK'.out HE2.out
          have hsub : ∀ x y, x < l.length → y < l.length → rt x = rt y → rt' x = rt' y := fun x y hx hy e => (hrt' x y hx hy).2 (((hrt x y hx hy).1 e).mono fun _ _ p => adj_win HLE.out p)
          have hlen := firsts_len hsub
          rw [← hM, ← hM'] at hlen
          have HSUB := hide hsub
          have HMA := hide hM
          have HMB := hide hM'
          have hlI : (M'.length : Int) ≤ (M.length : Int) := by omega
          clear hrt hrt' hsub hM hM'
          go_wp2_with fail
          refine (law38_of rt l.length _ _ (by rw [← HMA.out]; exact HA4.out) (by omega)).mono ?_
          rintro e w5 ⟨b, O, rfl, hlc, hb5, _, hO⟩
          have HL5 := hide hlc
          have HB5 := hide (bstep' HB4.out hb5)
          have HC5 := hide (HC.out.below hb5)
          have HOO := hide hO
          clear hlc hb5 hO
          go_wp2_with fail
          refine (law38_of rt' l.length _ _ (by rw [← HMB.out]; exact HC5.out) (by omega)).mono ?_
          rintro e w6 ⟨b', O', rfl, hlc, hb6, _, hO⟩
          have HL6 := hide (HL5.out.below hb6)
          have HM6 := hide hlc
          have HB6 := hide (bstep' HB5.out hb6)
          have HXY : Hid (Sub l.length O O') := fun x y hx hy e => (hO x y hx hy).2 (HSUB.out x y hx hy ((HOO.out x y hx hy).1 e))
          clear hlc hb6 hO HOO HSUB HMA HMB HC5 HL5 HB5 HA4 HC HB4 HK HK'
          go_wp2_with fail
          go_loopw [16] (fun i wx => ∃ k m : Nat, k ≤ l.length ∧ i = .int .i64 k ∧ wx = w6.drewN m) (fun i _ => l.length - (intOf i).toNat)
          case atStart => exact ⟨0, 0, Nat.zero_le _, rfl, rfl⟩
          case round =>
            obtain ⟨i, m, hi, rfl, rfl⟩ := hrel
            by_cases hil : i < l.length
            · have hii : (i : Int) < (l.length : Int) := by omega
              have hi0 : (0 : Int) ≤ (i : Int) := by omega
              have hlm : (l.length : Int) ≤ 210 := by omega
              have c1 := HL6.out.c i hil
              have c2 := HM6.out.c i hil
              go_wp2_with fail
              go_loopw [17] (fun x wx => ∃ k m : Nat, k ≤ i ∧ x = .int .i64 k ∧ wx = w6.drewN m) (fun x _ => i - (intOf x).toNat)
              case atStart => exact ⟨0, m, Nat.zero_le _, rfl, rfl⟩
              case round =>
                obtain ⟨k, m2, hk, rfl, rfl⟩ := hrel
                by_cases hkl : k < i
                · have hkn : k < l.length := by omega
                  have hki : (k : Int) < (i : Int) := by omega
                  have hkI : (k : Int) < (l.length : Int) := by omega
                  have hk0 : (0 : Int) ≤ (k : Int) := by omega
                  have d1 := HL6.out.c k hkn
                  have d2 := HM6.out.c k hkn
                  by_cases ho : O i = O k
                  · have ho' := HXY.out i k hil hkn ho
                    have q1 : ((O i : Int) == (O k : Int)) = true := by rw [ho]; simp
                    have q2 : ((O' i : Int) != (O' k : Int)) = false := by rw [ho']; simp
                    have q3 : (O i == O k) = true := by rw [ho]; simp
                    have q4 : (O' i != O' k) = false := by rw [ho']; simp
                    clear ho ho'
                    go_wp2_with fail
                    go_quiet (fail)
                    go_wp2_with fail
                    go_roundw
                    case rel => exact ⟨k + 1, _, by omega, by go_num, by first | rfl | exact World.drewN_drewN _ _ _⟩
                    case measure => simp [intOf]; omega
                  · have q1 : ((O i : Int) == (O k : Int)) = false := beq_eq_false_iff_ne.2 (by omega)
                    have q3 : (O i == O k) = false := beq_eq_false_iff_ne.2 ho
                    clear ho
                    go_wp2_with fail
                    go_quiet (fail)
                    go_wp2_with fail
                    go_roundw
                    case rel => exact ⟨k + 1, _, by omega, by go_num, by first | rfl | exact World.drewN_drewN _ _ _⟩
                    case measure => simp [intOf]; omega
                · have hk' : k = i := by omega
                  subst hk'
                  go_wp2_with fail
                  go_roundw
                  case rel => exact ⟨k + 1, m2, by omega, by go_num, rfl⟩
                  case measure => simp [intOf]; omega
            · have hi' : i = l.length := by omega
              subst hi'
              go_wp2_with fail
              go_ret
              exact ⟨rfl, bdraw HB6.out _⟩
        · have q1 : (e1 != 0) = false := by rw [z1]; rfl
          have q2 : (e2 != 0) = true := by rw [bne_iff_ne]; exact z2
          have q3 : (e1 == 0) = true := by rw [z1]; rfl
          have q4 : (e2 == 0) = false := beq_eq_false_iff_ne.2 z2
          clear z1 z2
          go_wp2_with fail
          go_ret
          exact ⟨rfl, HB4.out⟩
      · have q1 : (e1 != 0) = true := by rw [bne_iff_ne]; exact z1
        have q3 : (e1 == 0) = false := beq_eq_false_iff_ne.2 z1
        clear z1
        go_wp2_with fail
        go_ret
        exact ⟨rfl, HB4.out⟩
    · have HF := hide hf
      clear hf
      refine (law38_few_at _ _ _ false _ HF.out).mono ?_
      rintro e w2 ⟨rfl, rfl⟩
      go_wp2_with fail
      go_ret
      exact ⟨rfl, HB1.out⟩
  · subst hord
    have HLE : Hid (one ≤ one) := Int.le_refl _
    go_enter Try.func13, Try.ntmps13
    go_wp2_with fail
    refine (law38_head _).mono ?_
    rintro e w1 ⟨rfl, hb1⟩
    have HB1 := hide hb1
    have HS1 := hide (HS.out.below hb1)
    clear hb1 HS
    go_wp2_with fail
    rcases Bool.eq_false_or_eq_true (fewB l.length) with hf | hf
    · have hn210 : l.length ≤ 210 := by
        unfold fewB at hf
        rw [decide_eq_true_iff] at hf
        omega
      have HF := hide hf
      clear hf
      refine (law38_few_at _ _ _ true _ HF.out).mono ?_
      rintro e w2 ⟨rfl, rfl⟩
      go_wp2_with fail
      obtain ⟨e1, he1⟩ : ∃ er, gErr one l = er := ⟨_, rfl⟩
      obtain ⟨e2, he2⟩ : ∃ er, gErr one l = er := ⟨_, rfl⟩
      have HE1 := hide he1
      have HE2 := hide he2
      clear he1 he2
      refine (mrg_groups_at l one e1 _ _ HS1.out HE1.out).mono ?_
      rintro e w3 ⟨u, M, rfl, hss, hb3, hok⟩
      have HA := hide hss
      have HB3 := hide (bstep' HB1.out hb3)
      have HS3 := hide (HS1.out.below hb3)
      have HK := hide hok
      obtain ⟨uo, uc, rfl⟩ := hss.shape
      clear hss hb3 hok HS1 HB1
      go_wp2_with fail
      refine (mrg_groups_at l one e2 _ _ HS3.out HE2.out).mono ?_
      rintro e w4 ⟨u', M', rfl, hss, hb4, hok⟩
      have HC := hide hss
      have HA4 := hide (HA.out.below hb4)
      have HB4 := hide (bstep' HB3.out hb4)
      have HK' := hide hok
      obtain ⟨uo', uc', rfl⟩ := hss.shape
      clear hss hb4 hok HS3 HA HB3
      by_cases z1 : e1 = 0
      · by_cases z2 : e2 = 0
        · subst z1 z2
          obtain ⟨rt, hrt, hM⟩ := gok_rt HK.out HE1.out
          obtain ⟨rt', hrt', hM'⟩ := gok_rt HK'.out HE2.out
          have hsub : ∀ x y, x < l.length → y < l.length → rt x = rt y → rt' x = rt' y := fun x y hx hy e => (hrt' x y hx hy).2 (((hrt x y hx hy).1 e).mono fun _ _ p => adj_win HLE.out p)
          have hlen := firsts_len hsub
          rw [← hM, ← hM'] at hlen
          have HSUB := hide hsub
          have HMA := hide hM
          have HMB := hide hM'
          have hlI : (M'.length : Int) ≤ (M.length : Int) := by omega
          clear hrt hrt' hsub hM hM'
          go_wp2_with fail
          refine (law38_of rt l.length _ _ (by rw [← HMA.out]; exact HA4.out) (by omega)).mono ?_
          rintro e w5 ⟨b, O, rfl, hlc, hb5, _, hO⟩
          have HL5 := hide hlc
          have HB5 := hide (bstep' HB4.out hb5)
          have HC5 := hide (HC.out.below hb5)
          have HOO := hide hO
          clear hlc hb5 hO
          go_wp2_with fail
          refine (law38_of rt' l.length _ _ (by rw [← HMB.out]; exact HC5.out) (by omega)).mono ?_
          rintro e w6 ⟨b', O', rfl, hlc, hb6, _, hO⟩
          have HL6 := hide (HL5.out.below hb6)
          have HM6 := hide hlc
          have HB6 := hide (bstep' HB5.out hb6)
          have HXY : Hid (Sub l.length O O') := fun x y hx hy e => (hO x y hx hy).2 (HSUB.out x y hx hy ((HOO.out x y hx hy).1 e))
          clear hlc hb6 hO HOO HSUB HMA HMB HC5 HL5 HB5 HA4 HC HB4 HK HK'
          go_wp2_with fail
          go_loopw [16] (fun i wx => ∃ k m : Nat, k ≤ l.length ∧ i = .int .i64 k ∧ wx = w6.drewN m) (fun i _ => l.length - (intOf i).toNat)
          case atStart => exact ⟨0, 0, Nat.zero_le _, rfl, rfl⟩
          case round =>
            obtain ⟨i, m, hi, rfl, rfl⟩ := hrel
            by_cases hil : i < l.length
            · have hii : (i : Int) < (l.length : Int) := by omega
              have hi0 : (0 : Int) ≤ (i : Int) := by omega
              have hlm : (l.length : Int) ≤ 210 := by omega
              have c1 := HL6.out.c i hil
              have c2 := HM6.out.c i hil
              go_wp2_with fail
              go_loopw [17] (fun x wx => ∃ k m : Nat, k ≤ i ∧ x = .int .i64 k ∧ wx = w6.drewN m) (fun x _ => i - (intOf x).toNat)
              case atStart => exact ⟨0, m, Nat.zero_le _, rfl, rfl⟩
              case round =>
                obtain ⟨k, m2, hk, rfl, rfl⟩ := hrel
                by_cases hkl : k < i
                · have hkn : k < l.length := by omega
                  have hki : (k : Int) < (i : Int) := by omega
                  have hkI : (k : Int) < (l.length : Int) := by omega
                  have hk0 : (0 : Int) ≤ (k : Int) := by omega
                  have d1 := HL6.out.c k hkn
                  have d2 := HM6.out.c k hkn
                  by_cases ho : O i = O k
                  · have ho' := HXY.out i k hil hkn ho
                    have q1 : ((O i : Int) == (O k : Int)) = true := by rw [ho]; simp
                    have q2 : ((O' i : Int) != (O' k : Int)) = false := by rw [ho']; simp
                    have q3 : (O i == O k) = true := by rw [ho]; simp
                    have q4 : (O' i != O' k) = false := by rw [ho']; simp
                    clear ho ho'
                    go_wp2_with fail
                    go_quiet (fail)
                    go_wp2_with fail
                    go_roundw
                    case rel => exact ⟨k + 1, _, by omega, by go_num, by first | rfl | exact World.drewN_drewN _ _ _⟩
                    case measure => simp [intOf]; omega
                  · have q1 : ((O i : Int) == (O k : Int)) = false := beq_eq_false_iff_ne.2 (by omega)
                    have q3 : (O i == O k) = false := beq_eq_false_iff_ne.2 ho
                    clear ho
                    go_wp2_with fail
                    go_quiet (fail)
                    go_wp2_with fail
                    go_roundw
                    case rel => exact ⟨k + 1, _, by omega, by go_num, by first | rfl | exact World.drewN_drewN _ _ _⟩
                    case measure => simp [intOf]; omega
                · have hk' : k = i := by omega
                  subst hk'
                  go_wp2_with fail
                  go_roundw
                  case rel => exact ⟨k + 1, m2, by omega, by go_num, rfl⟩
                  case measure => simp [intOf]; omega
            · have hi' : i = l.length := by omega
              subst hi'
              go_wp2_with fail
              go_ret
              exact ⟨rfl, bdraw HB6.out _⟩
        · have q1 : (e1 != 0) = false := by rw [z1]; rfl
          have q2 : (e2 != 0) = true := by rw [bne_iff_ne]; exact z2
          have q3 : (e1 == 0) = true := by rw [z1]; rfl
          have q4 : (e2 == 0) = false := beq_eq_false_iff_ne.2 z2
          clear z1 z2
          go_wp2_with fail
          go_ret
          exact ⟨rfl, HB4.out⟩
      · have q1 : (e1 != 0) = true := by rw [bne_iff_ne]; exact z1
        have q3 : (e1 == 0) = false := beq_eq_false_iff_ne.2 z1
        clear z1
        go_wp2_with fail
        go_ret
        exact ⟨rfl, HB4.out⟩
    · have HF := hide hf
      clear hf
      refine (law38_few_at _ _ _ false _ HF.out).mono ?_
      rintro e w2 ⟨rfl, rfl⟩
      go_wp2_with fail
      go_ret
      exact ⟨rfl, HB1.out⟩
end Go.Proofs.Ytahlhiiekgnmpab
