/- apportion: its closures, best, Share. -/
import Derived.Test.YtcgplokdklomlaaGreatDoorLoP
import Derived.Test.YtcgplokdklomlaaGreatDoorPkA
import Derived.Deep.OwnRows
set_option linter.unusedVariables false
set_option linter.unusedSimpArgs false
namespace Go.Proofs.YtcgplokdklomlaaGreatDoor
open Go.RowKit

/-- Whether a number is outside of two bounds. -/
def outB (lo hi n : Int) : Bool := decide (n < lo) || decide (hi < n)
theorem outB_iff {lo hi n : Int} : outB lo hi n = false ↔ lo ≤ n ∧ n ≤ hi := by
  unfold outB
  rw [Bool.or_eq_false_iff, decide_eq_false_iff_not, decide_eq_false_iff_not]; omega
set_option maxRecDepth 100000 in
theorem ap_wrong (n : Int) (w : World) : Calls Tryz.prog 45 #[.int .i64 n] w fun e w' => e = .returned (.bool (outB 0 1000000000 n)) ∧ w = w' := by
  by_cases h1 : n < 0
  · have E : Hid (outB 0 1000000000 n = true) := by show _ = _; unfold outB; rw [decide_eq_true h1]; rfl
    go_enter Tryz.func45, Tryz.ntmps45
    go_wp2_with fail
    go_ret
    exact ⟨ret_bool E.out.symm, rfl⟩
  · by_cases h2 : 1000000000 < n
    · have E : Hid (outB 0 1000000000 n = true) := by show _ = _; unfold outB; rw [decide_eq_true h2, Bool.or_true]
      go_enter Tryz.func45, Tryz.ntmps45
      go_wp2_with fail
      go_ret
      exact ⟨ret_bool E.out.symm, rfl⟩
    · have E : Hid (outB 0 1000000000 n = false) := outB_iff.2 ⟨by omega, by omega⟩
      have h1' : decide (n < 0) = false := decide_eq_false h1
      have h2' : decide (1000000000 < n) = false := decide_eq_false h2
      go_enter Tryz.func45, Tryz.ntmps45
      go_wp2_with fail
      go_ret
      exact ⟨ret_bool E.out.symm, rfl⟩
set_option maxRecDepth 100000 in
theorem lo_out (n lo hi : Int) (b1 b2 : Nat) (w : World) (c1 : w.cell? ⟨b1, 0, none⟩ = some (.int .i64 lo)) (c2 : w.cell? ⟨b2, 0, none⟩ = some (.int .i64 hi)) :
    Calls Tryz.prog 51 #[.int .i64 n, .pointer (some ⟨b1, 0, none⟩), .pointer (some ⟨b2, 0, none⟩)] w fun e w' => e = .returned (.bool (outB lo hi n)) ∧ w = w' := by
  by_cases h1 : n < lo
  · have E : Hid (outB lo hi n = true) := by show _ = _; unfold outB; rw [decide_eq_true h1]; rfl
    go_enter Tryz.func51, Tryz.ntmps51
    go_wp2_with fail
    go_ret
    exact ⟨ret_bool E.out.symm, rfl⟩
  · by_cases h2 : hi < n
    · have E : Hid (outB lo hi n = true) := by show _ = _; unfold outB; rw [decide_eq_true h2, Bool.or_true]
      have h1' : decide (n < lo) = false := decide_eq_false h1
      go_enter Tryz.func51, Tryz.ntmps51
      go_wp2_with fail
      go_ret
      exact ⟨ret_bool E.out.symm, rfl⟩
    · have E : Hid (outB lo hi n = false) := outB_iff.2 ⟨by omega, by omega⟩
      have h1' : decide (n < lo) = false := decide_eq_false h1
      have h2' : decide (hi < n) = false := decide_eq_false h2
      go_enter Tryz.func51, Tryz.ntmps51
      go_wp2_with fail
      go_ret
      exact ⟨ret_bool E.out.symm, rfl⟩
def IdxPost (w : World) (b : Bool) (e : Ending) (w' : World) : Prop := ∃ z : Int, e = .returned (.int .i64 z) ∧ decide (0 ≤ z) = b ∧ w = w'
set_option maxHeartbeats 4000000 in
set_option maxRecDepth 100000 in
theorem idx_any0 (K : FuncId) (l : List Int) (p : Int → Bool) (v : Value) (w : World) (hv : SliceOf vI 1 w v l) (hl : l.length ≤ 1000000)
    (hE : ∀ args w, (callFunc K args).run Tryz.prog w = .ok (.enter K args) w) (hF : ∀ x ∈ l, Calls Tryz.prog K #[.int .i64 x] w fun e w' => e = .returned (.bool (p x)) ∧ w = w') :
    Calls Tryz.prog 33 #[v, .func (.func K) #[] #[]] w (IdxPost w (l.any p)) := by
  have HF := hide hF
  have HS := hide hv
  obtain ⟨ao, cp, rfl⟩ := hv.shape
  have HALL : Hid ((∀ j (hj : j < l.length), p l[j] = false) → l.any p = false) := fun h => by
    rw [List.any_eq_false]
    intro x hx
    obtain ⟨j, hj, rfl⟩ := List.getElem_of_mem hx
    rw [h j hj]; exact Bool.noConfusion
  clear hF hv
  go_enter Tryz.func33, Tryz.ntmps33
  go_wp2_with fail
  go_loop [8] (fun i => ∃ k : Nat, k ≤ l.length ∧ i = .int .i64 (k : Int) ∧ ∀ j (hj : j < l.length), j < k → p l[j] = false) (fun i => l.length - (intOf i).toNat)
  case atStart => exact ⟨0, Nat.zero_le _, rfl, fun j _ h => absurd h (Nat.not_lt_zero _)⟩
  case round =>
    obtain ⟨k, hk, rfl, hall⟩ := hrel
    have HA := hide hall
    clear hall
    by_cases hlt : k < l.length
    · have hki : (k : Int) < (l.length : Int) := by omega
      have hk0 : (0 : Int) ≤ (k : Int) := by omega
      obtain ⟨b, off, rfl, _, hcap, hcm, hc⟩ := SliceOf.at_ HS.out (by omega)
      have hcpI : (l.length : Int) ≤ (cp : Int) := by omega
      have hcmI : (cp : Int) ≤ 9223372036854775807 := by unfold maxLen at hcm; omega
      have c0 := int_cell hc hlt
      have HX := hide (HF.out l[k] (List.getElem_mem hlt))
      clear hc hcap hcm
      rcases Bool.eq_false_or_eq_true (p l[k]) with hp | hp
      all_goals
        have HP := hide hp
        rw [hp] at HX
        clear hp
        obtain ⟨x, hx⟩ : ∃ x, l[k] = x := ⟨_, rfl⟩
        rw [hx] at c0 HX
      · have HT : Hid (l.any p = true) := List.any_eq_true.2 ⟨l[k], List.getElem_mem hlt, HP.out⟩
        clear hx
        go_wp2_with fail
        refine HX.out.mono ?_
        rintro e w5 ⟨rfl, rfl⟩
        go_wp2_with fail
        go_ret
        exact ⟨_, rfl, by rw [HT.out]; exact decide_eq_true hk0, rfl⟩
      · have HN : Hid (∀ j (hj : j < l.length), j < k + 1 → p l[j] = false) := fun j hj h => by
          by_cases e : j = k
          · subst e; exact HP.out
          · exact HA.out j hj (by omega)
        clear hx
        go_wp2_with fail
        refine HX.out.mono ?_
        rintro e w5 ⟨rfl, rfl⟩
        go_wp2_with fail
        go_round
        case rel => exact ⟨k + 1, by omega, by go_num, HN.out⟩
        case measure => (simp [intOf]; omega)
    · have HT := hide (HALL.out (fun j hj => HA.out j hj (by omega)))
      have hk' : k = l.length := by omega
      subst hk'
      go_wp2_with fail
      go_ret
      exact ⟨-1, rfl, by rw [HT.out]; rfl, rfl⟩
set_option maxRecDepth 100000 in
theorem con_any0 (K : FuncId) (l : List Int) (p : Int → Bool) (v : Value) (w : World) (hv : SliceOf vI 1 w v l) (hl : l.length ≤ 1000000)
    (hE : ∀ args w, (callFunc K args).run Tryz.prog w = .ok (.enter K args) w) (hF : ∀ x ∈ l, Calls Tryz.prog K #[.int .i64 x] w fun e w' => e = .returned (.bool (p x)) ∧ w = w') :
    Calls Tryz.prog 46 #[v, .func (.func K) #[] #[]] w fun e w' => e = .returned (.bool (l.any p)) ∧ w = w' := by
  have HI := hide (idx_any0 K l p v w hv hl hE hF)
  obtain ⟨q, hq⟩ : ∃ q, l.any p = q := ⟨_, rfl⟩
  rw [hq] at HI ⊢
  clear hv hF hq hE
  go_enter Tryz.func46, Tryz.ntmps46
  go_wp2_with fail
  refine HI.out.mono ?_
  rintro e w5 ⟨z, rfl, hz, rfl⟩
  go_wp2_with fail
  go_ret
  exact ⟨by first | rfl | exact ret_bool hz, rfl⟩
set_option maxHeartbeats 4000000 in
set_option maxRecDepth 100000 in
theorem idx_any2 (K : FuncId) (c1 c2 : Value) (l : List Int) (p : Int → Bool) (v : Value) (w : World) (hv : SliceOf vI 1 w v l) (hl : l.length ≤ 1000000)
    (hE : ∀ args w, (callFunc K args).run Tryz.prog w = .ok (.enter K args) w) (hF : ∀ x ∈ l, Calls Tryz.prog K #[.int .i64 x, c1, c2] w fun e w' => e = .returned (.bool (p x)) ∧ w = w') :
    Calls Tryz.prog 33 #[v, .func (.func K) #[] #[c1, c2]] w (IdxPost w (l.any p)) := by
  have HF := hide hF
  have HS := hide hv
  obtain ⟨ao, cp, rfl⟩ := hv.shape
  have HALL : Hid ((∀ j (hj : j < l.length), p l[j] = false) → l.any p = false) := fun h => by
    rw [List.any_eq_false]
    intro x hx
    obtain ⟨j, hj, rfl⟩ := List.getElem_of_mem hx
    rw [h j hj]; exact Bool.noConfusion
  clear hF hv
  go_enter Tryz.func33, Tryz.ntmps33
  go_wp2_with fail
  go_loop [8] (fun i => ∃ k : Nat, k ≤ l.length ∧ i = .int .i64 (k : Int) ∧ ∀ j (hj : j < l.length), j < k → p l[j] = false) (fun i => l.length - (intOf i).toNat)
  case atStart => exact ⟨0, Nat.zero_le _, rfl, fun j _ h => absurd h (Nat.not_lt_zero _)⟩
  case round =>
    obtain ⟨k, hk, rfl, hall⟩ := hrel
    have HA := hide hall
    clear hall
    by_cases hlt : k < l.length
    · have hki : (k : Int) < (l.length : Int) := by omega
      have hk0 : (0 : Int) ≤ (k : Int) := by omega
      obtain ⟨b, off, rfl, _, hcap, hcm, hc⟩ := SliceOf.at_ HS.out (by omega)
      have hcpI : (l.length : Int) ≤ (cp : Int) := by omega
      have hcmI : (cp : Int) ≤ 9223372036854775807 := by unfold maxLen at hcm; omega
      have c0 := int_cell hc hlt
      have HX := hide (HF.out l[k] (List.getElem_mem hlt))
      clear hc hcap hcm
      rcases Bool.eq_false_or_eq_true (p l[k]) with hp | hp
      all_goals
        have HP := hide hp
        rw [hp] at HX
        clear hp
        obtain ⟨x, hx⟩ : ∃ x, l[k] = x := ⟨_, rfl⟩
        rw [hx] at c0 HX
      · have HT : Hid (l.any p = true) := List.any_eq_true.2 ⟨l[k], List.getElem_mem hlt, HP.out⟩
        clear hx
        go_wp2_with fail
        refine HX.out.mono ?_
        rintro e w5 ⟨rfl, rfl⟩
        go_wp2_with fail
        go_ret
        exact ⟨_, rfl, by rw [HT.out]; exact decide_eq_true hk0, rfl⟩
      · have HN : Hid (∀ j (hj : j < l.length), j < k + 1 → p l[j] = false) := fun j hj h => by
          by_cases e : j = k
          · subst e; exact HP.out
          · exact HA.out j hj (by omega)
        clear hx
        go_wp2_with fail
        refine HX.out.mono ?_
        rintro e w5 ⟨rfl, rfl⟩
        go_wp2_with fail
        go_round
        case rel => exact ⟨k + 1, by omega, by go_num, HN.out⟩
        case measure => (simp [intOf]; omega)
    · have HT := hide (HALL.out (fun j hj => HA.out j hj (by omega)))
      have hk' : k = l.length := by omega
      subst hk'
      go_wp2_with fail
      go_ret
      exact ⟨-1, rfl, by rw [HT.out]; rfl, rfl⟩
set_option maxRecDepth 100000 in
theorem con_any2 (K : FuncId) (c1 c2 : Value) (l : List Int) (p : Int → Bool) (v : Value) (w : World) (hv : SliceOf vI 1 w v l) (hl : l.length ≤ 1000000)
    (hE : ∀ args w, (callFunc K args).run Tryz.prog w = .ok (.enter K args) w) (hF : ∀ x ∈ l, Calls Tryz.prog K #[.int .i64 x, c1, c2] w fun e w' => e = .returned (.bool (p x)) ∧ w = w') :
    Calls Tryz.prog 46 #[v, .func (.func K) #[] #[c1, c2]] w fun e w' => e = .returned (.bool (l.any p)) ∧ w = w' := by
  have HI := hide (idx_any2 K c1 c2 l p v w hv hl hE hF)
  obtain ⟨q, hq⟩ : ∃ q, l.any p = q := ⟨_, rfl⟩
  rw [hq] at HI ⊢
  clear hv hF hq hE
  go_enter Tryz.func46, Tryz.ntmps46
  go_wp2_with fail
  refine HI.out.mono ?_
  rintro e w5 ⟨z, rfl, hz, rfl⟩
  go_wp2_with fail
  go_ret
  exact ⟨by first | rfl | exact ret_bool hz, rfl⟩
end Go.Proofs.YtcgplokdklomlaaGreatDoor
