/- apportion: Max, before, best. -/
import Derived.Test.YtcgplokdklomlaaGreatDoorLoA
import Derived.Deep.DeepCutAuto
set_option linter.unusedVariables false
set_option linter.unusedSimpArgs false
namespace Go.Proofs.YtcgplokdklomlaaGreatDoor
open Go.RowKit

def MaxPost (w : World) (l : List Int) (e : Ending) (w' : World) : Prop := ∃ m : Int, e = .returned (.int .i64 m) ∧ (m ∈ l ∧ ∀ x ∈ l, x ≤ m) ∧ w = w'
/-- The greatest of the first k. -/
def MxK (l : List Int) (k : Nat) (m : Int) : Prop := m ∈ l ∧ ∀ j (hj : j < l.length), j < k → l[j] ≤ m
theorem MxK.keep {l : List Int} {k : Nat} {m : Int} (h : MxK l k m) {x : Int} (hk : ∀ (h : k < l.length), l[k] = x) (hx : x ≤ m) : MxK l (k + 1) m :=
  ⟨h.1, fun j hj hjk => by
    by_cases e : j = k
    · subst e; rw [hk hj]; exact hx
    · exact h.2 j hj (by omega)⟩
theorem MxK.take {l : List Int} {k : Nat} {m : Int} (h : MxK l k m) (hk : k < l.length) {x : Int} (e : l[k] = x) (hx : m ≤ x) : MxK l (k + 1) x :=
  ⟨by rw [← e]; exact List.getElem_mem hk, fun j hj hjk => by
    by_cases e' : j = k
    · subst e'; rw [e]; exact Int.le_refl _
    · exact Int.le_trans (h.2 j hj (by omega)) hx⟩
set_option maxHeartbeats 4000000 in
set_option maxRecDepth 100000 in
theorem ap_max (l : List Int) (v : Value) (w : World) (hv : SliceOf vI 1 w v l) (h0 : 0 < l.length) (hl : l.length ≤ 1000000) :
    Calls Tryz.prog 47 #[v] w (MaxPost w l) := by
  obtain ⟨ao, cp, rfl⟩ := hv.shape
  obtain ⟨b, off, rfl, _, hcap, hcm, hc⟩ := SliceOf.at_ hv h0
  have hcpI : (l.length : Int) ≤ (cp : Int) := by omega
  have hcmI : (cp : Int) ≤ 9223372036854775807 := by unfold maxLen at hcm; omega
  have HC : Hid (∀ k (hk : k < l.length), w.cell? ⟨b, off + k, none⟩ = some (.int .i64 l[k])) := fun k hk => int_cell hc hk
  have h0I : (0 : Int) < (l.length : Int) := by omega
  have hn1 : decide ((l.length : Int) < 1) = false := decide_eq_false (by omega)
  have hn2 : ¬ l.length = 0 := by omega
  have hn3 : decide (l.length < 1) = false := decide_eq_false (by omega)
  have c0 := HC.out 0 h0
  rw [Nat.add_zero] at c0
  have HM0 : Hid (MxK l 1 l[0]) := ⟨List.getElem_mem h0, fun j hj h => by
    obtain rfl : j = 0 := by omega
    exact Int.le_refl _⟩
  clear hc hcap hcm hv
  obtain ⟨x0, hx0⟩ : ∃ x, l[0] = x := ⟨_, rfl⟩
  rw [hx0] at c0 HM0
  clear hx0
  have HH0 := hide h0
  clear h0
  go_enter Tryz.func47, Tryz.ntmps47
  go_wp2_with fail
  clear c0
  go_loop [3, 4] (fun m i => ∃ (k : Nat) (y : Int), k ≤ l.length ∧ i = .int .i64 (k : Int) ∧ m = .int .i64 y ∧ MxK l k y) (fun _ i => l.length - (intOf i).toNat)
  case atStart => exact ⟨1, x0, by have := HH0.out; omega, rfl, rfl, HM0.out⟩
  case round =>
    obtain ⟨k, y, hk, rfl, rfl, hm⟩ := hrel
    have HM := hide hm
    clear hm HM0
    by_cases hlt : k < l.length
    · have hki : (k : Int) < (l.length : Int) := by omega
      have hk0 : (0 : Int) ≤ (k : Int) := by omega
      have c1 := HC.out k hlt
      have HE : Hid (∀ (h : k < l.length), l[k] = l[k]) := fun _ => rfl
      obtain ⟨x, hx⟩ : ∃ x, l[k] = x := ⟨_, rfl⟩
      have HX := hide hx
      rw [hx] at c1
      clear hx HE
      rcases Int.lt_trichotomy y x with hxy | hxy | hxy
      · have HN := hide (HM.out.take hlt HX.out (Int.le_of_lt hxy))
        have d1 : decide (y < x) = true := decide_eq_true hxy
        have d2 : decide (x < y) = false := decide_eq_false (by omega)
        have d3 : ¬ x ≤ y := by omega
        have d4 : y ≤ x := by omega
        go_wp2_with fail
        go_round
        case rel => exact ⟨k + 1, x, by omega, by go_num, rfl, HN.out⟩
        case measure => (simp [intOf]; omega)
      · subst hxy
        have HN := hide (HM.out.take hlt HX.out (Int.le_refl _))
        go_wp2_with fail
        go_round
        case rel => exact ⟨k + 1, y, by omega, by go_num, rfl, HN.out⟩
        case measure => (simp [intOf]; omega)
      · have HN := hide (HM.out.keep (fun _ => HX.out) (Int.le_of_lt hxy))
        have d1 : decide (y < x) = false := decide_eq_false (by omega)
        have d2 : decide (x < y) = true := decide_eq_true hxy
        have d3 : x ≤ y := by omega
        have d4 : ¬ y ≤ x := by omega
        go_wp2_with fail
        go_round
        case rel => exact ⟨k + 1, y, by omega, by go_num, rfl, HN.out⟩
        case measure => (simp [intOf]; omega)
    · have HT : Hid (y ∈ l ∧ ∀ x ∈ l, x ≤ y) := ⟨HM.out.1, fun x hx => by
        obtain ⟨j, hj, rfl⟩ := List.getElem_of_mem hx
        exact HM.out.2 j hj (by omega)⟩
      have hk' : k = l.length := by omega
      subst hk'
      go_wp2_with fail
      go_ret
      exact ⟨_, rfl, HT.out, rfl⟩

/-- A party: its weight, its seats. -/
def vPt (p : Nat × Nat) : List Value := [.int .i64 (p.1 : Int), .int .i64 (p.2 : Int)]
theorem vPt_len (p : Nat × Nat) : (vPt p).length = 2 := rfl
/-- What the products allow. -/
def SmP (p : Nat × Nat) : Prop := p.1 ≤ 1000000000 ∧ p.2 ≤ 1000
set_option maxHeartbeats 1000000 in
set_option maxRecDepth 100000 in
theorem ap_before (p q : Nat × Nat) (w : World) (hp : SmP p) (hq : SmP q) :
    Calls Tryz.prog 49 #[.agg #[.int .i64 (p.1 : Int), .int .i64 (p.2 : Int)], .agg #[.int .i64 (q.1 : Int), .int .i64 (q.2 : Int)]] w
      fun e w' => e = .returned (.bool (befB p q)) ∧ Below w.heap.size w w' := by
  obtain ⟨p1, p2⟩ := p
  obtain ⟨q1, q2⟩ := q
  obtain ⟨hp1, hp2⟩ := hp
  obtain ⟨hq1, hq2⟩ := hq
  simp only at hp1 hp2 hq1 hq2
  have HB := hide (bAlloc (bAlloc (Below.refl w.heap.size w) (.cells #[.int .i64 (p1 : Int), .int .i64 (p2 : Int)] 70)) (.cells #[.int .i64 (q1 : Int), .int .i64 (q2 : Int)] 70))
  have b1 : p1 * (q2 + 1) ≤ 1000000000 * 1001 := Nat.mul_le_mul hp1 (by omega)
  have b2 : q1 * (p2 + 1) ≤ 1000000000 * 1001 := Nat.mul_le_mul hq1 (by omega)
  obtain ⟨m1, hm1⟩ : ∃ m, p1 * (q2 + 1) = m := ⟨_, rfl⟩
  obtain ⟨m2, hm2⟩ : ∃ m, q1 * (p2 + 1) = m := ⟨_, rfl⟩
  have e1 : IntKind.i64.wrap ((p1 : Int) * ((q2 : Int) + 1)) = (m1 : Int) := by
    have : (p1 : Int) * ((q2 : Int) + 1) = (m1 : Int) := by rw [← hm1]; simp
    rw [this]; exact IntWalk.i64_in _ (by omega)
  have e2 : IntKind.i64.wrap ((q1 : Int) * ((p2 : Int) + 1)) = (m2 : Int) := by
    have : (q1 : Int) * ((p2 : Int) + 1) = (m2 : Int) := by rw [← hm2]; simp
    rw [this]; exact IntWalk.i64_in _ (by omega)
  have HE : Hid (befB (p1, p2) (q1, q2) = decide (m2 < m1)) := by
    show _ = _
    unfold befB
    rw [← hm1, ← hm2]
  clear hm1 hm2
  have hq0 : (0 : Int) ≤ (q2 : Int) := by omega
  have hp0 : (0 : Int) ≤ (p2 : Int) := by omega
  rcases Nat.lt_or_ge m2 m1 with hlt | hge
  · have HT : Hid (befB (p1, p2) (q1, q2) = true) := by rw [HE.out]; exact decide_eq_true hlt
    have d1 : decide ((m2 : Int) < (m1 : Int)) = true := decide_eq_true (by omega)
    have d2 : decide (m2 < m1) = true := decide_eq_true hlt
    go_enter Tryz.func49, Tryz.ntmps49
    go_wp2_with fail
    go_ret
    exact ⟨ret_bool HT.out.symm, HB.out⟩
  · have HT : Hid (befB (p1, p2) (q1, q2) = false) := by rw [HE.out]; exact decide_eq_false (by omega)
    have d1 : decide ((m2 : Int) < (m1 : Int)) = false := decide_eq_false (by omega)
    have d2 : decide (m2 < m1) = false := decide_eq_false (by omega)
    go_enter Tryz.func49, Tryz.ntmps49
    go_wp2_with fail
    go_ret
    exact ⟨ret_bool HT.out.symm, HB.out⟩
end Go.Proofs.YtcgplokdklomlaaGreatDoor
