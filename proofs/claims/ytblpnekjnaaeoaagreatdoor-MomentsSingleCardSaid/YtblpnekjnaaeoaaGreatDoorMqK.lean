/- law 46, plain: few points have no limit. -/
import Derived.Test.YtblpnekjnaaeoaaGreatDoorMqJ
set_option linter.unusedVariables false
set_option linter.unusedSimpArgs false
namespace Go.Proofs.YtblpnekjnaaeoaaGreatDoor

def P20 : Nat := 10 ^ 20
theorem capK_pow (m n : Nat) : capK (m * n) = capK m ^ n := Nat.pow_mul 10 m n
theorem P20_K : P20 = capK 20 := rfl
theorem cap_P : capN = P20 ^ 50 := by
  rw [P20_K, ← capK_pow 20 50]
  unfold capN
  exact congrArg capK (by decide)
theorem P20_pos : 0 < P20 := by unfold P20; decide
theorem P20_big : 1000 ≤ P20 := by unfold P20; decide
theorem P_lt {a : Nat} (h : a < 50) : P20 ^ a < capN := by
  rw [cap_P]
  exact Nat.pow_lt_pow_right (Nat.lt_of_lt_of_le (by decide) P20_big) h
theorem P_le {a b : Nat} (h : a ≤ b) : P20 ^ a ≤ P20 ^ b := Nat.pow_le_pow_right P20_pos h
/-- k times a product of powers stays below the limit. -/
theorem P_bd {k x y a b : Nat} (hk : k ≤ 1000) (hx : x ≤ P20 ^ a) (hy : y ≤ P20 ^ b) (h : a + b + 1 < 50) : k * x * y < capN := by
  have h1 : k * x * y ≤ P20 ^ 1 * P20 ^ a * P20 ^ b := Nat.mul_le_mul (Nat.mul_le_mul (by rw [Nat.pow_one]; exact Nat.le_trans hk P20_big) hx) hy
  rw [← Nat.pow_add, ← Nat.pow_add] at h1
  exact Nat.lt_of_le_of_lt h1 (P_lt (by omega))
/-- A number of at most 20 digits. -/
def S20 (q : Rat) : Prop := nmQ q ≤ P20 ∧ q.den ≤ P20
def FewL (L : List PQ) : Prop := L.length ≤ 5 ∧ ∀ z ∈ L, S20 z.1 ∧ S20 z.2
theorem s20_of {q : Rat} (h : (rqM q).2.1.size ≤ 20 ∧ (rqM q).2.2.size ≤ 20) : S20 q := by
  have h1 : (natS (nmQ q)).size ≤ 20 := h.1
  have h2 : (natS q.den).size ≤ 20 := h.2
  rw [natS_size] at h1 h2
  exact ⟨Nat.le_of_lt ((capK_len (by decide)).1 h1), Nat.le_of_lt ((capK_len (by decide)).1 h2)⟩
theorem few_of {L : List PQ} (h : fewM (L.map encP) = true) : FewL L := by
  obtain ⟨h1, h2⟩ := fewM_iff.1 h
  rw [List.length_map] at h1
  refine ⟨h1, fun z hz => ?_⟩
  have h3 := h2 (encP z) (List.mem_map_of_mem hz)
  unfold smallP fewQ at h3
  simp only [List.all_cons, List.all_nil, Bool.and_true, Bool.and_eq_true, decide_eq_true_eq] at h3
  exact ⟨s20_of h3.1, s20_of h3.2⟩
/-- The denominators of the values, and of the weights. -/
def dV (L : List PQ) : Nat := dens (L.map fun z => z.1)
def dW (L : List PQ) : Nat := dens (L.map fun z => z.2)
theorem dV_le {L : List PQ} (h : FewL L) : dV L ≤ P20 ^ 5 := by
  have h1 : dV L ≤ P20 ^ L.length := by
    have := dens_le (l := L.map fun z => z.1) (B := P20) (fun q hq => by obtain ⟨z, hz, rfl⟩ := List.mem_map.1 hq; exact (h.2 z hz).1.2)
    rwa [List.length_map] at this
  exact Nat.le_trans h1 (P_le h.1)
theorem dW_le {L : List PQ} (h : FewL L) : dW L ≤ P20 ^ 5 := by
  have h1 : dW L ≤ P20 ^ L.length := by
    have := dens_le (l := L.map fun z => z.2) (B := P20) (fun q hq => by obtain ⟨z, hz, rfl⟩ := List.mem_map.1 hq; exact (h.2 z hz).2.2)
    rwa [List.length_map] at this
  exact Nat.le_trans h1 (P_le h.1)
theorem dV_mem {L : List PQ} (h : FewL L) {z : PQ} (hz : z ∈ L) : Qd (dV L) P20 z.1 := (dens_mem (List.mem_map_of_mem (f := fun z : PQ => z.1) hz)).mono (h.2 z hz).1.1
theorem dW_mem {L : List PQ} (h : FewL L) {z : PQ} (hz : z ∈ L) : Qd (dW L) P20 z.2 := (dens_mem (List.mem_map_of_mem (f := fun z : PQ => z.2) hz)).mono (h.2 z hz).2.1
theorem dV_pos (L : List PQ) : 0 < dV L := dens_pos _
theorem dW_pos (L : List PQ) : 0 < dW L := dens_pos _
theorem s20_qd {q : Rat} (h : S20 q) : Qd q.den P20 q := (Qd.self q).mono h.1
theorem s20_mul {p q : Rat} (hp : S20 p) (hq : S20 q) : mulR p q = some (p * q) := by
  refine (s20_qd hp).mulR (s20_qd hq) ?_ ?_
  · have h1 : P20 * P20 * (p.den * q.den) ≤ P20 ^ 4 := by
      have := Nat.mul_le_mul (Nat.le_refl (P20 * P20)) (Nat.mul_le_mul hp.2 hq.2)
      have e : P20 * P20 * (P20 * P20) = P20 ^ 4 := by simp only [Nat.pow_succ, Nat.pow_zero, Nat.one_mul, Nat.mul_assoc]
      rwa [e] at this
    exact Nat.lt_of_le_of_lt h1 (P_lt (by decide))
  · have h1 : p.den * q.den ≤ P20 ^ 2 := by
      have := Nat.mul_le_mul hp.2 hq.2
      have e : P20 * P20 = P20 ^ 2 := by simp only [Nat.pow_succ, Nat.pow_zero, Nat.one_mul]
      rwa [e] at this
    exact Nat.lt_of_le_of_lt h1 (P_lt (by decide))
theorem s20_add {p q : Rat} (hp : S20 p) (hq : S20 q) : addR p q = some (p + q) := by
  refine (s20_qd hp).addR (s20_qd hq) ?_ ?_
  · have h1 : (P20 + P20) * (p.den * q.den) ≤ 2 * P20 * P20 ^ 2 := by
      have h2 := Nat.mul_le_mul hp.2 hq.2
      have e : P20 * P20 = P20 ^ 2 := by simp only [Nat.pow_succ, Nat.pow_zero, Nat.one_mul]
      rw [e] at h2
      exact Nat.mul_le_mul (by omega) h2
    exact Nat.lt_of_le_of_lt h1 (P_bd (k := 2) (a := 1) (b := 2) (by decide) (by rw [Nat.pow_one]; exact Nat.le_refl _) (Nat.le_refl _) (by decide))
  · have h1 : p.den * q.den ≤ P20 ^ 2 := by
      have := Nat.mul_le_mul hp.2 hq.2
      have e : P20 * P20 = P20 ^ 2 := by simp only [Nat.pow_succ, Nat.pow_zero, Nat.one_mul]
      rwa [e] at this
    exact Nat.lt_of_le_of_lt h1 (P_lt (by decide))
theorem mean_qd {D B : Nat} : ∀ (L : List PQ) (s : Rat) (M : Nat), (∀ z ∈ L, mulR z.1 z.2 = some (z.1 * z.2) ∧ Qd D B (z.1 * z.2)) → Qd D M s → (M + L.length * B) * (D * D) < capN → D * D < capN → L.foldl meanS (some s) = some (s + meanE L) := by
  intro L
  induction L with
  | nil =>
    intro s M _ _ _ _
    simp only [List.foldl_nil, meanE, dot, Rat.add_zero]
  | cons z L ih =>
    intro s M hl hs h1 h2
    obtain ⟨hm, hq⟩ := hl z (List.mem_cons_self ..)
    have hlen : M + (z :: L).length * B = (M + B) + L.length * B := by simp only [List.length_cons]; rw [Nat.succ_mul]; omega
    rw [hlen] at h1
    have e : meanS (some s) z = some (s + z.1 * z.2) := by
      unfold meanS
      rw [Option.bind_some, hm, Option.bind_some]
      exact hs.addR hq (Nat.lt_of_le_of_lt (Nat.mul_le_mul_right _ (Nat.le_add_right _ _)) h1) h2
    rw [List.foldl_cons, e, ih _ (M + B) (fun r hr => hl r (List.mem_cons_of_mem _ hr)) (hs.add hq) h1 h2]
    have e2 : meanE (z :: L) = z.1 * z.2 + meanE L := by simp only [meanE, dot]
    rw [e2, Rat.add_assoc]
theorem mean_few {L : List PQ} (h : FewL L) : meanO L L.length = some (meanE L) := by
  have hD : dV L * dW L ≤ P20 ^ 10 := by
    have := Nat.mul_le_mul (dV_le h) (dW_le h)
    rwa [← Nat.pow_add] at this
  have hDD : dV L * dW L * (dV L * dW L) ≤ P20 ^ 20 := by
    have := Nat.mul_le_mul hD hD
    rwa [← Nat.pow_add] at this
  unfold meanO
  rw [List.take_length]
  have h0 : Qd (dV L * dW L) 0 0 := ⟨Nat.mul_pos (dV_pos L) (dW_pos L), 0, by rw [Rat.zero_mul]; rfl, by simp⟩
  have := mean_qd (D := dV L * dW L) (B := P20 * P20) L 0 0 (fun z hz => ⟨s20_mul (h.2 z hz).1 (h.2 z hz).2, (dV_mem h hz).mul (dW_mem h hz)⟩) h0 (by
    rw [Nat.zero_add]
    have e : P20 * P20 ≤ P20 ^ 2 := by simp only [Nat.pow_succ, Nat.pow_zero, Nat.one_mul]; exact Nat.le_refl _
    exact P_bd (k := L.length) (a := 2) (b := 20) (by have := h.1; omega) e hDD (by decide)) (Nat.lt_of_le_of_lt hDD (P_lt (by decide)))
  rw [this, Rat.zero_add]
end Go.Proofs.YtblpnekjnaaeoaaGreatDoor
