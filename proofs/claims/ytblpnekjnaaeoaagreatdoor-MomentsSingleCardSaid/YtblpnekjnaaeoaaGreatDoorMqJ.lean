/- law 46, plain: sizes by common denominators. -/
import Derived.Test.YtblpnekjnaaeoaaGreatDoorPkP
set_option linter.unusedVariables false
set_option linter.unusedSimpArgs false
namespace Go.Proofs.YtblpnekjnaaeoaaGreatDoor

/-- q times D is an integer, and q is at most M. -/
def Qd (D M : Nat) (q : Rat) : Prop := 0 < D ∧ ∃ n : Int, q * (D : Rat) = (n : Rat) ∧ n.natAbs ≤ M * D
theorem Qd.self (q : Rat) : Qd q.den (nmQ q) q := by
  refine ⟨den_pos q, q.num, ?_, Nat.le_mul_of_pos_right _ (den_pos q)⟩
  have h0 : (q.den : Rat) ≠ 0 := by have := q.den_nz; exact_mod_cast this
  have h : (q.num : Rat) / (q.den : Rat) = q := by rw [← Rat.mkRat_eq_div, Rat.mkRat_self]
  have : q * (q.den : Rat) = (q.num : Rat) / (q.den : Rat) * (q.den : Rat) := by rw [h]
  rw [this]; grind
theorem Qd.mono {D M N : Nat} {q : Rat} (h : Qd D M q) (hm : M ≤ N) : Qd D N q := by
  obtain ⟨h0, n, e, hn⟩ := h
  exact ⟨h0, n, e, Nat.le_trans hn (Nat.mul_le_mul_right _ hm)⟩
theorem Qd.scale {D M : Nat} {q : Rat} (h : Qd D M q) {k : Nat} (hk : 0 < k) : Qd (D * k) M q := by
  obtain ⟨h0, n, e, hn⟩ := h
  refine ⟨Nat.mul_pos h0 hk, n * (k : Int), ?_, ?_⟩
  · rw [Rat.natCast_mul, ← Rat.mul_assoc, e, Rat.intCast_mul]; rfl
  · rw [Int.natAbs_mul, Int.natAbs_natCast, ← Nat.mul_assoc]
    exact Nat.mul_le_mul_right _ hn
theorem Qd.scale' {D M : Nat} {q : Rat} (h : Qd D M q) {k : Nat} (hk : 0 < k) : Qd (k * D) M q := by rw [Nat.mul_comm]; exact h.scale hk
theorem Qd.add {D M N : Nat} {p q : Rat} (h : Qd D M p) (k : Qd D N q) : Qd D (M + N) (p + q) := by
  obtain ⟨h0, n, e, hn⟩ := h
  obtain ⟨_, m, f, hm⟩ := k
  refine ⟨h0, n + m, ?_, ?_⟩
  · rw [Rat.add_mul, e, f, Rat.intCast_add]
  · rw [Nat.add_mul]
    exact Nat.le_trans (Int.natAbs_add_le n m) (Nat.add_le_add hn hm)
theorem Qd.mul {D E M N : Nat} {p q : Rat} (h : Qd D M p) (k : Qd E N q) : Qd (D * E) (M * N) (p * q) := by
  obtain ⟨h0, n, e, hn⟩ := h
  obtain ⟨k0, m, f, hm⟩ := k
  refine ⟨Nat.mul_pos h0 k0, n * m, ?_, ?_⟩
  · rw [Rat.natCast_mul, Rat.intCast_mul, ← e, ← f]; grind
  · rw [Int.natAbs_mul]
    calc n.natAbs * m.natAbs ≤ (M * D) * (N * E) := Nat.mul_le_mul hn hm
      _ = M * N * (D * E) := by simp only [Nat.mul_assoc, Nat.mul_left_comm]
theorem Qd.neg {D M : Nat} {q : Rat} (h : Qd D M q) : Qd D M (-q) := by
  obtain ⟨h0, n, e, hn⟩ := h
  exact ⟨h0, -n, by rw [Rat.neg_mul, e, Rat.intCast_neg], by rw [Int.natAbs_neg]; exact hn⟩
theorem Qd.parts {D M : Nat} {q : Rat} (h : Qd D M q) : nmQ q ≤ M * D ∧ q.den ≤ D := by
  obtain ⟨h0, n, e, hn⟩ := h
  have hD : (D : Rat) ≠ 0 := by have : D ≠ 0 := by omega
                                exact_mod_cast this
  have e1 : q = ofQ n (D : Int) := by
    unfold ofQ
    have : ((D : Int) : Rat) = (D : Rat) := rfl
    rw [this, ← e]; grind
  have e2 := mkQ_ofQ n (D : Int) (by omega)
  have h3 := mkQ_le (decide (n < 0) != decide ((D : Int) < 0)) n.natAbs (D : Int).natAbs (by omega)
  rw [e2, ← e1] at h3
  exact ⟨Nat.le_trans h3.1 hn, by have := h3.2; omega⟩
theorem Qd.fit {D M : Nat} {q : Rat} (h : Qd D M q) (h1 : M * D < capN) (h2 : D < capN) : FitQ q :=
  ⟨Nat.lt_of_le_of_lt h.parts.1 h1, Nat.lt_of_le_of_lt h.parts.2 h2⟩
theorem Qd.addR {D E M N : Nat} {p q : Rat} (h : Qd D M p) (k : Qd E N q) (h1 : (M + N) * (D * E) < capN) (h2 : D * E < capN) : addR p q = some (p + q) := by
  obtain ⟨a1, a2⟩ := h.parts
  obtain ⟨b1, b2⟩ := k.parts
  have x1 : nmQ p * q.den ≤ M * (D * E) := by
    calc nmQ p * q.den ≤ (M * D) * E := Nat.mul_le_mul a1 b2
      _ = M * (D * E) := Nat.mul_assoc ..
  have x2 : nmQ q * p.den ≤ N * (D * E) := by
    calc nmQ q * p.den ≤ (N * E) * D := Nat.mul_le_mul b1 a2
      _ = N * (D * E) := by rw [Nat.mul_assoc, Nat.mul_comm E D]
  have x3 : p.den * q.den ≤ D * E := Nat.mul_le_mul a2 b2
  rw [Nat.add_mul] at h1
  have key : ∀ C, M * (D * E) + N * (D * E) < C → D * E < C → nmQ p * q.den < C ∧ nmQ q * p.den < C ∧ p.den * q.den < C ∧ (ngQ p = ngQ q → nmQ p * q.den + nmQ q * p.den < C) := fun C c1 c2 => ⟨by omega, by omega, by omega, fun _ => by omega⟩
  exact addR_ok (key capN h1 h2)
theorem Qd.mulR {D E M N : Nat} {p q : Rat} (h : Qd D M p) (k : Qd E N q) (h1 : M * N * (D * E) < capN) (h2 : D * E < capN) : mulR p q = some (p * q) := by
  obtain ⟨a1, a2⟩ := h.parts
  obtain ⟨b1, b2⟩ := k.parts
  have x1 : nmQ p * nmQ q ≤ M * N * (D * E) := by
    calc nmQ p * nmQ q ≤ (M * D) * (N * E) := Nat.mul_le_mul a1 b1
      _ = M * N * (D * E) := by simp only [Nat.mul_assoc, Nat.mul_left_comm]
  have x3 : p.den * q.den ≤ D * E := Nat.mul_le_mul a2 b2
  exact mulR_ok ⟨Nat.lt_of_le_of_lt x1 h1, Nat.lt_of_le_of_lt x3 h2⟩
/-- A product of denominators. -/
def dens (l : List Rat) : Nat := l.foldr (fun q d => q.den * d) 1
theorem dens_pos (l : List Rat) : 0 < dens l := by
  induction l with
  | nil => exact Nat.one_pos
  | cons q l ih => exact Nat.mul_pos (den_pos q) ih
theorem dens_mem {l : List Rat} {q : Rat} (h : q ∈ l) : Qd (dens l) (nmQ q) q := by
  induction l with
  | nil => cases h
  | cons p l ih =>
    rcases List.mem_cons.1 h with rfl | h
    · exact (Qd.self q).scale (dens_pos l)
    · exact (ih h).scale' (den_pos p)
theorem dens_le {l : List Rat} {B : Nat} (h : ∀ q ∈ l, q.den ≤ B) : dens l ≤ B ^ l.length := by
  induction l with
  | nil => exact Nat.le_refl _
  | cons q l ih =>
    show q.den * dens l ≤ B ^ (l.length + 1)
    rw [Nat.pow_succ, Nat.mul_comm]
    exact Nat.mul_le_mul (ih fun r hr => h r (List.mem_cons_of_mem _ hr)) (h q (List.mem_cons_self ..))
/-- The sum of a list is exact if it stays below the limit. -/
theorem totO_qd {D B : Nat} (hD : 0 < D) : ∀ (l : List Rat) (s : Rat) (M : Nat), (∀ q ∈ l, Qd D B q) → Qd D M s → (M + l.length * B) * (D * D) < capN → D * D < capN → l.foldl totS (some s) = some (s + l.foldr (fun q r => q + r) 0)
  | [], s, M, _, _, _, _ => by simp only [List.foldl_nil, List.foldr_nil]; rw [Rat.add_zero]
  | q :: l, s, M, hl, hs, h1, h2 => by
    have hq := hl q (List.mem_cons_self ..)
    have hlen : M + (q :: l).length * B = (M + B) + l.length * B := by simp only [List.length_cons]; rw [Nat.succ_mul]; omega
    rw [hlen] at h1
    have e : totS (some s) q = some (s + q) := by
      unfold totS
      rw [Option.bind_some]
      exact hs.addR hq (Nat.lt_of_le_of_lt (Nat.mul_le_mul_right _ (Nat.le_add_right _ _)) h1) h2
    rw [List.foldl_cons, e, totO_qd hD l (s + q) (M + B) (fun r hr => hl r (List.mem_cons_of_mem _ hr)) (hs.add hq) h1 h2, List.foldr_cons, Rat.add_assoc]
theorem totE_foldr (L : List PQ) : (L.map fun z => z.2).foldr (fun q r => q + r) 0 = totE L := by
  unfold totE
  induction L with
  | nil => rfl
  | cons p l ih => simp only [List.map_cons, List.foldr_cons, ih, dot]; grind
theorem foldl_totS_none (l : List Rat) : l.foldl totS none = none := by
  induction l with
  | nil => rfl
  | cons q l ih => exact ih
theorem totO_exact (l : List Rat) : ∀ (o r : Rat), l.foldl totS (some o) = some r → r = o + l.foldr (fun q r => q + r) 0 := by
  induction l with
  | nil =>
    intro o r h
    simp only [List.foldl_nil, Option.some.injEq] at h
    rw [← h, List.foldr_nil, Rat.add_zero]
  | cons q l ih =>
    intro o r h
    rw [List.foldl_cons] at h
    cases ha : totS (some o) q with
    | none =>
      rw [ha, foldl_totS_none] at h
      cases h
    | some s =>
      rw [ha] at h
      have hs : s = o + q := by
        unfold totS at ha
        rw [Option.bind_some] at ha
        exact (addR_fit ha).1
      rw [ih s r h, hs, List.foldr_cons, Rat.add_assoc]
theorem VD.totE {M : List (T3 × T3)} {L : List PQ} (h : VD M L) : totE L = 1 := by
  have := totO_exact _ _ _ h.tot
  rw [totE_foldr] at this
  rw [this]; grind
end Go.Proofs.YtblpnekjnaaeoaaGreatDoor
