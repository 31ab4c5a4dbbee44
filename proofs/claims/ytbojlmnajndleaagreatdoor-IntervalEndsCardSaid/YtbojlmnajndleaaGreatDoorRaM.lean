/- Sizes of numbers; the functions of package rational by letters. -/
import Derived.Test.YtbojlmnajndleaaGreatDoorRaL
set_option linter.unusedVariables false
set_option linter.unusedSimpArgs false
namespace Go.Proofs.YtbojlmnajndleaaGreatDoor
open Go.RowKit Go.Sort

/-- Both parts have at most k digits. -/
def Sz (k : Nat) (q : Rat) : Prop := nmQ q < capK k ∧ q.den < capK k
theorem Sz.mono {j k : Nat} {q : Rat} (h : Sz j q) (hk : j ≤ k) : Sz k q := ⟨Nat.lt_of_lt_of_le h.1 (capK_le hk), Nat.lt_of_lt_of_le h.2 (capK_le hk)⟩
theorem Sz.fit {k : Nat} {q : Rat} (h : Sz k q) (hk : k ≤ 1000) : FitQ q := ⟨to_capN h.1 hk, to_capN h.2 hk⟩
theorem Sz.mul {j k : Nat} {p q : Rat} (hp : Sz j p) (hq : Sz k q) : Sz (j + k) (p * q) := by
  rw [← mul_mk]
  obtain ⟨a, b⟩ := mkQ_le (ngQ p != ngQ q) (nmQ p * nmQ q) (p.den * q.den) (Nat.mul_pos (den_pos p) (den_pos q))
  exact ⟨Nat.lt_of_le_of_lt a (mul_capK hp.1 hq.1), Nat.lt_of_le_of_lt b (mul_capK hp.2 hq.2)⟩
theorem Sz.mulFit {j k : Nat} {p q : Rat} (hp : Sz j p) (hq : Sz k q) (h : j + k ≤ 1000) : mulFit p q :=
  ⟨to_capN (mul_capK hp.1 hq.1) h, to_capN (mul_capK hp.2 hq.2) h⟩
theorem Sz.cross {j k : Nat} {p q : Rat} (hp : Sz j p) (hq : Sz k q) : nmQ p * q.den < capK (j + k) ∧ nmQ q * p.den < capK (j + k) ∧ p.den * q.den < capK (j + k) ∧ nmQ p * q.den + nmQ q * p.den < capK (j + k + 1) := by
  have h1 := mul_capK hp.1 hq.2
  have h2 := mul_capK hq.1 hp.2
  have h3 := mul_capK hp.2 hq.2
  rw [Nat.add_comm k j] at h2
  have h4 := capK_two (j + k)
  exact ⟨h1, h2, h3, by omega⟩
theorem Sz.addFit {j k : Nat} {p q : Rat} (hp : Sz j p) (hq : Sz k q) (h : j + k + 1 ≤ 1000) : addFit p q := by
  obtain ⟨h1, h2, h3, h4⟩ := hp.cross hq
  exact ⟨to_capN h1 (by omega), to_capN h2 (by omega), to_capN h3 (by omega), fun _ => to_capN h4 h⟩
theorem Sz.add {j k : Nat} {p q : Rat} (hp : Sz j p) (hq : Sz k q) : Sz (j + k + 1) (p + q) := by
  obtain ⟨h1, h2, h3, h4⟩ := hp.cross hq
  have h5 := capK_le (show j + k ≤ j + k + 1 by omega)
  have hd := Nat.mul_pos (den_pos p) (den_pos q)
  by_cases h : ngQ p = ngQ q
  · rw [← add_same h]
    obtain ⟨a, b⟩ := mkQ_le (ngQ p) (nmQ p * q.den + nmQ q * p.den) (p.den * q.den) hd
    exact ⟨by omega, by omega⟩
  · rcases Nat.le_total (nmQ q * p.den) (nmQ p * q.den) with hl | hl
    · rw [← add_left h hl]
      obtain ⟨a, b⟩ := mkQ_le (ngQ p) (nmQ p * q.den - nmQ q * p.den) (p.den * q.den) hd
      exact ⟨by omega, by omega⟩
    · rw [← add_right h hl]
      obtain ⟨a, b⟩ := mkQ_le (ngQ q) (nmQ q * p.den - nmQ p * q.den) (p.den * q.den) hd
      exact ⟨by omega, by omega⟩
theorem Sz.neg {k : Nat} {q : Rat} (h : Sz k q) : Sz k (-q) := by
  obtain ⟨_, e2, e3⟩ := neg_parts q
  unfold Sz
  rw [e2, e3]
  exact h
theorem Sz.sub {j k : Nat} {p q : Rat} (hp : Sz j p) (hq : Sz k q) : Sz (j + k + 1) (p - q) := by
  rw [Rat.sub_eq_add_neg]; exact hp.add hq.neg
theorem Sz.inv {k : Nat} {q : Rat} (h : Sz k q) (h0 : q ≠ 0) : Sz k q⁻¹ := by
  obtain ⟨_, e2, e3⟩ := inv_parts h0
  unfold Sz
  rw [e2, e3]
  exact ⟨h.2, h.1⟩
/-- The parts of a number. -/
def IsQ (q : Rat) (g : Bool) (s t : ByteArray) : Prop := rqV q = .agg #[.bool g, .string s, .string t]
theorem IsQ.self (q : Rat) : IsQ q (ngQ q) (natS (nmQ q)) (natS q.den) := rfl
theorem IsQ.get (q : Rat) : ∃ g s t, IsQ q g s t := ⟨_, _, _, IsQ.self q⟩
theorem IsQ.inj {p q : Rat} {g : Bool} {s t : ByteArray} (h : IsQ p g s t) (h' : IsQ q g s t) : p = q := by
  have e : rqV p = rqV q := Eq.trans h h'.symm
  unfold rqV at e
  simp only [Value.agg.injEq, Array.mk.injEq, List.cons.injEq, Value.bool.injEq, Value.string.injEq, and_true] at e
  obtain ⟨e1, e2, e3⟩ := e
  rw [← mkQ_self p, ← mkQ_self q, e1, natS_inj e2, natS_inj e3]
theorem add_okq {p q r : Rat} {g g1 g2 : Bool} {s t s1 t1 s2 t2 : ByteArray} {j k : Nat} (hp : Sz j p) (hq : Sz k q) (hjk : j + k + 1 ≤ 1000) (e : p + q = r) (ep : IsQ p g1 s1 t1) (eq : IsQ q g2 s2 t2) (er : IsQ r g s t) (W : World) (hW : LawW W) :
    Calls Tryz.prog 23 #[.agg #[.bool g1, .string s1, .string t1], .agg #[.bool g2, .string s2, .string t2]] W fun e w' => e = .returned (.tuple #[.agg #[.bool g, .string s, .string t], .int .i64 0]) ∧ Below W.heap.size W w' := by
  have h := rat_Add p q W (hp.fit (by omega)) (hq.fit (by omega)) hW
  rw [addR_ok (hp.addFit hq hjk)] at h
  unfold RvPost at h
  rw [ep, eq] at h
  have e2 : rvV (some (p + q)) = .agg #[.bool g, .string s, .string t] := by rw [e]; exact er
  rw [e2] at h
  exact h
theorem mul_okq {p q r : Rat} {g g1 g2 : Bool} {s t s1 t1 s2 t2 : ByteArray} {j k : Nat} (hp : Sz j p) (hq : Sz k q) (hjk : j + k ≤ 1000) (e : p * q = r) (ep : IsQ p g1 s1 t1) (eq : IsQ q g2 s2 t2) (er : IsQ r g s t) (W : World) (hW : LawW W) :
    Calls Tryz.prog 24 #[.agg #[.bool g1, .string s1, .string t1], .agg #[.bool g2, .string s2, .string t2]] W fun e w' => e = .returned (.tuple #[.agg #[.bool g, .string s, .string t], .int .i64 0]) ∧ Below W.heap.size W w' :=
  mul_ok (hp.fit (by omega)) (hq.fit (by omega)) (hp.mulFit hq hjk) e ep eq er W hW
theorem valid_okq {q : Rat} {g : Bool} {s t : ByteArray} {k : Nat} (h : Sz k q) (hk : k ≤ 1000) (e : IsQ q g s t) (W : World) (hW : LawW W) :
    Calls Tryz.prog 36 #[.agg #[.bool g, .string s, .string t]] W fun e w' => e = .returned (.bool true) ∧ Below W.heap.size W w' := by
  have h := rat_valid_q q W (h.fit hk) hW
  rw [e] at h
  exact h
theorem cmp_okq {p q : Rat} {g1 g2 : Bool} {s1 t1 s2 t2 : ByteArray} {j k : Nat} (hp : Sz j p) (hq : Sz k q) (hj : j ≤ 1000) (hk : k ≤ 1000) (ep : IsQ p g1 s1 t1) (eq : IsQ q g2 s2 t2) (W : World) (hW : LawW W) :
    Calls Tryz.prog 37 #[.agg #[.bool g1, .string s1, .string t1], .agg #[.bool g2, .string s2, .string t2]] W fun e w' => e = .returned (.int .i64 (cmpQ p q)) ∧ Below W.heap.size W w' := by
  have h := rat_Compare p q W (hp.fit hj) (hq.fit hk) hW
  rw [ep, eq] at h
  exact h
/-- What a valid number of few digits is. -/
theorem few_q {g : Bool} {s t : ByteArray} {k : Nat} (hk : 1 ≤ k) (hs : s.size ≤ k) (ht : t.size ≤ k) (h : vldR g s t = true) : ∃ q, IsQ q g s t ∧ Sz k q := by
  obtain ⟨q, rfl, rfl, rfl, h1, h2⟩ := vldR_iff.1 h
  refine ⟨q, IsQ.self q, ?_, ?_⟩
  · rw [natS_size] at hs; exact (capK_len hk).1 hs
  · rw [natS_size] at ht; exact (capK_len hk).1 ht
theorem fewQ_two {a b : Bool × ByteArray × ByteArray} (h : fewQ 40 [a, b] = true) : a.2.1.size ≤ 40 ∧ a.2.2.size ≤ 40 ∧ b.2.1.size ≤ 40 ∧ b.2.2.size ≤ 40 := by
  unfold fewQ at h
  simp only [List.all_cons, List.all_nil, Bool.and_true, Bool.and_eq_true, decide_eq_true_eq] at h
  exact ⟨h.1.1, h.1.2, h.2.1, h.2.2⟩
theorem fewQ_three {a b c : Bool × ByteArray × ByteArray} (h : fewQ 40 [a, b, c] = true) : (a.2.1.size ≤ 40 ∧ a.2.2.size ≤ 40) ∧ (b.2.1.size ≤ 40 ∧ b.2.2.size ≤ 40) ∧ c.2.1.size ≤ 40 ∧ c.2.2.size ≤ 40 := by
  unfold fewQ at h
  simp only [List.all_cons, List.all_nil, Bool.and_true, Bool.and_eq_true, decide_eq_true_eq] at h
  exact ⟨h.1, h.2.1, h.2.2⟩
end Go.Proofs.YtbojlmnajndleaaGreatDoor
