/- What is reached from where, when a vertex is added; groups in order: in plain Lean. -/
import Derived.Test.YtahlhiiekgnmpabMrgP
set_option linter.unusedVariables false
set_option linter.unusedSimpArgs false
namespace Go.Proofs.Ytahlhiiekgnmpab

inductive Conn (P : Nat → Nat → Prop) : Nat → Nat → Prop
  | refl (x : Nat) : Conn P x x
  | tail {x y z : Nat} : Conn P x y → P y z → Conn P x z
section
variable {P : Nat → Nat → Prop}
theorem Conn.trans {x y z : Nat} (h : Conn P x y) (k : Conn P y z) : Conn P x z := by
  induction k with
  | refl => exact h
  | tail _ p ih => exact ih.tail p
theorem Conn.head {x y z : Nat} (p : P x y) (h : Conn P y z) : Conn P x z := (Conn.tail (.refl x) p).trans h
theorem Conn.symm (hs : ∀ x y, P x y → P y x) {x y : Nat} (h : Conn P x y) : Conn P y x := by
  induction h with
  | refl => exact .refl _
  | tail _ p ih => exact Conn.head (hs _ _ p) ih
theorem Conn.mono {Q : Nat → Nat → Prop} (h : ∀ x y, P x y → Q x y) {x y : Nat} (k : Conn P x y) : Conn Q x y := by
  induction k with
  | refl => exact .refl _
  | tail _ p ih => exact ih.tail (h _ _ p)
theorem Conn.le {n : Nat} (hs : ∀ x y, P x y → x < n ∧ y < n) {x y : Nat} (h : Conn P x y) : x = y ∨ (x < n ∧ y < n) := by
  induction h with
  | refl => exact .inl rfl
  | tail _ p ih =>
    have h1 := hs _ _ p
    rcases ih with rfl | h2
    · exact .inr h1
    · exact .inr ⟨h2.1, h1.2⟩
end
/-- Whose group has, of the first k, one that is next to n; and n itself. -/
def Touch (P : Nat → Nat → Prop) (Q : Nat → Prop) (n k x : Nat) : Prop := x = n ∨ ∃ i, i < k ∧ Q i ∧ Conn P x i
theorem Touch.zero (P : Nat → Nat → Prop) (Q : Nat → Prop) (n x : Nat) : Touch P Q n 0 x ↔ x = n := by
  unfold Touch
  constructor
  · rintro (h | ⟨i, hi, _⟩)
    · exact h
    · omega
  · exact .inl
theorem Touch.yes {P : Nat → Nat → Prop} {Q : Nat → Prop} {n k x : Nat} (h : Q k) : Touch P Q n (k + 1) x ↔ Touch P Q n k x ∨ Conn P x k := by
  unfold Touch
  constructor
  · rintro (h1 | ⟨i, h1, h2, h3⟩)
    · exact .inl (.inl h1)
    · by_cases e : i = k
      · subst e; exact .inr h3
      · exact .inl (.inr ⟨i, by omega, h2, h3⟩)
  · rintro ((h1 | ⟨i, h1, h2, h3⟩) | h1)
    · exact .inl h1
    · exact .inr ⟨i, by omega, h2, h3⟩
    · exact .inr ⟨k, by omega, h, h1⟩
theorem Touch.no {P : Nat → Nat → Prop} {Q : Nat → Prop} {n k x : Nat} (h : ¬ Q k) : Touch P Q n (k + 1) x ↔ Touch P Q n k x := by
  unfold Touch
  constructor
  · rintro (h1 | ⟨i, h1, h2, h3⟩)
    · exact .inl h1
    · by_cases e : i = k
      · subst e; exact absurd h2 h
      · exact .inr ⟨i, by omega, h2, h3⟩
  · rintro (h1 | ⟨i, h1, h2, h3⟩)
    · exact .inl h1
    · exact .inr ⟨i, by omega, h2, h3⟩
/-- The groups after the first k were looked at. -/
def GrpK (P : Nat → Nat → Prop) (Q : Nat → Prop) (n k : Nat) (rt : Nat → Nat) : Prop :=
  ∀ x y, x < n + 1 → y < n + 1 → (rt x = rt y ↔ Conn P x y ∨ (Touch P Q n k x ∧ Touch P Q n k y))
theorem conn_new {P : Nat → Nat → Prop} {n x : Nat} (hP : ∀ x y, P x y → x < n ∧ y < n) : Conn P x n ↔ x = n := by
  constructor
  · intro h
    rcases h.le hP with h | h
    · exact h
    · omega
  · rintro rfl; exact .refl _
theorem conn_new' {P : Nat → Nat → Prop} {n x : Nat} (hP : ∀ x y, P x y → x < n ∧ y < n) : Conn P n x ↔ x = n := by
  constructor
  · intro h
    rcases h.le hP with h | h
    · exact h.symm
    · omega
  · rintro rfl; exact .refl _
theorem GrpK.start {P : Nat → Nat → Prop} {Q : Nat → Prop} {n : Nat} {rt : Nat → Nat} (hP : ∀ x y, P x y → x < n ∧ y < n) (hrt : ∀ x, x < n → rt x < n) (h : ∀ x y, x < n → y < n → (rt x = rt y ↔ Conn P x y)) :
    GrpK P Q n 0 (upd rt n n) := by
  intro x y hx hy
  rw [Touch.zero, Touch.zero]
  by_cases ex : x = n
  · subst ex
    by_cases ey : y = x
    · subst ey; simp [Conn.refl]
    · rw [upd_same, upd_other ey, conn_new' hP]
      have := hrt y (by omega)
      constructor
      · intro e; omega
      · rintro (e | ⟨_, e⟩) <;> exact absurd e ey
  · by_cases ey : y = n
    · subst ey
      rw [upd_same, upd_other ex, conn_new hP]
      have := hrt x (by omega)
      constructor
      · intro e; omega
      · rintro (e | ⟨e, _⟩) <;> exact absurd e ex
    · rw [upd_other ex, upd_other ey, h x y (by omega) (by omega)]
      constructor
      · exact .inl
      · rintro (e | ⟨e, _⟩)
        · exact e
        · exact absurd e ex
theorem GrpK.no {P : Nat → Nat → Prop} {Q : Nat → Prop} {n k : Nat} {rt : Nat → Nat} (h : GrpK P Q n k rt) (hq : ¬ Q k) : GrpK P Q n (k + 1) rt := by
  intro x y hx hy
  rw [h x y hx hy, Touch.no hq, Touch.no hq]
theorem GrpK.yes {P : Nat → Nat → Prop} {Q : Nat → Prop} {n k : Nat} {rt rt' : Nat → Nat} (hP : ∀ x y, P x y → x < n ∧ y < n) (hs : ∀ x y, P x y → P y x) (h : GrpK P Q n k rt) (hk : k < n) (hq : Q k)
    (hj : ∀ x y, rt' x = rt' y ↔ rt x = rt y ∨ (rt x = rt k ∧ rt y = rt n) ∨ (rt x = rt n ∧ rt y = rt k)) : GrpK P Q n (k + 1) rt' := by
  have tn : ∀ x, x < n + 1 → (rt x = rt n ↔ Touch P Q n k x) := fun x hx => by
    rw [h x n hx (by omega), conn_new hP]
    constructor
    · rintro (e | ⟨e, _⟩)
      · exact .inl e
      · exact e
    · intro e; exact .inr ⟨e, .inl rfl⟩
  intro x y hx hy
  rw [hj, h x y hx hy, tn x hx, tn y hy, h x k hx (by omega), h y k hy (by omega), Touch.yes hq, Touch.yes hq]
  have f2 : Conn P x k → Conn P y k → Conn P x y := fun a b => a.trans (b.symm hs)
  constructor
  · rintro ((a | ⟨a, b⟩) | ⟨a | ⟨a, _⟩, b⟩ | ⟨a, b | ⟨b, _⟩⟩)
    · exact .inl a
    · exact .inr ⟨.inl a, .inl b⟩
    · exact .inr ⟨.inr a, .inl b⟩
    · exact .inr ⟨.inl a, .inl b⟩
    · exact .inr ⟨.inl a, .inr b⟩
    · exact .inr ⟨.inl a, .inl b⟩
  · rintro (a | ⟨a | a, b | b⟩)
    · exact .inl (.inl a)
    · exact .inl (.inr ⟨a, b⟩)
    · exact .inr (.inr ⟨a, .inl b⟩)
    · exact .inr (.inl ⟨.inl a, b⟩)
    · exact .inl (.inl (f2 a b))
/-- With all of them looked at: what is reached in the greater graph. -/
theorem touch_conn {P P' : Nat → Nat → Prop} {Q : Nat → Prop} {n : Nat} (hP : ∀ x y, P x y → x < n ∧ y < n) (hs : ∀ x y, P x y → P y x)
    (hP' : ∀ x y, P' x y ↔ P x y ∨ (x < n ∧ y = n ∧ Q x) ∨ (x = n ∧ y < n ∧ Q y) ∨ (x = n ∧ y = n)) {x y : Nat} :
    Conn P' x y ↔ Conn P x y ∨ (Touch P Q n n x ∧ Touch P Q n n y) := by
  constructor
  · intro h
    induction h with
    | refl => exact .inl (.refl _)
    | @tail y z _ p ih =>
      rcases (hP' y z).1 p with p | ⟨hy, rfl, q⟩ | ⟨rfl, hz, q⟩ | ⟨rfl, rfl⟩
      · rcases ih with ih | ⟨a, b⟩
        · exact .inl (ih.tail p)
        · refine .inr ⟨a, ?_⟩
          rcases b with rfl | ⟨i, h1, h2, h3⟩
          · have := (hP _ _ p).1; omega
          · exact .inr ⟨i, h1, h2, Conn.head (hs _ _ p) h3⟩
      · refine .inr ⟨?_, .inl rfl⟩
        rcases ih with ih | ⟨a, _⟩
        · exact .inr ⟨y, hy, q, ih⟩
        · exact a
      · refine .inr ⟨?_, .inr ⟨z, hz, q, .refl _⟩⟩
        rcases ih with ih | ⟨a, _⟩
        · exact .inl ((conn_new hP).1 ih)
        · exact a
      · refine .inr ⟨?_, .inl rfl⟩
        rcases ih with ih | ⟨a, _⟩
        · exact .inl ((conn_new hP).1 ih)
        · exact a
  · have up : ∀ {x y}, Conn P x y → Conn P' x y := fun h => h.mono fun x y p => (hP' x y).2 (.inl p)
    have tx : ∀ {x}, Touch P Q n n x → Conn P' x n := fun {x} h => by
      rcases h with rfl | ⟨i, h1, h2, h3⟩
      · exact .refl _
      · exact (up h3).tail ((hP' _ _).2 (.inr (.inl ⟨h1, rfl, h2⟩)))
    have hs' : ∀ x y, P' x y → P' y x := fun x y p => by
      rcases (hP' x y).1 p with p | ⟨a, b, c⟩ | ⟨a, b, c⟩ | ⟨a, b⟩
      · exact (hP' _ _).2 (.inl (hs _ _ p))
      · exact (hP' _ _).2 (.inr (.inr (.inl ⟨b, a, c⟩)))
      · exact (hP' _ _).2 (.inr (.inl ⟨b, a, c⟩))
      · exact (hP' _ _).2 (.inr (.inr (.inr ⟨b, a⟩)))
    rintro (h | ⟨a, b⟩)
    · exact up h
    · exact (tx a).trans ((tx b).symm hs')
end Go.Proofs.Ytahlhiiekgnmpab
