/- The least index that is reached: in plain Lean. -/
import Derived.Test.YtahlhiiekgnmpabMrgG
set_option linter.unusedVariables false
set_option linter.unusedSimpArgs false
namespace Go.Proofs.Ytahlhiiekgnmpab

theorem gK_congr {rt rt' : Nat → Nat} {n : Nat} (h : ∀ x y, x < n → y < n → (rt x = rt y ↔ rt' x = rt' y)) : gK rt n = gK rt' n := by
  have hf : firsts rt n = firsts rt' n := by
    unfold firsts
    refine List.filter_congr fun i hi => ?_
    have hi' : i < n := by simpa using hi
    rw [Bool.eq_iff_iff, firstB_iff, firstB_iff]
    constructor
    · intro a j hj e; exact a j hj ((h j i (by omega) hi').2 e)
    · intro a j hj e; exact a j hj ((h j i (by omega) hi').1 e)
  unfold gK
  rw [hf]
  refine List.map_congr_left fun f hf' => ?_
  have h1 := (firsts_lt rt' hf').1
  congr 1
  unfold grpOf
  refine List.filter_congr fun x hx => ?_
  have hx' : x < n := by simpa using hx
  rw [Bool.eq_iff_iff, beq_iff_eq, beq_iff_eq]
  exact h x f hx' h1

structure LInv (P : Nat → Nat → Prop) (n : Nat) (L : Nat → Nat) : Prop where
  le : ∀ i, i < n → L i ≤ i
  conn : ∀ i, i < n → Conn P i (L i)
def PStab (P : Nat → Nat → Prop) (n : Nat) (L : Nat → Nat) (i k : Nat) : Prop := ∀ i' k', i' < n → k' < n → (i' < i ∨ (i' = i ∧ k' < k)) → P i' k' → L i' ≤ L k'
def lsum : Nat → (Nat → Nat) → Nat
  | 0, _ => 0
  | n + 1, L => lsum n L + L n
theorem lsum_far {n i v : Nat} {L : Nat → Nat} (h : n ≤ i) : lsum n (upd L i v) = lsum n L := by
  induction n with
  | zero => rfl
  | succ n ih =>
    unfold lsum
    rw [ih (by omega), upd_other (by omega)]
theorem lsum_upd {i v : Nat} {L : Nat → Nat} (hv : v < L i) : ∀ {n : Nat}, i < n → lsum n (upd L i v) < lsum n L
  | 0, hi => absurd hi (Nat.not_lt_zero _)
  | n + 1, hi => by
    unfold lsum
    by_cases e : i = n
    · subst e
      rw [lsum_far (Nat.le_refl _), upd_same]; omega
    · have := lsum_upd hv (n := n) (by omega)
      rw [upd_other (by omega)]; omega
def Swp (P : Nat → Nat → Prop) (n S0 : Nat) (mo : Bool) (L : Nat → Nat) (i k : Nat) : Prop :=
  LInv P n L ∧ ((mo = false ∧ lsum n L = S0 ∧ PStab P n L i k) ∨ (mo = true ∧ lsum n L < S0))
section
variable {P : Nat → Nat → Prop} {n S0 : Nat} {mo : Bool} {L : Nat → Nat} {i k : Nat}
theorem Swp.start (h : LInv P n L) : Swp P n (lsum n L) false L 0 0 := ⟨h, .inl ⟨rfl, rfl, fun i' k' _ _ h => by omega⟩⟩
theorem Swp.take (h : Swp P n S0 mo L i k) (hi : i < n) (hk : k < n) (hp : P i k) (hl : L k < L i) : Swp P n S0 true (upd L i (L k)) i (k + 1) := by
  have h1 := h.1.le i hi
  refine ⟨⟨fun j hj => ?_, fun j hj => ?_⟩, .inr ⟨rfl, ?_⟩⟩
  · by_cases e : j = i
    · subst e; rw [upd_same]; omega
    · rw [upd_other e]; exact h.1.le j hj
  · by_cases e : j = i
    · subst e; rw [upd_same]; exact Conn.head hp (h.1.conn k hk)
    · rw [upd_other e]; exact h.1.conn j hj
  · have := lsum_upd hl (n := n) hi
    rcases h.2 with ⟨_, a, _⟩ | ⟨_, a⟩ <;> omega
theorem Swp.skip (h : Swp P n S0 mo L i k) (hk : P i k → L i ≤ L k) : Swp P n S0 mo L i (k + 1) := by
  refine ⟨h.1, ?_⟩
  rcases h.2 with ⟨a, b, c⟩ | a
  · refine .inl ⟨a, b, fun i' k' h1 h2 h3 p => ?_⟩
    by_cases e : i' = i ∧ k' = k
    · obtain ⟨rfl, rfl⟩ := e; exact hk p
    · exact c i' k' h1 h2 (by omega) p
  · exact .inr a
theorem Swp.row (h : Swp P n S0 mo L i n) : Swp P n S0 mo L (i + 1) 0 := by
  refine ⟨h.1, ?_⟩
  rcases h.2 with ⟨a, b, c⟩ | a
  · exact .inl ⟨a, b, fun i' k' h1 h2 h3 p => c i' k' h1 h2 (by omega) p⟩
  · exact .inr a
theorem Swp.ends (h : Swp P n S0 mo L n 0) : LInv P n L ∧ (mo = false → PStab P n L n 0) ∧ lsum n L + (if mo then 1 else 0) < S0 + 1 := by
  refine ⟨h.1, ?_, ?_⟩
  · intro e
    rcases h.2 with ⟨_, _, c⟩ | ⟨a, _⟩
    · exact c
    · rw [e] at a; cases a
  · rcases h.2 with ⟨a, b, _⟩ | ⟨a, b⟩
    · subst a; simp; omega
    · subst a; simp; omega
theorem LInv.lc (h : LInv P n L) (hP : ∀ x y, P x y → x < n ∧ y < n) (hs : ∀ x y, P x y → P y x) (hst : PStab P n L n 0) {x y : Nat} (hc : Conn P x y) : L x = L y := by
  induction hc with
  | refl => rfl
  | @tail y z _ p ih =>
    obtain ⟨h1, h2⟩ := hP _ _ p
    have a := hst y z h1 h2 (.inl h1) p
    have b := hst z y h2 h1 (.inl h2) (hs _ _ p)
    omega
theorem LInv.iff (h : LInv P n L) (hP : ∀ x y, P x y → x < n ∧ y < n) (hs : ∀ x y, P x y → P y x) (hst : PStab P n L n 0) {x y : Nat} (hx : x < n) (hy : y < n) : L x = L y ↔ Conn P x y := by
  constructor
  · intro e
    have h1 := h.conn x hx
    have h2 := h.conn y hy
    rw [← e] at h2
    exact h1.trans (h2.symm hs)
  · exact h.lc hP hs hst
theorem LInv.fix (h : LInv P n L) (hP : ∀ x y, P x y → x < n ∧ y < n) (hs : ∀ x y, P x y → P y x) (hst : PStab P n L n 0) {x : Nat} (hx : x < n) : L (L x) = L x := (h.lc hP hs hst (h.conn x hx)).symm
theorem LInv.first (h : LInv P n L) (hP : ∀ x y, P x y → x < n ∧ y < n) (hs : ∀ x y, P x y → P y x) (hst : PStab P n L n 0) {x : Nat} (hx : x < n) : firstB L x = true ↔ L x = x := by
  rw [firstB_iff]
  have h1 := h.le x hx
  constructor
  · intro a
    by_cases e : L x = x
    · exact e
    · exact absurd (h.fix hP hs hst hx) (a (L x) (by omega))
  · intro e j hj e2
    have := h.le j (by omega)
    omega
end
def outK (L : Nat → Nat) (n k : Nat) : List (List Int) := (firsts L k).map fun f => asI (grpOf L n (L f))
theorem outK_zero (L : Nat → Nat) (n : Nat) : outK L n 0 = [] := rfl
theorem outK_all (L : Nat → Nat) (n : Nat) : outK L n n = gK L n := rfl
theorem outK_yes {L : Nat → Nat} {n k : Nat} (h : firstB L k = true) (e : L k = k) : outK L n (k + 1) = outK L n k ++ [asI (grpOf L n k)] := by
  unfold outK
  rw [firsts_yes L h, List.map_append]
  simp [e]
theorem outK_no {L : Nat → Nat} {n k : Nat} (h : firstB L k = false) : outK L n (k + 1) = outK L n k := by
  unfold outK
  rw [firsts_no L h]
theorem outK_len (L : Nat → Nat) (n k : Nat) : (outK L n k).length ≤ k := by
  unfold outK
  rw [List.length_map]; exact firsts_le L k
theorem grpOf_len (L : Nat → Nat) (k r : Nat) : (grpOf L k r).length ≤ k := by
  have := List.length_filter_le (fun x => L x == r) (List.range k)
  rw [List.length_range] at this
  exact this
theorem asI_len (l : List Nat) : (asI l).length = l.length := by unfold asI; rw [List.length_map]
theorem asI_snoc (l : List Nat) (k : Nat) : asI (l ++ [k]) = asI l ++ [(k : Int)] := by unfold asI; rw [List.map_append]; rfl
end Go.Proofs.Ytahlhiiekgnmpab
