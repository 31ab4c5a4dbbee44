/- Disjoint sets as a forest of parents: in plain Lean. -/
import Derived.Test.YtahlhiiekgnmpabBase
set_option linter.unusedVariables false
set_option linter.unusedSimpArgs false
namespace Go.Proofs.Ytahlhiiekgnmpab

def upd (f : Nat → Nat) (i v : Nat) (j : Nat) : Nat := if j = i then v else f j
theorem upd_same (f : Nat → Nat) (i v : Nat) : upd f i v i = v := if_pos rfl
theorem upd_other {f : Nat → Nat} {i v j : Nat} (h : j ≠ i) : upd f i v j = f j := if_neg h

structure UF (n : Nat) (pa rt dep : Nat → Nat) : Prop where
  lt : ∀ i, i < n → pa i < n
  rt_pa : ∀ i, i < n → rt (pa i) = rt i
  root : ∀ i, i < n → pa i = i → rt i = i
  dec : ∀ i, i < n → pa i ≠ i → dep (pa i) < dep i
section
variable {n : Nat} {pa rt dep : Nat → Nat}
theorem UF.rt_lt (h : UF n pa rt dep) : ∀ (d i : Nat), dep i ≤ d → i < n → rt i < n ∧ pa (rt i) = rt i
  | 0, i, hd, hi => by
    by_cases e : pa i = i
    · rw [h.root i hi e]; exact ⟨hi, e⟩
    · have := h.dec i hi e; omega
  | d + 1, i, hd, hi => by
    by_cases e : pa i = i
    · rw [h.root i hi e]; exact ⟨hi, e⟩
    · have h1 := h.dec i hi e
      have h2 := h.rt_lt d (pa i) (by omega) (h.lt i hi)
      rw [h.rt_pa i hi] at h2
      exact h2
theorem UF.rlt (h : UF n pa rt dep) {i : Nat} (hi : i < n) : rt i < n := (h.rt_lt (dep i) i (Nat.le_refl _) hi).1
theorem UF.rpa (h : UF n pa rt dep) {i : Nat} (hi : i < n) : pa (rt i) = rt i := (h.rt_lt (dep i) i (Nat.le_refl _) hi).2
theorem UF.rtrt (h : UF n pa rt dep) {i : Nat} (hi : i < n) : rt (rt i) = rt i := h.root _ (h.rlt hi) (h.rpa hi)
theorem UF.rooted (h : UF n pa rt dep) {i : Nat} (hi : i < n) (e : rt i = i) : pa i = i := by
  have := h.rpa hi
  rw [e] at this; exact this
theorem UF.halve (h : UF n pa rt dep) {i : Nat} (hi : i < n) : UF n (upd pa i (pa (pa i))) rt dep := by
  have h1 := h.lt i hi
  refine ⟨fun j hj => ?_, fun j hj => ?_, fun j hj e => ?_, fun j hj e => ?_⟩
  · unfold upd; split
    · exact h.lt _ h1
    · exact h.lt j hj
  · unfold upd; split
    · rename_i e; rw [h.rt_pa _ h1, h.rt_pa _ hi, e]
    · exact h.rt_pa j hj
  · by_cases ej : j = i
    · subst ej
      rw [upd_same] at e
      by_cases e2 : pa j = j
      · exact h.root j hj e2
      · have h2 := h.dec j hj e2
        by_cases e3 : pa (pa j) = pa j
        · omega
        · have := h.dec (pa j) h1 e3
          rw [e] at this; omega
    · rw [upd_other ej] at e
      exact h.root j hj e
  · by_cases ej : j = i
    · subst ej
      rw [upd_same] at e ⊢
      by_cases e2 : pa j = j
      · rw [e2, e2] at e; exact absurd rfl e
      · have h2 := h.dec j hj e2
        by_cases e3 : pa (pa j) = pa j
        · rw [e3]; exact h2
        · have := h.dec (pa j) h1 e3; omega
    · rw [upd_other ej] at e ⊢
      exact h.dec j hj e
theorem UF.next (h : UF n pa rt dep) {i : Nat} (hi : i < n) (e : pa i ≠ i) : pa (pa i) < n ∧ rt (pa (pa i)) = rt i ∧ dep (pa (pa i)) < dep i := by
  have h1 := h.lt i hi
  refine ⟨h.lt _ h1, by rw [h.rt_pa _ h1, h.rt_pa _ hi], ?_⟩
  have h2 := h.dec i hi e
  by_cases e3 : pa (pa i) = pa i
  · rw [e3]; exact h2
  · have := h.dec (pa i) h1 e3; omega
def joinR (rt : Nat → Nat) (a b : Nat) (x : Nat) : Nat := if rt x = b then a else rt x
theorem UF.union (h : UF n pa rt dep) {a b : Nat} (ha : a < n) (hb : b < n) (ra : rt a = a) (rb : rt b = b) (hne : a ≠ b) :
    ∃ dep', UF n (upd pa b a) (joinR rt a b) dep' := by
  have pb := h.rooted hb rb
  refine ⟨fun x => if rt x = b then dep x + dep a + 1 else dep x, fun j hj => ?_, fun j hj => ?_, fun j hj e => ?_, fun j hj e => ?_⟩
  · unfold upd; split
    · exact ha
    · exact h.lt j hj
  · unfold joinR upd
    by_cases ej : j = b
    · subst ej
      rw [if_pos rfl, if_pos rb, ra, if_neg hne]
    · rw [if_neg ej, h.rt_pa j hj]
  · by_cases ej : j = b
    · subst ej
      rw [upd_same] at e; exact absurd e hne
    · rw [upd_other ej] at e
      unfold joinR
      have := h.root j hj e
      rw [this, if_neg ej]
  · by_cases ej : j = b
    · subst ej
      simp only [upd_same, ra, rb, hne, if_false, if_true]
      omega
    · simp only [upd_other ej] at e ⊢
      rw [h.rt_pa j hj]
      have := h.dec j hj e
      split <;> omega
theorem UF.push (h : UF n pa rt dep) : UF (n + 1) (upd pa n n) (upd rt n n) dep := by
  refine ⟨fun j hj => ?_, fun j hj => ?_, fun j hj e => ?_, fun j hj e => ?_⟩
  · unfold upd; split
    · omega
    · have := h.lt j (by omega); omega
  · by_cases ej : j = n
    · subst ej; rw [upd_same, upd_same]
    · have h1 := h.lt j (by omega)
      rw [upd_other ej, upd_other (show pa j ≠ n by omega), upd_other ej]
      exact h.rt_pa j (by omega)
  · by_cases ej : j = n
    · subst ej; rw [upd_same]
    · rw [upd_other ej] at e ⊢
      exact h.root j (by omega) e
  · by_cases ej : j = n
    · subst ej; rw [upd_same] at e; exact absurd rfl e
    · rw [upd_other ej] at e ⊢
      exact h.dec j (by omega) e
end

/-- How many of n have root r. -/
def cnt (n : Nat) (rt : Nat → Nat) (r : Nat) : Nat := (List.range n).countP fun x => decide (rt x = r)
theorem count_join (rt : Nat → Nat) {a b : Nat} (hne : a ≠ b) : ∀ l : List Nat, l.countP (fun x => decide (joinR rt a b x = a)) = l.countP (fun x => decide (rt x = a)) + l.countP (fun x => decide (rt x = b))
  | [] => rfl
  | x :: l => by
    have ih := count_join rt hne l
    rw [List.countP_cons, List.countP_cons, List.countP_cons, ih]
    unfold joinR
    by_cases h1 : rt x = b
    · have h2 : ¬ rt x = a := fun e => hne (e.symm.trans h1)
      simp only [h1, if_true, decide_true]
      have h3 : ¬ b = a := fun e => hne e.symm
      simp [h3]; omega
    · simp [h1]; omega
theorem count_join' (rt : Nat → Nat) {a b r : Nat} (ha : r ≠ a) (hb : r ≠ b) : ∀ l : List Nat, l.countP (fun x => decide (joinR rt a b x = r)) = l.countP (fun x => decide (rt x = r))
  | [] => rfl
  | x :: l => by
    have ih := count_join' rt ha hb l
    rw [List.countP_cons, List.countP_cons, ih]
    unfold joinR
    by_cases h1 : rt x = b
    · have h2 : ¬ a = r := fun e => ha e.symm
      have h3 : ¬ b = r := fun e => hb e.symm
      simp [h1, h2, h3]
    · simp [h1]
/-- The sizes of the roots. -/
def SzOk (n : Nat) (rt sz : Nat → Nat) : Prop := ∀ r, r < n → rt r = r → sz r = cnt n rt r
theorem SzOk.union {n : Nat} {rt sz : Nat → Nat} (h : SzOk n rt sz) {a b : Nat} (ha : a < n) (hb : b < n) (ra : rt a = a) (rb : rt b = b) (hne : a ≠ b) : SzOk n (joinR rt a b) (upd sz a (sz a + sz b)) := by
  intro r hr hrr
  unfold cnt
  by_cases e : r = a
  · subst e
    rw [upd_same, count_join rt hne, h r ha ra, h b hb rb]; rfl
  · have e2 : r ≠ b := by
      rintro rfl
      unfold joinR at hrr
      rw [if_pos rb] at hrr
      exact hne hrr
    have e3 : rt r = r := by
      unfold joinR at hrr
      split at hrr
      · exact absurd hrr.symm e
      · exact hrr
    rw [upd_other e, count_join' rt e e2, h r hr e3]; rfl
theorem cnt_push (n : Nat) (rt : Nat → Nat) (hrt : ∀ i, i < n → rt i < n) (r : Nat) : cnt (n + 1) (upd rt n n) r = if r = n then 1 else cnt n rt r := by
  unfold cnt
  rw [List.range_succ, List.countP_append]
  have h1 : (List.range n).countP (fun x => decide (upd rt n n x = r)) = (List.range n).countP (fun x => decide (rt x = r)) := by
    refine List.countP_congr fun x hx => ?_
    have hx' : x < n := by simpa using hx
    rw [upd_other (show x ≠ n by omega)]
  rw [h1]
  by_cases e : r = n
  · subst e
    rw [if_pos rfl]
    have h2 : (List.range r).countP (fun x => decide (rt x = r)) = 0 := by
      rw [List.countP_eq_zero]
      intro x hx
      have hx' : x < r := by simpa using hx
      have := hrt x hx'
      simp; omega
    rw [h2]
    simp [List.countP_cons, upd_same]
  · rw [if_neg e]
    have : ¬ n = r := fun e' => e e'.symm
    simp [List.countP_cons, upd_same, this]
theorem SzOk.push {n : Nat} {pa rt dep sz : Nat → Nat} (h : SzOk n rt sz) (hu : UF n pa rt dep) : SzOk (n + 1) (upd rt n n) (upd sz n 1) := by
  intro r hr hrr
  rw [cnt_push n rt (fun i hi => hu.rlt hi)]
  by_cases e : r = n
  · subst e; rw [upd_same, if_pos rfl]
  · rw [upd_other e, if_neg e]
    rw [upd_other e] at hrr
    exact h r (by omega) hrr
theorem joinR_eq {n : Nat} {pa rt dep : Nat → Nat} (h : UF n pa rt dep) {a b x y : Nat} (ra : rt a = a) (_rb : rt b = b) :
    joinR rt a b x = joinR rt a b y ↔ rt x = rt y ∨ (rt x = a ∧ rt y = b) ∨ (rt x = b ∧ rt y = a) := by
  unfold joinR
  by_cases h1 : rt x = b
  · by_cases h2 : rt y = b
    · rw [if_pos h1, if_pos h2, h1, h2]; simp
    · rw [if_pos h1, if_neg h2, h1]
      constructor
      · intro e; exact .inr (.inr ⟨rfl, e.symm⟩)
      · rintro (e | ⟨e1, e2⟩ | ⟨_, e2⟩)
        · exact absurd e.symm h2
        · exact absurd e2 h2
        · exact e2.symm
  · by_cases h2 : rt y = b
    · rw [if_neg h1, if_pos h2, h2]
      constructor
      · intro e; exact .inr (.inl ⟨e, rfl⟩)
      · rintro (e | ⟨e1, _⟩ | ⟨e1, _⟩)
        · exact absurd e h1
        · exact e1
        · exact absurd e1 h1
    · rw [if_neg h1, if_neg h2]
      constructor
      · exact .inl
      · rintro (e | ⟨_, e2⟩ | ⟨e1, _⟩)
        · exact e
        · exact absurd e2 h2
        · exact absurd e1 h1
end Go.Proofs.Ytahlhiiekgnmpab
