/- Plain limbs: the digits of a number to the base 1000000000, the least one first; what lists of limbs spell. -/
import Derived.Test.YtbojlmnajndleaaGreatDoorNatP
set_option linter.unusedVariables false
set_option linter.unusedSimpArgs false
namespace Go.Proofs.YtbojlmnajndleaaGreatDoor

def Bs : Nat := 1000000000
theorem Bs_eq : Bs = 1000000000 := rfl
theorem Bs_pos : 0 < Bs := by rw [Bs_eq]; omega
theorem Bs_pow_pos (n : Nat) : 0 < Bs ^ n := Nat.pow_pos Bs_pos
theorem Bs_ten (n : Nat) : Bs ^ n = 10 ^ (9 * n) := by rw [Nat.pow_mul]; rfl
/-- The limbs of a number, without zeros at the end. -/
def lim (n : Nat) : List Nat := if h : n = 0 then [] else n % Bs :: lim (n / Bs)
termination_by n
decreasing_by exact Nat.div_lt_self (by omega) (by rw [Bs_eq]; omega)
theorem lim_zero : lim 0 = [] := by rw [lim, dif_pos rfl]
theorem lim_step {n : Nat} (h : n ≠ 0) : lim n = n % Bs :: lim (n / Bs) := by rw [lim, dif_neg h]
def lval : List Nat → Nat
  | [] => 0
  | d :: l => d + Bs * lval l
def Lm (l : List Nat) : Prop := ∀ d ∈ l, d < Bs
theorem lval_append (l m : List Nat) : lval (l ++ m) = lval l + Bs ^ l.length * lval m := by
  induction l with
  | nil => simp [lval]
  | cons d l ih =>
    show d + Bs * lval (l ++ m) = d + Bs * lval l + Bs ^ (l.length + 1) * lval m
    rw [ih, Nat.mul_add, Nat.pow_succ, Nat.mul_comm (Bs ^ l.length) Bs, Nat.mul_assoc, Nat.add_assoc]
theorem lval_one (d : Nat) : lval [d] = d := by simp [lval]
theorem lval_lt {l : List Nat} (h : Lm l) : lval l < Bs ^ l.length := by
  induction l with
  | nil => simp [lval]
  | cons d l ih =>
    have h1 := ih fun e he => h e (List.mem_cons_of_mem _ he)
    have h2 := h d (by simp)
    show d + Bs * lval l < Bs ^ (l.length + 1)
    rw [Nat.pow_succ, Nat.mul_comm (Bs ^ l.length) Bs]
    have h3 : Bs * lval l + Bs ≤ Bs * Bs ^ l.length := by
      rw [← Nat.mul_succ]; exact Nat.mul_le_mul_left _ h1
    omega
theorem lval_lim (n : Nat) : lval (lim n) = n := by
  induction n using Nat.strongRecOn with
  | _ n ih =>
    by_cases h : n = 0
    · subst h; rw [lim_zero]; rfl
    · rw [lim_step h]
      show n % Bs + Bs * lval (lim (n / Bs)) = n
      rw [ih _ (Nat.div_lt_self (by omega) (by rw [Bs_eq]; omega))]
      exact Nat.mod_add_div n Bs
theorem lim_Lm (n : Nat) : Lm (lim n) := by
  induction n using Nat.strongRecOn with
  | _ n ih =>
    by_cases h : n = 0
    · subst h; rw [lim_zero]; intro d hd; simp at hd
    · rw [lim_step h]
      intro d hd
      rcases List.mem_cons.1 hd with e | e
      · rw [e]; exact Nat.mod_lt _ Bs_pos
      · exact ih _ (Nat.div_lt_self (by omega) (by rw [Bs_eq]; omega)) d e
theorem lim_eq_nil {n : Nat} : lim n = [] ↔ n = 0 := by
  constructor
  · intro h
    have := lval_lim n
    rw [h] at this; exact this.symm
  · intro h; subst h; exact lim_zero
/-- Limbs without a zero at the end are those of their number. -/
theorem lim_lval : ∀ {l : List Nat}, Lm l → l.getLast? ≠ some 0 → lim (lval l) = l
  | [], _, _ => lim_zero
  | [d], h, h0 => by
    have hd := h d (by simp)
    have h1 : d ≠ 0 := by intro e; apply h0; rw [e]; rfl
    rw [lval_one, lim_step h1, Nat.mod_eq_of_lt hd, Nat.div_eq_of_lt hd, lim_zero]
  | d :: e :: l, h, h0 => by
    have hd := h d (by simp)
    have ht : Lm (e :: l) := fun x hx => h x (List.mem_cons_of_mem _ hx)
    have h0' : (e :: l).getLast? ≠ some 0 := by
      intro x; apply h0; rw [← x]; simp [List.getLast?_cons_cons]
    have ih := lim_lval ht h0'
    have hp : lval (e :: l) ≠ 0 := by
      intro x
      rw [x, lim_zero] at ih
      cases ih
    show lim (d + Bs * lval (e :: l)) = d :: e :: l
    have hne : d + Bs * lval (e :: l) ≠ 0 := by
      have := Nat.mul_pos Bs_pos (by omega : 0 < lval (e :: l))
      omega
    rw [lim_step hne, Nat.add_mul_mod_self_left, Nat.mod_eq_of_lt hd, Nat.add_mul_div_left _ _ Bs_pos, Nat.div_eq_of_lt hd, Nat.zero_add, ih]
theorem lim_last {n : Nat} : (lim n).getLast? ≠ some 0 := by
  induction n using Nat.strongRecOn with
  | _ n ih =>
    by_cases h : n = 0
    · subst h; rw [lim_zero]; simp
    · rw [lim_step h]
      by_cases h2 : n / Bs = 0
      · rw [h2, lim_zero]
        simp only [List.getLast?_singleton, ne_eq, Option.some.injEq]
        have := Nat.mod_add_div n Bs
        rw [h2] at this
        omega
      · have := ih (n / Bs) (Nat.div_lt_self (by omega) (by rw [Bs_eq]; omega))
        rw [lim_step h2] at this ⊢
        rw [List.getLast?_cons_cons]
        exact this
theorem lim_low {n : Nat} (h : n ≠ 0) : Bs ^ ((lim n).length - 1) ≤ n := by
  induction n using Nat.strongRecOn with
  | _ n ih =>
    rw [lim_step h, List.length_cons, Nat.add_sub_cancel]
    by_cases h2 : n / Bs = 0
    · rw [h2, lim_zero]; simp; omega
    · have h3 := ih (n / Bs) (Nat.div_lt_self (by omega) (by rw [Bs_eq]; omega)) h2
      have h4 : 1 ≤ (lim (n / Bs)).length := by
        rw [lim_step h2]; simp
      have e : (lim (n / Bs)).length = ((lim (n / Bs)).length - 1) + 1 := by omega
      rw [e, Nat.pow_succ]
      exact Nat.le_trans (Nat.mul_le_mul_right _ h3) (Nat.div_mul_le_self n Bs)
theorem lim_lt (n : Nat) : n < Bs ^ (lim n).length := by
  have := lval_lt (lim_Lm n)
  rwa [lval_lim] at this
theorem lim_len_le {n k : Nat} (h : n < Bs ^ k) : (lim n).length ≤ k := by
  by_cases h0 : n = 0
  · subst h0; rw [lim_zero]; simp
  · have h1 := lim_low h0
    by_cases h2 : (lim n).length ≤ k
    · exact h2
    · exfalso
      have h3 : Bs ^ k ≤ Bs ^ ((lim n).length - 1) := Nat.pow_le_pow_right Bs_pos (by omega)
      omega
theorem lim_len_lt {a b : Nat} (h : (lim a).length < (lim b).length) : a < b := by
  have h0 : b ≠ 0 := by intro e; subst e; rw [lim_zero] at h; simp at h
  have h1 := lim_lt a
  have h2 := lim_low h0
  have h3 : Bs ^ (lim a).length ≤ Bs ^ ((lim b).length - 1) := Nat.pow_le_pow_right Bs_pos (by omega)
  omega

/-- Parts of a list of limbs. -/
theorem Lm.take {l : List Nat} (h : Lm l) (k : Nat) : Lm (l.take k) := fun d hd => h d (List.mem_of_mem_take hd)
theorem Lm.drop {l : List Nat} (h : Lm l) (k : Nat) : Lm (l.drop k) := fun d hd => h d (List.mem_of_mem_drop hd)
theorem Lm.append {l m : List Nat} (h : Lm l) (h' : Lm m) : Lm (l ++ m) := fun d hd => (List.mem_append.1 hd).elim (h d) (h' d)
theorem Lm.one {d : Nat} (h : d < Bs) : Lm [d] := fun e he => by simp at he; rw [he]; exact h
theorem Lm.nil : Lm [] := fun d hd => by simp at hd
theorem Lm.zeros (k : Nat) : Lm (List.replicate k 0) := fun d hd => by rw [List.eq_of_mem_replicate hd]; exact Bs_pos
theorem Lm.set {l : List Nat} (h : Lm l) {d : Nat} (hd : d < Bs) (k : Nat) : Lm (l.set k d) := fun e he => by
  rcases List.mem_or_eq_of_mem_set he with h1 | h1
  · exact h e h1
  · rw [h1]; exact hd
theorem lval_zeros (k : Nat) : lval (List.replicate k 0) = 0 := by
  induction k with
  | zero => rfl
  | succ k ih => rw [List.replicate_succ]; show 0 + Bs * lval _ = 0; rw [ih]; rfl
theorem lval_split (l : List Nat) (k : Nat) : lval l = lval (l.take k) + Bs ^ (l.take k).length * lval (l.drop k) := by
  rw [← lval_append, List.take_append_drop]
theorem lval_take_succ {l : List Nat} {k : Nat} (h : k < l.length) : lval (l.take (k + 1)) = lval (l.take k) + Bs ^ k * l[k] := by
  rw [List.take_succ_eq_append_getElem h, lval_append, lval_one, List.length_take]
  have e : min k l.length = k := by omega
  rw [e]
theorem lval_drop {l : List Nat} {k : Nat} (h : k < l.length) : lval (l.drop k) = l[k] + Bs * lval (l.drop (k + 1)) := by
  rw [List.drop_eq_getElem_cons h]; rfl
theorem take_last {l : List Nat} {k : Nat} (h : k < l.length) : (l.take (k + 1)).getLast? = some l[k] := by
  rw [List.take_succ_eq_append_getElem h, List.getLast?_concat]
/-- What 'trimmed' finds. -/
theorem trim_done {l : List Nat} (hl : Lm l) {k : Nat} (hk : k ≤ l.length) (hv : lval (l.take k) = lval l) (h : ∀ j (hj : j < l.length), k = j + 1 → l[j] ≠ 0) : l.take k = lim (lval l) := by
  rw [← hv]
  refine (lim_lval (hl.take k) ?_).symm
  cases k with
  | zero => simp
  | succ k =>
    rw [take_last (by omega)]
    intro e
    injection e with e
    exact h k (by omega) rfl e

/-- Comparing limbs. -/
def cmpN (x y : Nat) : Int := if x < y then -1 else if y < x then 1 else 0
theorem cmpN_lt {x y : Nat} (h : x < y) : cmpN x y = -1 := by unfold cmpN; rw [if_pos h]
theorem cmpN_gt {x y : Nat} (h : y < x) : cmpN x y = 1 := by unfold cmpN; rw [if_neg (by omega), if_pos h]
theorem cmpN_eq (x : Nat) : cmpN x x = 0 := by unfold cmpN; rw [if_neg (by omega), if_neg (by omega)]
theorem cmpN_neg {x y : Nat} : cmpN x y < 0 ↔ x < y := by unfold cmpN; split; simp [*]; split <;> omega
theorem cmpN_le {x y : Nat} : cmpN x y ≤ 0 ↔ x ≤ y := by unfold cmpN; split; omega; split <;> omega
theorem drop_lt {l m : List Nat} (hl : Lm l) {i : Nat} (h1 : i < l.length) (h2 : i < m.length) (e : l.drop (i + 1) = m.drop (i + 1)) (hd : l[i] < m[i]) : lval l < lval m := by
  rw [lval_split l i, lval_split m i, lval_drop h1, lval_drop h2, e, List.length_take, List.length_take]
  have e1 : min i l.length = i := by omega
  have e2 : min i m.length = i := by omega
  rw [e1, e2]
  have h3 := lval_lt (hl.take i)
  rw [List.length_take, e1] at h3
  generalize lval (m.drop (i + 1)) = t
  have h4 : Bs ^ i * (l[i] + Bs * t) + Bs ^ i ≤ Bs ^ i * (m[i] + Bs * t) := by
    rw [← Nat.mul_succ]; exact Nat.mul_le_mul_left _ (by omega)
  omega

/-- A number out of signed limbs. -/
def sumB (f : Nat → Int) : Nat → Int
  | 0 => 0
  | n + 1 => sumB f n + f n * (Bs : Int) ^ n
theorem sumB_add (f g : Nat → Int) (n : Nat) : sumB (fun i => f i + g i) n = sumB f n + sumB g n := by
  induction n with
  | zero => rfl
  | succ n ih => show sumB _ n + (f n + g n) * _ = sumB f n + f n * _ + (sumB g n + g n * _); rw [ih, Int.add_mul]; omega
theorem sumB_sub (f g : Nat → Int) (n : Nat) : sumB (fun i => f i - g i) n = sumB f n - sumB g n := by
  induction n with
  | zero => rfl
  | succ n ih => show sumB _ n + (f n - g n) * _ = sumB f n + f n * _ - (sumB g n + g n * _); rw [ih, Int.sub_mul]; omega
theorem sumB_mul (q : Int) (f : Nat → Int) (n : Nat) : sumB (fun i => q * f i) n = q * sumB f n := by
  induction n with
  | zero => simp [sumB]
  | succ n ih => show sumB _ n + (q * f n) * _ = q * (sumB f n + f n * _); rw [ih, Int.mul_add, Int.mul_assoc]
/-- The limb at a place; 0 beyond the last one. -/
def limbN (l : List Nat) (i : Nat) : Int := (l.getD i 0 : Nat)
theorem limbN_in {l : List Nat} {i : Nat} (h : i < l.length) : limbN l i = (l[i] : Int) := by unfold limbN; simp [List.getD, h]
theorem limbN_out {l : List Nat} {i : Nat} (h : l.length ≤ i) : limbN l i = 0 := by
  unfold limbN
  have : l[i]? = none := List.getElem?_eq_none h
  simp [List.getD, this]
theorem limbN_bd {l : List Nat} (hl : Lm l) (i : Nat) : 0 ≤ limbN l i ∧ limbN l i < 1000000000 := by
  by_cases h : i < l.length
  · rw [limbN_in h]
    have := hl l[i] (List.getElem_mem h)
    rw [Bs_eq] at this; omega
  · rw [limbN_out (by omega)]; omega
theorem sumB_take (l : List Nat) (n : Nat) : sumB (limbN l) n = (lval (l.take n) : Int) := by
  induction n with
  | zero => simp [sumB, lval]
  | succ n ih =>
    show sumB _ n + _ = _
    rw [ih]
    by_cases h : n < l.length
    · rw [lval_take_succ h, limbN_in h]
      have e : (((Bs ^ n : Nat)) : Int) = (Bs : Int) ^ n := by simp
      rw [Int.natCast_add, Int.natCast_mul, e, Int.mul_comm]
    · rw [limbN_out (by omega), List.take_of_length_le (by omega), List.take_of_length_le (by omega)]; simp
theorem sumB_all {l : List Nat} {n : Nat} (h : l.length ≤ n) : sumB (limbN l) n = (lval l : Int) := by rw [sumB_take, List.take_of_length_le h]
/-- One step of a carry. -/
theorem carry_step {f : Nat → Int} {o : List Nat} {i : Nat} {c : Int} (hi : i < o.length) (h : (lval (o.take i) : Int) + c * (Bs : Int) ^ i = sumB f i) {d : Nat} {c' : Int} (e : f i + c = (d : Int) + 1000000000 * c') :
    (lval ((o.set i d).take (i + 1)) : Int) + c' * (Bs : Int) ^ (i + 1) = sumB f (i + 1) := by
  have hi' : i < (o.set i d).length := by rw [List.length_set]; exact hi
  rw [lval_take_succ hi', List.getElem_set_self, List.take_set_of_le (Nat.le_refl _)]
  show _ = sumB f i + f i * _
  rw [← h]
  have e1 : (((Bs ^ i : Nat)) : Int) = (Bs : Int) ^ i := by simp
  have e2 : (Bs : Int) ^ (i + 1) = (Bs : Int) ^ i * 1000000000 := by rw [Int.pow_succ]; rfl
  rw [Int.natCast_add, Int.natCast_mul, e1, e2]
  have e3 : f i = (d : Int) + 1000000000 * c' - c := by omega
  rw [e3]
  generalize (Bs : Int) ^ i = p
  generalize (lval (o.take i) : Int) = v
  have : ((d : Int) + 1000000000 * c' - c) * p = (d : Int) * p + 1000000000 * (c' * p) - c * p := by
    rw [Int.sub_mul, Int.add_mul, Int.mul_assoc]
  rw [this, Int.mul_comm p d]
  have : c' * (p * 1000000000) = 1000000000 * (c' * p) := by rw [← Int.mul_assoc, Int.mul_comm]
  rw [this]
  omega
theorem carry_end {f : Nat → Int} {o : List Nat} {n V : Nat} {c : Int} (hn : o.length = n) (ho : Lm o) (h : (lval (o.take n) : Int) + c * (Bs : Int) ^ n = sumB f n) (hV : sumB f n = (V : Int)) (hlt : V < Bs ^ n) : lval o = V := by
  rw [List.take_of_length_le (by omega), hV] at h
  have h1 := lval_lt ho
  rw [hn] at h1
  have e1 : (((Bs ^ n : Nat)) : Int) = (Bs : Int) ^ n := by simp
  rw [← e1] at h
  generalize Bs ^ n = p at *
  have hc : c = 0 := by
    rcases Int.lt_trichotomy c 0 with hc | hc | hc
    · exfalso
      have h2 : c * (p : Int) ≤ (-1) * (p : Int) := Int.mul_le_mul_of_nonneg_right (by omega) (by omega)
      omega
    · exact hc
    · exfalso
      have h2 : 1 * (p : Int) ≤ c * (p : Int) := Int.mul_le_mul_of_nonneg_right (by omega) (by omega)
      omega
  subst hc
  omega

/-- Division, limb by limb. -/
theorem div_step {y q r r' d t X : Nat} (hq : q * y + r = X) (hr' : r' = d + Bs * r) (ht : t * y ≤ r') : (t + Bs * q) * y + (r' - t * y) = d + Bs * X := by
  rw [Nat.add_mul, Nat.mul_assoc, ← hq, Nat.mul_add]
  omega
theorem div_end {y q r X : Nat} (h : q * y + r = X) (hr : r < y) : q = X / y ∧ r = X % y := by
  have hy : 0 < y := by omega
  constructor
  · rw [← h, Nat.add_comm, Nat.mul_comm, Nat.add_mul_div_left _ _ hy, Nat.div_eq_of_lt hr, Nat.zero_add]
  · rw [← h, Nat.add_comm, Nat.mul_comm, Nat.add_mul_mod_self_left, Nat.mod_eq_of_lt hr]
theorem set_drop {l : List Nat} {i d : Nat} (h : i < l.length) : (l.set i d).drop i = d :: l.drop (i + 1) := by
  have h' : i < (l.set i d).length := by rw [List.length_set]; exact h
  rw [List.drop_eq_getElem_cons h', List.getElem_set_self, List.drop_set_of_lt (by omega)]
end Go.Proofs.YtbojlmnajndleaaGreatDoor
