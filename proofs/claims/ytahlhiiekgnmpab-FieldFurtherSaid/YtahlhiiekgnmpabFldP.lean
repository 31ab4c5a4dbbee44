/- A prime field, polynomials over it, the value of the polynomial through points: in plain Lean. No program in sight. -/
import Derived.Test.YtahlhiiekgnmpabBase
namespace Go.Proofs.Ytahlhiiekgnmpab
set_option linter.unusedSectionVars false
section
variable {F : Type} [Lean.Grind.Field F]

/-- The value of a polynomial, the coefficient of 1 first. -/
def evalP : List F → F → F
  | [], _ => 0
  | c :: cs, x => c + x * evalP cs x
def IsPoly (n : Nat) (f : F → F) : Prop := ∃ cs : List F, cs.length = n ∧ ∀ x, f x = evalP cs x

theorem evalP_pad (cs : List F) (x : F) : evalP (cs ++ [0]) x = evalP cs x := by
  induction cs with
  | nil => show 0 + x * 0 = (0 : F); grind
  | cons c cs ih => show c + x * evalP (cs ++ [0]) x = c + x * evalP cs x; rw [ih]
theorem evalP_add (x : F) : ∀ cs ds : List F, cs.length = ds.length → evalP (List.zipWith (· + ·) cs ds) x = evalP cs x + evalP ds x
  | [], [], _ => by show (0 : F) = 0 + 0; grind
  | c :: cs, d :: ds, h => by
    show (c + d) + x * evalP (List.zipWith (· + ·) cs ds) x = (c + x * evalP cs x) + (d + x * evalP ds x)
    rw [evalP_add x cs ds (by simpa using h)]; grind
theorem evalP_mul (x c : F) : ∀ cs : List F, evalP (cs.map (c * ·)) x = c * evalP cs x
  | [] => by show (0 : F) = c * 0; grind
  | d :: ds => by
    show c * d + x * evalP (ds.map (c * ·)) x = c * (d + x * evalP ds x)
    rw [evalP_mul x c ds]; grind

theorem IsPoly.congr {n : Nat} {f g : F → F} (h : IsPoly n f) (e : ∀ x, g x = f x) : IsPoly n g := by
  obtain ⟨cs, h1, h2⟩ := h
  exact ⟨cs, h1, fun x => (e x).trans (h2 x)⟩
theorem IsPoly.pad {n : Nat} {f : F → F} (h : IsPoly n f) : IsPoly (n + 1) f := by
  obtain ⟨cs, h1, h2⟩ := h
  exact ⟨cs ++ [0], by simp [h1], fun x => by rw [h2, evalP_pad]⟩
theorem IsPoly.add {n : Nat} {f g : F → F} (h : IsPoly n f) (k : IsPoly n g) : IsPoly n fun x => f x + g x := by
  obtain ⟨cs, h1, h2⟩ := h
  obtain ⟨ds, k1, k2⟩ := k
  exact ⟨List.zipWith (· + ·) cs ds, by simp [h1, k1], fun x => by show f x + g x = _; rw [evalP_add x cs ds (by omega), h2, k2]⟩
theorem IsPoly.smul {n : Nat} {f : F → F} (h : IsPoly n f) (c : F) : IsPoly n fun x => c * f x := by
  obtain ⟨cs, h1, h2⟩ := h
  exact ⟨cs.map (c * ·), by simp [h1], fun x => by show c * f x = _; rw [evalP_mul, h2]⟩
theorem IsPoly.mulX {n : Nat} {f : F → F} (h : IsPoly n f) : IsPoly (n + 1) fun x => x * f x := by
  obtain ⟨cs, h1, h2⟩ := h
  exact ⟨0 :: cs, by simp [h1], fun x => by show x * f x = 0 + x * evalP cs x; rw [h2]; grind⟩
theorem IsPoly.lin {n : Nat} {f : F → F} (h : IsPoly n f) (a : F) : IsPoly (n + 1) fun x => (x - a) * f x :=
  (h.mulX.add (h.pad.smul (-a))).congr fun x => by grind
theorem IsPoly.zero (n : Nat) : IsPoly n fun _ : F => 0 := by
  induction n with
  | zero => exact ⟨[], rfl, fun _ => rfl⟩
  | succ n ih => exact ih.pad
theorem IsPoly.const (c : F) : IsPoly 1 fun _ : F => c := ⟨[c], rfl, fun x => by show c = c + x * 0; grind⟩
theorem IsPoly.sub {n : Nat} {f g : F → F} (h : IsPoly n f) (k : IsPoly n g) : IsPoly n fun x => f x - g x :=
  (h.add (k.smul (-1))).congr fun x => by grind
theorem isPoly_eval (cs : List F) : IsPoly cs.length (evalP cs) := ⟨cs, rfl, fun _ => rfl⟩
theorem IsPoly.le {n m : Nat} {f : F → F} (h : IsPoly n f) (hm : n ≤ m) : IsPoly m f := by
  induction hm with
  | refl => exact h
  | step _ ih => exact ih.pad
theorem IsPoly.factor : ∀ {n : Nat} {f : F → F} (_ : IsPoly (n + 1) f) (a : F), ∃ g, IsPoly n g ∧ ∀ x, f x - f a = (x - a) * g x
  | 0, f, ⟨cs, h1, h2⟩, a => by
    obtain ⟨c, rfl⟩ := List.length_eq_one_iff.1 h1
    refine ⟨fun _ => 0, IsPoly.zero 0, fun x => ?_⟩
    rw [h2, h2]
    show (c + x * 0) - (c + a * 0) = (x - a) * 0
    grind
  | n + 1, f, ⟨cs, h1, h2⟩, a => by
    match cs, h1 with
    | c :: cs, h1 =>
      obtain ⟨k, k1, k2⟩ := IsPoly.factor (n := n) (f := evalP cs) ⟨cs, by simpa using h1, fun _ => rfl⟩ a
      refine ⟨fun x => evalP cs x + a * k x, IsPoly.add ⟨cs, by simpa using h1, fun _ => rfl⟩ (k1.pad.smul a), fun x => ?_⟩
      have h := k2 x
      rw [h2, h2]
      show (c + x * evalP cs x) - (c + a * evalP cs a) = (x - a) * (evalP cs x + a * k x)
      grind
theorem mul_zero_or {a b : F} (h : a * b = 0) (ha : a ≠ 0) : b = 0 := by
  have := Lean.Grind.Field.mul_inv_cancel ha
  grind
/-- A polynomial with as many roots as coefficients is 0. -/
theorem IsPoly.roots : ∀ {n : Nat} {f : F → F} (_ : IsPoly n f) (xs : List F), xs.Nodup → xs.length = n → (∀ a ∈ xs, f a = 0) → ∀ x, f x = 0
  | 0, f, ⟨cs, h1, h2⟩, xs, _, _, _, x => by
    rw [h2, List.eq_nil_of_length_eq_zero h1]; rfl
  | n + 1, f, hf, a :: xs, hn, hl, hz, x => by
    obtain ⟨g, g1, g2⟩ := hf.factor a
    obtain ⟨n1, n2⟩ := List.nodup_cons.1 hn
    have h0 : f a = 0 := hz a List.mem_cons_self
    have hg := g1.roots xs n2 (by simpa using hl) fun b hb => by
      have h1 := g2 b
      rw [hz b (List.mem_cons_of_mem _ hb), h0] at h1
      refine mul_zero_or (a := b - a) (by grind) fun e => n1 ?_
      have : b = a := by grind
      rw [← this]; exact hb
    have h2 := g2 x
    rw [hg x, h0] at h2
    grind
/-- Two polynomials that agree at as many places as they have coefficients are equal. -/
theorem IsPoly.uniq {n : Nat} {f g : F → F} (hf : IsPoly n f) (hg : IsPoly n g) (xs : List F) (hn : xs.Nodup) (hl : xs.length = n) (h : ∀ a ∈ xs, f a = g a) (x : F) : f x = g x := by
  have := (hf.sub hg).roots xs hn hl (fun a ha => by have := h a ha; grind) x
  grind

/-! ### The value of the polynomial through points -/
def nv (px py : Nat → F) (x : F) : Nat → Nat → F
  | i, 0 => py i
  | i, w + 1 => ((x - px (i + (w + 1))) * nv px py x i w - (x - px i) * nv px py x (i + 1) w) * (px i - px (i + (w + 1)))⁻¹
theorem nv_poly (px py : Nat → F) : ∀ w i, IsPoly (w + 1) fun x => nv px py x i w
  | 0, i => IsPoly.const (py i)
  | w + 1, i => by
    have h1 := (nv_poly px py w i).lin (px (i + (w + 1)))
    have h2 := (nv_poly px py w (i + 1)).lin (px i)
    exact ((h1.sub h2).smul (px i - px (i + (w + 1)))⁻¹).congr fun x => by
      show (_ - _) * _ = _
      grind
theorem nv_through (px py : Nat → F) : ∀ w i k, i ≤ k → k ≤ i + w → (∀ p q, i ≤ p → p < q → q ≤ i + w → px p ≠ px q) → nv px py (px k) i w = py k
  | 0, i, k, h1, h2, _ => by
    obtain rfl : i = k := by omega
    rfl
  | w + 1, i, k, h1, h2, hd => by
    have hne : px i - px (i + (w + 1)) ≠ 0 := by
      have := hd i (i + (w + 1)) (Nat.le_refl _) (by omega) (Nat.le_refl _)
      intro e
      exact this (by grind)
    have hinv := Lean.Grind.Field.mul_inv_cancel hne
    show ((px k - px (i + (w + 1))) * nv px py (px k) i w - (px k - px i) * nv px py (px k) (i + 1) w) * (px i - px (i + (w + 1)))⁻¹ = py k
    by_cases e1 : k = i
    · rw [nv_through px py w i k h1 (by omega) fun p q a b c => hd p q a b (by omega)]
      subst e1
      grind
    · by_cases e2 : k = i + (w + 1)
      · rw [nv_through px py w (i + 1) k (by omega) (by omega) fun p q a b c => hd p q (by omega) b (by omega)]
        subst e2
        grind
      · rw [nv_through px py w i k h1 (by omega) fun p q a b c => hd p q a b (by omega), nv_through px py w (i + 1) k (by omega) (by omega) fun p q a b c => hd p q (by omega) b (by omega)]
        grind
/-- The X of n points. -/
def xsOf (px : Nat → F) (n : Nat) : List F := (List.range n).map px
theorem xsOf_length (px : Nat → F) (n : Nat) : (xsOf px n).length = n := by simp [xsOf]
theorem xsOf_nodup {px : Nat → F} {n : Nat} (h : ∀ p q, p < q → q < n → px p ≠ px q) : (xsOf px n).Nodup := by
  unfold xsOf
  rw [List.nodup_iff_pairwise_ne, List.pairwise_map, List.pairwise_iff_getElem]
  intro i j hi hj hij
  simp only [List.getElem_range]
  exact h i j hij (by simpa using hj)
theorem xsOf_mem {px : Nat → F} {n : Nat} {a : F} (h : a ∈ xsOf px n) : ∃ k, k < n ∧ a = px k := by
  obtain ⟨k, h1, h2⟩ := List.mem_map.1 h
  exact ⟨k, by simpa using h1, h2.symm⟩
/-- The value through n + 1 points is that of each polynomial with n + 1 coefficients through them. -/
theorem nv_uniq {px py : Nat → F} {n : Nat} (hd : ∀ p q, p < q → q < n + 1 → px p ≠ px q) {f : F → F} (hf : IsPoly (n + 1) f) (ht : ∀ k, k < n + 1 → f (px k) = py k) (x : F) : nv px py x 0 n = f x := by
  refine IsPoly.uniq (nv_poly px py n 0) hf (xsOf px (n + 1)) (xsOf_nodup hd) (xsOf_length _ _) (fun a ha => ?_) x
  obtain ⟨k, hk, rfl⟩ := xsOf_mem ha
  rw [nv_through px py n 0 k (by omega) (by omega) fun p q _ h1 h2 => hd p q h1 (by omega), ht k hk]
theorem nv_at {px py : Nat → F} {n : Nat} (hd : ∀ p q, p < q → q < n + 1 → px p ≠ px q) {k : Nat} (hk : k < n + 1) : nv px py (px k) 0 n = py k :=
  nv_through px py n 0 k (by omega) (by omega) fun p q _ h1 h2 => hd p q h1 (by omega)

/-! ### Lagrange's form -/
def abv (px py : Nat → F) (x : F) (i : Nat) : Nat → F
  | 0 => py i
  | k + 1 => if k = i then abv px py x i k else abv px py x i k * (x - px k)
def blw (px : Nat → F) (i : Nat) : Nat → F
  | 0 => 1
  | k + 1 => if k = i then blw px i k else blw px i k * (px i - px k)
def lagS (px py : Nat → F) (x : F) (n : Nat) : Nat → F
  | 0 => 0
  | i + 1 => lagS px py x n i + abv px py x i n * (blw px i n)⁻¹
theorem abv_poly (px py : Nat → F) (i : Nat) : ∀ k, IsPoly (if k ≤ i then k + 1 else k) fun x => abv px py x i k
  | 0 => by rw [if_pos (Nat.zero_le _)]; exact IsPoly.const (py i)
  | k + 1 => by
    have ih := abv_poly px py i k
    by_cases e : k = i
    · subst e
      rw [if_pos (Nat.le_refl _)] at ih
      rw [if_neg (by omega)]
      exact ih.congr fun x => by show (if k = k then _ else _) = _; rw [if_pos rfl]
    · have e2 : (if k + 1 ≤ i then k + 1 + 1 else k + 1) = (if k ≤ i then k + 1 else k) + 1 := by
        by_cases h : k ≤ i
        · rw [if_pos h, if_pos (by omega)]
        · rw [if_neg h, if_neg (by omega)]
      rw [e2]
      exact (ih.lin (px k)).congr fun x => by
        show (if k = i then _ else _) = _
        rw [if_neg e]; grind
theorem blw_ne {px : Nat → F} {i n : Nat} (hd : ∀ p q, p < n → q < n → p ≠ q → px p ≠ px q) (hi : i < n) : ∀ k, k ≤ n → blw px i k ≠ 0
  | 0, _ => fun e => Lean.Grind.Field.zero_ne_one (α := F) e.symm
  | k + 1, hk => by
    have ih := blw_ne hd hi k (by omega)
    show (if k = i then blw px i k else blw px i k * (px i - px k)) ≠ 0
    split
    · exact ih
    · rename_i e
      intro h
      have h1 := mul_zero_or h ih
      exact hd i k hi (by omega) (fun h => e h.symm) (by grind)
theorem abv_self {px py : Nat → F} {i : Nat} : ∀ k, abv px py (px i) i k = py i * blw px i k
  | 0 => by show py i = py i * 1; grind
  | k + 1 => by
    have ih := abv_self (px := px) (py := py) (i := i) k
    show (if k = i then _ else _) = py i * (if k = i then _ else _)
    split
    · exact ih
    · rw [ih]; grind
theorem abv_other {px py : Nat → F} {i j : Nat} (hij : j ≠ i) : ∀ k, j < k → abv px py (px j) i k = 0
  | k + 1, hk => by
    show (if k = i then _ else _) = (0 : F)
    by_cases e : j = k
    · subst e
      rw [if_neg hij]; grind
    · have ih := abv_other (px := px) (py := py) hij k (by omega)
      rw [ih]
      split
      · rfl
      · grind
theorem lagS_at {px py : Nat → F} {n : Nat} (hd : ∀ p q, p < n → q < n → p ≠ q → px p ≠ px q) {j : Nat} (hj : j < n) : ∀ i, i ≤ n → lagS px py (px j) n i = if j < i then py j else 0
  | 0, _ => by simp [lagS]
  | i + 1, hi => by
    have ih := lagS_at (px := px) (py := py) hd hj i (by omega)
    show lagS px py (px j) n i + abv px py (px j) i n * (blw px i n)⁻¹ = _
    rw [ih]
    by_cases e : j = i
    · subst e
      have := Lean.Grind.Field.mul_inv_cancel (blw_ne hd hj n (Nat.le_refl _))
      rw [if_neg (by omega), if_pos (by omega), abv_self]
      grind
    · rw [abv_other e n hj]
      by_cases h : j < i
      · rw [if_pos h, if_pos (by omega)]; grind
      · rw [if_neg h, if_neg (by omega)]; grind
theorem lagS_poly (px py : Nat → F) (n : Nat) : ∀ i, i ≤ n → IsPoly n fun x => lagS px py x n i
  | 0, _ => IsPoly.zero n
  | i + 1, hi => by
    have h := abv_poly px py i n
    rw [if_neg (by omega)] at h
    exact ((lagS_poly px py n i (by omega)).add (h.smul (blw px i n)⁻¹)).congr fun x => by
      show lagS px py x n i + abv px py x i n * (blw px i n)⁻¹ = _
      grind
/-- Both forms have the same value. -/
theorem lag_nv {px py : Nat → F} {n : Nat} (hd : ∀ p q, p < q → q < n + 1 → px p ≠ px q) (x : F) : lagS px py x (n + 1) (n + 1) = nv px py x 0 n := by
  have hd' : ∀ p q, p < n + 1 → q < n + 1 → p ≠ q → px p ≠ px q := fun p q h1 h2 h3 => by
    rcases Nat.lt_or_gt_of_ne h3 with h | h
    · exact hd p q h h2
    · exact (hd q p h h1).symm
  refine (nv_uniq hd (lagS_poly px py (n + 1) (n + 1) (Nat.le_refl _)) (fun k hk => ?_) x).symm
  rw [lagS_at hd' hk (n + 1) (Nat.le_refl _), if_pos hk]
end
set_option linter.unusedSectionVars false
/-! ### Prime fields -/
class PrimeN (p : Nat) : Prop where
  two : 2 ≤ p
  dv : ∀ d, d ∣ p → d = 1 ∨ d = p
instance primeN_ne {p : Nat} [h : PrimeN p] : NeZero p := ⟨by have := h.two; omega⟩

theorem perm_of_nodup {α : Type} [DecidableEq α] : ∀ (l m : List α), l.Nodup → (∀ x ∈ l, x ∈ m) → m.length ≤ l.length → l.Perm m
  | [], m, _, _, h => by
    obtain rfl : m = [] := List.eq_nil_of_length_eq_zero (by simpa using h)
    exact List.Perm.refl _
  | x :: l, m, hn, hs, h => by
    obtain ⟨n1, n2⟩ := List.nodup_cons.1 hn
    have hx := hs x List.mem_cons_self
    have hp := List.perm_cons_erase hx
    have hl : (m.erase x).length = m.length - 1 := List.length_erase_of_mem hx
    refine (List.Perm.cons x (perm_of_nodup l (m.erase x) n2 (fun y hy => ?_) (by simp at h; omega))).trans hp.symm
    exact (List.mem_erase_of_ne (fun e => n1 (by rw [← e]; exact hy))).2 (hs y (List.mem_cons_of_mem _ hy))

section
variable {F : Type} [Lean.Grind.CommRing F] [DecidableEq F]
def prodL : List F → F
  | [] => 1
  | a :: l => a * prodL l
theorem prodL_perm {l m : List F} (h : l.Perm m) : prodL l = prodL m := by
  induction h with
  | nil => rfl
  | cons x _ ih => show x * _ = x * _; rw [ih]
  | swap x y l => show y * (x * _) = x * (y * _); grind
  | trans _ _ h1 h2 => exact h1.trans h2
theorem prodL_map (a : F) : ∀ l : List F, prodL (l.map (a * ·)) = a ^ l.length * prodL l
  | [] => by show (1 : F) = a ^ 0 * 1; grind
  | x :: l => by
    show a * x * prodL (l.map (a * ·)) = a ^ (l.length + 1) * (x * prodL l)
    rw [prodL_map a l, Lean.Grind.Semiring.pow_succ]; grind
theorem prodL_ne (h1 : (1 : F) ≠ 0) (hz : ∀ a b : F, a * b = 0 → a = 0 ∨ b = 0) : ∀ l : List F, (∀ x ∈ l, x ≠ 0) → prodL l ≠ 0
  | [], _ => h1
  | x :: l, h => fun e => by
    rcases hz _ _ e with e | e
    · exact h x List.mem_cons_self e
    · exact prodL_ne h1 hz l (fun y hy => h y (List.mem_cons_of_mem _ hy)) e
/-- Fermat's little theorem, for a finite domain whose other elements are a list. -/
theorem fermat (h1 : (1 : F) ≠ 0) (hz : ∀ a b : F, a * b = 0 → a = 0 ∨ b = 0) (l : List F) (hn : l.Nodup) (hl : ∀ x, x ∈ l ↔ x ≠ 0) (a : F) (ha : a ≠ 0) : a ^ l.length = 1 := by
  have hp : (l.map (a * ·)).Perm l := by
    refine perm_of_nodup _ _ ?_ (fun x hx => ?_) (by simp)
    · rw [List.nodup_iff_pairwise_ne, List.pairwise_map]
      rw [List.nodup_iff_pairwise_ne] at hn
      refine hn.imp fun {x y} hxy e => hxy ?_
      rcases hz a (x - y) (by grind) with h | h
      · exact absurd h ha
      · grind
    · obtain ⟨y, hy, rfl⟩ := List.mem_map.1 hx
      refine (hl _).2 fun e => ?_
      rcases hz _ _ e with h | h
      · exact ha h
      · exact (hl y).1 hy h
  have h2 := prodL_perm hp
  rw [prodL_map] at h2
  have h3 := prodL_ne h1 hz l fun x hx => (hl x).1 hx
  have h4 : (a ^ l.length - 1) * prodL l = 0 := by grind
  rcases hz _ _ h4 with h | h
  · grind
  · exact absurd h h3
end

section
variable {p : Nat} [hp : PrimeN p]
theorem fin_dom (a b : Fin p) (h : a * b = 0) : a = 0 ∨ b = 0 := by
  have h1 : a.val * b.val % p = 0 := by
    have := congrArg Fin.val h
    rw [Fin.val_mul] at this
    simpa using this
  have h2 : p ∣ a.val * b.val := Nat.dvd_of_mod_eq_zero h1
  by_cases ha : a = 0
  · exact .inl ha
  · right
    have h0 : a.val ≠ 0 := fun e => ha (Fin.ext (by simpa using e))
    have hc : Nat.gcd p a.val = 1 := by
      rcases hp.dv _ (Nat.gcd_dvd_left p a.val) with h | h
      · exact h
      · have h3 := Nat.gcd_dvd_right p a.val
        rw [h] at h3
        have := Nat.le_of_dvd (by omega) h3
        omega
    have h4 : p ∣ b.val := Nat.Coprime.dvd_of_dvd_mul_left hc h2
    apply Fin.ext
    have := b.isLt
    have h5 : b.val = 0 := by
      rcases Nat.eq_zero_or_pos b.val with h | h
      · exact h
      · have := Nat.le_of_dvd h h4; omega
    simpa using h5
theorem fin_one : (1 : Fin p) ≠ 0 := by
  intro e
  have h := congrArg Fin.val e
  have h2 := hp.two
  have h3 : (1 : Fin p).val = 1 % p := rfl
  have h4 : (0 : Fin p).val = 0 % p := rfl
  rw [h3, h4, Nat.mod_eq_of_lt (by omega), Nat.zero_mod] at h
  omega
theorem fin_list : ∃ l : List (Fin p), l.Nodup ∧ (∀ x, x ∈ l ↔ x ≠ 0) ∧ l.length = p - 1 := by
  refine ⟨(List.finRange p).erase 0, (List.nodup_finRange p).erase _, fun x => ?_, ?_⟩
  · rw [(List.nodup_finRange p).mem_erase_iff]; simp
  · rw [List.length_erase_of_mem (by simp), List.length_finRange]
theorem fin_fermat (a : Fin p) (h : a ≠ 0) : a ^ (p - 1) = 1 := by
  obtain ⟨l, h1, h2, h3⟩ := fin_list (p := p)
  rw [← h3]
  exact fermat fin_one fin_dom l h1 h2 a h
def finInv (a : Fin p) : Fin p := if a = 0 then 0 else a ^ (p - 2)
theorem finInv_mul {a : Fin p} (h : a ≠ 0) : a * finInv a = 1 := by
  have h1 := fin_fermat a h
  have h2 := hp.two
  unfold finInv
  rw [if_neg h]
  rw [show p - 1 = (p - 2) + 1 by omega, Lean.Grind.Semiring.pow_succ] at h1
  grind
def finZpow (a : Fin p) : Int → Fin p
  | .ofNat n => a ^ n
  | .negSucc n => finInv (a ^ (n + 1))
theorem finInv_one : finInv (1 : Fin p) = 1 := by
  have := finInv_mul (p := p) (a := 1) fin_one
  grind
theorem finInv_zero : finInv (0 : Fin p) = 0 := by unfold finInv; rw [if_pos rfl]
theorem finInv_inv (a : Fin p) : finInv (finInv a) = a := by
  by_cases h : a = 0
  · rw [h, finInv_zero, finInv_zero]
  · have h1 := finInv_mul h
    have h2 : finInv a ≠ 0 := fun e => by rw [e] at h1; exact fin_one (p := p) (by grind)
    have h3 := finInv_mul h2
    grind
instance finField : Lean.Grind.Field (Fin p) where
  inv := finInv
  div a b := a * finInv b
  zpow := ⟨finZpow⟩
  div_eq_mul_inv _ _ := rfl
  zero_ne_one := fun e => fin_one e.symm
  inv_zero := finInv_zero
  mul_inv_cancel := finInv_mul
  zpow_zero a := Lean.Grind.Semiring.pow_zero a
  zpow_succ a n := Lean.Grind.Semiring.pow_succ a n
  zpow_neg a n := by
    show finZpow a (-n) = finInv (finZpow a n)
    match n with
    | .ofNat 0 =>
      show a ^ 0 = finInv (a ^ 0)
      rw [Lean.Grind.Semiring.pow_zero, finInv_one]
    | .ofNat (n + 1) => rfl
    | .negSucc n =>
      show a ^ (n + 1) = finInv (finInv (a ^ (n + 1)))
      rw [finInv_inv]
theorem finInv_pow (a : Fin p) (h : a ≠ 0) : a⁻¹ = a ^ (p - 2) := by
  show finInv a = _
  unfold finInv; rw [if_neg h]
end

/-! ### The prime 2147483647 -/
def noDiv (n : Nat) : Nat → Nat → Bool
  | 0, a => !Nat.beq (n % a) 0
  | k + 1, a => noDiv n k a && noDiv n k (a + 2 ^ k)
theorem noDiv_spec (n : Nat) : ∀ k a, noDiv n k a = true → ∀ d, a ≤ d → d < a + 2 ^ k → ¬ d ∣ n
  | 0, a, h, d, h1, h2, h3 => by
    obtain rfl : a = d := by omega
    have h4 := Nat.mod_eq_zero_of_dvd h3
    unfold noDiv at h
    rw [h4] at h
    simp at h
  | k + 1, a, h, d, h1, h2, h3 => by
    have h' : noDiv n k a = true ∧ noDiv n k (a + 2 ^ k) = true := by simpa [noDiv] using h
    have e : 2 ^ (k + 1) = 2 ^ k + 2 ^ k := by rw [Nat.pow_succ]; omega
    by_cases h4 : d < a + 2 ^ k
    · exact noDiv_spec n k a h'.1 d h1 h4 h3
    · exact noDiv_spec n k _ h'.2 d (by omega) (by omega) h3
theorem noDiv_P : noDiv 2147483647 16 2 = true := by decide +kernel
theorem prime_of {n : Nat} (h2 : 2 ≤ n) (h : noDiv n 16 2 = true) (hn : n < 65538 * 65538) : PrimeN n where
  two := h2
  dv := by
    have key := noDiv_spec n 16 2 h
    rintro d ⟨e, he⟩
    by_cases h0 : d < 65538
    · by_cases h3 : 2 ≤ d
      · exact absurd ⟨e, he⟩ (key d h3 (by omega))
      · left
        have : d ≠ 0 := by rintro rfl; omega
        omega
    · right
      have h4 : e < 65538 := by
        rcases Nat.lt_or_ge e 65538 with h | h
        · exact h
        · have := Nat.mul_le_mul (show 65538 ≤ d by omega) h
          omega
      by_cases h3 : 2 ≤ e
      · exact absurd ⟨d, by rw [Nat.mul_comm]; exact he⟩ (key e h3 (by omega))
      · have : e ≠ 0 := by rintro rfl; omega
        have : e = 1 := by omega
        rw [this] at he; omega
instance primeP : PrimeN 2147483647 := prime_of (by omega) noDiv_P (by omega)
/-! ### Integers as elements -/
abbrev FP := Fin 2147483647
def el (n : Int) : FP := Lean.Grind.Ring.intCast.intCast n
def va (x : FP) : Int := (x.val : Int)
open Lean.Grind in
theorem el_add (a b : Int) : el (a + b) = el a + el b := Ring.intCast_add a b
open Lean.Grind in
theorem el_mul (a b : Int) : el (a * b) = el a * el b := Ring.intCast_mul a b
open Lean.Grind in
theorem el_sub (a b : Int) : el (a - b) = el a - el b := Ring.intCast_sub a b
theorem el_zero : el 0 = 0 := by decide +kernel
theorem el_one : el 1 = 1 := by decide +kernel
theorem el_P : el 2147483647 = 0 := by decide +kernel
theorem va_bd (x : FP) : 0 ≤ va x ∧ va x < 2147483647 := by
  have := x.isLt
  unfold va
  omega
theorem el_nat (n : Nat) : (el (n : Int)).val = n % 2147483647 := by
  rfl
theorem el_va (x : FP) : el (va x) = x := by
  apply Fin.ext
  unfold va
  rw [el_nat, Nat.mod_eq_of_lt x.isLt]
theorem va_el {n : Int} (h0 : 0 ≤ n) (h1 : n < 2147483647) : va (el n) = n := by
  obtain ⟨k, rfl⟩ := Int.eq_ofNat_of_zero_le h0
  unfold va
  rw [el_nat, Nat.mod_eq_of_lt (by omega)]
theorem va_inj {x y : FP} (h : va x = va y) : x = y := by rw [← el_va x, h, el_va]
theorem va_eq {x y : FP} : va x = va y ↔ x = y := ⟨va_inj, fun h => by rw [h]⟩
theorem el_inj {a b : Int} (a0 : 0 ≤ a) (a1 : a < 2147483647) (b0 : 0 ≤ b) (b1 : b < 2147483647) (h : el a = el b) : a = b := by
  rw [← va_el a0 a1, h, va_el b0 b1]
theorem el_emod (n : Int) : el (n % 2147483647) = el n := by
  have h : n = 2147483647 * (n / 2147483647) + n % 2147483647 := (Int.mul_ediv_add_emod n 2147483647).symm
  have e : el n = el 2147483647 * el (n / 2147483647) + el (n % 2147483647) := by
    rw [← el_mul, ← el_add, ← h]
  rw [e, el_P]
  grind
theorem el_tmod (n : Int) : el (n.tmod 2147483647) = el n := by
  have h : n = 2147483647 * (n.tdiv 2147483647) + n.tmod 2147483647 := (Int.mul_tdiv_add_tmod n 2147483647).symm
  have e : el n = el 2147483647 * el (n.tdiv 2147483647) + el (n.tmod 2147483647) := by
    rw [← el_mul, ← el_add, ← h]
  rw [e, el_P]
  grind
theorem emod_va (n : Int) : n % 2147483647 = va (el n) := by
  rw [← el_emod n, va_el (Int.emod_nonneg _ (by omega)) (Int.emod_lt_of_pos _ (by omega))]
theorem va_zero : va 0 = 0 := by decide +kernel
theorem va_one : va 1 = 1 := by decide +kernel
end Go.Proofs.Ytahlhiiekgnmpab
