/- moments, plain: finite distributions with exact numbers. -/
import Derived.Test.YtblpnekjnaaeoaaGreatDoorPkG
set_option linter.unusedVariables false
set_option linter.unusedSimpArgs false
namespace Go.Proofs.YtblpnekjnaaeoaaGreatDoor

abbrev PQ := Rat × Rat
/-- The sum of f (value) times weight. -/
def dot (f : Rat → Rat) : List PQ → Rat
  | [] => 0
  | p :: l => f p.1 * p.2 + dot f l
theorem dot_append (f : Rat → Rat) (l m : List PQ) : dot f (l ++ m) = dot f l + dot f m := by
  induction l with
  | nil => simp only [List.nil_append, dot]; grind
  | cons p l ih => simp only [List.cons_append, dot, ih]; grind
/-- Insertion of a pair, with exact sums. -/
def insE : List PQ → PQ → List PQ
  | [], x => [x]
  | y :: ys, x => if y.1 < x.1 then y :: insE ys x else if y.1 = x.1 then (y.1, y.2 + x.2) :: ys else x :: y :: ys
theorem dot_insE (f : Rat → Rat) (l : List PQ) (x : PQ) : dot f (insE l x) = dot f l + f x.1 * x.2 := by
  induction l with
  | nil => simp only [insE, dot]; grind
  | cons y ys ih =>
    unfold insE
    split
    · simp only [dot, ih]; grind
    · split
      · rename_i h
        simp only [dot, h]; grind
      · simp only [dot]; grind
def SrtQ (l : List PQ) : Prop := l.Pairwise fun a b => a.1 < b.1
theorem insE_fst {l : List PQ} {x z : PQ} (h : z ∈ insE l x) : z.1 = x.1 ∨ ∃ y ∈ l, z.1 = y.1 := by
  induction l with
  | nil => simp only [insE, List.mem_singleton] at h; exact .inl (by rw [h])
  | cons y ys ih =>
    unfold insE at h
    split at h
    · rcases List.mem_cons.1 h with rfl | h
      · exact .inr ⟨z, List.mem_cons_self .., rfl⟩
      · rcases ih h with h | ⟨u, hu, e⟩
        · exact .inl h
        · exact .inr ⟨u, List.mem_cons_of_mem _ hu, e⟩
    · split at h
      · rcases List.mem_cons.1 h with rfl | h
        · exact .inr ⟨y, List.mem_cons_self .., rfl⟩
        · exact .inr ⟨z, List.mem_cons_of_mem _ h, rfl⟩
      · rcases List.mem_cons.1 h with rfl | h
        · exact .inl rfl
        · exact .inr ⟨z, h, rfl⟩
theorem insE_srt {l : List PQ} (h : SrtQ l) (x : PQ) : SrtQ (insE l x) := by
  induction l with
  | nil => exact List.pairwise_singleton _ _
  | cons y ys ih =>
    obtain ⟨h1, h2⟩ := List.pairwise_cons.1 h
    unfold insE
    split
    · rename_i hlt
      refine List.pairwise_cons.2 ⟨fun z hz => ?_, ih h2⟩
      rcases insE_fst hz with e | ⟨u, hu, e⟩
      · rw [e]; exact hlt
      · rw [e]; exact h1 u hu
    · split
      · exact List.pairwise_cons.2 ⟨fun z hz => h1 z hz, h2⟩
      · rename_i h3 h4
        have hx : x.1 < y.1 := by grind
        refine List.pairwise_cons.2 ⟨fun z hz => ?_, h⟩
        rcases List.mem_cons.1 hz with rfl | hz
        · exact hx
        · have := h1 z hz
          grind
theorem insE_nonneg {l : List PQ} {x : PQ} (h : ∀ z ∈ l, 0 ≤ z.2) (hx : 0 ≤ x.2) : ∀ z ∈ insE l x, 0 ≤ z.2 := by
  induction l with
  | nil =>
    intro z hz
    simp only [insE, List.mem_singleton] at hz
    rw [hz]; exact hx
  | cons y ys ih =>
    have hy := h y (List.mem_cons_self ..)
    have hys := fun z hz => h z (List.mem_cons_of_mem y hz)
    intro z hz
    unfold insE at hz
    split at hz
    · rcases List.mem_cons.1 hz with rfl | hz
      · exact hy
      · exact ih hys z hz
    · split at hz
      · rcases List.mem_cons.1 hz with rfl | hz
        · show 0 ≤ y.2 + x.2
          grind
        · exact hys z hz
      · rcases List.mem_cons.1 hz with rfl | hz
        · exact hx
        · exact h z hz
/-- The collected list. -/
def collE (l : List PQ) : List PQ := l.foldl insE []
theorem foldl_dot (f : Rat → Rat) (l : List PQ) : ∀ o, dot f (l.foldl insE o) = dot f o + dot f l := by
  induction l with
  | nil => intro o; simp only [List.foldl_nil, dot]; grind
  | cons x l ih => intro o; rw [List.foldl_cons, ih, dot_insE]; simp only [dot]; grind
theorem dot_collE (f : Rat → Rat) (l : List PQ) : dot f (collE l) = dot f l := by
  unfold collE
  rw [foldl_dot]; simp only [dot]; grind
theorem collE_srt (l : List PQ) : SrtQ (collE l) := by
  unfold collE
  have : ∀ o, SrtQ o → SrtQ (l.foldl insE o) := by
    induction l with
    | nil => exact fun o h => h
    | cons x l ih => exact fun o h => ih _ (insE_srt h x)
  exact this [] List.Pairwise.nil
theorem collE_nonneg {l : List PQ} (h : ∀ z ∈ l, 0 ≤ z.2) : ∀ z ∈ collE l, 0 ≤ z.2 := by
  unfold collE
  have : ∀ o : List PQ, (∀ z ∈ o, 0 ≤ z.2) → ∀ z ∈ l.foldl insE o, 0 ≤ z.2 := by
    induction l with
    | nil => exact fun o h => h
    | cons x l ih => exact fun o ho => ih (fun z hz => h z (List.mem_cons_of_mem _ hz)) _ (insE_nonneg ho (h x (List.mem_cons_self ..)))
  exact this [] (fun z hz => by cases hz)
theorem collE_len (l : List PQ) : (collE l).length ≤ l.length := by
  unfold collE
  have hi : ∀ (o : List PQ) (x : PQ), (insE o x).length ≤ o.length + 1 := by
    intro o x
    induction o with
    | nil => simp [insE]
    | cons y ys ih =>
      unfold insE
      split
      · simpa using ih
      · split <;> simp
  have : ∀ o : List PQ, (l.foldl insE o).length ≤ o.length + l.length := by
    induction l with
    | nil => intro o; simp
    | cons x l ih =>
      intro o
      have h1 := ih (insE o x)
      have h2 := hi o x
      simp only [List.foldl_cons, List.length_cons]
      omega
  simpa using this []
/-- Without the weights 0. -/
def nzE (l : List PQ) : List PQ := l.filter fun p => decide (p.2 ≠ 0)
theorem dot_nzE (f : Rat → Rat) (l : List PQ) : dot f (nzE l) = dot f l := by
  unfold nzE
  induction l with
  | nil => rfl
  | cons p l ih =>
    by_cases h : p.2 = 0
    · rw [List.filter_cons_of_neg (by simp [h]), ih]
      simp only [dot, h]; grind
    · rw [List.filter_cons_of_pos (by simp [h])]
      simp only [dot, ih]
theorem nzE_srt {l : List PQ} (h : SrtQ l) : SrtQ (nzE l) := List.Pairwise.filter _ h
theorem nzE_ne {l : List PQ} : ∀ z ∈ nzE l, z.2 ≠ 0 := fun z hz => by
  have := (List.mem_filter.1 hz).2
  simpa using this
theorem nzE_pos {l : List PQ} (h : ∀ z ∈ l, 0 ≤ z.2) : ∀ z ∈ nzE l, 0 < z.2 := fun z hz => by
  have h1 := h z (List.mem_filter.1 hz).1
  have h2 := nzE_ne z hz
  grind
/-- The weight at a value. -/
def ind (v : Rat) : Rat → Rat := fun u => if u = v then 1 else 0
theorem dot_ind_none {v : Rat} {l : List PQ} (h : ∀ z ∈ l, z.1 ≠ v) : dot (ind v) l = 0 := by
  induction l with
  | nil => rfl
  | cons p l ih =>
    simp only [dot, ih fun z hz => h z (List.mem_cons_of_mem _ hz)]
    rw [show ind v p.1 = 0 from if_neg (h p (List.mem_cons_self ..))]
    grind
theorem dot_ind_head {a : PQ} {l : List PQ} (h : SrtQ (a :: l)) : dot (ind a.1) (a :: l) = a.2 := by
  have h1 := (List.pairwise_cons.1 h).1
  simp only [dot]
  rw [dot_ind_none (fun z hz => by have := h1 z hz; grind), show ind a.1 a.1 = 1 from if_pos rfl]
  grind
theorem srt_unique : ∀ {l m : List PQ}, SrtQ l → SrtQ m → (∀ z ∈ l, z.2 ≠ 0) → (∀ z ∈ m, z.2 ≠ 0) → (∀ f, dot f l = dot f m) → l = m := by
  intro l
  induction l with
  | nil =>
    intro m _ hm _ h2 hd
    cases m with
    | nil => rfl
    | cons b m =>
      have := hd (ind b.1)
      rw [dot_ind_head hm] at this
      exact absurd this.symm (h2 b (List.mem_cons_self ..))
  | cons a l ih =>
    intro m hl hm h1 h2 hd
    cases m with
    | nil =>
      have := hd (ind a.1)
      rw [dot_ind_head hl] at this
      exact absurd this (h1 a (List.mem_cons_self ..))
    | cons b m =>
      have ha := (List.pairwise_cons.1 hl).1
      have hb := (List.pairwise_cons.1 hm).1
      have e1 : a.1 = b.1 := by
        by_cases hab : a.1 < b.1
        · have := hd (ind a.1)
          rw [dot_ind_head hl, dot_ind_none (fun z hz => by
            rcases List.mem_cons.1 hz with rfl | hz
            · grind
            · have := hb z hz; grind)] at this
          exact absurd this (h1 a (List.mem_cons_self ..))
        · by_cases hba : b.1 < a.1
          · have := hd (ind b.1)
            rw [dot_ind_head hm, dot_ind_none (fun z hz => by
              rcases List.mem_cons.1 hz with rfl | hz
              · grind
              · have := ha z hz; grind)] at this
            exact absurd this.symm (h2 b (List.mem_cons_self ..))
          · grind
      have e2 : a.2 = b.2 := by
        have := hd (ind a.1)
        rw [dot_ind_head hl, e1, dot_ind_head hm] at this
        exact this
      have e3 : a = b := Prod.ext e1 e2
      subst e3
      rw [ih (List.pairwise_cons.1 hl).2 (List.pairwise_cons.1 hm).2 (fun z hz => h1 z (List.mem_cons_of_mem _ hz)) (fun z hz => h2 z (List.mem_cons_of_mem _ hz)) (fun f => by
        have := hd f
        simp only [dot] at this
        grind)]
/-- The pairs of a sum, and of a mixture. -/
def sumE (a b : List PQ) : List PQ := a.flatMap fun p => b.map fun q => (p.1 + q.1, p.2 * q.2)
def mixE (ws : List Rat) (ls : List (List PQ)) : List PQ := (ws.zip ls).flatMap fun x => x.2.map fun p => (p.1, x.1 * p.2)
theorem dot_smul (f : Rat → Rat) (c : Rat) (l : List PQ) : dot f (l.map fun p => (p.1, c * p.2)) = c * dot f l := by
  induction l with
  | nil => simp only [List.map_nil, dot]; grind
  | cons p l ih => simp only [List.map_cons, dot, ih]; grind
theorem dot_mixE_nil (f : Rat → Rat) (ls : List (List PQ)) : dot f (mixE [] ls) = 0 := by simp [mixE, dot]
theorem dot_mixE_cons (f : Rat → Rat) (c : Rat) (ws : List Rat) (l : List PQ) (ls : List (List PQ)) : dot f (mixE (c :: ws) (l :: ls)) = c * dot f l + dot f (mixE ws ls) := by
  simp only [mixE, List.zip_cons_cons, List.flatMap_cons, dot_append, dot_smul]
theorem dot_shift (f : Rat → Rat) (p : PQ) (b : List PQ) : dot f (b.map fun q => (p.1 + q.1, p.2 * q.2)) = p.2 * dot (fun u => f (p.1 + u)) b := by
  induction b with
  | nil => simp only [List.map_nil, dot]; grind
  | cons q b ih => simp only [List.map_cons, dot, ih]; grind
theorem dot_sumE_cons (f : Rat → Rat) (p : PQ) (a b : List PQ) : dot f (sumE (p :: a) b) = p.2 * dot (fun u => f (p.1 + u)) b + dot f (sumE a b) := by
  simp only [sumE, List.flatMap_cons, dot_append, dot_shift]
theorem dot_sumE_left (f : Rat → Rat) (a : List PQ) : ∀ b : List PQ, dot f (sumE a b) = dot (fun v => dot (fun u => f (v + u)) b) a := by
  intro b
  induction a with
  | nil => rfl
  | cons p a ih =>
    rw [dot_sumE_cons, ih]
    simp only [dot]
    grind
theorem dot_add (f g : Rat → Rat) (l : List PQ) : dot (fun v => f v + g v) l = dot f l + dot g l := by
  induction l with
  | nil => simp only [dot]; grind
  | cons p l ih => simp only [dot, ih]; grind
theorem dot_mul (c : Rat) (f : Rat → Rat) (l : List PQ) : dot (fun v => c * f v) l = c * dot f l := by
  induction l with
  | nil => simp only [dot]; grind
  | cons p l ih => simp only [dot, ih]; grind
theorem dot_swap (F : Rat → Rat → Rat) (a b : List PQ) : dot (fun v => dot (fun u => F v u) b) a = dot (fun u => dot (fun v => F v u) a) b := by
  induction a with
  | nil =>
    simp only [dot]
    have := dot_mul 0 (fun _ => (0 : Rat)) b
    have e : (fun _ : Rat => (0 : Rat)) = fun v => 0 * (fun _ => (0 : Rat)) v := by funext v; grind
    rw [e, this]; grind
  | cons p a ih =>
    simp only [dot, ih]
    have : (fun u => F p.1 u * p.2 + dot (fun v => F v u) a) = fun u => (fun u => p.2 * (fun u => F p.1 u) u) u + (fun u => dot (fun v => F v u) a) u := by funext u; grind
    rw [this, dot_add, dot_mul]
    grind
theorem dot_sumE_swap (f : Rat → Rat) (a b : List PQ) : dot f (sumE a b) = dot f (sumE b a) := by
  rw [dot_sumE_left, dot_sumE_left, dot_swap]
  congr 1
  funext u
  congr 1
  funext v
  rw [Rat.add_comm]
/-- Moments. -/
def totE (l : List PQ) : Rat := dot (fun _ => 1) l
def meanE (l : List PQ) : Rat := dot (fun v => v) l
def sqE (l : List PQ) : Rat := dot (fun v => v * v) l
def varE (l : List PQ) : Rat := dot (fun v => (v - meanE l) * (v - meanE l)) l
theorem dot_quad (m : Rat) (l : List PQ) : dot (fun v => (v - m) * (v - m)) l = sqE l - 2 * m * meanE l + m * m * totE l := by
  unfold sqE meanE totE
  induction l with
  | nil => simp only [dot]; grind
  | cons p l ih => simp only [dot, ih]; grind
theorem varE_eq {l : List PQ} (h : totE l = 1) : varE l = sqE l - meanE l * meanE l := by
  unfold varE
  rw [dot_quad, h]; grind
theorem dot_lin (c d : Rat) (l : List PQ) : dot (fun u => c + d * u) l = c * totE l + d * meanE l := by
  unfold meanE totE
  induction l with
  | nil => simp only [dot]; grind
  | cons p l ih => simp only [dot, ih]; grind
theorem dot_quad2 (c : Rat) (l : List PQ) : dot (fun u => (c + u) * (c + u)) l = c * c * totE l + 2 * c * meanE l + sqE l := by
  unfold sqE meanE totE
  induction l with
  | nil => simp only [dot]; grind
  | cons p l ih => simp only [dot, ih]; grind
theorem dot_quad3 (c d e : Rat) (l : List PQ) : dot (fun v => v * v * c + 2 * v * d + e) l = sqE l * c + 2 * meanE l * d + totE l * e := by
  unfold sqE meanE totE
  induction l with
  | nil => simp only [dot]; grind
  | cons p l ih => simp only [dot, ih]; grind
theorem totE_sumE {a b : List PQ} : totE (sumE a b) = totE a * totE b := by
  unfold totE
  rw [dot_sumE_left]
  have : (fun _ : Rat => dot (fun _ => (1 : Rat)) b) = fun v => dot (fun _ => (1 : Rat)) b * (fun _ => (1 : Rat)) v := by funext v; grind
  rw [this, dot_mul]; grind
theorem meanE_sumE {a b : List PQ} (ha : totE a = 1) (hb : totE b = 1) : meanE (sumE a b) = meanE a + meanE b := by
  have h1 : meanE (sumE a b) = dot (fun v => dot (fun u => v + u) b) a := by unfold meanE; rw [dot_sumE_left]
  rw [h1]
  have h2 : (fun v => dot (fun u => v + u) b) = fun v => meanE b + 1 * v := by
    funext v
    have := dot_lin v 1 b
    have e : (fun u : Rat => v + u) = fun u => v + 1 * u := by funext u; grind
    rw [e, this, hb]; grind
  rw [h2, dot_lin, ha]; grind
theorem sqE_sumE {a b : List PQ} (ha : totE a = 1) (hb : totE b = 1) : sqE (sumE a b) = sqE a + 2 * meanE a * meanE b + sqE b := by
  have h1 : sqE (sumE a b) = dot (fun v => dot (fun u => (v + u) * (v + u)) b) a := by unfold sqE; rw [dot_sumE_left]
  rw [h1]
  have h2 : (fun v => dot (fun u => (v + u) * (v + u)) b) = fun v => v * v * 1 + 2 * v * meanE b + sqE b := by
    funext v
    rw [dot_quad2, hb]
  rw [h2, dot_quad3, ha]; grind
theorem varE_sumE {a b : List PQ} (ha : totE a = 1) (hb : totE b = 1) : varE (sumE a b) = varE a + varE b := by
  have ht : totE (sumE a b) = 1 := by rw [totE_sumE, ha, hb]; grind
  rw [varE_eq ht, varE_eq ha, varE_eq hb, meanE_sumE ha hb, sqE_sumE ha hb]; grind
/-- What two lists with the same sums have in common. -/
def SameD (l m : List PQ) : Prop := ∀ f, dot f l = dot f m
theorem SameD.tot {l m : List PQ} (h : SameD l m) : totE l = totE m := h _
theorem SameD.mean {l m : List PQ} (h : SameD l m) : meanE l = meanE m := h _
theorem SameD.sq {l m : List PQ} (h : SameD l m) : sqE l = sqE m := h _
theorem SameD.var {l m : List PQ} (h : SameD l m) : varE l = varE m := by
  unfold varE
  rw [h.mean]; exact h _
theorem sameD_coll (l : List PQ) : SameD (nzE (collE l)) l := fun f => by rw [dot_nzE, dot_collE]
/-- Bounds of the mean. -/
theorem dot_le {f g : Rat → Rat} {l : List PQ} (h : ∀ z ∈ l, f z.1 ≤ g z.1) (hp : ∀ z ∈ l, 0 ≤ z.2) : dot f l ≤ dot g l := by
  induction l with
  | nil => exact Rat.le_refl
  | cons p l ih =>
    have h1 := ih (fun z hz => h z (List.mem_cons_of_mem _ hz)) (fun z hz => hp z (List.mem_cons_of_mem _ hz))
    have h2 := h p (List.mem_cons_self ..)
    have h3 := hp p (List.mem_cons_self ..)
    have h4 : f p.1 * p.2 ≤ g p.1 * p.2 := Rat.mul_le_mul_of_nonneg_right h2 h3
    simp only [dot]
    grind
theorem dot_const (c : Rat) (l : List PQ) : dot (fun _ => c) l = c * totE l := by
  unfold totE
  induction l with
  | nil => simp only [dot]; grind
  | cons p l ih => simp only [dot, ih]; grind
theorem dot_nonneg {f : Rat → Rat} {l : List PQ} (h : ∀ z ∈ l, 0 ≤ f z.1) (hp : ∀ z ∈ l, 0 ≤ z.2) : 0 ≤ dot f l := by
  have := dot_le (f := fun _ => 0) h hp
  rw [dot_const] at this
  grind
theorem rat_sq_nonneg (x : Rat) : 0 ≤ x * x := by
  rcases (Rat.le_total : 0 ≤ x ∨ x ≤ 0) with h | h
  · exact Rat.mul_nonneg h h
  · have h' : 0 ≤ -x := by grind
    have := Rat.mul_nonneg h' h'
    grind
theorem varE_nonneg {l : List PQ} (hp : ∀ z ∈ l, 0 ≤ z.2) : 0 ≤ varE l := dot_nonneg (fun z _ => rat_sq_nonneg _) hp
theorem varE_zero {l : List PQ} (hp : ∀ z ∈ l, 0 < z.2) (hz : varE l = 0) : ∀ z ∈ l, z.1 = meanE l := by
  unfold varE at hz
  generalize meanE l = m at hz
  induction l with
  | nil => intro z h; cases h
  | cons p l ih =>
    have h1 : 0 ≤ dot (fun v => (v - m) * (v - m)) l := dot_nonneg (fun z _ => rat_sq_nonneg _) (fun z h => Rat.le_of_lt (hp z (List.mem_cons_of_mem _ h)))
    have h2 := hp p (List.mem_cons_self ..)
    have h3 : 0 ≤ (p.1 - m) * (p.1 - m) * p.2 := Rat.mul_nonneg (rat_sq_nonneg _) (Rat.le_of_lt h2)
    simp only [dot] at hz
    have h4 : dot (fun v => (v - m) * (v - m)) l = 0 := by grind
    have h5 : (p.1 - m) * (p.1 - m) * p.2 = 0 := by grind
    intro z hz'
    rcases List.mem_cons.1 hz' with rfl | hz'
    · rcases Rat.mul_eq_zero.1 h5 with h | h
      · rcases Rat.mul_eq_zero.1 h with h | h <;> grind
      · grind
    · exact ih (fun z h => hp z (List.mem_cons_of_mem _ h)) h4 z hz'
theorem varE_zero_iff {l : List PQ} (hs : SrtQ l) (hp : ∀ z ∈ l, 0 < z.2) (ht : totE l = 1) (h0 : l ≠ []) : varE l = 0 ↔ l.length = 1 := by
  constructor
  · intro hz
    have h := varE_zero hp hz
    match l, h0 with
    | [p], _ => rfl
    | p :: q :: l, _ =>
      have h1 := (List.pairwise_cons.1 hs).1 q (List.mem_cons_self ..)
      have h2 := h p (List.mem_cons_self ..)
      have h3 := h q (List.mem_cons_of_mem _ (List.mem_cons_self ..))
      grind
  · intro hl
    match l, hl with
    | [p], _ =>
      have e1 : p.2 = 1 := by
        simp only [totE, dot] at ht; grind
      have e2 : meanE [p] = p.1 := by
        simp only [meanE, dot, e1]; grind
      unfold varE
      rw [e2]
      simp only [dot]; grind
end Go.Proofs.YtblpnekjnaaeoaaGreatDoor
