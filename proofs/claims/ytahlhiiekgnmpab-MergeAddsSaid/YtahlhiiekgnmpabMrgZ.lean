/- Alerts in the opposite order: in plain Lean. -/
import Derived.Test.YtahlhiiekgnmpabMrgY
namespace Go.Proofs.Ytahlhiiekgnmpab

theorem nodup_len : ∀ (m : Nat) (l : List Nat), l.Nodup → (∀ x ∈ l, x < m) → l.length ≤ m
  | 0, l, _, h => by
    cases l with
    | nil => exact Nat.le_refl _
    | cons a l => exact absurd (h a (by simp)) (Nat.not_lt_zero _)
  | m + 1, l, hn, h => by
    by_cases hm : m ∈ l
    · have h1 := nodup_len m (l.erase m) (hn.erase m) (fun x hx => by
        have h2 := (hn.mem_erase_iff).1 hx
        have h3 := h x h2.2
        have h4 : x ≠ m := h2.1
        omega)
      rw [List.length_erase_of_mem hm] at h1
      omega
    · have h1 := nodup_len m l hn (fun x hx => by
        have h3 := h x hx
        have h4 : x ≠ m := fun e => hm (e ▸ hx)
        omega)
      omega
/-- Where the group of a number stands. -/
theorem idx_at (rt : Nat → Nat) {n x : Nat} (hx : x < n) : ∃ q, ∃ h : q < (firsts rt n).length, rt (firsts rt n)[q] = rt x := by
  obtain ⟨q, hq, hm⟩ := (rows_ok rt n).all x hx
  obtain ⟨h1, e⟩ := rowsK_get hq
  rw [e] at hm
  exact ⟨q, h1, (mem_grpOf.1 hm).2.symm⟩
theorem firsts_perm_le {rt rt' : Nat → Nat} {n : Nat} (σ : Nat → Nat) (hσ : ∀ x, x < n → σ x < n) (h : ∀ x y, x < n → y < n → (rt x = rt y ↔ rt' (σ x) = rt' (σ y))) : (firsts rt n).length ≤ (firsts rt' n).length := by
  let g : Nat → Nat := fun f => (firsts rt' n).findIdx fun z => rt' z == rt' (σ f)
  have hg : ∀ f, f < n → ∃ hh : g f < (firsts rt' n).length, rt' (firsts rt' n)[g f] = rt' (σ f) := fun f hf => by
    obtain ⟨q, hq, e⟩ := idx_at rt' (hσ f hf)
    have h1 : g f < (firsts rt' n).length := List.findIdx_lt_length_of_exists ⟨_, List.getElem_mem hq, by simpa using e⟩
    have h2 := List.findIdx_getElem (w := h1)
    exact ⟨h1, by simpa using h2⟩
  have h1 : ((firsts rt n).map g).Nodup := by
    rw [List.nodup_iff_pairwise_ne, List.pairwise_map]
    refine (List.Pairwise.imp_of_mem ?_ (firsts_sorted rt n))
    intro a b ha hb hlt e
    obtain ⟨a1, a2⟩ := firsts_lt rt ha
    obtain ⟨b1, b2⟩ := firsts_lt rt hb
    obtain ⟨p1, p2⟩ := hg a a1
    obtain ⟨r1, r2⟩ := hg b b1
    have e2 : rt' (σ a) = rt' (σ b) := by
      rw [← p2, ← r2]
      simp only [e]
    exact (firstB_iff rt b).1 b2 a hlt ((h a b a1 b1).2 e2)
  have h2 := nodup_len (firsts rt' n).length _ h1 (fun x hx => by
    obtain ⟨f, hf, rfl⟩ := List.mem_map.1 hx
    exact (hg f (firsts_lt rt hf).1).1)
  rw [List.length_map] at h2
  exact h2
theorem gErr_rev (win : Int) (l : List Al) : gErr win l.reverse = gErr win l := by
  unfold gErr allVB
  rw [List.length_reverse, List.all_reverse]
theorem adj_rev {win : Int} {l : List Al} {x y : Nat} (h : adj win l.reverse x y) : adj win l (l.length - 1 - x) (l.length - 1 - y) := by
  have hl := adj_lt h
  rw [List.length_reverse] at hl
  obtain ⟨a, b, h1, h2, h3⟩ := h
  rw [List.getElem?_reverse hl.1] at h1
  rw [List.getElem?_reverse hl.2] at h2
  exact ⟨a, b, h1, h2, h3⟩
theorem conn_rev {win : Int} {l : List Al} {x y : Nat} (h : Conn (adj win l.reverse) x y) : Conn (adj win l) (l.length - 1 - x) (l.length - 1 - y) := by
  induction h with
  | refl => exact .refl _
  | tail _ p ih => exact ih.tail (adj_rev p)
theorem rev_iff {win : Int} {l : List Al} {rt rt' : Nat → Nat} (h : ∀ x y, x < l.length → y < l.length → (rt x = rt y ↔ Conn (adj win l) x y)) (h' : ∀ x y, x < l.reverse.length → y < l.reverse.length → (rt' x = rt' y ↔ Conn (adj win l.reverse) x y)) :
    ∀ x y, x < l.length → y < l.length → (rt x = rt y ↔ rt' (l.length - 1 - x) = rt' (l.length - 1 - y)) := by
  intro x y hx hy
  rw [h x y hx hy, h' _ _ (by rw [List.length_reverse]; omega) (by rw [List.length_reverse]; omega)]
  constructor
  · intro c
    have c1 : Conn (adj win l.reverse.reverse) x y := by rw [List.reverse_reverse]; exact c
    have c2 := conn_rev c1
    rw [List.length_reverse] at c2
    exact c2
  · intro c
    have c2 := conn_rev c
    have e1 : l.length - 1 - (l.length - 1 - x) = x := by omega
    have e2 : l.length - 1 - (l.length - 1 - y) = y := by omega
    rw [e1, e2] at c2
    exact c2
theorem rev_len {win : Int} {l : List Al} {rt rt' : Nat → Nat} (h : ∀ x y, x < l.length → y < l.length → (rt x = rt y ↔ Conn (adj win l) x y)) (h' : ∀ x y, x < l.reverse.length → y < l.reverse.length → (rt' x = rt' y ↔ Conn (adj win l.reverse) x y)) :
    (gK rt l.length).length = (gK rt' l.reverse.length).length := by
  have hr := rev_iff h h'
  rw [gK_len, gK_len, List.length_reverse]
  refine Nat.le_antisymm (firsts_perm_le (fun x => l.length - 1 - x) (fun x hx => by omega) hr) (firsts_perm_le (fun x => l.length - 1 - x) (fun x hx => by omega) fun x y hx hy => ?_)
  have := hr (l.length - 1 - x) (l.length - 1 - y) (by omega) (by omega)
  have e1 : l.length - 1 - (l.length - 1 - x) = x := by omega
  have e2 : l.length - 1 - (l.length - 1 - y) = y := by omega
  rw [e1, e2] at this
  exact this.symm
end Go.Proofs.Ytahlhiiekgnmpab
