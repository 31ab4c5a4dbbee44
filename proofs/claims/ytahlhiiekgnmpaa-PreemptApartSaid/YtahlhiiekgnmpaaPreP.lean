/- The plain laws of preempt: windows, accepted interruptions, worst windows. No program in sight. -/
import Derived.Test.YtahlhiiekgnmpaaPreG
namespace Go.Proofs.Ytahlhiiekgnmpaa

/-! ### Valid lists -/
def srt (l : List IP) : Prop := l.Pairwise fun a b => a.1 ≤ b.1
theorem vldGo_srt : ∀ (l : List IP) (last : Int), vldGo last l = true → srt l ∧ ∀ x ∈ l, last ≤ x.1
  | [], _, _ => ⟨List.Pairwise.nil, by simp⟩
  | y :: l, last, h => by
    have h' : okX last y = true ∧ vldGo y.1 l = true := by simpa [vldGo] using h
    have hy : last ≤ y.1 := by
      have := h'.1
      unfold okX at this
      simp at this
      exact this.2
    obtain ⟨h1, h2⟩ := vldGo_srt l y.1 h'.2
    refine ⟨List.pairwise_cons.2 ⟨h2, h1⟩, fun x hx => ?_⟩
    rcases List.mem_cons.1 hx with rfl | hx
    · exact hy
    · have := h2 x hx; omega
def bd4 (x : IP) : Prop := 0 ≤ x.1 ∧ x.1 ≤ 38399 ∧ 0 ≤ x.2 ∧ x.2 ≤ 1000
theorem vldGo_of : ∀ (l : List IP) (last : Int), srt l → (∀ x ∈ l, last ≤ x.1) → (∀ x ∈ l, bd4 x) → vldGo last l = true
  | [], _, _, _, _ => rfl
  | y :: l, last, hs, hl, hb => by
    obtain ⟨h1, h2⟩ := List.pairwise_cons.1 hs
    have hy := hb y List.mem_cons_self
    unfold bd4 at hy
    show (okX last y && vldGo y.1 l) = true
    rw [vldGo_of l y.1 h2 h1 fun x hx => hb x (List.mem_cons_of_mem _ hx), Bool.and_true]
    unfold okX
    rw [inB_yes.2 ⟨hy.1, hy.2.1⟩, inB_yes.2 ⟨hy.2.2.1, hy.2.2.2⟩, decide_eq_true (hl y List.mem_cons_self)]
    rfl
theorem vldL_iff {l : List IP} : vldL l = true ↔ (∀ x ∈ l, bd4 x) ∧ srt l ∧ l.length ≤ 200 := by
  constructor
  · intro h
    have h' : vldGo 0 l = true ∧ l.length ≤ 200 := by simpa [vldL] using h
    exact ⟨fun x hx => vldGo_bd l 0 h'.1 x hx, (vldGo_srt l 0 h'.1).1, h'.2⟩
  · rintro ⟨h1, h2, h3⟩
    unfold vldL
    rw [vldGo_of l 0 h2 (fun x hx => (h1 x hx).1) h1, decide_eq_true h3]; rfl
theorem vldL_sublist {l l' : List IP} (h : l'.Sublist l) (hl : vldL l = true) : vldL l' = true := by
  obtain ⟨h1, h2, h3⟩ := vldL_iff.1 hl
  exact vldL_iff.2 ⟨fun x hx => h1 x (h.subset hx), h2.sublist h, Nat.le_trans h.length_le h3⟩
theorem bd4_bd {x : IP} (h : bd4 x) : bdIP x := by unfold bd4 at h; unfold bdIP; omega
theorem vldL_bdIP {l : List IP} (h : vldL l = true) : ∀ x ∈ l, bdIP x := fun x hx => bd4_bd ((vldL_iff.1 h).1 x hx)
theorem srt_get {l : List IP} (h : srt l) {i j : Nat} (hij : i ≤ j) (hj : j < l.length) : (l.getD i (0, 0)).1 ≤ (l.getD j (0, 0)).1 := by
  rw [getD_at (show i < l.length by omega), getD_at hj]
  by_cases e : i = j
  · subst e; exact Int.le_refl _
  · exact List.pairwise_iff_getElem.1 h i j (by omega) hj (by omega)

/-! ### Windows -/
theorem dropT_filter (t : Int) : ∀ {l : List IP}, srt l → dropT t l = l.filter fun x => decide (t < x.1)
  | [], _ => rfl
  | y :: l, h => by
    obtain ⟨h1, h2⟩ := List.pairwise_cons.1 h
    unfold dropT
    by_cases hy : y.1 ≤ t
    · rw [if_pos hy, dropT_filter t h2, List.filter_cons_of_neg (by simp; omega)]
    · rw [if_neg hy, List.filter_cons_of_pos (by simp; omega), List.filter_eq_self.2]
      intro x hx
      have := h1 x hx
      simp; omega
theorem costW_filter (win m : Int) : ∀ l : List IP, costW win m l = sumC (l.filter fun x => decide (m - win < x.1 ∧ x.1 ≤ m))
  | [] => rfl
  | y :: l => by
    show (if m - win < y.1 ∧ y.1 ≤ m then y.2 else 0) + costW win m l = _
    rw [costW_filter win m l]
    by_cases h : m - win < y.1 ∧ y.1 ≤ m
    · rw [if_pos h, List.filter_cons_of_pos (by simpa using h), sumC_cons]
    · rw [if_neg h, List.filter_cons_of_neg (by simpa using h), Int.zero_add]
theorem costW_of_le {win m : Int} {l : List IP} (h : ∀ x ∈ l, x.1 ≤ m) : costW win m l = sumC (l.filter fun x => decide (m - win < x.1)) := by
  rw [costW_filter]
  congr 1
  refine List.filter_congr fun x hx => ?_
  have := h x hx
  simp [this]
theorem dropT_cost {win m : Int} {l : List IP} (hs : srt l) (h : ∀ x ∈ l, x.1 ≤ m) : sumC (dropT (m - win) l) = costW win m l := by
  rw [dropT_filter _ hs, costW_of_le h]
/-- A window that holds more costs at least as much. -/
theorem costW_mono {win m win' m' : Int} : ∀ {l : List IP}, (∀ x ∈ l, bdIP x) → (∀ x ∈ l, m - win < x.1 → x.1 ≤ m → m' - win' < x.1 ∧ x.1 ≤ m') → costW win m l ≤ costW win' m' l
  | [], _, _ => Int.le_refl _
  | y :: l, hb, h => by
    have ih := costW_mono (l := l) (fun x hx => hb x (List.mem_cons_of_mem _ hx)) fun x hx => h x (List.mem_cons_of_mem _ hx)
    have hy := hb y List.mem_cons_self
    have h0 := h y List.mem_cons_self
    unfold bdIP at hy
    show (if m - win < y.1 ∧ y.1 ≤ m then y.2 else 0) + costW win m l ≤ (if m' - win' < y.1 ∧ y.1 ≤ m' then y.2 else 0) + costW win' m' l
    by_cases h1 : m - win < y.1 ∧ y.1 ≤ m
    · rw [if_pos h1, if_pos (h0 h1.1 h1.2)]; omega
    · rw [if_neg h1]
      split <;> omega
theorem costW_sublist {win m : Int} {l l' : List IP} (h : l'.Sublist l) (hb : ∀ x ∈ l, bdIP x) : costW win m l' ≤ costW win m l := by
  induction h with
  | slnil => exact Int.le_refl _
  | cons a h ih =>
    have := ih fun x hx => hb x (List.mem_cons_of_mem _ hx)
    have ha := hb a List.mem_cons_self
    unfold bdIP at ha
    show _ ≤ (if m - win < a.1 ∧ a.1 ≤ m then a.2 else 0) + costW win m _
    split <;> omega
  | cons_cons a h ih =>
    have := ih fun x hx => hb x (List.mem_cons_of_mem _ hx)
    show (if m - win < a.1 ∧ a.1 ≤ m then a.2 else 0) + costW win m _ ≤ (if m - win < a.1 ∧ a.1 ≤ m then a.2 else 0) + costW win m _
    omega
theorem costW_sum {win m : Int} : ∀ {l : List IP}, (∀ x ∈ l, bdIP x) → costW win m l ≤ sumC l
  | [], _ => Int.le_refl _
  | y :: l, hb => by
    have ih := costW_sum (win := win) (m := m) (l := l) fun x hx => hb x (List.mem_cons_of_mem _ hx)
    have hy := hb y List.mem_cons_self
    unfold bdIP at hy
    rw [sumC_cons]
    show (if m - win < y.1 ∧ y.1 ≤ m then y.2 else 0) + costW win m l ≤ _
    split <;> omega
theorem costW_one {win m : Int} {l : List IP} (hb : ∀ x ∈ l, bdIP x) {x : IP} (hx : x ∈ l) (h1 : m - win < x.1) (h2 : x.1 ≤ m) : x.2 ≤ costW win m l := by
  have := costW_sublist (win := win) (m := m) (List.singleton_sublist.2 hx) hb
  have e : costW win m [x] = x.2 := by simp [costW, h1, h2]
  omega
theorem costW_none {win m : Int} : ∀ {l : List IP}, (∀ x ∈ l, ¬ (m - win < x.1 ∧ x.1 ≤ m)) → costW win m l = 0
  | [], _ => rfl
  | y :: l, h => by
    show (if m - win < y.1 ∧ y.1 ≤ m then y.2 else 0) + costW win m l = 0
    rw [if_neg (h y List.mem_cons_self), costW_none fun x hx => h x (List.mem_cons_of_mem _ hx)]; rfl

/-! ### Accepted interruptions -/
def tkK (win bud : Int) (l : List IP) : Nat → List IP
  | 0 => []
  | k + 1 => if okQ win bud (qK win bud l k) (l.getD k (0, 0)) then tkK win bud l k ++ [l.getD k (0, 0)] else tkK win bud l k
theorem take_getD {l : List IP} {k : Nat} (h : k < l.length) : l.take (k + 1) = l.take k ++ [l.getD k (0, 0)] := by
  rw [List.take_succ_eq_append_getElem h, getD_at h]
theorem tkK_sub (win bud : Int) (l : List IP) : ∀ k, k ≤ l.length → (tkK win bud l k).Sublist (l.take k)
  | 0, _ => by simp [tkK]
  | k + 1, hk => by
    have ih := tkK_sub win bud l k (by omega)
    rw [take_getD (by omega), tkK]
    split
    · exact ih.append (List.Sublist.refl _)
    · exact ih.trans (List.sublist_append_left _ _)
theorem take_le {l : List IP} (hs : srt l) {k : Nat} (hk : k < l.length) : ∀ x ∈ l.take k, x.1 ≤ (l.getD k (0, 0)).1 := by
  intro x hx
  obtain ⟨i, hi, e⟩ := List.getElem_of_mem hx
  rw [List.length_take] at hi
  have := srt_get hs (show i ≤ k by omega) hk
  rw [getD_at (show i < l.length by omega)] at this
  rw [← e, List.getElem_take]
  exact this
theorem qK_filter {win bud : Int} {l : List IP} (hv : vldL l = true) (hw : 1 ≤ win) (hw2 : win ≤ 38400) : ∀ k, k ≤ l.length →
    ∃ t : Int, (∀ j, k ≤ j → j < l.length → t ≤ (l.getD j (0, 0)).1 - win) ∧ qK win bud l k = (tkK win bud l k).filter fun x => decide (t < x.1)
  | 0, _ => by
    refine ⟨-100000, fun j _ hj => ?_, rfl⟩
    have := ((vldL_iff.1 hv).1 _ (getD_mem hj)).1
    omega
  | k + 1, hk => by
    obtain ⟨t, h1, h2⟩ := qK_filter hv hw hw2 k (by omega)
    obtain ⟨x, hx⟩ : ∃ x, l.getD k (0, 0) = x := ⟨_, rfl⟩
    have hst : srt (tkK win bud l k) := (vldL_iff.1 hv).2.1.sublist ((tkK_sub win bud l k (by omega)).trans (List.take_sublist _ _))
    have ht := h1 k (Nat.le_refl _) (by omega)
    rw [hx] at ht
    have hd : dropT (x.1 - win) (qK win bud l k) = (tkK win bud l k).filter fun y => decide (x.1 - win < y.1) := by
      rw [h2, dropT_filter _ (hst.sublist List.filter_sublist), List.filter_filter]
      refine List.filter_congr fun y _ => ?_
      rw [Bool.eq_iff_iff]
      simp
      omega
    refine ⟨x.1 - win, fun j h3 h4 => ?_, ?_⟩
    · have := srt_get (vldL_iff.1 hv).2.1 (show k ≤ j by omega) h4
      rw [hx] at this
      omega
    · rw [qK, tkK, hx]
      by_cases ho : okQ win bud (qK win bud l k) x = true
      · rw [if_pos ho, List.filter_append, List.filter_cons_of_pos (by simp; omega), List.filter_nil, ← hd]
        unfold stepQ
        rw [if_pos (by simpa [okQ] using ho)]
      · rw [if_neg ho, ← hd]
        unfold stepQ
        rw [if_neg (by simpa [okQ] using ho)]
theorem qK_cost {win bud : Int} {l : List IP} (hv : vldL l = true) (hw : 1 ≤ win) (hw2 : win ≤ 38400) {k : Nat} (hk : k < l.length) :
    sumC (dropT ((l.getD k (0, 0)).1 - win) (qK win bud l k)) = costW win (l.getD k (0, 0)).1 (tkK win bud l k) := by
  obtain ⟨t, h1, h2⟩ := qK_filter (bud := bud) hv hw hw2 k (by omega)
  have hsub := tkK_sub win bud l k (by omega)
  have hst : srt (tkK win bud l k) := (vldL_iff.1 hv).2.1.sublist (hsub.trans (List.take_sublist _ _))
  have ht := h1 k (Nat.le_refl _) hk
  rw [costW_of_le fun x hx => take_le (vldL_iff.1 hv).2.1 hk x (hsub.subset hx)]
  generalize l.getD k (0, 0) = z at *
  rw [h2, dropT_filter _ (hst.sublist List.filter_sublist), List.filter_filter]
  congr 1
  refine List.filter_congr fun y _ => ?_
  rw [Bool.eq_iff_iff]
  simp
  omega
theorem ok_iff {win bud : Int} {l : List IP} (hv : vldL l = true) (hw : 1 ≤ win) (hw2 : win ≤ 38400) {k : Nat} (hk : k < l.length) :
    okQ win bud (qK win bud l k) (l.getD k (0, 0)) = decide (costW win (l.getD k (0, 0)).1 (tkK win bud l k) + (l.getD k (0, 0)).2 ≤ bud) := by
  unfold okQ; rw [qK_cost hv hw hw2 hk]

/-- No window costs more than the budget. -/
theorem tkK_bounded {win bud : Int} {l : List IP} (hv : vldL l = true) (hw : 1 ≤ win) (hw2 : win ≤ 38400) (hb : 0 ≤ bud) (m : Int) : ∀ k, k ≤ l.length → costW win m (tkK win bud l k) ≤ bud
  | 0, _ => hb
  | k + 1, hk => by
    have ih := tkK_bounded hv hw hw2 hb m k (by omega)
    have hsub := tkK_sub win bud l k (by omega)
    rw [tkK]
    split
    · rename_i ho
      rw [ok_iff hv hw hw2 (by omega)] at ho
      have ho' : costW win (l.getD k (0, 0)).1 (tkK win bud l k) + (l.getD k (0, 0)).2 ≤ bud := by simpa using ho
      rw [costW_append]
      by_cases h : m - win < (l.getD k (0, 0)).1 ∧ (l.getD k (0, 0)).1 ≤ m
      · have e : costW win m [l.getD k (0, 0)] = (l.getD k (0, 0)).2 := by
          show (if _ then _ else _) + costW win m [] = _
          rw [if_pos h]
          exact Int.add_zero _
        have := costW_mono (win := win) (m := m) (win' := win) (m' := (l.getD k (0, 0)).1) (l := tkK win bud l k) (fun x hx => vldL_bdIP hv x ((hsub.trans (List.take_sublist _ _)).subset hx))
          fun x hx h3 h4 => ⟨by omega, take_le (vldL_iff.1 hv).2.1 (by omega) x (hsub.subset hx)⟩
        omega
      · have e : costW win m [l.getD k (0, 0)] = 0 := by
          show (if _ then _ else _) + costW win m [] = _
          rw [if_neg h]
          rfl
        omega
    · exact ih

/-! ### The worst window -/
theorem wqK_filter {win : Int} {l : List IP} (hv : vldL l = true) (hw : 1 ≤ win) (hw2 : win ≤ 38400) : ∀ k, k ≤ l.length →
    ∃ t : Int, (∀ j, k ≤ j → j < l.length → t ≤ (l.getD j (0, 0)).1 - win) ∧ wqK win l k = (l.take k).filter fun x => decide (t < x.1)
  | 0, _ => by
    refine ⟨-100000, fun j _ hj => ?_, rfl⟩
    have := ((vldL_iff.1 hv).1 _ (getD_mem hj)).1
    omega
  | k + 1, hk => by
    obtain ⟨t, h1, h2⟩ := wqK_filter hv hw hw2 k (by omega)
    obtain ⟨x, hx⟩ : ∃ x, l.getD k (0, 0) = x := ⟨_, rfl⟩
    have ht := h1 k (Nat.le_refl _) (by omega)
    rw [hx] at ht
    have hst : srt (l.take (k + 1)) := (vldL_iff.1 hv).2.1.sublist (List.take_sublist _ _)
    refine ⟨x.1 - win, fun j h3 h4 => ?_, ?_⟩
    · have := srt_get (vldL_iff.1 hv).2.1 (show k ≤ j by omega) h4
      rw [hx] at this
      omega
    · have e : wqK win l k ++ [x] = (l.take (k + 1)).filter fun y => decide (t < y.1) := by
        rw [take_getD (by omega), hx, List.filter_append, ← h2, List.filter_cons_of_pos (by simp; omega), List.filter_nil]
      rw [wqK, hx, e, dropT_filter _ (hst.sublist List.filter_sublist), List.filter_filter]
      refine List.filter_congr fun y _ => ?_
      rw [Bool.eq_iff_iff]
      simp
      omega
theorem wqK_cost {win : Int} {l : List IP} (hv : vldL l = true) (hw : 1 ≤ win) (hw2 : win ≤ 38400) {k : Nat} (hk : k < l.length) :
    sumC (wqK win l (k + 1)) = costW win (l.getD k (0, 0)).1 (l.take (k + 1)) := by
  obtain ⟨t, h1, h2⟩ := wqK_filter hv hw hw2 k (by omega)
  have ht := h1 k (Nat.le_refl _) hk
  have hst : srt (l.take (k + 1)) := (vldL_iff.1 hv).2.1.sublist (List.take_sublist _ _)
  have htk := take_getD hk
  have hle : ∀ x ∈ l.take (k + 1), x.1 ≤ (l.getD k (0, 0)).1 := by
    intro x hx
    rw [htk] at hx
    rcases List.mem_append.1 hx with h | h
    · exact take_le (vldL_iff.1 hv).2.1 hk x h
    · rw [show x = l.getD k (0, 0) by simpa using h]; exact Int.le_refl _
  rw [wqK]
  generalize l.getD k (0, 0) = z at *
  have e : wqK win l k ++ [z] = (l.take (k + 1)).filter fun y => decide (t < y.1) := by
    rw [htk, List.filter_append, ← h2, List.filter_cons_of_pos (by simp; omega), List.filter_nil]
  rw [costW_of_le hle, e, dropT_filter _ (hst.sublist List.filter_sublist), List.filter_filter]
  congr 1
  refine List.filter_congr fun y _ => ?_
  rw [Bool.eq_iff_iff]
  simp
  omega
/-- The greatest of the costs of the windows that end at the first k. -/
def maxK (win : Int) (l : List IP) : Nat → Int
  | 0 => 0
  | k + 1 => imx (maxK win l k) (costW win (l.getD k (0, 0)).1 l)
theorem maxK_ge (win : Int) (l : List IP) : ∀ k j, j < k → costW win (l.getD j (0, 0)).1 l ≤ maxK win l k
  | k + 1, j, h => by
    show _ ≤ imx _ _
    unfold imx
    by_cases e : j = k
    · subst e; omega
    · have := maxK_ge win l k j (by omega)
      omega
theorem maxK_nonneg (win : Int) (l : List IP) : ∀ k, 0 ≤ maxK win l k
  | 0 => Int.le_refl _
  | k + 1 => by
    have := maxK_nonneg win l k
    show _ ≤ imx _ _
    unfold imx
    omega
theorem maxK_le {win b : Int} {l : List IP} (hb : 0 ≤ b) : ∀ k, (∀ j, j < k → costW win (l.getD j (0, 0)).1 l ≤ b) → maxK win l k ≤ b
  | 0, _ => hb
  | k + 1, h => by
    have h1 := maxK_le (win := win) (l := l) hb k fun j hj => h j (by omega)
    have h2 := h k (by omega)
    show imx _ _ ≤ b
    unfold imx
    omega
theorem wK_le {win b : Int} {l : List IP} (hb : 0 ≤ b) : ∀ k, (∀ j, j < k → sumC (wqK win l (j + 1)) ≤ b) → wK win l k ≤ b
  | 0, _ => hb
  | k + 1, h => by
    have h1 := wK_le (win := win) (l := l) hb k fun j hj => h j (by omega)
    have h2 := h k (by omega)
    show imx _ _ ≤ b
    unfold imx
    omega
theorem wK_ge (win : Int) (l : List IP) : ∀ k j, j < k → sumC (wqK win l (j + 1)) ≤ wK win l k
  | k + 1, j, h => by
    show _ ≤ imx _ _
    unfold imx
    by_cases e : j = k
    · subst e; omega
    · have := wK_ge win l k j (by omega)
      omega
theorem wK_nonneg (win : Int) (l : List IP) : ∀ k, 0 ≤ wK win l k
  | 0 => Int.le_refl _
  | k + 1 => by
    have := wK_nonneg win l k
    show _ ≤ imx _ _
    unfold imx
    omega
/-- The last interruption up to a moment. -/
theorem last_upto (l : List IP) (m : Int) : ∀ n, n ≤ l.length → (∀ j, j < n → ¬ (l.getD j (0, 0)).1 ≤ m) ∨ ∃ i, i < n ∧ (l.getD i (0, 0)).1 ≤ m ∧ ∀ j, i < j → j < n → ¬ (l.getD j (0, 0)).1 ≤ m
  | 0, _ => .inl (by omega)
  | n + 1, h => by
    by_cases hm : (l.getD n (0, 0)).1 ≤ m
    · exact .inr ⟨n, by omega, hm, fun j h1 h2 => by omega⟩
    · rcases last_upto l m n (by omega) with h1 | ⟨i, h1, h2, h3⟩
      · refine .inl fun j hj => ?_
        by_cases e : j = n
        · subst e; exact hm
        · exact h1 j (by omega)
      · refine .inr ⟨i, by omega, h2, fun j h4 h5 => ?_⟩
        by_cases e : j = n
        · subst e; exact hm
        · exact h3 j h4 (by omega)
/-- The window that ends at any moment costs at most as much as the worst one of those that end at an interruption. -/
theorem cost_any {win m : Int} {l : List IP} (hv : vldL l = true) : costW win m l = 0 ∨ ∃ i, i < l.length ∧ costW win m l ≤ costW win (l.getD i (0, 0)).1 (l.take (i + 1)) := by
  have hin : ∀ x ∈ l, ∃ j, j < l.length ∧ l.getD j (0, 0) = x := fun x hx => by
    obtain ⟨j, hj, e⟩ := List.getElem_of_mem hx
    exact ⟨j, hj, by rw [getD_at hj]; exact e⟩
  rcases last_upto l m l.length (Nat.le_refl _) with h | ⟨i, h1, h2, h3⟩
  · refine .inl (costW_none fun x hx h' => ?_)
    obtain ⟨j, hj, e⟩ := hin x hx
    exact h j hj (by rw [e]; exact h'.2)
  · refine .inr ⟨i, h1, ?_⟩
    have e : costW win m l = costW win m (l.take (i + 1)) := by
      have e1 : l = l.take (i + 1) ++ l.drop (i + 1) := (List.take_append_drop _ _).symm
      rw [show costW win m l = costW win m (l.take (i + 1) ++ l.drop (i + 1)) by rw [← e1], costW_append, costW_none (l := l.drop (i + 1)), Int.add_zero]
      intro x hx h'
      obtain ⟨j, hj, e2⟩ := List.getElem_of_mem hx
      rw [List.length_drop] at hj
      rw [List.getElem_drop] at e2
      refine h3 (i + 1 + j) (by omega) (by omega) ?_
      rw [getD_at (by omega), e2]
      exact h'.2
    rw [e]
    refine costW_mono (fun x hx => vldL_bdIP hv x (List.mem_of_mem_take hx)) fun x hx h4 h5 => ⟨by omega, ?_⟩
    rw [take_getD h1] at hx
    rcases List.mem_append.1 hx with h | h
    · exact take_le (vldL_iff.1 hv).2.1 h1 x h
    · rw [show x = l.getD i (0, 0) by simpa using h]; exact Int.le_refl _
theorem wK_max {win : Int} {l : List IP} (hv : vldL l = true) (hw : 1 ≤ win) (hw2 : win ≤ 38400) : wK win l l.length = maxK win l l.length := by
  refine Int.le_antisymm (wK_le (maxK_nonneg _ _ _) _ fun j hj => ?_) (maxK_le (wK_nonneg _ _ _) _ fun j hj => ?_)
  · rw [wqK_cost hv hw hw2 hj]
    exact Int.le_trans (costW_sublist (List.take_sublist _ _) (vldL_bdIP hv)) (maxK_ge win l _ j hj)
  · rcases cost_any (win := win) (m := (l.getD j (0, 0)).1) hv with h | ⟨i, h1, h2⟩
    · rw [h]; exact wK_nonneg _ _ _
    · refine Int.le_trans h2 ?_
      rw [← wqK_cost hv hw hw2 h1]
      exact wK_ge win l _ i h1
theorem worst_ge {win m : Int} {l : List IP} (hv : vldL l = true) (hw : 1 ≤ win) (hw2 : win ≤ 38400) : costW win m l ≤ wK win l l.length := by
  rcases cost_any (win := win) (m := m) hv with h | ⟨i, h1, h2⟩
  · rw [h]; exact wK_nonneg _ _ _
  · refine Int.le_trans h2 ?_
    rw [← wqK_cost hv hw hw2 h1]
    exact wK_ge win l _ i h1
theorem worst_le {win b : Int} {l : List IP} (hv : vldL l = true) (hw : 1 ≤ win) (hw2 : win ≤ 38400) (hb : 0 ≤ b) (h : ∀ m, costW win m l ≤ b) : wK win l l.length ≤ b := by
  rw [wK_max hv hw hw2]
  exact maxK_le hb _ fun j _ => h _
theorem worst_found {win : Int} {l : List IP} (hv : vldL l = true) (hw : 1 ≤ win) (hw2 : win ≤ 38400) (hpos : 0 < l.length) : ∃ i, i < l.length ∧ costW win (l.getD i (0, 0)).1 l = wK win l l.length := by
  rw [wK_max hv hw hw2]
  have key : ∀ k, k ≤ l.length → maxK win l k = 0 ∨ ∃ i, i < k ∧ costW win (l.getD i (0, 0)).1 l = maxK win l k := by
    intro k
    induction k with
    | zero => intro _; exact .inl rfl
    | succ k ih =>
      intro hk
      show imx _ _ = 0 ∨ ∃ i, i < k + 1 ∧ _ = imx _ _
      unfold imx
      by_cases h : maxK win l k ≤ costW win (l.getD k (0, 0)).1 l
      · exact .inr ⟨k, by omega, by omega⟩
      · rcases ih (by omega) with h1 | ⟨i, h1, h2⟩
        · left
          have := (costW_bd win (l.getD k (0, 0)).1 l (vldL_bdIP hv)).1
          omega
        · exact .inr ⟨i, by omega, by omega⟩
  rcases key l.length (Nat.le_refl _) with h | h
  · refine ⟨0, hpos, ?_⟩
    have h1 := maxK_ge win l l.length 0 hpos
    have h2 := (costW_bd win (l.getD 0 (0, 0)).1 l (vldL_bdIP hv)).1
    omega
  · exact h
end Go.Proofs.Ytahlhiiekgnmpaa
