/- lottery: Tickets at any lists; Winner. -/
import Derived.Test.YtcgplokdklomlaaGreatDoorLoG
set_option linter.unusedVariables false
set_option linter.unusedSimpArgs false
namespace Go.Proofs.YtcgplokdklomlaaGreatDoor
open Go.RowKit Go.Maps Go.ChangeShapes

def toN (l : List Int) : List Nat := l.map Int.toNat
theorem toN_len (l : List Int) : (toN l).length = l.length := by unfold toN; rw [List.length_map]
theorem toI_toN {l : List Int} (h : ∀ x ∈ l, 0 ≤ x) : toI (toN l) = l := by
  unfold toI toN
  rw [List.map_map]
  conv => rhs; rw [← List.map_id l]
  refine List.map_congr_left fun x hx => ?_
  have := h x hx
  simp only [Function.comp, id]
  omega
/-- The tickets; none where the lists are not valid. -/
def tkL (shares owners merits : List Int) : List Int := if vldL shares owners merits then toI (outL (toN shares) (toN owners) (toN merits)) else []
def tkE (shares owners merits : List Int) : Int := if vldL shares owners merits then 0 else 1
theorem vld_ok {shares owners merits : List Int} (h : vldL shares owners merits = true) : TkOk (toN shares) (toN owners) (toN merits) ∧ toI (toN shares) = shares ∧ toI (toN owners) = owners ∧ toI (toN merits) = merits := by
  unfold vldL at h
  simp only [Bool.and_eq_true, decide_eq_true_eq] at h
  obtain ⟨h1, h2, h3, h4, h5, h6⟩ := h
  rw [inB_iff] at h1 h4 h5 h6
  have h1 := h1 (shares.length : Int) (by simp)
  have e1 : toI (toN shares) = shares := toI_toN fun x hx => by have := h4 x hx; omega
  have e2 : toI (toN owners) = owners := toI_toN fun x hx => by have := h5 x hx; omega
  have e3 : toI (toN merits) = merits := toI_toN fun x hx => by have := h6 x hx; omega
  refine ⟨⟨by rw [toN_len]; omega, by rw [toN_len]; omega, fun x hx => ?_, by rw [toN_len]; exact h2, fun x hx => ?_, by rw [toN_len, toN_len, h3], fun x hx => ?_⟩, e1, e2, e3⟩
  · obtain ⟨y, hy, rfl⟩ := List.mem_map.1 hx
    have := h4 y hy; omega
  · obtain ⟨y, hy, rfl⟩ := List.mem_map.1 hx
    have := h5 y hy; rw [toN_len]; omega
  · obtain ⟨y, hy, rfl⟩ := List.mem_map.1 hx
    have := h6 y hy; omega
def TkP (w : World) (l : List Int) (er : Int) (e : Ending) (w' : World) : Prop := ∃ u, e = .returned (.tuple #[u, .int .i64 er]) ∧ SliceOf vI 1 w' u l ∧ Below w.heap.size w w'
theorem slice_nil0 {α : Type} (f : α → List Value) (size : Nat) (w : World) : SliceOf f size w (.slice none 0 0) [] := .inl ⟨none, rfl, rfl⟩
set_option maxHeartbeats 2000000 in
set_option maxRecDepth 100000 in
theorem lo_tk (shares owners merits : List Int) (v1 v2 v3 : Value) (w : World) (h1 : SliceOf vI 1 w v1 shares) (h2 : SliceOf vI 1 w v2 owners) (h3 : SliceOf vI 1 w v3 merits)
    (n1 : shares.length ≤ 1000) (n2 : owners.length ≤ 1000) (n3 : merits.length ≤ 1000) :
    Calls Tryz.prog 12 #[v1, v2, v3] w (TkP w (tkL shares owners merits) (tkE shares owners merits)) := by
  rcases Bool.eq_false_or_eq_true (vldL shares owners merits) with hv | hv
  · unfold tkL tkE
    rw [if_pos hv, if_pos hv]
    obtain ⟨hk, e1, e2, e3⟩ := vld_ok hv
    by_cases h0 : owners = []
    · subst h0
      have HVA := hide (lo_valid shares [] merits v1 v2 v3 w true hv h1 h2 h3 n1 n2 n3)
      obtain ⟨a2, c2, rfl⟩ := h2.shape
      have HE : Hid (toI (outL (toN shares) (toN []) (toN merits)) = []) := rfl
      clear hv hk e1 e2 e3 h1 h2 h3
      go_enter Tryz.func12, Tryz.ntmps12
      go_wp2_with fail
      refine HVA.out.mono ?_
      rintro e w1 ⟨rfl, hb⟩
      have HB := hide hb
      clear hb
      go_wp2_with fail
      go_ret2
      exact ⟨_, rfl, by rw [HE.out]; exact slice_nil0 _ _ _, HB.out⟩
    · have hn : 0 < (toN owners).length := by rw [toN_len]; exact List.length_pos_iff.2 h0
      refine (lo_tickets (toN shares) (toN owners) (toN merits) v1 v2 v3 w hk hn (by rw [e1]; exact h1) (by rw [e2]; exact h2) (by rw [e3]; exact h3)).mono ?_
      rintro e w' ⟨u, rfl, hs, hb⟩
      exact ⟨u, rfl, hs, hb⟩
  · have HVA := hide (lo_valid shares owners merits v1 v2 v3 w false hv h1 h2 h3 n1 n2 n3)
    have HE1 : Hid (tkL shares owners merits = []) := by show _ = _; unfold tkL; rw [hv]; rfl
    have HE2 : Hid (tkE shares owners merits = 1) := by show _ = _; unfold tkE; rw [hv]; rfl
    rw [HE1.out, HE2.out]
    clear hv h1 h2 h3
    go_enter Tryz.func12, Tryz.ntmps12
    go_wp2_with fail
    refine HVA.out.mono ?_
    rintro e w1 ⟨rfl, hb⟩
    have HB := hide hb
    clear hb
    go_wp2_with fail
    go_ret2
    exact ⟨_, rfl, slice_nil0 _ _ _, HB.out⟩
set_option maxRecDepth 100000 in
theorem lo_reached (n s d : Int) (bs bd : Nat) (b : Bool) (w : World) (hne : bs ≠ bd) (c1 : w.cell? ⟨bs, 0, none⟩ = some (.int .i64 s)) (z1 : w.frozen? ⟨bs, 0, none⟩ = false) (c2 : w.cell? ⟨bd, 0, none⟩ = some (.int .i64 d)) (hb : decide (d < s + n) = b) (h1 : -1000000 ≤ s + n) (h2 : s + n ≤ 1000000) :
    Calls Tryz.prog 32 #[.int .i64 n, .pointer (some ⟨bs, 0, none⟩), .pointer (some ⟨bd, 0, none⟩)] w fun e w' => e = .returned (.bool b) ∧ w' = w.setCell ⟨bs, 0, none⟩ (.int .i64 (s + n)) := by
  have q0 : IntKind.i64.wrap (s + n) = s + n := IntWalk.i64_in _ (by omega)
  have c3 : (w.setCell ⟨bs, 0, none⟩ (.int .i64 (s + n))).cell? ⟨bs, 0, none⟩ = some (.int .i64 (s + n)) := World.cell?_setCell_same _ _ _ c1
  have c4 : (w.setCell ⟨bs, 0, none⟩ (.int .i64 (s + n))).cell? ⟨bd, 0, none⟩ = some (.int .i64 d) := by rw [World.cell?_setCell_other _ _ _ _ (by intro e; injection e; omega)]; exact c2
  obtain ⟨x, hx⟩ : ∃ x, s + n = x := ⟨_, rfl⟩
  rw [hx] at q0 c3 c4 hb ⊢
  have HX := hide hx
  clear h1 h2
  go_enter Tryz.func32, Tryz.ntmps32
  go_wp2_with fail
  go_ret
  exact ⟨by first | rfl | exact ret_bool hb, rfl⟩
def WinP (w : World) (l : List Int) (d : Int) (e : Ending) (w' : World) : Prop := ∃ i : Nat, e = .returned (.int .i64 (i : Int)) ∧ (i < l.length ∧ psum l i ≤ d ∧ d < psum l (i + 1)) ∧ Below w.heap.size w w'
theorem psum_succ {l : List Int} {k : Nat} (h : k < l.length) : psum l (k + 1) = psum l k + l[k] := by show psum l k + _ = _; rw [getD_at h]
set_option maxHeartbeats 4000000 in
set_option maxRecDepth 100000 in
theorem lo_index (l : List Int) (d : Int) (v : Value) (bs bd : Nat) (w0 w : World) (hv : SliceOf vI 1 w0 v l) (hb0 : Below w0.heap.size w0 w) (hbs : w0.heap.size ≤ bs) (hne : bs ≠ bd) (hl : l.length ≤ 1000)
    (hel : ∀ x ∈ l, 0 ≤ x ∧ x ≤ 720) (hd0 : 0 ≤ d) (hsum : d < psum l l.length) (c1 : w.cell? ⟨bs, 0, none⟩ = some (.int .i64 0)) (z1 : w.frozen? ⟨bs, 0, none⟩ = false) (c2 : w.cell? ⟨bd, 0, none⟩ = some (.int .i64 d)) :
    Calls Tryz.prog 33 #[v, .func (.func 32) #[] #[.pointer (some ⟨bs, 0, none⟩), .pointer (some ⟨bd, 0, none⟩)]] w (WinP w0 l d) := by
  have HS := hide hv
  obtain ⟨ao, cp, rfl⟩ := hv.shape
  have HB0 := hide hb0
  have HEL : Hid (∀ k (hk : k < l.length), 0 ≤ l[k] ∧ l[k] ≤ 720) := fun k hk => hel _ (List.getElem_mem hk)
  have HPS : Hid (∀ k, k ≤ l.length → 0 ≤ psum l k ∧ psum l k ≤ 720 * 1000) := fun k hk => by
    have := psum_bd hel k hk
    have h2 : (k : Int) * 720 ≤ 1000 * 720 := Int.mul_le_mul_of_nonneg_right (by omega) (by omega)
    omega
  have HSU := hide hsum
  have HNE := hide hne
  have HBS := hide hbs
  have HC1 : Hid (w.cell? ⟨bs, 0, none⟩ = some (.int .i64 (psum l 0))) := c1
  have HZ1 := hide z1
  have HC2 := hide c2
  have HD0 : Hid (psum l 0 ≤ d) := hd0
  clear hv hb0 hel hsum hne hbs c1 z1 c2
  go_enter Tryz.func33, Tryz.ntmps33
  go_wp2_with fail
  go_loopw [8] (fun i wx => ∃ k : Nat, k ≤ l.length ∧ i = .int .i64 (k : Int) ∧ wx.cell? ⟨bs, 0, none⟩ = some (.int .i64 (psum l k)) ∧ wx.frozen? ⟨bs, 0, none⟩ = false ∧ wx.cell? ⟨bd, 0, none⟩ = some (.int .i64 d) ∧ psum l k ≤ d ∧ Below w0.heap.size w0 wx) (fun i _ => l.length - (intOf i).toNat)
  case atStart => exact ⟨0, Nat.zero_le _, rfl, HC1.out, HZ1.out, HC2.out, HD0.out, HB0.out⟩
  case round =>
    obtain ⟨k, hk, rfl, c1, z1, c2, hle, hbl⟩ := hrel
    have HC1 := hide c1
    have HZ1 := hide z1
    have HC2 := hide c2
    have HLE := hide hle
    have HB := hide hbl
    clear c1 z1 c2 hle hbl
    by_cases hlt : k < l.length
    · have hki : (k : Int) < (l.length : Int) := by omega
      have hk0 : (0 : Int) ≤ (k : Int) := by omega
      obtain ⟨b', off, rfl, _, hcap, hcm, hc⟩ := SliceOf.at_ (HS.out.below HB.out) (by omega)
      have hcpI : (l.length : Int) ≤ (cp : Int) := by omega
      have hcmI : (cp : Int) ≤ 9223372036854775807 := by unfold maxLen at hcm; omega
      have c0 := int_cell hc hlt
      have hel := HEL.out k hlt
      have hps := HPS.out k hk
      have HP1 := hide (psum_succ hlt)
      obtain ⟨r, hr⟩ : ∃ r, decide (d < psum l k + l[k]) = r := ⟨_, rfl⟩
      have HCA := hide (lo_reached l[k] (psum l k) d bs bd r wr HNE.out HC1.out HZ1.out HC2.out hr (by omega) (by omega))
      have HN1 : Hid ((wr.setCell ⟨bs, 0, none⟩ (.int .i64 (psum l k + l[k]))).cell? ⟨bs, 0, none⟩ = some (.int .i64 (psum l k + l[k]))) := World.cell?_setCell_same _ _ _ HC1.out
      have HN2 : Hid ((wr.setCell ⟨bs, 0, none⟩ (.int .i64 (psum l k + l[k]))).frozen? ⟨bs, 0, none⟩ = false) := by
        show _ = _
        rw [World.frozen?_setCell]; exact HZ1.out
      have HN3 : Hid ((wr.setCell ⟨bs, 0, none⟩ (.int .i64 (psum l k + l[k]))).cell? ⟨bd, 0, none⟩ = some (.int .i64 d)) := by
        show _ = _
        rw [World.cell?_setCell_other _ _ _ _ (by intro e; injection e; have := HNE.out; omega)]; exact HC2.out
      have HN4 := hide (HB.out.setCell (p := ⟨bs, 0, none⟩) HBS.out (.int .i64 (psum l k + l[k])))
      have HR := hide hr
      obtain ⟨x, hx⟩ : ∃ x, l[k] = x := ⟨_, rfl⟩
      rw [hx] at c0 HCA HN1 HN2 HN3 HN4 HR HP1
      clear hx hr hc hcap hcm hel hps
      rw [← HP1.out] at HN1 HN2 HN3 HN4 HR HCA
      obtain ⟨wn, hwn⟩ : ∃ W, wr.setCell ⟨bs, 0, none⟩ (.int .i64 (psum l (k + 1))) = W := ⟨_, rfl⟩
      rw [hwn] at HN1 HN2 HN3 HN4 HCA
      clear hwn HP1
      go_wp2_with fail
      refine HCA.out.mono ?_
      rintro e w5 ⟨rfl, rfl⟩
      cases r with
      | true =>
        have HT : Hid (d < psum l (k + 1)) := by
          show d < _
          exact of_decide_eq_true HR.out
        go_wp2_with fail
        go_ret
        exact ⟨k, rfl, ⟨hlt, HLE.out, HT.out⟩, HN4.out⟩
      | false =>
        have HT : Hid (psum l (k + 1) ≤ d) := by
          show _ ≤ _
          have := of_decide_eq_false HR.out
          omega
        go_wp2_with fail
        go_roundw
        case rel => exact ⟨k + 1, by omega, by go_num, HN1.out, HN2.out, HN3.out, HT.out, HN4.out⟩
        case measure => (simp [intOf]; omega)
    · have hk' : k = l.length := by omega
      subst hk'
      have h1 := HLE.out
      have h2 := HSU.out
      omega
def WiP (w : World) (l : List Int) (d : Int) (e : Ending) (w' : World) : Prop := ∃ i : Nat, e = .returned (.tuple #[.int .i64 (i : Int), .int .i64 0]) ∧ (i < l.length ∧ psum l i ≤ d ∧ d < psum l (i + 1)) ∧ Below w.heap.size w w'
theorem lst_iff {l : List Int} (h : lstB l = true) : (1 ≤ l.length ∧ l.length ≤ 200) ∧ (∀ x ∈ l, 0 ≤ x ∧ x ≤ 720) ∧ psum l l.length = 720 := by
  unfold lstB at h
  simp only [Bool.and_eq_true, decide_eq_true_eq] at h
  obtain ⟨h1, h2, h3⟩ := h
  have h1 := inB_iff.1 h1 (l.length : Int) (by simp)
  exact ⟨by omega, inB_iff.1 h2, h3⟩
set_option maxHeartbeats 4000000 in
set_option maxRecDepth 100000 in
theorem lo_winner (l : List Int) (d : Int) (v : Value) (w : World) (hl : lstB l = true) (hv : SliceOf vI 1 w v l) (hd0 : 0 ≤ d) (hd1 : d ≤ 719) :
    Calls Tryz.prog 14 #[v, .int .i64 d] w (WiP w l d) := by
  obtain ⟨⟨n1, n2⟩, he, hs⟩ := lst_iff hl
  have HB0 := hide (bAlloc (Below.refl w.heap.size w) (.cells #[.int .i64 d] 3))
  have HLI := hide (lo_list l v (w.alloc (.cells #[.int .i64 d] 3)) true hl (hv.below HB0.out) (by omega))
  have HWI := hide (fun W (hb : Below w.heap.size w W) => lo_within 0 719 [d] _ (W.alloc (.cells #[.int .i64 d] 3)) true (inB_iff.2 (fun x hx => by simp at hx; omega)) (int_lit W d 3 rfl) (by simp))
  have HIX := hide (fun bs W hb h1 h2 c1 z1 c2 => lo_index l d v bs w.heap.size w W hv hb h1 h2 (by omega) he hd0 (by omega) c1 z1 c2)
  have HC0 : Hid ((w.alloc (.cells #[.int .i64 d] 3)).cell? ⟨w.heap.size, 0, none⟩ = some (.int .i64 d)) := by show _ = _; simp [go_sem]
  obtain ⟨ao, cp, rfl⟩ := hv.shape
  clear hl hv he hs n1 n2 hd0 hd1
  go_enter Tryz.func14, Tryz.ntmps14
  go_wp2_with fail
  refine HLI.out.mono ?_
  rintro e w1 ⟨rfl, hb⟩
  have HB1 := hide (bStepL HB0.out hb)
  have c0 := keep_cell hb HC0.out
  clear hb
  go_wp2_with fail
  refine (HWI.out _ HB1.out).mono ?_
  rintro e w2 ⟨rfl, hb⟩
  have HB2 := hide (bStepL (bAlloc HB1.out _) hb)
  have c0' := keep_cell hb (keep_cell (bAlloc (Below.refl _ _) _) c0)
  have c1 := keep_cell (bAlloc (Below.refl _ w2) (.cells #[.int .i64 0] 3)) c0'
  have HLT := hide (World.block_lt_of_cell? w2 _ c0')
  have HC1 := hide c1
  clear hb c0 c0' c1
  have HB3 := hide (bAlloc HB2.out (.cells #[.int .i64 0] 3))
  go_wp2_with fail
  refine (HIX.out w2.heap.size (w2.alloc (.cells #[.int .i64 0] 3)) HB3.out HB2.out.size (by have := HLT.out; have h9 : w.heap.size < w2.heap.size := this; omega) (by simp [go_sem]) (by simp [go_sem]) HC1.out).mono ?_
  rintro e w3 ⟨i, rfl, hi, hb⟩
  have HI := hide hi
  have HB4 := hide hb
  clear hi hb
  go_wp2_with fail
  go_ret2
  exact ⟨i, rfl, HI.out, HB4.out⟩
set_option maxHeartbeats 4000000 in
set_option maxRecDepth 100000 in
theorem lo_winner_bad (l : List Int) (d : Int) (v : Value) (w : World) (hl : lstB l = false ∨ (lstB l = true ∧ (d < 0 ∨ 719 < d))) (hn : l.length ≤ 1000) (hv : SliceOf vI 1 w v l) :
    Calls Tryz.prog 14 #[v, .int .i64 d] w fun e w' => e = .returned (.tuple #[.int .i64 0, .int .i64 1]) ∧ Below w.heap.size w w' := by
  have HB0 := hide (bAlloc (Below.refl w.heap.size w) (.cells #[.int .i64 d] 3))
  have HC0 : Hid ((w.alloc (.cells #[.int .i64 d] 3)).cell? ⟨w.heap.size, 0, none⟩ = some (.int .i64 d)) := by show _ = _; simp [go_sem]
  rcases hl with hl | ⟨hl, hd⟩
  · have HLI := hide (lo_list l v (w.alloc (.cells #[.int .i64 d] 3)) false hl (hv.below HB0.out) hn)
    obtain ⟨ao, cp, rfl⟩ := hv.shape
    clear hl hv
    go_enter Tryz.func14, Tryz.ntmps14
    go_wp2_with fail
    refine HLI.out.mono ?_
    rintro e w1 ⟨rfl, hb⟩
    have HB1 := hide (bStepL HB0.out hb)
    clear hb
    go_wp2_with fail
    go_ret2
    exact ⟨rfl, HB1.out⟩
  · have HLI := hide (lo_list l v (w.alloc (.cells #[.int .i64 d] 3)) true hl (hv.below HB0.out) hn)
    have HWI := hide (fun W (hb : Below w.heap.size w W) => lo_within 0 719 [d] _ (W.alloc (.cells #[.int .i64 d] 3)) false (by
      rw [← Bool.not_eq_true, inB_iff]
      intro h
      have := h d (by simp)
      omega) (int_lit W d 3 rfl) (by simp))
    obtain ⟨ao, cp, rfl⟩ := hv.shape
    clear hl hv hd
    go_enter Tryz.func14, Tryz.ntmps14
    go_wp2_with fail
    refine HLI.out.mono ?_
    rintro e w1 ⟨rfl, hb⟩
    have HB1 := hide (bStepL HB0.out hb)
    have c0 := keep_cell hb HC0.out
    clear hb
    go_wp2_with fail
    refine (HWI.out _ HB1.out).mono ?_
    rintro e w2 ⟨rfl, hb⟩
    have HB2 := hide (bStepL (bAlloc HB1.out _) hb)
    clear hb c0
    go_wp2_with fail
    go_ret2
    exact ⟨rfl, HB2.out⟩
end Go.Proofs.YtcgplokdklomlaaGreatDoor
