/- Run, Worst, Allow of package preempt. -/
import Derived.Test.YtahlhiiekgnmpaaPreC
import Derived.Laws.EntriesVeiled
namespace Go.Proofs.Ytahlhiiekgnmpaa
open Go.RowKit

def runB (win bud : Int) (l : List IP) : Bool := vldL l && limB win bud
def runV (win bud : Int) (l : List IP) : List Bool := if runB win bud l then outK win bud l l.length else []
theorem limB_bd {win bud : Int} (h : limB win bud = true) : 1 ≤ win ∧ win ≤ 38400 ∧ 0 ≤ bud ∧ bud ≤ 1000000 := by
  have h' : (1 ≤ win ∧ win ≤ 38400) ∧ inB bud 1000000 = true := by simpa [limB] using h
  have := inB_yes.1 h'.2
  exact ⟨h'.1.1, h'.1.2, this.1, this.2⟩

theorem Try.info4 : (Try.prog.info? 4).map (fun i => (i.zero, i.size, i.bytes)) = some (some (.bool false), 1, 1) := by kernel_rfl

/-- The state of the loop of Run. -/
def RunSt (w wr : World) (R B S D : Nat) (win bud : Int) (l : List IP) (v u : Value) (k : Nat) : Prop :=
  Rec wr R B v win (qK win bud l k) ∧ OwnS wr B 1 u k (flatV vB (outK win bud l k)) ∧ (∀ b, v.ownBlock = some b → u.ownBlock ≠ some b) ∧ B ≤ wr.heap.size ∧ Below w.heap.size w wr ∧
    wr.cell? ⟨S, 0, none⟩ = some (.func (.func 62) #[.pointer (some ⟨R, 0, none⟩)] #[]) ∧ wr.cell? ⟨D, 0, none⟩ = some (.int .i64 bud)

def RunPost (w : World) (win bud : Int) (l : List IP) (e : Ending) (w' : World) : Prop :=
  ∃ u, e = .returned (.tuple #[u, .int .i64 (errC (runB win bud l))]) ∧ SliceOf vB 1 w' u (runV win bud l) ∧ Below w.heap.size w w'

theorem ret_vi {v : Value} {k : IntKind} {a b : Int} (h : a = b) : Ending.returned (.tuple #[v, .int k a]) = .returned (.tuple #[v, .int k b]) := by rw [h]
theorem heap_at0 (w : World) (o1 o2 : Obj) : ((w.alloc o1).alloc o2).heap[w.heap.size]? = some o1 := by
  show ((w.heap.push o1).push o2)[w.heap.size]? = some o1
  rw [Array.getElem?_push, if_neg (by simp), Array.getElem?_push, if_pos rfl]
theorem heap_at1 (w : World) (o1 o2 : Obj) : ((w.alloc o1).alloc o2).heap[w.heap.size + 1]? = some o2 := by
  show ((w.heap.push o1).push o2)[w.heap.size + 1]? = some o2
  rw [Array.getElem?_push, if_pos (by simp)]

/-- What one round of Run does to its state: the decision, then the append of its answer. -/
theorem RunSt.step {w wr W3 W4 : World} {R S D g off cap : Nat} {win bud : Int} {l : List IP} {v v3 u : Value} {k : Nat} {x : IP} (hx : l.getD k (0, 0) = x) (h : RunSt w wr R (R + 2) S D win bud l v u k) (hS : S = R + 1) (hD : D < R) (hRw : w.heap.size ≤ R)
    (o : Obj) (hrec3 : Rec W3 R (R + 2) v3 win (stepQ win bud (qK win bud l k) x)) (ho3 : Only2 (wr.alloc o) W3 R v.ownBlock) (hv3 : ∀ b, v3.ownBlock = some b → v.ownBlock = some b ∨ (wr.alloc o).heap.size ≤ b)
    (hown : OwnS W4 (R + 2) 1 (.slice (some ⟨g, off, none⟩) (k + 1) cap) (k + 1) (flatV vB (outK win bud l k) ++ [.bool (okQ win bud (qK win bud l k) x)])) (hg : W3.grownBy W4 u.ownBlock) (hat : u.ownBlock = some g ∨ W3.heap.size ≤ g) :
    RunSt w W4 R (R + 2) S D win bud l v3 (.slice (some ⟨g, off, none⟩) (k + 1) cap) (k + 1) := by
  obtain ⟨h1, h2, h3, h4, h5, h6, h7⟩ := h
  subst hS
  have hU3 : OwnS W3 (R + 2) 1 u k (flatV vB (outK win bud l k)) := (h2.alloc o).only2 ho3 (by omega) fun b hb => h3 b hb
  have hne : ∀ b, u.ownBlock = some b → v3.ownBlock ≠ some b := fun b hb hb3 => by
    rcases hv3 b hb3 with h | h
    · exact h3 b h hb
    · have := (h2.lt b hb).2
      simp at h
      omega
  have hub : ∀ b, u.ownBlock = some b → R + 2 ≤ b := fun b hb => (h2.lt b hb).1
  have hfar : ∀ {b : Nat} {o : Obj}, b < R + 2 → W3.heap[b]? = some o → W4.heap[b]? = some o := fun {b} {o} hb ho => (hg.block b (Array.getElem?_eq_some_iff.1 ho).1 (by intro e; have := hub b e.symm; omega)).trans ho
  have hcell : ∀ {b : Nat} {y : Value}, b < R + 2 → W3.cell? ⟨b, 0, none⟩ = some y → W4.cell? ⟨b, 0, none⟩ = some y := fun {b} {y} hb hy => hg.cell hy (by intro e; have := hub b e.symm; omega)
  have hvb : ∀ b, v.ownBlock = some b → R + 2 ≤ b := fun b hb => (h1.2.2.lt b hb).1
  refine ⟨⟨?_, h1.2.1, ?_⟩, ?_, ?_, ?_, ?_, ?_, ?_⟩
  · have e : qK win bud l (k + 1) = stepQ win bud (qK win bud l k) x := by rw [qK, hx]
    rw [e]
    exact hfar (by omega) hrec3.1
  · have e : qK win bud l (k + 1) = stepQ win bud (qK win bud l k) x := by rw [qK, hx]
    rw [e]
    exact hrec3.2.2.kept hg fun b hb => hne b hb
  · rw [outK, flatV_append, hx]
    exact hown
  · intro b hb e
    obtain rfl : g = b := by simpa [Value.ownBlock] using e
    rcases hat with hat | hat
    · exact hne g hat hb
    · have := (hrec3.2.2.lt g hb).2
      omega
  · exact Nat.le_trans h4 (Nat.le_trans (by simp) (Nat.le_trans ho3.size hg.size))
  · refine (h5.trans ?_).trans ((Below.refl w.heap.size W3).grown hg (Nat.le_trans h5.size (Nat.le_trans (by simp) ho3.size)) fun b hb => by have := hub b hb; omega)
    have := (bAlloc (Below.refl wr.heap.size wr) o).mono (B' := w.heap.size) h5.size
    exact this.trans (ho3.below hRw (fun b hb => by have := hvb b hb; omega) (Nat.le_trans h5.size (by simp)))
  · refine hcell (by omega) (ho3.cell (by omega) (by intro e; have := hvb _ e.symm; omega) ?_)
    rw [World.cell?_alloc_past _ _ _ (World.block_lt_of_cell? _ _ h6)]
    exact h6
  · refine hcell (by omega) (ho3.cell (by omega) (by intro e; have := hvb _ e.symm; omega) ?_)
    rw [World.cell?_alloc_past _ _ _ (World.block_lt_of_cell? _ _ h7)]
    exact h7

set_option maxHeartbeats 2000000 in
set_option maxRecDepth 100000 in
theorem pre_run_ok (win bud : Int) (l : List IP) (ao : Option Addr) (cp : Nat) (w : World) (h : SliceOf vIP 2 w (.slice ao l.length cp) l) (hv : vldL l = true) (hlim : limB win bud = true)
    (hcells : 0 < l.length → ∃ b off, ao = some ⟨b, off, none⟩ ∧ b < w.heap.size ∧ ∀ i (h : i < l.length) j u, (vIP l[i])[j]? = some u → w.cell? ⟨b, off + i * 2 + j, none⟩ = some u) :
    Calls Try.prog 30 #[.int .i64 win, .int .i64 bud, .slice ao l.length cp] w (RunPost w win bud l) := by
  obtain ⟨i0, hi, hz0, hz1, hz2⟩ := info_parts Try.info4
  obtain ⟨hbd, hlen⟩ := vldL_bd hv
  obtain ⟨w0, w1, d0, d1⟩ := limB_bd hlim
  have Hbd := hide hbd
  have Hbd' : Hid (∀ x ∈ l, bdIP x) := fun x hx => ⟨(hbd x hx).1, by have := (hbd x hx).2.1; omega, (hbd x hx).2.2.1, (hbd x hx).2.2.2⟩
  have H := hide h
  have HC := hide hcells
  clear hbd h hcells
  go_enter Try.func30, Try.ntmps30
  go_wp2_with fail
  refine (pre_valid l _ _ (H.out.below (bAlloc (Below.refl _ _) _))).mono ?_
  rintro e wa ⟨rfl, hba⟩
  have ha0 := hide (btrans ((Below.refl w.heap.size w).alloc (Nat.le_refl _) (.cells #[.int .i64 bud] 3)) (by simp) hba)
  have cD : wa.cell? ⟨w.heap.size, 0, none⟩ = some (.int .i64 bud) := keep_cell hba (by simp [go_sem])
  clear hba
  rw [hv]
  go_wp2_with fail
  refine (pre_limits win bud _).mono ?_
  rintro e wb ⟨rfl, rfl⟩
  rw [hlim]
  go_wp2_with fail
  have hNw : w.heap.size < wa.heap.size := by have := World.block_lt_of_cell? _ _ cD; simp only at this; omega
  have CD := hide cD
  clear cD
  go_loopw [11, 29] (fun u i wr => ∃ (k : Nat) (v : Value), k ≤ l.length ∧ i = .int .i64 k ∧ RunSt w wr wa.heap.size (wa.heap.size + 2) (wa.heap.size + 1) w.heap.size win bud l v u k) (fun _ i _ => l.length - (intOf i).toNat)
  case atStart =>
    refine ⟨0, .slice none 0 0, Nat.zero_le _, rfl, ⟨heap_at0 _ _ _, by omega, OwnS.nil _ _ _⟩, OwnS.nil _ _ _, (by intro b hb; cases hb), by simp, ?_, ?_, ?_⟩
    · exact (ha0.out.alloc ha0.out.size _).alloc (by have := ha0.out.size; simp; omega) _
    · exact (cells_of_block (heap_at1 wa _ _) 0).1
    · have := CD.out
      simp [go_sem, this, hNw]
  case round =>
    obtain ⟨k, v, hk, rfl, hst⟩ := hrel
    have HST := hide hst
    clear hst
    by_cases hlt : k < l.length
    · obtain ⟨b, off, rfl, hbw, hc⟩ := HC.out (by omega)
      obtain ⟨x0, x1⟩ := ip_cells hc hlt
      have hki : (k : Int) < (l.length : Int) := by omega
      have y0 := (HST.out.2.2.2.2.1.cell (p := ⟨b, off + k * 2, none⟩) hbw).trans x0
      have y1 := (HST.out.2.2.2.2.1.cell (p := ⟨b, off + k * 2 + 1, none⟩) hbw).trans x1
      have hbk := Hbd.out l[k] (List.getElem_mem hlt)
      have hgd : Hid (l.getD k (0, 0) = (l[k].1, l[k].2)) := by
        show l.getD k (0, 0) = _
        rw [getD_at hlt]
      obtain ⟨xa, hxa⟩ : ∃ x, l[k].1 = x := ⟨_, rfl⟩
      obtain ⟨xc, hxc⟩ : ∃ x, l[k].2 = x := ⟨_, rfl⟩
      rw [hxa] at y0 hbk hgd
      rw [hxc] at y1 hbk hgd
      obtain ⟨qb1, qb2⟩ := qK_bd win bud Hbd'.out k hk
      have QB1 := hide qb1
      clear hxa hxc x0 x1 hc qb1
      obtain ⟨hb1, hb2, hb3, hb4⟩ := hbk
      go_wp2_with fail
      refine (pre_decide wa.heap.size (wa.heap.size + 2) (wa.heap.size + 1) w.heap.size v win bud xa xc (qK win bud l k) _ (HST.out.1.below (bAlloc (Below.refl _ _) _)) (Nat.le_trans HST.out.2.2.2.1 (by simp)) QB1.out (by omega) ?_ ?_ (by omega) (by omega) hb1 hb2 hb3 hb4 w0 w1).mono ?_
      · rw [World.cell?_alloc_past _ _ _ (World.block_lt_of_cell? _ _ HST.out.2.2.2.2.2.1)]; exact HST.out.2.2.2.2.2.1
      · rw [World.cell?_alloc_past _ _ _ (World.block_lt_of_cell? _ _ HST.out.2.2.2.2.2.2)]; exact HST.out.2.2.2.2.2.2
      rintro e w3 ⟨v3, rfl, hrec3, ho3, hv3⟩
      have HR3 := hide hrec3
      have HO3 := hide ho3
      have HV3 := hide hv3
      have HU3 := hide ((HST.out.2.1.alloc (.cells #[.int .i64 xa, .int .i64 xc] 54)).only2 ho3 (by omega) fun b hb => HST.out.2.2.1 b hb)
      have HB3 := hide (Nat.le_trans (Nat.le_trans HST.out.2.2.2.1 (by simp)) ho3.size)
      clear hrec3 ho3 hv3
      go_wp2_with (at_builtin; refine wpList_appendS rfl _ _ 44 rfl (wa.heap.size + 2) 4 i0 (.bool false) 1 1 Try.underlying44 hi hz0 hz1 hz2 rfl (by decide) _ _ _ rfl HU3.out #[.bool (okQ win bud (qK win bud l k) (xa, xc))] 4 1 rfl rfl ?_ ?_ (by decide) HB3.out ?_)
      · first | rfl | (intro u hu; simp at hu; subst hu; rfl)
      · omega
      · intro g off' cap' w4 hown4 hg4 hb4 hat4
        have hnew := hide (RunSt.step hgd.out HST.out rfl (by omega) (by omega) _ HR3.out HO3.out HV3.out hown4 hg4 hat4)
        clear hown4 hg4 hb4 hat4
        go_wp2_with fail
        go_roundw
        case rel => exact ⟨k + 1, v3, by omega, by go_num, hnew.out⟩
        case measure => simp [intOf]; omega
    · have hk' : k = l.length := by omega
      subst hk'
      go_wp2_with fail
      go_ret2
      have e1 : runB win bud l = true := by unfold runB; rw [hv, hlim]; rfl
      obtain ⟨h1, h2, h3, h4, h5, h6, h7⟩ := HST.out
      refine ⟨u11, ret_vi (by rw [e1]; rfl), ?_, h5⟩
      unfold runV
      rw [if_pos e1]
      have hl := outK_length win bud l l.length
      have h2' : OwnS wr (wa.heap.size + 2) 1 u11 (outK win bud l l.length).length (flatV vB (outK win bud l l.length)) := by rw [hl]; exact h2
      exact OwnS.slice vB_len h2'

theorem pre_run_bad (win bud : Int) (l : List IP) (vs : Value) (w : World) (h : SliceOf vIP 2 w vs l) (hv : runB win bud l = false) :
    Calls Try.prog 30 #[.int .i64 win, .int .i64 bud, vs] w (RunPost w win bud l) := by
  have E1 : Hid (errC (runB win bud l) = 1) := by
    show errC (runB win bud l) = 1
    rw [hv]; rfl
  have E2 : Hid (runV win bud l = []) := by
    show runV win bud l = []
    unfold runV; rw [hv]; rfl
  by_cases h1 : vldL l = true
  · have h2 : limB win bud = false := by simpa [runB, h1] using hv
    clear hv
    go_enter Try.func30, Try.ntmps30
    go_wp2_with fail
    refine (pre_valid l _ _ (h.below (bAlloc (Below.refl _ _) _))).mono ?_
    rintro e wa ⟨rfl, hba⟩
    have ha0 := hide (btrans ((Below.refl w.heap.size w).alloc (Nat.le_refl _) (.cells #[.int .i64 bud] 3)) (by simp) hba)
    have cD : wa.cell? ⟨w.heap.size, 0, none⟩ = some (.int .i64 bud) := keep_cell hba (by simp [go_sem])
    clear hba
    rw [h1]
    go_wp2_with fail
    refine (pre_limits win bud _).mono ?_
    rintro e wb ⟨rfl, rfl⟩
    rw [h2]
    go_wp2_with fail
    go_ret2
    exact ⟨.slice none 0 0, ret_vi E1.out.symm, by rw [E2.out]; exact .inl ⟨none, rfl, rfl⟩, ha0.out⟩
  · have h1' : vldL l = false := by simpa using h1
    clear hv
    go_enter Try.func30, Try.ntmps30
    go_wp2_with fail
    refine (pre_valid l _ _ (h.below (bAlloc (Below.refl _ _) _))).mono ?_
    rintro e wa ⟨rfl, hba⟩
    have ha0 := hide (btrans ((Below.refl w.heap.size w).alloc (Nat.le_refl _) (.cells #[.int .i64 bud] 3)) (by simp) hba)
    clear hba
    rw [h1']
    go_wp2_with fail
    go_ret2
    exact ⟨.slice none 0 0, ret_vi E1.out.symm, by rw [E2.out]; exact .inl ⟨none, rfl, rfl⟩, ha0.out⟩

theorem slice_cells {w : World} {ao : Option Addr} {cp : Nat} {l : List IP} (h : SliceOf vIP 2 w (.slice ao l.length cp) l) :
    0 < l.length → ∃ b off, ao = some ⟨b, off, none⟩ ∧ b < w.heap.size ∧ ∀ i (h : i < l.length) j u, (vIP l[i])[j]? = some u → w.cell? ⟨b, off + i * 2 + j, none⟩ = some u := by
  intro h0
  obtain ⟨b, off, cap, hv, hb, _, _, hc⟩ := h.some_of_pos h0
  simp only [Value.slice.injEq] at hv
  exact ⟨b, off, hv.1, hb, hc⟩
theorem pre_run (win bud : Int) (l : List IP) (vs : Value) (w : World) (h : SliceOf vIP 2 w vs l) :
    Calls Try.prog 30 #[.int .i64 win, .int .i64 bud, vs] w (RunPost w win bud l) := by
  by_cases hr : runB win bud l = true
  · obtain ⟨ao, cp, rfl⟩ := h.shape
    have h' : vldL l = true ∧ limB win bud = true := by simpa [runB] using hr
    exact pre_run_ok win bud l ao cp w h h'.1 h'.2 (slice_cells h)
  · exact pre_run_bad win bud l vs w h (by simpa using hr)
end Go.Proofs.Ytahlhiiekgnmpaa
