/- Worst and Allow of package preempt. -/
import Derived.Test.YtahlhiiekgnmpaaPreD
namespace Go.Proofs.Ytahlhiiekgnmpaa
open Go.RowKit

def imx (x y : Int) : Int := max x y
theorem imx_if (x y : Int) : (if x < y then y else x) = imx x y := by unfold imx; omega

def wqK (win : Int) (l : List IP) : Nat → List IP
  | 0 => []
  | k + 1 => dropT ((l.getD k (0, 0)).1 - win) (wqK win l k ++ [l.getD k (0, 0)])
def wK (win : Int) (l : List IP) : Nat → Int
  | 0 => 0
  | k + 1 => imx (wK win l k) (sumC (wqK win l (k + 1)))
def worB (win : Int) (l : List IP) : Bool := vldL l && limB win 0
def worV (win : Int) (l : List IP) : Int := if worB win l then wK win l l.length else 0
theorem wqK_bd (win : Int) {l : List IP} (hl : ∀ x ∈ l, bdIP x) : ∀ k, k ≤ l.length → (∀ x ∈ wqK win l k, bdIP x) ∧ (wqK win l k).length ≤ k
  | 0, _ => ⟨by simp [wqK], by simp [wqK]⟩
  | k + 1, hk => by
    obtain ⟨h1, h2⟩ := wqK_bd win hl k (by omega)
    refine ⟨fun x hx => ?_, ?_⟩
    · rcases List.mem_append.1 (dropT_mem hx) with h | h
      · exact h1 x h
      · rw [show x = l.getD k (0, 0) by simpa using h]; exact hl _ (getD_mem (by omega))
    · have := dropT_le ((l.getD k (0, 0)).1 - win) (wqK win l k ++ [l.getD k (0, 0)])
      rw [List.length_append] at this
      exact Nat.le_trans this (by simp; omega)
theorem wK_bd (win : Int) {l : List IP} (hl : ∀ x ∈ l, bdIP x) (hn : l.length ≤ 1000) : ∀ k, k ≤ l.length → 0 ≤ wK win l k ∧ wK win l k ≤ 1000000
  | 0, _ => ⟨by simp [wK], by simp [wK]⟩
  | k + 1, hk => by
    have h1 := wK_bd win hl hn k (by omega)
    obtain ⟨h2, h3⟩ := wqK_bd win hl (k + 1) hk
    have h4 := sumC_bd _ h2
    show 0 ≤ imx _ _ ∧ imx _ _ ≤ _
    unfold imx
    omega

/-- The bounds of a valid list, ready for the walks. -/
theorem vld_ready {l : List IP} (hv : vldL l = true) : (∀ x ∈ l, 0 ≤ x.1 ∧ x.1 ≤ 38399 ∧ 0 ≤ x.2 ∧ x.2 ≤ 1000) ∧ (∀ x ∈ l, bdIP x) ∧ l.length ≤ 200 := by
  obtain ⟨hbd, hlen⟩ := vldL_bd hv
  exact ⟨hbd, fun x hx => ⟨(hbd x hx).1, by have := (hbd x hx).2.1; omega, (hbd x hx).2.2.1, (hbd x hx).2.2.2⟩, hlen⟩

/-- The state of 'recent' after a further interruption was added in a round: the box of the round's variable between. -/
theorem Only2.below_of {w wr w' : World} {R B : Nat} {v : Value} {win : Int} {q : List IP} (hb : Below w.heap.size w wr) (h : Rec wr R B v win q) (hw : w.heap.size ≤ R) (o : Obj) (ho : Only2 (wr.alloc o) w' R v.ownBlock) : Below w.heap.size w w' := by
  have h1 := (bAlloc (Below.refl wr.heap.size wr) o).mono (B' := w.heap.size) hb.size
  refine hb.trans (h1.trans (ho.below hw (fun b hb' => ?_) (Nat.le_trans hb.size (by simp))))
  have := (h.2.2.lt b hb').1
  have := h.2.1
  omega

set_option maxHeartbeats 2000000 in
set_option maxRecDepth 100000 in
theorem pre_worst_ok (win : Int) (l : List IP) (ao : Option Addr) (cp : Nat) (w : World) (h : SliceOf vIP 2 w (.slice ao l.length cp) l) (hv : vldL l = true) (hlim : limB win 0 = true) :
    Calls Try.prog 32 #[.slice ao l.length cp, .int .i64 win] w fun e w' => e = .returned (.tuple #[.int .i64 (wK win l l.length), .int .i64 0]) ∧ Below w.heap.size w w' := by
  obtain ⟨hbd, hbd', hlen⟩ := vld_ready hv
  obtain ⟨w0, w1, d0, d1⟩ := limB_bd hlim
  have Hbd := hide hbd
  have Hbd' := hide hbd'
  have H := hide h
  have HC := hide (slice_cells h)
  have hmax := imx_if
  clear hbd hbd' h
  go_enter Try.func32, Try.ntmps32
  go_wp2_with fail
  refine (pre_valid l _ _ H.out).mono ?_
  rintro e wa ⟨rfl, hba⟩
  rw [hv]
  go_wp2_with fail
  refine (pre_limits win 0 _).mono ?_
  rintro e wb ⟨rfl, rfl⟩
  rw [hlim]
  go_wp2_with fail
  have HBA := hide hba
  clear hba
  go_loopw [7, 22] (fun m i wr => ∃ (k : Nat) (v : Value), k ≤ l.length ∧ i = .int .i64 k ∧ m = .int .i64 (wK win l k) ∧ Rec wr wa.heap.size (wa.heap.size + 1) v win (wqK win l k) ∧ wa.heap.size + 1 ≤ wr.heap.size ∧ Below w.heap.size w wr) (fun _ i _ => l.length - (intOf i).toNat)
  case atStart =>
    refine ⟨0, .slice none 0 0, Nat.zero_le _, rfl, rfl, ⟨?_, by omega, OwnS.nil _ _ _⟩, by simp, HBA.out.alloc HBA.out.size _⟩
    show (wa.heap.push _)[wa.heap.size]? = _
    rw [Array.getElem?_push, if_pos rfl]
    rfl
  case round =>
    obtain ⟨k, v, hk, rfl, rfl, hrec, hsz, hbw⟩ := hrel
    have HREC := hide hrec
    have HBW := hide hbw
    clear hrec hbw
    by_cases hlt : k < l.length
    · obtain ⟨b, off, rfl, hbw, hc⟩ := HC.out (by omega)
      obtain ⟨x0, x1⟩ := ip_cells hc hlt
      have hki : (k : Int) < (l.length : Int) := by omega
      have y0 := (HBW.out.cell (p := ⟨b, off + k * 2, none⟩) hbw).trans x0
      have y1 := (HBW.out.cell (p := ⟨b, off + k * 2 + 1, none⟩) hbw).trans x1
      have hbk := Hbd.out l[k] (List.getElem_mem hlt)
      have hgd : Hid (l.getD k (0, 0) = (l[k].1, l[k].2)) := by
        show l.getD k (0, 0) = _
        rw [getD_at hlt]
      obtain ⟨xa, hxa⟩ : ∃ x, l[k].1 = x := ⟨_, rfl⟩
      obtain ⟨xc, hxc⟩ : ∃ x, l[k].2 = x := ⟨_, rfl⟩
      rw [hxa] at y0 hbk hgd
      rw [hxc] at y1 hbk hgd
      obtain ⟨qb1, qb2⟩ := wqK_bd win Hbd'.out k hk
      have hsum := sumC_bd _ qb1
      have hwk := wK_bd win Hbd'.out (by omega) k hk
      have hnext : Hid (wqK win l (k + 1) = dropT (xa - win) (wqK win l k ++ [(xa, xc)])) := by
        show wqK win l (k + 1) = _
        rw [wqK, hgd.out]
      have hnb : Hid (∀ x ∈ wqK win l k ++ [(xa, xc)], 0 ≤ x.1 ∧ x.1 ≤ 100000 ∧ 0 ≤ x.2 ∧ x.2 ≤ 1000) := fun x hx => by
        rcases List.mem_append.1 hx with h | h
        · exact qb1 x h
        · rw [show x = (xa, xc) by simpa using h]; exact ⟨hbk.1, by have := hbk.2.1; simp only; omega, hbk.2.2.1, hbk.2.2.2⟩
      clear hxa hxc x0 x1 hc qb1
      obtain ⟨hb1, hb2, hb3, hb4⟩ := hbk
      go_wp2_with fail
      refine (pre_add wa.heap.size (wa.heap.size + 1) v win xa xc (wqK win l k) _ (HREC.out.below (bAlloc (Below.refl _ _) _)) (Nat.le_trans hsz (by simp)) (by omega) hsum.1 (by omega) hb3 hb4).mono ?_
      rintro e w3 ⟨v3, rfl, hrec3, ho3, hv3⟩
      have HR3 := hide hrec3
      have HB3 := hide (Only2.below_of HBW.out HREC.out HBA.out.size _ ho3)
      have hs3 := ho3.size
      have z0 : w3.cell? ⟨wr.heap.size, 0, none⟩ = some (.int .i64 xa) := ho3.cell (by omega) (by intro e; have := (HREC.out.2.2.lt _ e.symm).2; omega) (by simp [go_sem])
      clear hrec3 ho3 hv3
      go_wp2_with fail
      refine (pre_at wa.heap.size (wa.heap.size + 1) v3 win xa (wqK win l k ++ [(xa, xc)]) _ HR3.out hb1 (by omega) (by omega) (by omega) hnb.out (by simp; omega)).mono ?_
      rintro e w4 ⟨v4, rfl, hrec4, hg4, hv4⟩
      have HR4 := hide hrec4
      have HB4 := hide (HB3.out.trans ((only_of_grown (row := none) hg4).below HBA.out.size (by simp) HB3.out.size))
      have hs4 := hg4.size
      clear hrec4 hg4 hv4
      have hsum4 : 0 ≤ sumC (dropT (xa - win) (wqK win l k ++ [(xa, xc)])) := (sumC_bd _ fun x hx => hnb.out x (dropT_mem hx)).1
      go_wp2_with fail
      go_roundw
      case rel =>
        refine ⟨k + 1, v4, by omega, by go_num, ?_, by rw [hnext.out]; exact HR4.out, ?_, HB4.out⟩
        · rw [← hnext.out]; rfl
        · simp at hs3; omega
      case measure => simp [intOf]; omega
    · have hk' : k = l.length := by omega
      subst hk'
      go_wp2_with fail
      go_ret2
      exact ⟨rfl, HBW.out⟩

theorem pre_worst_bad (win : Int) (l : List IP) (vs : Value) (w : World) (h : SliceOf vIP 2 w vs l) (hv : worB win l = false) :
    Calls Try.prog 32 #[vs, .int .i64 win] w fun e w' => e = .returned (.tuple #[.int .i64 0, .int .i64 1]) ∧ Below w.heap.size w w' := by
  by_cases h1 : vldL l = true
  · have h2 : limB win 0 = false := by simpa [worB, h1] using hv
    clear hv
    go_enter Try.func32, Try.ntmps32
    go_wp2_with fail
    refine (pre_valid l _ _ h).mono ?_
    rintro e wa ⟨rfl, hba⟩
    rw [h1]
    go_wp2_with fail
    refine (pre_limits win 0 _).mono ?_
    rintro e wb ⟨rfl, rfl⟩
    rw [h2]
    go_wp2_with fail
    go_ret2
    exact ⟨rfl, hba⟩
  · have h1' : vldL l = false := by simpa using h1
    clear hv
    go_enter Try.func32, Try.ntmps32
    go_wp2_with fail
    refine (pre_valid l _ _ h).mono ?_
    rintro e wa ⟨rfl, hba⟩
    rw [h1']
    go_wp2_with fail
    go_ret2
    exact ⟨rfl, hba⟩
theorem pre_worst (win : Int) (l : List IP) (vs : Value) (w : World) (h : SliceOf vIP 2 w vs l) :
    Calls Try.prog 32 #[vs, .int .i64 win] w fun e w' => e = .returned (.tuple #[.int .i64 (worV win l), .int .i64 (errC (worB win l))]) ∧ Below w.heap.size w w' := by
  by_cases hr : worB win l = true
  · obtain ⟨ao, cp, rfl⟩ := h.shape
    have h' : vldL l = true ∧ limB win 0 = true := by simpa [worB] using hr
    unfold worV
    rw [if_pos hr, hr]
    exact pre_worst_ok win l ao cp w h h'.1 h'.2
  · have hr' : worB win l = false := by simpa using hr
    unfold worV
    rw [if_neg hr, hr']
    exact pre_worst_bad win l vs w h hr'
end Go.Proofs.Ytahlhiiekgnmpaa
