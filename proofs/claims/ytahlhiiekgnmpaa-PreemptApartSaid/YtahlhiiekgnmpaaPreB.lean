/- The functions valid, limits and decide of package preempt. -/
import Derived.Test.YtahlhiiekgnmpaaPreA
namespace Go.Proofs.Ytahlhiiekgnmpaa
open Go.RowKit

/-! ### The plain functions -/
def okX (last : Int) (x : IP) : Bool := inB x.1 38399 && inB x.2 1000 && decide (last ≤ x.1)
def vldGo (last : Int) : List IP → Bool
  | [] => true
  | x :: l => okX last x && vldGo x.1 l
def vldL (l : List IP) : Bool := vldGo 0 l && decide (l.length ≤ 200)
theorem vldGo_step {last : Int} {l : List IP} {k : Nat} (h : k < l.length) : vldGo last (l.drop k) = (okX last l[k] && vldGo l[k].1 (l.drop (k + 1))) := by
  rw [List.drop_eq_getElem_cons h]; rfl
theorem vldGo_end (last : Int) (l : List IP) : vldGo last (l.drop l.length) = true := by rw [List.drop_length]; rfl
def limB (win bud : Int) : Bool := decide (1 ≤ win ∧ win ≤ 38400) && inB bud 1000000

/-- A cell of a slice of interruptions. -/
theorem ip_cells {w : World} {b off k : Nat} {l : List IP} (hc : ∀ i (h : i < l.length) j u, (vIP l[i])[j]? = some u → w.cell? ⟨b, off + i * 2 + j, none⟩ = some u) (h : k < l.length) :
    w.cell? ⟨b, off + k * 2, none⟩ = some (.int .i64 l[k].1) ∧ w.cell? ⟨b, off + k * 2 + 1, none⟩ = some (.int .i64 l[k].2) :=
  ⟨hc k h 0 _ rfl, hc k h 1 _ rfl⟩

set_option maxHeartbeats 1000000 in
set_option maxRecDepth 100000 in
theorem pre_valid_some (l : List IP) (b off cap : Nat) (w : World) (hm : l.length ≤ maxLen) (hb : b < w.heap.size)
    (hc : ∀ i (h : i < l.length) j u, (vIP l[i])[j]? = some u → w.cell? ⟨b, off + i * 2 + j, none⟩ = some u) :
    Calls Try.prog 60 #[.slice (some ⟨b, off, none⟩) l.length cap] w fun e w' => e = .returned (.bool (vldL l)) ∧ Below w.heap.size w w' := by
  unfold maxLen at hm
  have Hc := hide hc
  clear hc
  go_enter Try.func60, Try.ntmps60
  go_wp2_with fail
  go_loopw [3, 8] (fun last i wr => ∃ (k : Nat) (z : Int), k ≤ l.length ∧ i = .int .i64 k ∧ last = .int .i64 z ∧ vldGo 0 l = vldGo z (l.drop k) ∧ Below w.heap.size w wr) (fun _ i _ => l.length - (intOf i).toNat)
  case atStart => exact ⟨0, 0, Nat.zero_le _, rfl, rfl, rfl, Below.refl _ _⟩
  case round =>
    obtain ⟨k, z, hk, rfl, rfl, hv, hbr⟩ := hrel
    have Hv := hide hv
    clear hv
    by_cases hlt : k < l.length
    · obtain ⟨x0, x1⟩ := ip_cells Hc.out hlt
      have hki : (k : Int) < (l.length : Int) := by omega
      have y0 := (hbr.cell (p := ⟨b, off + k * 2, none⟩) hb).trans x0
      have y1 := (hbr.cell (p := ⟨b, off + k * 2 + 1, none⟩) hb).trans x1
      have hs := vldGo_step (last := z) hlt
      obtain ⟨xa, hxa⟩ : ∃ x, l[k].1 = x := ⟨_, rfl⟩
      obtain ⟨xc, hxc⟩ : ∃ x, l[k].2 = x := ⟨_, rfl⟩
      have hok : okX z l[k] = (inB xa 38399 && inB xc 1000 && decide (z ≤ xa)) := by unfold okX; rw [hxa, hxc]
      rw [hxa] at y0 hs
      rw [hxc] at y1
      rw [hok] at hs
      have Hs := hide hs
      clear hs hok hxa hxc x0 x1
      by_cases c1 : inB xa 38399 = true
      · by_cases c2 : inB xc 1000 = true
        · by_cases c3 : z ≤ xa
          · go_wp2_with fail
            refine (pre_in xa 38399 _).mono ?_
            rintro e w1 ⟨rfl, rfl⟩
            rw [c1]
            go_wp2_with fail
            refine (pre_in xc 1000 _).mono ?_
            rintro e w1 ⟨rfl, rfl⟩
            rw [c2]
            go_wp2_with fail
            go_roundw
            case rel => exact ⟨k + 1, xa, by omega, by go_num, rfl, by rw [Hv.out, Hs.out, c1, c2, decide_eq_true c3]; rfl, bAlloc hbr _⟩
            case measure => simp [intOf]; omega
          · have H3 : Hid (vldL l = false) := by
              show vldL l = false
              unfold vldL
              rw [Hv.out, Hs.out, decide_eq_false c3]; simp
            go_wp2_with fail
            refine (pre_in xa 38399 _).mono ?_
            rintro e w1 ⟨rfl, rfl⟩
            rw [c1]
            go_wp2_with fail
            refine (pre_in xc 1000 _).mono ?_
            rintro e w1 ⟨rfl, rfl⟩
            rw [c2]
            go_wp2_with fail
            go_ret
            exact ⟨ret_bool H3.out.symm, bAlloc hbr _⟩
        · have c2' : inB xc 1000 = false := by simpa using c2
          have H3 : Hid (vldL l = false) := by
            show vldL l = false
            unfold vldL
            rw [Hv.out, Hs.out, c2']; simp
          go_wp2_with fail
          refine (pre_in xa 38399 _).mono ?_
          rintro e w1 ⟨rfl, rfl⟩
          rw [c1]
          go_wp2_with fail
          refine (pre_in xc 1000 _).mono ?_
          rintro e w1 ⟨rfl, rfl⟩
          rw [c2']
          go_wp2_with fail
          go_ret
          exact ⟨ret_bool H3.out.symm, bAlloc hbr _⟩
      · have c1' : inB xa 38399 = false := by simpa using c1
        have H3 : Hid (vldL l = false) := by
          show vldL l = false
          unfold vldL
          rw [Hv.out, Hs.out, c1']; simp
        go_wp2_with fail
        refine (pre_in xa 38399 _).mono ?_
        rintro e w1 ⟨rfl, rfl⟩
        rw [c1']
        go_wp2_with fail
        go_ret
        exact ⟨ret_bool H3.out.symm, bAlloc hbr _⟩
    · have hk' : k = l.length := by omega
      subst hk'
      have hg : Hid (vldL l = decide ((l.length : Int) ≤ 200)) := by
        show vldL l = _
        unfold vldL
        rw [Hv.out, vldGo_end, Bool.true_and]
        exact decide_eq_decide.2 (by omega)
      go_wp2_with fail
      go_ret
      exact ⟨ret_bool hg.out.symm, hbr⟩

theorem pre_valid_nil (ao : Option Addr) (w : World) : Calls Try.prog 60 #[.slice ao 0 0] w fun e w' => e = .returned (.bool true) ∧ w = w' := by
  go_enter Try.func60, Try.ntmps60
  go_wp2_with fail
  go_loop [8] (fun i => i = .int .i64 0) (fun _ => 0)
  case atStart => rfl
  case round =>
    subst hrel
    go_wp2_with fail
    go_ret
    exact ⟨rfl, rfl⟩
theorem pre_valid (l : List IP) (v : Value) (w : World) (h : SliceOf vIP 2 w v l) :
    Calls Try.prog 60 #[v] w fun e w' => e = .returned (.bool (vldL l)) ∧ Below w.heap.size w w' := by
  rcases h with ⟨ao, rfl, rfl⟩ | ⟨b, off, cap, rfl, hb, h1, h2, hc⟩
  · exact (pre_valid_nil ao w).mono fun e w' ⟨he, hw⟩ => ⟨he, hw ▸ Below.refl _ _⟩
  · exact pre_valid_some l b off cap w (Nat.le_trans h1 h2) hb hc

theorem pre_limits (win bud : Int) (w : World) : Calls Try.prog 61 #[.int .i64 win, .int .i64 bud] w fun e w' => e = .returned (.bool (limB win bud)) ∧ w = w' := by
  by_cases c1 : 0 < win
  · by_cases c2 : inB win 38400 = true
    · have hl : Hid (limB win bud = inB bud 1000000) := by
        show limB win bud = _
        unfold limB
        have := inB_yes.1 c2
        rw [decide_eq_true (by omega), Bool.true_and]
      go_enter Try.func61, Try.ntmps61
      go_wp2_with fail
      refine (pre_in win 38400 _).mono ?_
      rintro e w1 ⟨rfl, rfl⟩
      rw [c2]
      go_wp2_with fail
      refine (pre_in bud 1000000 _).mono ?_
      rintro e w1 ⟨rfl, rfl⟩
      go_wp2_with fail
      go_ret
      exact ⟨ret_bool (by rw [hl.out]), rfl⟩
    · have c2' : inB win 38400 = false := by simpa using c2
      have hl : Hid (limB win bud = false) := by
        show limB win bud = _
        unfold limB
        have := inB_no.1 c2'
        rw [decide_eq_false (by omega), Bool.false_and]
      go_enter Try.func61, Try.ntmps61
      go_wp2_with fail
      refine (pre_in win 38400 _).mono ?_
      rintro e w1 ⟨rfl, rfl⟩
      rw [c2']
      go_wp2_with fail
      go_ret
      exact ⟨ret_bool hl.out.symm, rfl⟩
  · have hl : Hid (limB win bud = false) := by
      show limB win bud = _
      unfold limB
      rw [decide_eq_false (by omega), Bool.false_and]
    go_enter Try.func61, Try.ntmps61
    go_wp2_with fail
    go_ret
    exact ⟨ret_bool hl.out.symm, rfl⟩
end Go.Proofs.Ytahlhiiekgnmpaa
