/- The statement PreemptScales. -/
import Derived.Test.YtahlhiiekgnmpaaPreL
import Derived.Test.YtahlhiiekgnmpaaPreO
namespace Go.Proofs.Ytahlhiiekgnmpaa
open Go.RowKit

/-- A list that is being made: its first k. -/
def MkSt (w wr : World) (M : List IP) (u : Value) (k : Nat) : Prop := OwnS wr w.heap.size 2 u k (flatV vIP (M.take k)) ∧ Below w.heap.size w wr
theorem MkSt.nil (w : World) (M : List IP) : MkSt w w M (.slice none 0 0) 0 := ⟨OwnS.nil _ _ _, Below.refl _ _⟩
theorem MkSt.step {w wr W' W : World} {M : List IP} {u : Value} {k g off cap : Nat} {x : IP} (h : MkSt w wr M u k) (hW : Below wr.heap.size wr W') (hk : k < M.length) (hx : M[k] = x)
    (hown : OwnS W w.heap.size 2 (.slice (some ⟨g, off, none⟩) (k + 1) cap) (k + 1) (flatV vIP (M.take k) ++ vIP x)) (hg : W'.grownBy W u.ownBlock) :
    MkSt w W M (.slice (some ⟨g, off, none⟩) (k + 1) cap) (k + 1) := by
  have e : M.take (k + 1) = M.take k ++ [x] := by rw [List.take_succ_eq_append_getElem hk, hx]
  refine ⟨?_, ?_⟩
  · rw [e, flatV_append, flatV_one]; exact hown
  · have h2 : Below w.heap.size w W' := btrans h.2 h.2.size hW
    exact h2.grown hg h2.size fun k hk => (h.1.lt k hk).1
theorem MkSt.slice {w wr : World} {M : List IP} {u : Value} (h : MkSt w wr M u M.length) : SliceOf vIP 2 wr u M := by
  have h1 := h.1
  rw [List.take_length] at h1
  exact OwnS.slice vIP_len h1
theorem scales_facts {win bud k d : Int} {l : List IP} (h : runB win bud l = true) (hk : 1 ≤ k) (h2 : runB win (k * bud) (l.map (scl k d)) = true) :
    runV win bud l = runV win (k * bud) (l.map (scl k d)) := by
  obtain ⟨hv, hlim⟩ := runB_iff.1 h
  obtain ⟨w0, w1, _, _⟩ := limB_bd hlim
  rw [runV_yes h, runV_yes h2]
  exact (scl_out hv (runB_iff.1 h2).1 w0 w1 hk).symm
theorem bDr {B : Nat} {a w : World} (h : Below B a w) : Below B a w.drew := ⟨h.os, h.tape, h.output, h.size, h.block⟩
theorem tmod20 {x : Int} (h0 : 0 ≤ x) (h1 : x < 256) : 0 ≤ x.tmod 20 ∧ x.tmod 20 < 20 := by
  rw [Int.tmod_eq_emod_of_nonneg h0]; omega

set_option maxHeartbeats 4000000 in
set_option maxRecDepth 100000 in
theorem preScales_walk (l : List IP) (v : Value) (win bud fac by_ : Int) (w : World) (h : SliceOf vIP 2 w v l) (f0 : 0 ≤ fac) (f1 : fac < 256) (y0 : -32768 ≤ by_) (y1 : by_ < 32768) :
    Calls Try.prog 12 #[v, .int .i64 win, .int .i64 bud, .int .u8 fac, .int .i16 by_] w fun e w' => e = .returned (.bool true) ∧ Below w.heap.size w w' := by
  obtain ⟨j0, ji, jz0, jz1, jz2⟩ := info_parts Try.infoIP
  obtain ⟨ao, cp, rfl⟩ := h.shape
  have H := hide h
  clear h
  have main : ∀ q : Int, errC (runB win bud l) = q → ((60 : Int) < (l.length : Int) ∨ q = 1) → Calls Try.prog 12 #[.slice ao l.length cp, .int .i64 win, .int .i64 bud, .int .u8 fac, .int .i16 by_] w fun e w' => e = .returned (.bool true) ∧ Below w.heap.size w w' := by
    intro q hq hor
    rcases hor with hl | rfl
    · go_enter Try.func12, Try.ntmps12
      go_wp2_with fail
      refine (law40_head _).mono ?_
      rintro e w1 ⟨rfl, hb⟩
      replace H := hide (H.out.below hb)
      have B1 := hide hb
      clear hb
      go_wp2_with fail
      refine (pre_run_at win bud l _ q _ _ H.out rfl hq).mono ?_
      rintro e w2 ⟨u, rfl, hu, hb⟩
      replace B1 := hide (btrans B1.out B1.out.size hb)
      clear hu hb
      go_wp2_with fail
      go_ret
      exact ⟨rfl, B1.out⟩
    · by_cases hl : (60 : Int) < (l.length : Int)
      all_goals
        go_enter Try.func12, Try.ntmps12
        go_wp2_with fail
        refine (law40_head _).mono ?_
        rintro e w1 ⟨rfl, hb⟩
        replace H := hide (H.out.below hb)
        have B1 := hide hb
        clear hb
        go_wp2_with fail
        refine (pre_run_at win bud l _ 1 _ _ H.out rfl hq).mono ?_
        rintro e w2 ⟨u, rfl, hu, hb⟩
        replace B1 := hide (btrans B1.out B1.out.size hb)
        clear hu hb
        go_wp2_with fail
        go_ret
        exact ⟨rfl, B1.out⟩
  by_cases hl : (60 : Int) < (l.length : Int)
  · exact main _ rfl (.inl hl)
  rcases Bool.eq_false_or_eq_true (runB win bud l) with h1 | h1
  · clear main
    obtain ⟨k0, k1⟩ := tmod20 f0 f1
    obtain ⟨kk, hkk⟩ : ∃ kk, fac.tmod 20 = kk := ⟨_, rfl⟩
    rw [hkk] at k0 k1
    have HS := hide (fun h2 => scales_facts (k := 1 + kk) (d := by_) h1 (by omega) h2)
    obtain ⟨hv, hlim⟩ := runB_iff.1 h1
    obtain ⟨w0, wx, d0, d1⟩ := limB_bd hlim
    have Hbd := hide (vldL_bdIP hv)
    have HC : Hid (∀ k (hk : k < l.length), ∃ b off, ao = some ⟨b, off, none⟩ ∧ w.cell? ⟨b, off + k * 2, none⟩ = some (.int .i64 l[k].1) ∧ w.cell? ⟨b, off + k * 2 + 1, none⟩ = some (.int .i64 l[k].2)) := by
      intro k hk
      obtain ⟨b, off, e1, hbw, hc⟩ := slice_cells H.out (by omega)
      obtain ⟨x0, x1⟩ := ip_cells hc hk
      exact ⟨b, off, e1, x0, x1⟩
    clear hv hlim
    have hkb0 : 0 ≤ (1 + kk) * bud := Int.mul_nonneg (by omega) d0
    have hkb1 : (1 + kk) * bud ≤ 20 * 1000000 := Int.mul_le_mul (by omega) d1 d0 (by omega)
    have hkb : IntKind.i64.wrap ((1 + kk) * bud) = (1 + kk) * bud := IntWalk.i64_in _ (by omega)
    have hml : (l.map (scl (1 + kk) by_)).length = l.length := List.length_map ..
    obtain ⟨M, hM⟩ : ∃ M, l.map (scl (1 + kk) by_) = M := ⟨_, rfl⟩
    have HMg : Hid (∀ k (hk : k < l.length) (hk' : k < M.length), M[k] = (l[k].1 + by_, (1 + kk) * l[k].2)) := by
      intro k hk hk'
      subst hM
      rw [List.getElem_map]; rfl
    rw [hM] at hml HS
    have Hml := hide hml
    clear hM hml hkb0 hkb1
    go_enter Try.func12, Try.ntmps12
    go_wp2_with fail
    refine (law40_head _).mono ?_
    rintro e w1 ⟨rfl, hb⟩
    replace H := hide (H.out.below hb)
    have B1 := hide hb
    clear hb
    go_wp2_with fail
    refine (pre_run_at win bud l _ 0 _ _ H.out rfl (errC_yes h1)).mono ?_
    rintro e w2 ⟨u, rfl, hu, hb⟩
    have HU := hide hu
    replace B1 := hide (btrans B1.out B1.out.size hb)
    clear hu hb H h1
    go_wp2_with fail
    go_loopw [15, 16] (fun u i wr => ∃ k : Nat, k ≤ l.length ∧ i = .int .i64 k ∧ MkSt w2 wr M u k) (fun _ i _ => l.length - (intOf i).toNat)
    case atStart => exact ⟨0, Nat.zero_le _, rfl, MkSt.nil _ _⟩
    case round =>
      obtain ⟨k, hk, rfl, hst⟩ := hrel
      have HST := hide hst
      clear hst
      by_cases hlt : k < l.length
      · obtain ⟨b, off, rfl, x0, x1⟩ := HC.out k hlt
        have hki : (k : Int) < (l.length : Int) := by omega
        have y0 := keep_cell HST.out.2 (keep_cell B1.out x0)
        have y1 := keep_cell HST.out.2 (keep_cell B1.out x1)
        have hkm : k < M.length := by rw [Hml.out]; exact hlt
        have HG := hide (HMg.out k hlt hkm)
        have hbk := Hbd.out l[k] (List.getElem_mem hlt)
        obtain ⟨xa, hxa⟩ : ∃ x, l[k].1 = x := ⟨_, rfl⟩
        obtain ⟨xc, hxc⟩ : ∃ x, l[k].2 = x := ⟨_, rfl⟩
        unfold bdIP at hbk
        rw [hxa] at y0 HG hbk
        rw [hxc] at y1 HG hbk
        have HKS : Hid (∀ W, Below w2.heap.size w2 W → W.cell? ⟨b, off + k * 2, none⟩ = some (.int .i64 xa) ∧ W.cell? ⟨b, off + k * 2 + 1, none⟩ = some (.int .i64 xc)) := by
          intro W hW
          rw [hxa] at x0
          rw [hxc] at x1
          exact ⟨keep_cell hW (keep_cell B1.out x0), keep_cell hW (keep_cell B1.out x1)⟩
        clear hxa hxc x0 x1
        have hw1 : IntKind.i64.wrap by_ = by_ := IntWalk.i64_in _ (by omega)
        have hw2 : IntKind.i64.wrap (xa + by_) = xa + by_ := IntWalk.i64_in _ (by omega)
        have hm0 : 0 ≤ (1 + kk) * xc := Int.mul_nonneg (by omega) (by omega)
        have hm1 : (1 + kk) * xc ≤ 20 * 1000 := Int.mul_le_mul (by omega) (by omega) (by omega) (by omega)
        have hwm : IntKind.i64.wrap ((1 + kk) * xc) = (1 + kk) * xc := IntWalk.i64_in _ (by omega)
        obtain ⟨P, hP⟩ : ∃ P, (1 + kk) * xc = P := ⟨_, rfl⟩
        rw [hP] at HG hwm
        have hsz := HST.out.2.size
        have hone : ∀ u ∈ (#[Value.int .i64 (xa + by_), Value.int .i64 P] : Array Value).toList, u.oneCell' = true := by
          intro u hu
          simp at hu
          rcases hu with rfl | rfl <;> rfl
        have H1 := hide hone
        clear hone
        have hbytes : (k + 1) * 16 ≤ 140737488355328 := by omega
        have hX : ((wr.alloc (.cells #[.int .i64 (xa + by_), .int .i64 P] 54)).drew).heap[wr.heap.size]? = some (.cells #[.int .i64 (xa + by_), .int .i64 P] 54 (0, 0)) := by
          show (wr.heap.push _)[wr.heap.size]? = _
          rw [Array.getElem?_push, if_pos rfl]
        have HX := hide hX
        have HOW := hide (HST.out.1.alloc (.cells #[.int .i64 (xa + by_), .int .i64 P] 54)).drew
        have hsz2 : w2.heap.size ≤ ((wr.alloc (.cells #[.int .i64 (xa + by_), .int .i64 P] 54)).drew).heap.size := by simp; omega
        have HSZ := hide hsz2
        clear hX hsz2
        go_wp2_with fail
        go_region_held3 (fun w' => w'.cell? ⟨b, off + k * 2, none⟩ = some (.int .i64 xa) ∧ w'.cell? ⟨b, off + k * 2 + 1, none⟩ = some (.int .i64 xc))
          (first | exact HKS.out _ HN.out.2 | go_keep)
          ((refine step_appendS rfl _ _ 43 rfl w2.heap.size 54 j0 (.agg #[.int .i64 0, .int .i64 0]) 2 16 Try.underlying43 ji jz0 jz1 jz2 rfl (by decide) _ k (flatV vIP (M.take k)) rfl HOW.out wr.heap.size #[.int .i64 (xa + by_), .int .i64 P] 54 1 rfl HX.out rfl H1.out hbytes (by decide) HSZ.out ?_; intro g off' cap' w4 hown4 hg4 hat4; have HN := hide (HST.out.step (bDr (bAlloc (Below.refl _ wr) _)) hkm HG.out hown4 hg4); clear hown4 hg4 hat4))
        go_wp2_with fail
        go_roundw
        case rel => exact ⟨k + 1, by omega, by go_num, HN.out⟩
        case measure => simp [intOf]; omega
      · have hk' : k = l.length := by omega
        subst hk'
        have hM : SliceOf vIP 2 wr u15 M := by
          have h1 := HST.out
          rw [← Hml.out] at h1
          exact h1.slice
        have HM := hide hM
        have HU2 := hide (HU.out.below HST.out.2)
        replace B1 := hide (btrans B1.out B1.out.size HST.out.2)
        clear hM HST HC HMg Hml HU
        go_wp2_with fail
        rcases Bool.eq_false_or_eq_true (runB win ((1 + kk) * bud) M) with h2 | h2
        · refine (pre_run_at win ((1 + kk) * bud) M (runV win bud l) 0 _ _ HM.out (HS.out h2).symm (errC_yes h2)).mono ?_
          rintro e w3 ⟨t, rfl, ht, hb⟩
          have HT := hide ht
          replace HU2 := hide (HU2.out.below hb)
          replace B1 := hide (btrans B1.out B1.out.size hb)
          clear ht hb HM HS
          go_wp2_with fail
          refine (ref40_bools (runV win bud l) (runV win bud l) _ _ _ HU2.out HT.out).mono ?_
          rintro e w8 ⟨rfl, n, rfl⟩
          have e1 : decide (runV win bud l = runV win bud l) = true := by simp
          rw [e1]
          go_wp2_with fail
          go_ret
          exact ⟨rfl, below_drewN B1.out n⟩
        · refine (pre_run_at win ((1 + kk) * bud) M _ 1 _ _ HM.out rfl (errC_no h2)).mono ?_
          rintro e w3 ⟨t, rfl, ht, hb⟩
          replace B1 := hide (btrans B1.out B1.out.size hb)
          clear ht hb HM HS
          go_wp2_with fail
          go_ret
          exact ⟨rfl, B1.out⟩
  · exact main 1 (errC_no h1) (.inr rfl)
end Go.Proofs.Ytahlhiiekgnmpaa
