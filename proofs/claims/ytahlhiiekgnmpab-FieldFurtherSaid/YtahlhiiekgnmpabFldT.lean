/- The laws of layer 6: different, points; FieldInterpolates. -/
import Derived.Test.YtahlhiiekgnmpabFldS
import Derived.Test.YtahlhiiekgnmpabAppend
namespace Go.Proofs.Ytahlhiiekgnmpab
open Go.RowKit

def difB (l : List Int) : Bool := decide l.Nodup
theorem dif_iff (l : List Int) : difB l = true ↔ ∀ p q, p < q → q < l.length → l.getD p 0 ≠ l.getD q 0 := by
  unfold difB
  rw [decide_eq_true_iff, List.nodup_iff_pairwise_ne, List.pairwise_iff_getElem]
  constructor
  · intro h p q h1 h2
    have := h p q (by omega) h2 h1
    simpa [List.getD, h2, show p < l.length by omega] using this
  · intro h p q h1 h2 h3
    have := h p q h3 h2
    simpa [List.getD, h1, h2] using this
theorem getI_at {l : List Int} {k : Nat} (h : k < l.length) : l[k] = l.getD k 0 := by simp [List.getD, h]

set_option maxHeartbeats 1000000 in
theorem law06_different (l : List Int) (v : Value) (w : World) (h : SliceOf vI 1 w v l) :
    Calls Try.prog 21 #[v] w fun e w' => e = .returned (.bool (difB l)) ∧ ∃ n, w.drewN n = w' := by
  obtain ⟨ao, cp, rfl⟩ := h.shape
  have HC : Hid (0 < l.length → ∃ b off, ao = some ⟨b, off, none⟩ ∧ l.length ≤ cp ∧ cp ≤ maxLen ∧ ∀ k, k < l.length → w.cell? ⟨b, off + k, none⟩ = some (.int .i64 (l.getD k 0))) := by
    intro h0
    obtain ⟨b, off, h1, _, h2, h3, h4⟩ := h.at_ h0
    exact ⟨b, off, h1, h2, h3, fun k hk => by rw [← getI_at hk]; exact int_cell h4 hk⟩
  clear h
  have HD := hide (dif_iff l)
  go_enter Try.func21, Try.ntmps21
  go_wp2_with fail
  go_loopw [3] (fun i wr => ∃ k n : Nat, k ≤ l.length ∧ i = .int .i64 k ∧ wr = w.drewN n ∧ ∀ p q, p < q → q < k → l.getD p 0 ≠ l.getD q 0) (fun i _ => l.length - (intOf i).toNat)
  case atStart => exact ⟨0, 0, Nat.zero_le _, rfl, rfl, fun p q _ h => absurd h (Nat.not_lt_zero q)⟩
  case round =>
    obtain ⟨k, n, hk, rfl, rfl, hall⟩ := hrel
    have HA := hide hall
    clear hall
    by_cases hlt : k < l.length
    · obtain ⟨b, off, rfl, h1, h2, hc⟩ := HC.out (by omega)
      have hm : (cp : Int) ≤ 9223372036854775807 := by unfold maxLen at h2; omega
      have hki : (k : Int) < (l.length : Int) := by omega
      have hk0 : (0 : Int) ≤ (k : Int) := by omega
      have hx := hc k hlt
      have HC2 := hide hc
      clear hc h2 HC
      obtain ⟨x, hxx⟩ : ∃ x, l.getD k 0 = x := ⟨_, rfl⟩
      rw [hxx] at hx
      have HXX := hide hxx
      clear hxx
      go_wp2_with fail
      go_loopw [4] (fun i wr => ∃ m n : Nat, m ≤ k ∧ i = .int .i64 m ∧ wr = w.drewN n ∧ ∀ p, p < m → l.getD p 0 ≠ x) (fun i _ => k - (intOf i).toNat)
      case atStart => exact ⟨0, n, Nat.zero_le _, rfl, rfl, fun p h => absurd h (Nat.not_lt_zero p)⟩
      case round =>
        obtain ⟨m, n, hm2, rfl, rfl, hno⟩ := hrel
        have HN := hide hno
        clear hno
        by_cases hmt : m < k
        · have hy := HC2.out m (by omega)
          have hmi : (m : Int) < (l.length : Int) := by omega
          have hmk : (m : Int) < (k : Int) := by omega
          have hm0 : (0 : Int) ≤ (m : Int) := by omega
          obtain ⟨y, hyy⟩ : ∃ y, l.getD m 0 = y := ⟨_, rfl⟩
          rw [hyy] at hy
          have HYY := hide hyy
          clear hyy
          by_cases hxy : x = y
          · have he : (x == y) = true := by rw [hxy]; simp
            have HF : Hid (difB l = false) := by
              show difB l = false
              rcases Bool.eq_false_or_eq_true (difB l) with h | h
              · exact absurd (by rw [HXX.out, HYY.out, hxy]) ((HD.out.1 h) m k hmt hlt)
              · exact h
            clear hxy
            go_wp2_with fail
            go_quiet (fail)
            go_wp2_with fail
            go_ret
            exact ⟨ret_bool HF.out.symm, _, by first | rfl | exact (World.drewN_drewN _ _ _).symm⟩
          · have he : (x == y) = false := beq_eq_false_iff_ne.2 hxy
            have HN2 : Hid (∀ p, p < m + 1 → l.getD p 0 ≠ x) := fun p hp => by
              by_cases e : p = m
              · rw [e, HYY.out]; exact fun h => hxy h.symm
              · exact HN.out p (by omega)
            clear hxy
            go_wp2_with fail
            go_quiet (fail)
            go_wp2_with fail
            go_roundw
            case rel => exact ⟨m + 1, _, by omega, by go_num, by first | rfl | exact World.drewN_drewN _ _ _, HN2.out⟩
            case measure => simp [intOf]; omega
        · have hm' : m = k := by omega
          subst hm'
          have HA2 : Hid (∀ p q, p < q → q < m + 1 → l.getD p 0 ≠ l.getD q 0) := fun p q h1 h2 => by
            by_cases e : q = m
            · rw [e, HXX.out]; exact HN.out p (by omega)
            · exact HA.out p q h1 (by omega)
          go_wp2_with fail
          go_roundw
          case rel => exact ⟨m + 1, n, by omega, by go_num, rfl, HA2.out⟩
          case measure => simp [intOf]; omega
    · have hk' : k = l.length := by omega
      subst hk'
      have HT : Hid (difB l = true) := HD.out.2 HA.out
      by_cases h0 : 0 < l.length
      · obtain ⟨b, off, rfl, h1, h2, hc⟩ := HC.out h0
        clear hc
        unfold maxLen at h2
        go_wp2_with fail
        go_ret
        exact ⟨ret_bool HT.out.symm, n, rfl⟩
      · go_wp2_with fail
        go_ret
        exact ⟨ret_bool HT.out.symm, n, rfl⟩
theorem law06_different_at (l : List Int) (p : Bool) (v : Value) (w : World) (h : SliceOf vI 1 w v l) (hp : difB l = p) :
    Calls Try.prog 21 #[v] w fun e w' => e = .returned (.bool p) ∧ ∃ n, w.drewN n = w' := by
  subst hp; exact law06_different l v w h

theorem Try.infoP2 : (Try.prog.info? 39).map (fun i => (i.zero, i.size, i.bytes)) = some (some (.agg #[.int .i64 0, .int .i64 0]), 2, 16) := by kernel_rfl
def ptsOf (cs ys : List FP) : List (FP × FP) := ys.map fun y => (y, evalP cs y)
def PtsPost (w : World) (M : List (FP × FP)) (e : Ending) (w' : World) : Prop := ∃ u, e = .returned (.tuple #[u, .bool true]) ∧ SliceOf vF2 2 w' u M ∧ Below w.heap.size w w'

set_option maxHeartbeats 1000000 in
set_option maxRecDepth 100000 in
theorem law06_points (cs ys : List FP) (vc vy : Value) (w : World) (hc : SliceOf vI 1 w vc (cs.map va)) (hy : SliceOf vI 1 w vy (ys.map va)) (hl : cs.length ≤ 16) (hn : ys.length ≤ 16) :
    Calls Try.prog 22 #[vc, vy] w (PtsPost w (ptsOf cs ys)) := by
  obtain ⟨i0, hi, hz0, hz1, hz2⟩ := info_parts Try.infoP2
  obtain ⟨ao, cp, rfl⟩ := (slice_va hc).shape
  obtain ⟨bo, cq, rfl⟩ := (slice_va hy).shape
  have HP := hide hc
  have HC := hide (slice_va hy).at_
  clear hc hy
  obtain ⟨M, hM⟩ : ∃ M, ptsOf cs ys = M := ⟨_, rfl⟩
  have HML : Hid (M.length = ys.length) := by show M.length = _; rw [← hM]; simp [ptsOf]
  have HMG : Hid (∀ k (hk : k < ys.length) (hk' : k < M.length), M[k] = (ys[k], evalP cs ys[k])) := fun k hk hk' => by subst hM; simp [ptsOf]
  rw [hM]
  clear hM
  have hn' : (ys.length : Int) ≤ 16 := by omega
  go_enter Try.func22, Try.ntmps22
  go_wp2_with fail
  go_loopw [6, 7] (fun u i wr => ∃ k : Nat, k ≤ ys.length ∧ i = .int .i64 k ∧ Bld vF2 2 w wr M u k) (fun _ i _ => ys.length - (intOf i).toNat)
  case atStart => exact ⟨0, Nat.zero_le _, rfl, Bld.nil _ _ _ _⟩
  case round =>
    obtain ⟨k, hk, rfl, hst⟩ := hrel
    have HST := hide hst
    clear hst
    by_cases hlt : k < ys.length
    · obtain ⟨b, off, rfl, hb, h1, h2, hc⟩ := HC.out (by omega)
      have z0 := f_cell hc hlt
      have hm : (cq : Int) ≤ 9223372036854775807 := by unfold maxLen at h2; omega
      have hki : (k : Int) < (ys.length : Int) := by omega
      have hk0 : (0 : Int) ≤ (k : Int) := by omega
      have hkM : k < M.length := by rw [HML.out]; exact hlt
      have HG := hide (HMG.out k hlt hkM)
      have y0 := keep_cell HST.out.below z0
      clear hc hb h2 z0
      obtain ⟨y, hyy⟩ : ∃ y, ys[k] = y := ⟨_, rfl⟩
      rw [hyy] at y0 HG
      clear hyy
      have HP2 := hide (HP.out.below HST.out.below)
      have HOW := hide (HST.out.own)
      have HSZ := hide HST.out.below.size
      have hone : ∀ u ∈ (#[Value.int .i64 (va y), Value.int .i64 (va (evalP cs y))] : Array Value).toList, u.oneCell' = true := by
        intro u hu
        simp at hu
        rcases hu with rfl | rfl <;> rfl
      have H1 := hide hone
      clear hone
      have hbytes : (k + 1) * 16 ≤ 140737488355328 := by omega
      go_wp2_with fail
      refine (fld_eval_ok cs y _ _ HP2.out hl).mono ?_
      rintro e w' ⟨rfl, rfl⟩
      go_wp2_with (at_builtin; refine wpList_appendS rfl _ _ 34 rfl w.heap.size 39 i0 (.agg #[.int .i64 0, .int .i64 0]) 2 16 Try.underlying34 hi hz0 hz1 hz2 rfl (by decide) _ k (flatV vF2 (M.take k)) rfl HOW.out #[.int .i64 (va y), .int .i64 (va (evalP cs y))] 39 1 rfl rfl H1.out hbytes (by decide) HSZ.out ?_)
      intro g off' cap' w4 hown4 hg4 hb4 hat4
      have HN := hide (HST.out.step (Below.refl _ wr) hkM HG.out rfl hown4 hg4)
      clear hown4 hg4 hb4 hat4
      go_wp2_with fail
      go_roundw
      case rel => exact ⟨k + 1, by omega, by go_num, HN.out⟩
      case measure => simp [intOf]; omega
    · have hk' : k = ys.length := by omega
      subst hk'
      have HN : Hid (SliceOf vF2 2 wr u6 M) := by
        have h1 := HST.out
        rw [← HML.out] at h1
        exact h1.to_slice vF2_len
      by_cases h0 : 0 < ys.length
      · obtain ⟨b, off, rfl, hb, h1, h2, hc⟩ := HC.out h0
        clear hc hb
        unfold maxLen at h2
        go_wp2_with fail
        go_ret2
        exact ⟨_, rfl, HN.out, HST.out.below⟩
      · go_wp2_with fail
        go_ret2
        exact ⟨_, rfl, HN.out, HST.out.below⟩
end Go.Proofs.Ytahlhiiekgnmpab
