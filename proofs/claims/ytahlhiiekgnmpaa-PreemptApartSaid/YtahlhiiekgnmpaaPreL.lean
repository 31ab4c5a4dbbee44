/- head (the chapter's examples) and the statements PreemptMatchesReference, PreemptMore, PreemptBounded. -/
import Derived.Test.YtahlhiiekgnmpaaPreJ
import Derived.Test.YtahlhiiekgnmpaaPreK
namespace Go.Proofs.Ytahlhiiekgnmpaa
open Go.RowKit

theorem SliceOf.take {α : Type} {f : α → List Value} {size : Nat} {w : World} {ao : Option Addr} {n c k : Nat} {l : List α} (h : SliceOf f size w (.slice ao n c) l) (hk : k ≤ l.length) : SliceOf f size w (.slice ao k c) (l.take k) := by
  rcases h with ⟨ao', h1, h2⟩ | ⟨b, off, cap, h1, h2, h3, h5, h4⟩
  · subst h2
    obtain rfl : k = 0 := by simpa using hk
    simp only [Value.slice.injEq] at h1
    exact .inl ⟨ao, by rw [h1.2.2], rfl⟩
  · simp only [Value.slice.injEq] at h1
    obtain ⟨rfl, rfl, rfl⟩ := h1
    have e : (l.take k).length = k := by rw [List.length_take]; omega
    exact .inr ⟨b, off, c, by rw [e], h2, by omega, h5, fun i hi j u hu => h4 i (by omega) j u (by rw [← hu, List.getElem_take])⟩
/-- A slice literal. -/
theorem SliceOf.lit {α : Type} {f : α → List Value} {size : Nat} (hf : ∀ a, (f a).length = size) (w : World) (l : List α) (T : TypeId) (h : l.length ≤ maxLen) : SliceOf f size (w.alloc (.cells (flatV f l).toArray T)) (.slice (some ⟨w.heap.size, 0, none⟩) l.length l.length) l :=
  .inr ⟨w.heap.size, 0, l.length, rfl, by simp, Nat.le_refl _, h, fun i hi j u hu => by
    have hj : j < size := by
      have := (List.getElem?_eq_some_iff.1 hu).1
      rw [hf] at this; exact this
    rw [World.cell?_alloc_at _ _ _ _ rfl, Nat.zero_add]
    have := flatV_get hf l i hi j hj
    rw [hu] at this
    simpa using this⟩

def RunAt (w : World) (bs : List Bool) (f : Int) (e : Ending) (w' : World) : Prop :=
  ∃ u, e = .returned (.tuple #[u, .int .i64 f]) ∧ SliceOf vB 1 w' u bs ∧ Below w.heap.size w w'
theorem pre_run_at (win bud : Int) (l : List IP) (bs : List Bool) (f : Int) (vs : Value) (w : World) (h : SliceOf vIP 2 w vs l) (h1 : runV win bud l = bs) (h2 : errC (runB win bud l) = f) :
    Calls Try.prog 30 #[.int .i64 win, .int .i64 bud, vs] w (RunAt w bs f) := by
  subst h1 h2; exact pre_run win bud l vs w h
theorem ref40_run_at (win bud : Int) (l : List IP) (bs : List Bool) (f : Int) (vs : Value) (w : World) (h : SliceOf vIP 2 w vs l) (h1 : runV win bud l = bs) (h2 : errC (runB win bud l) = f) :
    Calls Try.prog 31 #[.int .i64 win, .int .i64 bud, vs] w (RunAt w bs f) := by
  subst h1 h2; exact ref40_run win bud l vs w h
theorem pre_worst_at (win : Int) (l : List IP) (t f : Int) (vs : Value) (w : World) (h : SliceOf vIP 2 w vs l) (h1 : worV win l = t) (h2 : errC (worB win l) = f) :
    Calls Try.prog 32 #[vs, .int .i64 win] w fun e w' => e = .returned (.tuple #[.int .i64 t, .int .i64 f]) ∧ Below w.heap.size w w' := by
  subst h1 h2; exact pre_worst win l vs w h
theorem pre_allow_at (win bud at_ cost : Int) (l : List IP) (t : Int) (vs : Value) (w : World) (h : SliceOf vIP 2 w vs l) (h1 : allowV win bud at_ cost l = t) :
    Calls Try.prog 34 #[vs, .int .i64 win, .int .i64 bud, .int .i64 at_, .int .i64 cost] w fun e w' => e = .returned (.int .i64 t) ∧ Below w.heap.size w w' := by
  subst h1; exact pre_allow win bud at_ cost l vs w h

def L5 : List IP := [(0, 3), (4, 2), (5, 1), (10, 3), (12, 1)]
theorem L5_run : runV 10 5 L5 = [true, true, false, true, false] := by decide +kernel
theorem L5_runB : errC (runB 10 5 L5) = 0 := by decide +kernel
theorem L5_worst : worV 10 L5 = 7 := by decide +kernel
theorem L5_worstB : errC (worB 10 L5) = 0 := by decide +kernel
theorem L5_allow1 : allowV 10 5 3 0 (L5.take 2) = 13 := by decide +kernel
theorem L5_allow2 : allowV 10 5 5 1 (L5.take 2) = 23 := by decide +kernel
theorem L5_allow3 : allowV 10 5 10 3 (L5.take 2) = 0 := by decide +kernel

set_option maxHeartbeats 1000000 in
set_option maxRecDepth 100000 in
theorem law40_head (w : World) : Calls Try.prog 29 #[] w fun e w' => e = .returned (.bool true) ∧ Below w.heap.size w w' := by
  go_enter Try.func29, Try.ntmps29
  go_wp2_with fail
  have hs : SliceOf vIP 2 (w.alloc (.cells (flatV vIP L5).toArray 54)) (.slice (some ⟨w.heap.size, 0, none⟩) 5 5) L5 := SliceOf.lit vIP_len w L5 54 (by decide)
  have b0 := (Below.refl w.heap.size w).alloc (Nat.le_refl _) (.cells (flatV vIP L5).toArray 54)
  refine (pre_run_at 10 5 L5 _ 0 _ _ hs L5_run L5_runB).mono ?_
  rintro e w1 ⟨u, rfl, hu, hb⟩
  have HS := hide (hs.below hb)
  have HU := hide hu
  have B1 := hide (btrans b0 b0.size hb)
  clear hs hu hb b0
  go_wp2_with fail
  refine (pre_worst_at 10 L5 7 0 _ _ HS.out L5_worst L5_worstB).mono ?_
  rintro e w2 ⟨rfl, hb⟩
  replace HS := hide (HS.out.below hb)
  replace HU := hide (HU.out.below hb)
  replace B1 := hide (btrans B1.out B1.out.size hb)
  clear hb
  go_wp2_with fail
  refine (pre_allow_at 10 5 3 0 (L5.take 2) 13 _ _ (HS.out.take (by decide)) L5_allow1).mono ?_
  rintro e w3 ⟨rfl, hb⟩
  replace HS := hide (HS.out.below hb)
  replace HU := hide (HU.out.below hb)
  replace B1 := hide (btrans B1.out B1.out.size hb)
  clear hb
  go_wp2_with fail
  refine (pre_allow_at 10 5 5 1 (L5.take 2) 23 _ _ (HS.out.take (by decide)) L5_allow2).mono ?_
  rintro e w4 ⟨rfl, hb⟩
  replace HS := hide (HS.out.below hb)
  replace HU := hide (HU.out.below hb)
  replace B1 := hide (btrans B1.out B1.out.size hb)
  clear hb
  go_wp2_with fail
  have hl : SliceOf vB 1 (w4.alloc (.cells (flatV vB [true, true, false, true, false]).toArray 4)) (.slice (some ⟨w4.heap.size, 0, none⟩) 5 5) [true, true, false, true, false] := SliceOf.lit vB_len w4 _ 4 (by decide)
  have hb := (Below.refl w4.heap.size w4).alloc (Nat.le_refl _) (.cells (flatV vB [true, true, false, true, false]).toArray 4)
  refine (ref40_bools [true, true, false, true, false] [true, true, false, true, false] _ _ _ (HU.out.below hb) hl).mono ?_
  rintro e w5 ⟨rfl, n, rfl⟩
  replace HS := hide ((HS.out.below hb).below (below_drewN (Below.refl _ _) n))
  replace B1 := hide (below_drewN (btrans B1.out B1.out.size hb) n)
  clear hb hl HU
  have e1 : decide (([true, true, false, true, false] : List Bool) = [true, true, false, true, false]) = true := by decide
  rw [e1]
  go_wp2_with fail
  refine (pre_allow_at 10 5 10 3 (L5.take 2) 0 _ _ (HS.out.take (by decide)) L5_allow3).mono ?_
  rintro e w6 ⟨rfl, hb⟩
  replace B1 := hide (btrans B1.out B1.out.size hb)
  clear hb
  go_wp2_with fail
  go_ret
  exact ⟨rfl, B1.out⟩

set_option maxHeartbeats 2000000 in
set_option maxRecDepth 100000 in
theorem preMatches_walk (l : List IP) (v : Value) (win bud at_ cost : Int) (w : World) (h : SliceOf vIP 2 w v l) :
    Calls Try.prog 8 #[v, .int .i64 win, .int .i64 bud, .int .i64 at_, .int .i64 cost] w fun e w' => e = .returned (.bool true) ∧ Below w.heap.size w w' := by
  obtain ⟨ao, cp, rfl⟩ := h.shape
  have H := hide h
  clear h
  by_cases hl : (210 : Int) < (l.length : Int)
  · go_enter Try.func8, Try.ntmps8
    go_wp2_with fail
    refine (law40_head _).mono ?_
    rintro e w1 ⟨rfl, hb⟩
    go_wp2_with fail
    go_ret
    exact ⟨rfl, hb⟩
  · go_enter Try.func8, Try.ntmps8
    go_wp2_with fail
    refine (law40_head _).mono ?_
    rintro e w1 ⟨rfl, hb⟩
    replace H := hide (H.out.below hb)
    have B1 := hide hb
    clear hb
    go_wp2_with fail
    refine (pre_run_at win bud l _ _ _ _ H.out rfl rfl).mono ?_
    rintro e w2 ⟨u, rfl, hu, hb⟩
    replace H := hide (H.out.below hb)
    have HU := hide hu
    replace B1 := hide (btrans B1.out B1.out.size hb)
    clear hb hu
    go_wp2_with fail
    refine (ref40_run_at win bud l _ _ _ _ H.out rfl rfl).mono ?_
    rintro e w3 ⟨u', rfl, hu', hb⟩
    replace H := hide (H.out.below hb)
    replace HU := hide (HU.out.below hb)
    have HU' := hide hu'
    replace B1 := hide (btrans B1.out B1.out.size hb)
    clear hb hu'
    go_wp2_with fail
    refine (pre_worst win l _ _ H.out).mono ?_
    rintro e w4 ⟨rfl, hb⟩
    replace H := hide (H.out.below hb)
    replace HU := hide (HU.out.below hb)
    replace HU' := hide (HU'.out.below hb)
    replace B1 := hide (btrans B1.out B1.out.size hb)
    clear hb
    go_wp2_with fail
    refine (ref40_worst win l _ _ H.out).mono ?_
    rintro e w5 ⟨rfl, n, rfl⟩
    have hb := below_drewN (Below.refl w4.heap.size w4) n
    replace H := hide (H.out.below hb)
    replace HU := hide (HU.out.below hb)
    replace HU' := hide (HU'.out.below hb)
    replace B1 := hide (btrans B1.out B1.out.size hb)
    clear hb
    go_wp2_with fail
    refine (pre_allow win bud at_ cost l _ _ H.out).mono ?_
    rintro e w6 ⟨rfl, hb⟩
    replace H := hide (H.out.below hb)
    replace HU := hide (HU.out.below hb)
    replace HU' := hide (HU'.out.below hb)
    replace B1 := hide (btrans B1.out B1.out.size hb)
    clear hb
    go_wp2_with fail
    refine (ref40_allow win bud at_ cost l _ _ H.out).mono ?_
    rintro e w7 ⟨rfl, m, rfl⟩
    have hb := below_drewN (Below.refl w6.heap.size w6) m
    replace HU := hide (HU.out.below hb)
    replace HU' := hide (HU'.out.below hb)
    replace B1 := hide (btrans B1.out B1.out.size hb)
    clear hb
    go_wp2_with fail
    refine (ref40_bools (runV win bud l) (runV win bud l) _ _ _ HU.out HU'.out).mono ?_
    rintro e w8 ⟨rfl, q, rfl⟩
    have e1 : decide (runV win bud l = runV win bud l) = true := by simp
    rw [e1]
    go_wp2_with fail
    go_ret
    have B2 := below_drewN B1.out q
    rw [World.drewN_drewN] at B2
    exact ⟨rfl, B2⟩

theorem errC_yes {b : Bool} (h : b = true) : errC b = 0 := by rw [h]; rfl
theorem errC_no {b : Bool} (h : b = false) : errC b = 1 := by rw [h]; rfl
theorem runV_yes {win bud : Int} {l : List IP} (h : runB win bud l = true) : runV win bud l = outK win bud l l.length := by unfold runV; rw [if_pos h]
theorem runV_no {win bud : Int} {l : List IP} (h : runB win bud l = false) : runV win bud l = [] := by unfold runV; rw [h]; rfl
theorem runB_iff {win bud : Int} {l : List IP} : runB win bud l = true ↔ vldL l = true ∧ limB win bud = true := by unfold runB; simp
/-- The cells of the decisions. -/
theorem out_cells {win bud : Int} {l : List IP} {w : World} {ao : Option Addr} {c : Nat} (h : SliceOf vB 1 w (.slice ao (outK win bud l l.length).length c) (outK win bud l l.length)) (hpos : 0 < l.length) :
    ∃ b off, ao = some ⟨b, off, none⟩ ∧ b < w.heap.size ∧ ∀ k, k < l.length → w.cell? ⟨b, off + k, none⟩ = some (.bool (decK win bud l k)) := by
  have hl := outK_length win bud l l.length
  obtain ⟨b, off, cap, hv, hb, _, _, hc⟩ := h.some_of_pos (by omega)
  simp only [Value.slice.injEq] at hv
  refine ⟨b, off, hv.1, hb, fun k hk => ?_⟩
  have h1 := b_cells hc (k := k) (by omega)
  have h2 := outK_get (win := win) (bud := bud) (l := l) hk
  rw [List.getElem?_eq_getElem (by omega)] at h2
  rw [h1]
  simp only [Option.some.injEq] at h2
  rw [h2]

set_option maxHeartbeats 2000000 in
set_option maxRecDepth 100000 in
theorem preMore_walk (l : List IP) (v : Value) (win bud by_ : Int) (w : World) (h : SliceOf vIP 2 w v l) (b0 : -9223372036854775808 ≤ bud) (y0 : 0 ≤ by_) (y1 : by_ < 65536) :
    Calls Try.prog 10 #[v, .int .i64 win, .int .i64 bud, .int .u16 by_] w fun e w' => e = .returned (.bool true) ∧ Below w.heap.size w w' := by
  obtain ⟨ao, cp, rfl⟩ := h.shape
  have H := hide h
  clear h
  by_cases hl : (60 : Int) < (l.length : Int)
  · go_enter Try.func10, Try.ntmps10
    go_wp2_with fail
    refine (law40_head _).mono ?_
    rintro e w1 ⟨rfl, hb⟩
    go_wp2_with fail
    go_ret
    exact ⟨rfl, hb⟩
  by_cases hbud : 1000000 < bud
  · go_enter Try.func10, Try.ntmps10
    go_wp2_with fail
    refine (law40_head _).mono ?_
    rintro e w1 ⟨rfl, hb⟩
    go_wp2_with fail
    go_ret
    exact ⟨rfl, hb⟩
  go_enter Try.func10, Try.ntmps10
  go_wp2_with fail
  refine (law40_head _).mono ?_
  rintro e w1 ⟨rfl, hb⟩
  replace H := hide (H.out.below hb)
  have B1 := hide hb
  clear hb
  rcases Bool.eq_false_or_eq_true (runB win bud l) with h1 | h1
  · rcases Bool.eq_false_or_eq_true (runB win (bud + by_) l) with h2 | h2
    · have hlen := outK_length win bud l l.length
      have hlen' := outK_length win (bud + by_) l l.length
      go_wp2_with fail
      refine (pre_run_at win bud l _ 0 _ _ H.out (runV_yes h1) (errC_yes h1)).mono ?_
      rintro e w2 ⟨u, rfl, hu, hb⟩
      replace H := hide (H.out.below hb)
      have HU := hide hu
      replace B1 := hide (btrans B1.out B1.out.size hb)
      clear hb hu
      go_wp2_with fail
      refine (pre_run_at win (bud + by_) l _ 0 _ _ H.out (runV_yes h2) (errC_yes h2)).mono ?_
      rintro e w3 ⟨u', rfl, hu', hb⟩
      replace H := hide (H.out.below hb)
      replace HU := hide (HU.out.below hb)
      have HU' := hide hu'
      replace B1 := hide (btrans B1.out B1.out.size hb)
      clear hb hu'
      obtain ⟨uo, uc, rfl⟩ := HU.out.shape
      obtain ⟨uo', uc', rfl⟩ := HU'.out.shape
      have HX := hide fun hp => out_cells HU.out hp
      have HX' := hide fun hp => out_cells HU'.out hp
      clear HU HU'
      have hi1 : ((outK win bud l l.length).length : Int) = (l.length : Int) := by rw [hlen]
      have hi2 : ((outK win (bud + by_) l l.length).length : Int) = (l.length : Int) := by rw [hlen']
      rw [hlen, hlen'] at *
      go_wp2_with fail
      go_loopw [14] (fun i wr => ∃ (k n : Nat), k ≤ l.length ∧ i = .int .i64 k ∧ (∀ j, j < k → decK win bud l j = decK win (bud + by_) l j) ∧ wr = w3.drewN n) (fun i _ => l.length - (intOf i).toNat)
      case atStart => exact ⟨0, 0, Nat.zero_le _, rfl, (fun j hj => absurd hj (Nat.not_lt_zero j)), rfl⟩
      case round =>
        obtain ⟨k, n, hk, rfl, hsame, rfl⟩ := hrel
        have HSame := hide hsame
        clear hsame
        by_cases hlt : k < l.length
        · obtain ⟨b, off, rfl, hbw, hc⟩ := HX.out (by omega)
          obtain ⟨b', off', rfl, hbw', hc'⟩ := HX'.out (by omega)
          have z0 := hc k hlt
          have z1 := hc' k hlt
          have hki : (k : Int) < (l.length : Int) := by omega
          have HF := hide (fun hne => more_first (win := win) (bud := bud) (bud' := bud + by_) (l := l) (n := k) (by omega) HSame.out hne)
          clear hc hc'
          obtain ⟨p, hp⟩ : ∃ p, decK win bud l k = p := ⟨_, rfl⟩
          obtain ⟨q, hq⟩ : ∃ q, decK win (bud + by_) l k = q := ⟨_, rfl⟩
          rw [hp] at z0
          rw [hq] at z1
          by_cases he : p = q
          · have HN : Hid (∀ j, j < k + 1 → decK win bud l j = decK win (bud + by_) l j) := by
              intro j hj
              by_cases e : j = k
              · subst e; rw [hp, hq, he]
              · exact HSame.out j (by omega)
            clear hp hq
            subst he
            have he1 : (p == p) = true := by simp
            go_wp2
            go_quiet (fail)
            go_wp2
            go_roundw
            case rel => exact ⟨k + 1, _, by omega, by go_num, HN.out, by first | rfl | exact World.drewN_drewN _ _ _⟩
            case measure => simp [intOf]; omega
          · have hqt : q = true := by rw [← hq]; exact HF.out (by rw [hp, hq]; exact he)
            have he1 : (p == q) = false := by simpa using he
            subst hqt
            have hpf : p = false := by simpa using he
            clear hp hq he
            subst hpf
            go_wp2
            go_quiet (fail)
            go_wp2
            go_ret
            exact ⟨rfl, by first | exact below_drewN (below_drewN B1.out _) _ | exact below_drewN B1.out _⟩
        · have hk' : k = l.length := by omega
          subst hk'
          go_wp2_with fail
          go_ret
          exact ⟨rfl, below_drewN B1.out n⟩
    · go_wp2_with fail
      refine (pre_run_at win bud l _ 0 _ _ H.out rfl (errC_yes h1)).mono ?_
      rintro e w2 ⟨u, rfl, hu, hb⟩
      replace H := hide (H.out.below hb)
      replace B1 := hide (btrans B1.out B1.out.size hb)
      clear hb hu
      go_wp2_with fail
      refine (pre_run_at win (bud + by_) l _ 1 _ _ H.out rfl (errC_no h2)).mono ?_
      rintro e w3 ⟨u', rfl, hu', hb⟩
      replace B1 := hide (btrans B1.out B1.out.size hb)
      clear hb hu'
      go_wp2_with fail
      go_ret
      exact ⟨rfl, B1.out⟩
  · go_wp2_with fail
    refine (pre_run_at win bud l _ 1 _ _ H.out rfl (errC_no h1)).mono ?_
    rintro e w2 ⟨u, rfl, hu, hb⟩
    replace H := hide (H.out.below hb)
    replace B1 := hide (btrans B1.out B1.out.size hb)
    clear hb hu
    go_wp2_with fail
    refine (pre_run_at win (bud + by_) l _ _ _ _ H.out rfl rfl).mono ?_
    rintro e w3 ⟨u', rfl, hu', hb⟩
    replace B1 := hide (btrans B1.out B1.out.size hb)
    clear hb hu'
    go_wp2_with fail
    go_ret
    exact ⟨rfl, B1.out⟩
end Go.Proofs.Ytahlhiiekgnmpaa
