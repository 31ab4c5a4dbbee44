/- natural: div, the walk. -/
import Derived.Test.YtbojlmnajndleaaGreatDoorNatF
set_option linter.unusedVariables false
set_option linter.unusedSimpArgs false
namespace Go.Proofs.YtbojlmnajndleaaGreatDoor
open Go.RowKit

theorem times_at (l : List Nat) (u : Value) (z : Int) (q : Nat) (w : World) (hz : z = (q : Int)) (hu : SliceOf vN 1 w u l) (hl : l.length ≤ 900000) (hL : Lm l) (hq : q < 1000000000) :
    Calls Tryz.prog 101 #[u, .int .i64 z] w (LimF w (q * lval l)) := by
  subst hz; exact times_any l u q w hu hl hL hq
theorem OwnS.lit1 (w : World) (x : Nat) (T : TypeId) : OwnS (w.alloc (.cells #[.int .i64 (x : Int)] T)) w.heap.size 1 (.slice (some ⟨w.heap.size, 0, none⟩) 1 1) 1 (flatV vN [x]) := by
  refine ⟨rfl, .inr ⟨w.heap.size, 0, 1, rfl, Nat.le_refl _, by simp, Nat.le_refl _, by unfold maxLen; omega, fun j hj => ⟨?_, by simp [go_sem]⟩, fun j u hu => ?_⟩⟩
  · obtain rfl : j = 0 := by omega
    rw [World.cell?_alloc_at _ _ _ _ rfl]; rfl
  · have hj : j < 1 := (List.getElem?_eq_some_iff.1 hu).1
    obtain rfl : j = 0 := by omega
    rw [World.cell?_alloc_at _ _ _ _ rfl]
    have : (Value.int .i64 (x : Int)) = u := by simpa [flatV, vN] using hu
    rw [← this]; rfl
theorem lim_len_mono {a b : Nat} (h : a ≤ b) : (lim a).length ≤ (lim b).length := lim_len_le (Nat.lt_of_le_of_lt h (lim_lt b))
theorem lim_len_up {y r : Nat} (h : r < Bs * y) : (lim r).length ≤ (lim y).length + 1 := by
  apply lim_len_le
  have h1 := lim_lt y
  rw [Nat.pow_succ, Nat.mul_comm]
  exact Nat.lt_of_lt_of_le h (Nat.mul_le_mul_left _ (Nat.le_of_lt h1))
theorem rest_lt {x r y : Nat} (hx : x < Bs) (hr : r < y) : x + Bs * r < Bs * y := by
  have : Bs * r + Bs ≤ Bs * y := by rw [← Nat.mul_succ]; exact Nat.mul_le_mul_left _ hr
  omega
theorem cons_own {w w' : World} {B : Nat} {ao : Option Addr} {cap x : Nat} {r : Nat} (h : OwnS w' B 1 (.slice ao (1 + (lim r).length) cap) (1 + (lim r).length) (flatV vN [x] ++ flatV vN (lim r))) : SliceOf vN 1 w' (.slice ao (1 + (lim r).length) cap) (x :: lim r) := by
  refine OwnS.slice vN_len (B := B) ?_
  have e : (x :: lim r).length = 1 + (lim r).length := by simp; omega
  rw [e]
  have e2 : flatV vN (x :: lim r) = flatV vN [x] ++ flatV vN (lim r) := by rw [← flatV_append]; rfl
  rw [e2]; exact h
theorem own_cell {w : World} {B n : Nat} {g off cap : Nat} {vs : List Value} (h : OwnS w B 1 (.slice (some ⟨g, off, none⟩) n cap) n vs) {i : Nat} (hi : i < n) : (∃ u, w.cell? ⟨g, off + i, none⟩ = some u) ∧ w.frozen? ⟨g, off + i, none⟩ = false := by
  rcases h.2 with ⟨ao, h1, h2, _⟩ | ⟨g', off', cap', hv, hb, hlt, hn, hm, hc, hx⟩
  · omega
  · simp only [Value.slice.injEq, Option.some.injEq, Addr.mk.injEq, and_true, true_and] at hv
    obtain ⟨⟨rfl, rfl⟩, rfl⟩ := hv
    have := hc i (by omega)
    exact ⟨Option.isSome_iff_exists.1 this.1, this.2⟩

theorem SliceOf.set_away {α : Type} {f : α → List Value} {size : Nat} {w : World} {v : Value} {l : List α} (h : SliceOf f size w v l) {b : Nat} (hb : v.ownBlock ≠ some b) (o : Nat) (u : Value) : SliceOf f size (w.setCell ⟨b, o, none⟩ u) v l := by
  rcases h with h | ⟨g, off, cap, h1, h2, h3, h5, h4⟩
  · exact .inl h
  · have hne : g ≠ b := fun e => hb (by rw [h1, e]; rfl)
    exact .inr ⟨g, off, cap, h1, by simpa using h2, h3, h5, fun i hi j u' hu => by rw [World.cell?_setCell_other _ _ _ _ (by intro e; injection e; omega)]; exact h4 i hi j u' hu⟩

set_option maxHeartbeats 8000000 in
set_option maxRecDepth 100000 in
theorem div_any (l : List Nat) (y : Nat) (u v : Value) (w : World) (hu : SliceOf vN 1 w u l) (hv : SliceOf vN 1 w v (lim y)) (hl : l.length ≤ 100000) (hyl : (lim y).length ≤ 100000) (hL : Lm l) (hy : 0 < y) :
    Calls Tryz.prog 80 #[u, v] w (DivPost w (lval l) y) := by
  have HHB : Hid (∀ k (h : k < l.length), ∃ bb off cap, u = .slice (some ⟨bb, off, none⟩) l.length cap ∧ w.cell? ⟨bb, off + k, none⟩ = some (.int .i64 (l[k] : Int))) := fun k h => by
    obtain ⟨bb, off, cap, e, _, _, _, hc⟩ := hu.some_of_pos (by omega)
    exact ⟨bb, off, cap, e, nat_cell hc h⟩
  have HY := hide hv
  obtain ⟨ao, cp, rfl⟩ := hu.shape
  obtain ⟨yo, yc, rfl⟩ := hv.shape
  clear hu hv
  obtain ⟨i0, hi, hz0, hz1, hz2⟩ := info_parts Tryz.infoInt
  have HI := hide hi
  have HZ0 := hide hz0
  have HZ1 := hide hz1
  have HZ2 := hide hz2
  have HLm := hide hL
  clear hi hz0 hz1 hz2 hL
  obtain ⟨n, hn⟩ : ∃ n, l.length = n := ⟨_, rfl⟩
  have HN := hide hn
  have HD0 := hide (DivI.start w l y hy (by unfold maxLen; omega))
  have HZT := hide (ZerosTo.start l.length)
  rw [hn] at hl HD0 HZT ⊢
  clear hn
  have hmk := run_make_row' (P := Tryz.prog) 79 3 (.int .i64 0) 8 Tryz.underlying79 Tryz.infoInt rfl .i64 .i64 n (by omega) (by omega)
  have hs : IntKind.i64.wrap ((n : Int) - 1) = (n : Int) - 1 := IntWalk.i64_in _ (by omega)
  have H0 : Hid (lim 0 = []) := lim_zero
  go_enter Tryz.func80, Tryz.ntmps80
  go_wp2_with fail
  clear hmk hs
  go_loopw [7, 8] (fun z x wx => ∃ (k : Nat) (qs : List Nat) (r : Nat), k ≤ n ∧ x = .int .i64 ((k : Int) - 1) ∧ SliceOf vN 1 wx z (lim r) ∧ DivI wx w.heap.size l y k (.slice (some ⟨w.heap.size, 0, none⟩) n n) qs r ∧ ZerosTo qs k ∧ Below w.heap.size w wx) (fun _ x _ => (intOf x + 1).toNat)
  case atStart =>
    refine ⟨n, _, 0, Nat.le_refl _, rfl, ?_, HD0.out.below (by first | exact Below.refl _ _ | exact bAlloc (Below.refl _ _) _), HZT.out, by first | exact bAlloc (Below.refl _ _) _ | exact bAlloc (bAlloc (Below.refl _ _) _) _⟩
    rw [H0.out]; exact .inl ⟨_, rfl, rfl⟩
  case round =>
    obtain ⟨k, qs, r, hk, rfl, hs, hd, hzt, hbl⟩ := hrel
    have HS := hide hs
    have HD := hide hd
    have HZ := hide hzt
    have HB := hide hbl
    obtain ⟨zo, zc, rfl⟩ := hs.shape
    clear hs hd hzt hbl HD0 HZT
    by_cases hk0 : 0 < k
    · obtain ⟨j, rfl⟩ : ∃ j, k = j + 1 := ⟨k - 1, by omega⟩
      have hjc : ((j + 1 : Nat) : Int) - 1 = (j : Int) := by omega
      rw [hjc]
      have hj0 : (0 : Int) ≤ (j : Int) := by omega
      have hj1 : (j : Int) < (n : Int) := by omega
      have hjl : j < l.length := by have := HN.out; omega
      obtain ⟨b1, o1, cp1, e1, c1⟩ := HHB.out j hjl
      simp only [Value.slice.injEq] at e1
      obtain ⟨rfl, _, rfl⟩ := e1
      have HQB : Hid (w.heap.size < wr.heap.size) := by
        have hown := HD.out.own
        rw [HN.out] at hown
        exact (hown.lt _ rfl).2
      have hx : l[j] < Bs := HLm.out _ (List.getElem_mem hjl)
      have c1' := keep_cell HB.out c1
      obtain ⟨x, hxe⟩ : ∃ x, l[j] = x := ⟨_, rfl⟩
      have HX := hide hxe
      rw [hxe] at c1' hx
      clear hxe c1
      have hrlt := HD.out.lt
      have hr1 := lim_len_mono (Nat.le_of_lt hrlt)
      have hr2 : x + Bs * r < Bs * y := rest_lt hx hrlt
      have hr3 := lim_len_up hr2
      have HR2 := hide hr2
      have HXB := hide hx
      have hx63 : 1 + (lim r).length ≤ maxLen := by unfold maxLen; omega
      have hxby : (1 + (lim r).length) * 8 ≤ 140737488355328 := by omega
      have HX63 := hide hx63
      have HXBY := hide hxby
      have HOL := hide (OwnS.lit1 wr x 3)
      have HSL := hide (HS.out.below (bAlloc (Below.refl _ wr) (.cells #[.int .i64 (x : Int)] 3)))
      clear hx63 hxby hx hr2
      go_wp2_with (at_builtin; refine wpList_append_slice rfl _ _ 79 rfl wr.heap.size 3 i0 (.int .i64 0) 1 8 Tryz.underlying79 HI.out HZ0.out HZ1.out HZ2.out rfl (by decide) vN_len vN_one _ 1 (flatV vN [x]) rfl HOL.out _ (lim r) rfl HSL.out HX63.out HXBY.out (by simp) ?_)
      intro ao2 cap2 w3 hown3 hg3 hb3
      have HS3 := hide (cons_own (w := wr) hown3)
      have HB3 : Hid (Below wr.heap.size wr w3) := (Below.refl _ wr).alloc (Nat.le_refl _) _ |>.trans hb3
      have hl3 : (x :: lim r).length ≤ 1000000 := by simp; omega
      have HLM3 : Hid (Lm (x :: lim r)) := fun d hd => by
        rcases List.mem_cons.1 hd with e | e
        · rw [e]; exact HXB.out
        · exact lim_Lm r d e
      clear hown3 hg3 hb3 HOL HSL
      go_wp2_with fail
      refine (trimmed_any (x :: lim r) _ _ HS3.out hl3 HLM3.out).mono ?_
      rintro e w4 ⟨⟨v4, rfl, hs4, _⟩, rfl⟩
      rw [cons_lim] at hs4
      have HS4 := hide hs4
      obtain ⟨ro, rc, rfl⟩ := hs4.shape
      clear hs4 HS3 HLM3
      obtain ⟨R, hR⟩ : ∃ R, x + Bs * r = R := ⟨_, rfl⟩
      have HR := hide hR
      rw [hR] at HS4 HR2 hr3 ⊢
      clear hR
      have HY3 := hide (HY.out.below (bStep HB.out HB3.out))
      go_wp2_with fail
      refine (compare_any R y _ _ _ HS4.out HY3.out (by omega) (by omega)).mono ?_
      rintro e w5 ⟨rfl, m5, rfl⟩
      have HB5 := hide (below_drewN HB3.out m5)
      have HS5 := hide (HS4.out.below (below_drewN (Below.refl _ _) m5))
      clear HS4 HY3 HB3
      by_cases hlt : R < y
      · rw [cmpN_lt hlt]
        have HLT := hide hlt
        have hz : qs.drop j = 0 :: qs.drop (j + 1) := zeros_at HZ.out (by rw [HD.out.len]; exact hjl)
        have HD6 := hide (HD.out.skip hjl HB5.out hz (by rw [HX.out, HR.out]; exact hlt))
        rw [HX.out, HR.out] at HD6
        have HB6 := hide (bStep HB.out HB5.out)
        have q5 : IntKind.i64.wrap ((j : Int) - 1) = (j : Int) - 1 := IntWalk.i64_in _ (by omega)
        clear hlt hz
        go_wp2_with fail
        go_roundw
        case rel => exact ⟨j, qs, R, by omega, by first | rfl | go_num, HS5.out, HD6.out, HZ.out.less, HB6.out⟩
        case measure => (simp [intOf]; try omega)
      · have hcm : ¬ cmpN R y < 0 := by rw [cmpN_neg]; exact hlt
        have hcm2 : decide (cmpN R y < 0) = false := by simp [hcm]
        have hcm3 : 0 ≤ cmpN R y := by omega
        obtain ⟨cm, hcme⟩ : ∃ c, cmpN R y = c := ⟨_, rfl⟩
        rw [hcme] at hcm hcm2 hcm3 ⊢
        have HSE := hide (SearchI.start (by omega : y ≤ R) HR2.out)
        clear hcme hlt
        go_wp2_with fail
        go_loopw [9, 10] (fun a b wx => ∃ lo hi : Nat, a = .int .i64 (lo : Int) ∧ b = .int .i64 (hi : Int) ∧ SearchI y R lo hi ∧ Below wr.heap.size wr wx ∧ SliceOf vN 1 wx (.slice ro (lim R).length rc) (lim R)) (fun a b _ => (intOf b - intOf a).toNat)
        case atStart => exact ⟨1, 999999999, rfl, rfl, HSE.out, HB5.out, HS5.out⟩
        case round =>
          obtain ⟨lo, hi, rfl, rfl, hse, hb6, hs6⟩ := hrel
          have HSE6 := hide hse
          have HB6 := hide hb6
          have HS6 := hide hs6
          obtain ⟨_, _, g1, g2, g3⟩ := hse
          clear hb6 hs6 HSE HB5 HS5
          have g1I : (1 : Int) ≤ (lo : Int) := by omega
          have g3I : (hi : Int) ≤ 999999999 := by omega
          have g2I : (lo : Int) ≤ (hi : Int) := by omega
          by_cases hlh : lo < hi
          · have hlI : (lo : Int) < (hi : Int) := by omega
            obtain ⟨mid, hmid⟩ : ∃ mid, (lo + hi + 1) / 2 = mid := ⟨_, rfl⟩
            have hm1 : ((lo : Int) + (hi : Int) + 1) / 2 = (mid : Int) := by omega
            have hm1' : (((lo + hi + 1) / 2 : Nat) : Int) = (mid : Int) := by omega
            have hm2 : lo < mid := by omega
            have hm3 : mid ≤ hi := by omega
            clear hmid
            have HYr := hide (HY.out.below (bStep HB.out HB6.out))
            have hyl9 : (lim y).length ≤ 900000 := by omega
            have HLV : Hid (mid * lval (lim y) = mid * y) := by show _ = _; rw [lval_lim]
            have hmq : mid < 1000000000 := by omega
            have hll := lim_mul_len (a := y) hmq
            go_wp2_with fail
            refine (times_at (lim y) _ _ mid _ (by first | exact hm1 | rfl | omega) HYr.out hyl9 (lim_Lm y) hmq).mono ?_
            rintro e w7 ⟨v7, rfl, hs7, hb7, _⟩
            rw [HLV.out] at hs7
            have HS7 := hide hs7
            have HB7 := hide (bStep HB6.out hb7)
            have HSR7 := hide (HS6.out.below hb7)
            clear hs7 hb7 HYr
            go_wp2_with fail
            refine (compare_any (mid * y) R _ _ _ HS7.out HSR7.out (by omega) (by omega)).mono ?_
            rintro e w8 ⟨rfl, m8, rfl⟩
            have HB8 := hide (below_drewN HB7.out m8)
            have HSR8 := hide (HSR7.out.below (below_drewN (Below.refl _ _) m8))
            clear HS7 HSR7 HB7
            by_cases hle : mid * y ≤ R
            · have hc1 : cmpN (mid * y) R ≤ 0 := cmpN_le.2 hle
              obtain ⟨c, hc⟩ : ∃ c, cmpN (mid * y) R = c := ⟨_, rfl⟩
              rw [hc] at hc1 ⊢
              have HU := hide (HSE6.out.up hle (by omega) hm3)
              clear hc hle
              go_wp2_with fail
              go_roundw
              case rel => exact ⟨mid, hi, by first | rfl | (rw [hm1]) | (rw [hm1']), rfl, HU.out, HB8.out, HSR8.out⟩
              case measure => (simp [intOf]; try omega)
            · have hc1 : ¬ cmpN (mid * y) R ≤ 0 := fun h => hle (cmpN_le.1 h)
              obtain ⟨c, hc⟩ : ∃ c, cmpN (mid * y) R = c := ⟨_, rfl⟩
              rw [hc] at hc1 ⊢
              have hc2 : 0 < c := by omega
              have HU := hide (HSE6.out.down (by omega) hm2 hm3)
              have hw1 : IntKind.i64.wrap ((mid : Int) - 1) = (mid : Int) - 1 := IntWalk.i64_in _ (by omega)
              clear hc hle
              go_wp2_with fail
              go_roundw
              case rel => exact ⟨lo, mid - 1, rfl, by first | (congr 1; omega) | go_num, HU.out, HB8.out, HSR8.out⟩
              case measure => (simp [intOf]; try omega)
          · obtain ⟨d1, d2, d3⟩ := HSE6.out.done hlh
            have hlI : (hi : Int) ≤ (lo : Int) := by omega
            have HYr := hide (HY.out.below (bStep HB.out HB6.out))
            have hyl9 : (lim y).length ≤ 900000 := by omega
            have HLV : Hid (lo * lval (lim y) = lo * y) := by show _ = _; rw [lval_lim]
            have HD1 := hide d1
            have HD2 := hide d2
            have hll := lim_len_mono d1
            clear d1 d2
            go_wp2_with fail
            refine (times_any (lim y) _ lo _ HYr.out hyl9 (lim_Lm y) d3).mono ?_
            rintro e w7 ⟨v7, rfl, hs7, hb7, _⟩
            rw [HLV.out] at hs7
            have HS7 := hide hs7
            have HB7 := hide (bStep HB6.out hb7)
            have HSR7 := hide (HS6.out.below hb7)
            clear hs7 hb7 HYr
            go_wp2_with fail
            refine (sub_any (lim R) (lim (lo * y)) _ _ _ HSR7.out HS7.out (by omega) hll (lim_Lm _) (lim_Lm _) (by rw [lval_lim, lval_lim]; exact HD1.out)).mono ?_
            rintro e w8 ⟨v8, rfl, hs8, hb8, hf8⟩
            rw [lval_lim, lval_lim] at hs8
            have HS8 := hide hs8
            have HB8 := hide (bStep HB7.out hb8)
            have HD8 := hide (HD.out.below HB8.out)
            have HSF : Hid (SliceOf vN 1 (w8.setCell ⟨w.heap.size, j, none⟩ (.int .i64 (lo : Int))) v8 (lim (R - lo * y))) := HS8.out.set_away (fun e => by have h1 := hf8 _ e; have h2 := World.block_lt_of_cell? _ _ c1'; have h3 := HB7.out.size; have h4 := HQB.out; omega) _ _
            clear hs8 hb8 hf8 HS7 HSR7 HB7 HS6
            have hown := HD8.out.own
            rw [HN.out] at hown
            obtain ⟨⟨u8, cu⟩, fu⟩ := own_cell hown (show j < n by omega)
            rw [Nat.zero_add] at cu fu
            clear hown
            have HDF : Hid (DivI (w8.setCell ⟨w.heap.size, j, none⟩ (.int .i64 (lo : Int))) w.heap.size l y j (.slice (some ⟨w.heap.size, 0, none⟩) n n) (qs.set j lo) (R - lo * y)) := by
              have h8 := HD8.out
              have e := HN.out
              subst e
              have := h8.put hjl d3 (by rw [HX.out, HR.out]; exact HD1.out) (by rw [HX.out, HR.out]; exact HD2.out)
              rw [HX.out, HR.out, Nat.zero_add] at this
              exact this
            have HBF : Hid (Below w.heap.size w (w8.setCell ⟨w.heap.size, j, none⟩ (.int .i64 (lo : Int)))) := (bStep HB.out HB8.out).setCell (p := ⟨w.heap.size, j, none⟩) (Nat.le_refl _) _
            have HZF := hide (HZ.out.set lo)
            have q5 : IntKind.i64.wrap ((j : Int) - 1) = (j : Int) - 1 := IntWalk.i64_in _ (by omega)
            go_wp2_with fail
            go_roundw
            case rel => exact ⟨j, _, _, by omega, by first | rfl | go_num, HSF.out, HDF.out, HZF.out, HBF.out⟩
            case measure => (simp [intOf]; try omega)
    · obtain rfl : k = 0 := by omega
      obtain ⟨f1, f2, f3⟩ := HD.out.finish
      have HF1 := hide f1
      have hql : qs.length ≤ 1000000 := by rw [HD.out.len, HN.out]; omega
      have HF2 := hide f2
      have HF3 := hide f3
      clear f1 f2 f3
      go_wp2_with fail
      refine (trimmed_any qs _ _ HF1.out hql HD.out.lm).mono ?_
      rintro e w1 ⟨⟨v', rfl, hs, _⟩, rfl⟩
      rw [HF2.out] at hs
      have HQ := hide hs
      have HRR : Hid (SliceOf vN 1 wr (.slice zo (lim r).length zc) (lim (lval l % y))) := by
        show SliceOf _ _ _ _ _
        rw [← HF3.out]; exact HS.out
      clear hs
      go_wp2_with fail
      go_ret2
      exact ⟨_, _, rfl, HQ.out, HRR.out, HB.out⟩
end Go.Proofs.YtbojlmnajndleaaGreatDoor
