/- law 29: the reference's Odds; LotteryMatchesReference. -/
import Derived.Test.YtcgplokdklomlaaGreatDoorLoKd
set_option linter.unusedVariables false
set_option linter.unusedSimpArgs false
namespace Go.Proofs.YtcgplokdklomlaaGreatDoor
open Go.RowKit

set_option maxHeartbeats 4000000 in
set_option maxRecDepth 100000 in
theorem ref29_odds (l : List Int) (i : Nat) (q : Rat) (g : Bool) (s t : ByteArray) (v : Value) (w : World) (hl : lstB l = true) (hv : SliceOf vI 1 w v l) (hi : i < l.length) (e : ofQ (l.getD i 0) 720 = q) (hq : IsQ q g s t) :
    Calls Tryz.prog 17 #[v, .int .i64 (i : Int)] w fun e w' => e = .returned (.tuple #[.agg #[.bool g, .string s, .string t], .int .i64 0]) ∧ Below w.heap.size w w' := by
  obtain ⟨⟨n1, n2⟩, he, _⟩ := lst_iff hl
  have hx := he _ (List.getElem_mem hi)
  have hnd : ((720 : Int) ≠ 0) := by omega
  have ra : ∀ x : Int, -9223372036854775808 ≤ x → x ≤ 9223372036854775807 → RA x (natS x.natAbs) := fun x h h' W => (ref04_abs x W h h').mono fun _ _ ⟨p, q⟩ => ⟨p, by rw [← q]; exact Below.refl _ _⟩
  have hc : ∀ n : Nat, n ≤ 1000 → n < capK 999 := fun n hn => Nat.lt_of_lt_of_le (show n < capK 20 from Nat.lt_of_le_of_lt hn (by unfold capK; decide +kernel)) (capK_le (by decide))
  rw [← e] at hq
  have hO := fun W => r4_of1 (l.getD i 0) 720 _ _ _ _ g s t W (ra _ (by rw [getD_at hi]; omega) (by rw [getD_at hi]; omega)) (ra _ (by omega) (by omega)) (r4_lowest _ (hc _ (by rw [getD_at hi]; omega)) (hc _ (by decide)) (by decide) (by rw [mkQ_ofQ _ _ hnd]; exact hq)) rfl rfl (by decide)
  rw [getD_at hi] at hO
  have HO := hide hO
  have HB0 := hide (bAlloc (Below.refl w.heap.size w) (.cells #[.bool false, .string ⟨#[]⟩, .string ⟨#[]⟩] 32))
  have HLI := hide (ref29_list l v (w.alloc (.cells #[.bool false, .string ⟨#[]⟩, .string ⟨#[]⟩] 32)) true hl (hv.below HB0.out) (by omega))
  have HRC0 : Hid (RC (w.alloc (.cells #[.bool false, .string ⟨#[]⟩, .string ⟨#[]⟩] 32)) w.heap.size false ⟨#[]⟩ ⟨#[]⟩) := RC.new _ _ _ _ _
  obtain ⟨ao, cp, rfl⟩ := hv.shape
  obtain ⟨b', off, rfl, _, hcap, hcm, hcc⟩ := SliceOf.at_ hv (by omega)
  have hcpI : (l.length : Int) ≤ (cp : Int) := by omega
  have hcmI : (cp : Int) ≤ 9223372036854775807 := by unfold maxLen at hcm; omega
  have hiI : (i : Int) < (l.length : Int) := by omega
  have hi0 : (0 : Int) ≤ (i : Int) := by omega
  have dge : decide ((l.length : Int) ≤ (i : Int)) = false := decide_eq_false (by omega)
  have dge' : decide (l.length ≤ i) = false := decide_eq_false (by omega)
  have dlt : decide ((i : Int) < 0) = false := decide_eq_false (by omega)
  have c1 := keep_cell HB0.out (int_cell hcc hi)
  obtain ⟨x, hxe⟩ : ∃ x, l[i] = x := ⟨_, rfl⟩
  rw [hxe] at HO c1
  clear hl hv hi e hq n1 n2 he hx hO hxe hcc hcap hcm ra hc hnd
  go_enter Tryz.func17, Tryz.ntmps17
  go_wp2_with fail
  refine HLI.out.mono ?_
  rintro e w1 ⟨rfl, rfl⟩
  go_wp2_with fail
  refine (HO.out _).mono ?_
  rintro e w3 ⟨rfl, hb⟩
  have HB3 := hide (bStepL HB0.out hb)
  have HR3 := hide (HRC0.out.below hb)
  obtain ⟨z0, z1, z2, f0, f1, f2⟩ := HR3.out
  clear hb c1
  go_wp2_with fail
  obtain ⟨d0, d1, d2, _, _, _⟩ := HR3.out.set3 g s t
  exact bodyPost_ret (v := .tuple #[.agg #[.bool g, .string s, .string t], .int .i64 0]) (by simp [results, Tryz.results17, go_sem, d0, d1, d2]) rfl ⟨rfl, bset3 HB3.out (Nat.le_refl _) _ _ _⟩
set_option maxHeartbeats 4000000 in
set_option maxRecDepth 100000 in
theorem ref29_odds_bad (l : List Int) (i : Int) (v : Value) (w : World) (hl : lstB l = false ∨ (lstB l = true ∧ (i < 0 ∨ (l.length : Int) ≤ i))) (hn : l.length ≤ 1000) (hv : SliceOf vI 1 w v l) :
    Calls Tryz.prog 17 #[v, .int .i64 i] w fun e w' => e = .returned (.tuple #[.agg #[.bool false, .string ⟨#[]⟩, .string ⟨#[]⟩], .int .i64 1]) ∧ Below w.heap.size w w' := by
  have HB0 := hide (bAlloc (Below.refl w.heap.size w) (.cells #[.bool false, .string ⟨#[]⟩, .string ⟨#[]⟩] 32))
  have HRC0 : Hid (RC (w.alloc (.cells #[.bool false, .string ⟨#[]⟩, .string ⟨#[]⟩] 32)) w.heap.size false ⟨#[]⟩ ⟨#[]⟩) := RC.new _ _ _ _ _
  rcases hl with hl | ⟨hl, hi⟩
  · have HLI := hide (ref29_list l v (w.alloc (.cells #[.bool false, .string ⟨#[]⟩, .string ⟨#[]⟩] 32)) false hl (hv.below HB0.out) hn)
    obtain ⟨ao, cp, rfl⟩ := hv.shape
    clear hl hv
    go_enter Tryz.func17, Tryz.ntmps17
    go_wp2_with fail
    refine HLI.out.mono ?_
    rintro e w1 ⟨rfl, rfl⟩
    obtain ⟨z0, z1, z2, f0, f1, f2⟩ := HRC0.out
    go_wp2_with fail
    exact bodyPost_ret (v := .tuple #[.agg #[.bool false, .string ⟨#[]⟩, .string ⟨#[]⟩], .int .i64 1]) (by simp [results, Tryz.results17, go_sem, z0, z1, z2]) rfl ⟨rfl, HB0.out⟩
  · have HLI := hide (ref29_list l v (w.alloc (.cells #[.bool false, .string ⟨#[]⟩, .string ⟨#[]⟩] 32)) true hl (hv.below HB0.out) hn)
    obtain ⟨ao, cp, rfl⟩ := hv.shape
    clear hl hv
    by_cases h0 : i < 0
    · have e1 : decide (i < 0) = true := decide_eq_true h0
      go_enter Tryz.func17, Tryz.ntmps17
      go_wp2_with fail
      refine HLI.out.mono ?_
      rintro e w1 ⟨rfl, rfl⟩
      obtain ⟨z0, z1, z2, f0, f1, f2⟩ := HRC0.out
      go_wp2_with fail
      exact bodyPost_ret (v := .tuple #[.agg #[.bool false, .string ⟨#[]⟩, .string ⟨#[]⟩], .int .i64 1]) (by simp [results, Tryz.results17, go_sem, z0, z1, z2]) rfl ⟨rfl, HB0.out⟩
    · have e1 : decide (i < 0) = false := decide_eq_false h0
      have e2 : decide ((l.length : Int) ≤ i) = true := decide_eq_true (by omega)
      go_enter Tryz.func17, Tryz.ntmps17
      go_wp2_with fail
      refine HLI.out.mono ?_
      rintro e w1 ⟨rfl, rfl⟩
      obtain ⟨z0, z1, z2, f0, f1, f2⟩ := HRC0.out
      go_wp2_with fail
      exact bodyPost_ret (v := .tuple #[.agg #[.bool false, .string ⟨#[]⟩, .string ⟨#[]⟩], .int .i64 1]) (by simp [results, Tryz.results17, go_sem, z0, z1, z2]) rfl ⟨rfl, HB0.out⟩
theorem odds_any (l : List Int) (i : Int) (v : Value) (w : World) (hn : l.length ≤ 1000) (hv : SliceOf vI 1 w v l) (hW : LawW w) : ∃ (g : Bool) (s t : ByteArray) (k : Int),
    (∀ W, Below w.heap.size w W → Calls Tryz.prog 16 #[v, .int .i64 i] W fun e w' => e = .returned (.tuple #[.agg #[.bool g, .string s, .string t], .int .i64 k]) ∧ Below W.heap.size W w') ∧
    (∀ W, Below w.heap.size w W → Calls Tryz.prog 17 #[v, .int .i64 i] W fun e w' => e = .returned (.tuple #[.agg #[.bool g, .string s, .string t], .int .i64 k]) ∧ Below W.heap.size W w') := by
  by_cases h : lstB l = true ∧ 0 ≤ i ∧ i < (l.length : Int)
  · obtain ⟨hl, h0, h1⟩ := h
    obtain ⟨n, rfl⟩ : ∃ n : Nat, i = (n : Int) := ⟨i.toNat, by omega⟩
    obtain ⟨g, s, t, hq⟩ := IsQ.get (ofQ (l.getD n 0) 720)
    exact ⟨g, s, t, 0, fun W hW' => lo_odds l n _ g s t v W hl (hv.below hW') (by omega) rfl hq (hW.below hW'), fun W hW' => ref29_odds l n _ g s t v W hl (hv.below hW') (by omega) rfl hq⟩
  · have hb : lstB l = false ∨ (lstB l = true ∧ (i < 0 ∨ (l.length : Int) ≤ i)) := by
      rcases Bool.eq_false_or_eq_true (lstB l) with e | e
      · exact .inr ⟨e, by
          by_cases h0 : i < 0
          · exact .inl h0
          · exact .inr (Int.not_lt.1 fun h1 => h ⟨e, by omega, h1⟩)⟩
      · exact .inl e
    exact ⟨false, ⟨#[]⟩, ⟨#[]⟩, 1, fun W hW' => lo_odds_bad l i v W hb hn (hv.below hW'), fun W hW' => ref29_odds_bad l i v W hb hn (hv.below hW')⟩
set_option maxHeartbeats 8000000 in
set_option maxRecDepth 100000 in
theorem lotteryMatchesReference (sh ow me tk : List Int) (d i : Int) (v1 v2 v3 v4 : Value) (w : World) (h1 : SliceOf vI 1 w v1 sh) (h2 : SliceOf vI 1 w v2 ow) (h3 : SliceOf vI 1 w v3 me) (h4 : SliceOf vI 1 w v4 tk) (hW : LawW w) :
    Calls Tryz.prog 3 #[v1, v2, v3, v4, .int .i64 d, .int .i64 i] w fun e w' => e = .returned (.bool true) ∧ Below w.heap.size w w' := by
  have HH := hide (law29_head w hW)
  have HT := hide (fun (X : World) (hX : Below w.heap.size w X) n1 n2 n3 => lo_tk sh ow me v1 v2 v3 X (h1.below hX) (h2.below hX) (h3.below hX) n1 n2 n3)
  have HTR := hide (fun (X : World) (hX : Below w.heap.size w X) n1 n2 n3 => ref29_tk sh ow me v1 v2 v3 X (h1.below hX) (h2.below hX) (h3.below hX) n1 n2 n3)
  have HWA := hide (fun hn => win_any tk d v4 w hn h4)
  have HOA := hide (fun hn => odds_any tk i v4 w hn h4 hW)
  have HOL : Hid (vldL sh ow me = true → (tkL sh ow me).length = ow.length) := fun h => (tkL_ok h).1
  have HON : Hid (vldL sh ow me = false → tkL sh ow me = []) := fun h => by unfold tkL; rw [h]; rfl
  obtain ⟨a1, c1, rfl⟩ := h1.shape
  obtain ⟨a2, c2, rfl⟩ := h2.shape
  obtain ⟨a3, c3, rfl⟩ := h3.shape
  obtain ⟨a4, c4, rfl⟩ := h4.shape
  obtain ⟨p, hp⟩ : ∃ p, fewL sh.length ow.length me.length = p := ⟨_, rfl⟩
  have HF := hide (fun X => ref29_few sh.length ow.length me.length a1 a2 a3 c1 c2 c3 p hp X)
  clear h1 h2 h3 h4 hW
  cases p with
  | false =>
    clear hp
    go_enter Tryz.func3, Tryz.ntmps3
    go_wp2_with fail
    refine HH.out.mono ?_
    rintro e w1 ⟨rfl, hb⟩
    have HB1 := hide hb
    clear hb
    go_wp2_with fail
    refine (HF.out _).mono ?_
    rintro e w2 ⟨rfl, rfl⟩
    go_wp2_with fail
    go_ret
    exact ⟨rfl, HB1.out⟩
  | true =>
    obtain ⟨q1, q2, q3⟩ := few_le hp
    by_cases h210 : 210 < tk.length
    · have e1 : decide ((210 : Int) < (tk.length : Int)) = true := decide_eq_true (by omega)
      clear hp
      go_enter Tryz.func3, Tryz.ntmps3
      go_wp2_with fail
      refine HH.out.mono ?_
      rintro e w1 ⟨rfl, hb⟩
      have HB1 := hide hb
      clear hb
      go_wp2_with fail
      refine (HF.out _).mono ?_
      rintro e w2 ⟨rfl, rfl⟩
      go_wp2_with fail
      go_ret
      exact ⟨rfl, HB1.out⟩
    have e1 : decide ((210 : Int) < (tk.length : Int)) = false := decide_eq_false (by omega)
    have HT2 := hide (fun X hX => HT.out X hX (by omega) (by omega) (by omega))
    have HTR2 := hide (fun X hX => HTR.out X hX (by omega) (by omega) (by omega))
    obtain ⟨wa, we, hw1, hw2⟩ := HWA.out (by omega)
    obtain ⟨g, s, t, oe, ho1, ho2⟩ := HOA.out (by omega)
    have HW1 := hide hw1
    have HW2 := hide hw2
    have HO1 := hide ho1
    have HO2 := hide ho2
    have hLL : (tkL sh ow me).length ≤ 1000000 := by
      rcases Bool.eq_false_or_eq_true (vldL sh ow me) with e | e
      · rw [HOL.out e]; omega
      · rw [HON.out e]; decide
    obtain ⟨L, hL⟩ : ∃ L, tkL sh ow me = L := ⟨_, rfl⟩
    obtain ⟨E, hE⟩ : ∃ E, tkE sh ow me = E := ⟨_, rfl⟩
    rw [hL] at HT2 HTR2 hLL
    rw [hE] at HT2 HTR2
    have HLL := hide hLL
    clear hp hw1 hw2 ho1 ho2 HT HTR HWA HOA HOL HON hL hE hLL
    go_enter Tryz.func3, Tryz.ntmps3
    go_wp2_with fail
    refine HH.out.mono ?_
    rintro e w1 ⟨rfl, hb⟩
    have HB1 := hide hb
    clear hb
    go_wp2_with fail
    refine (HF.out _).mono ?_
    rintro e w2 ⟨rfl, rfl⟩
    go_wp2_with fail
    refine (HT2.out _ HB1.out).mono ?_
    rintro e w3 ⟨u, rfl, hs, hb⟩
    have HU3 := hide hs
    have HB3 := hide (bStepL HB1.out hb)
    clear hs hb HB1
    go_wp2_with fail
    refine (HTR2.out _ HB3.out).mono ?_
    rintro e w4 ⟨u', rfl, hs, hb⟩
    have HV4 := hide hs
    have HU4 := hide (HU3.out.below hb)
    have HB4 := hide (bStepL HB3.out hb)
    clear hs hb HB3 HU3
    go_wp2_with fail
    refine (HW1.out _ HB4.out).mono ?_
    rintro e w5 ⟨rfl, hb⟩
    have HB5 := hide (bStepL HB4.out hb)
    have HU5 := hide (HU4.out.below hb)
    have HV5 := hide (HV4.out.below hb)
    clear hb HB4 HU4 HV4
    go_wp2_with fail
    refine (HW2.out _ HB5.out).mono ?_
    rintro e w6 ⟨rfl, hb⟩
    have HB6 := hide (bStepL HB5.out hb)
    have HU6 := hide (HU5.out.below hb)
    have HV6 := hide (HV5.out.below hb)
    clear hb HB5 HU5 HV5
    go_wp2_with fail
    refine (HO1.out _ HB6.out).mono ?_
    rintro e w7 ⟨rfl, hb⟩
    have HB7 := hide (bStepL HB6.out hb)
    have HU7 := hide (HU6.out.below hb)
    have HV7 := hide (HV6.out.below hb)
    clear hb HB6 HU6 HV6
    go_wp2_with fail
    have HA8 : Hid (RC (w7.alloc (.cells #[.bool g, .string s, .string t] 32)) w7.heap.size g s t) := RC.new _ _ _ _ _
    have HX8 := hide (bAlloc (Below.refl w7.heap.size w7) (.cells #[.bool g, .string s, .string t] 32))
    have HB8 := hide (bStepL HB7.out HX8.out)
    have HU8 := hide (HU7.out.below HX8.out)
    have HV8 := hide (HV7.out.below HX8.out)
    obtain ⟨A, hA⟩ : ∃ A, w7.heap.size = A := ⟨_, rfl⟩
    obtain ⟨w8, hw8⟩ : ∃ W, w7.alloc (.cells #[.bool g, .string s, .string t] 32) = W := ⟨_, rfl⟩
    rw [hw8, hA] at HA8
    rw [hw8] at HB8 HU8 HV8
    rw [hw8, hA]
    clear hw8 hA HX8 HB7 HU7 HV7
    refine (HO2.out _ HB8.out).mono ?_
    rintro e w9 ⟨rfl, hb⟩
    have HB9 := hide (bStepL HB8.out hb)
    have HU9 := hide (HU8.out.below hb)
    have HV9 := hide (HV8.out.below hb)
    have HA9 := hide (HA8.out.below hb)
    clear hb HB8 HU8 HV8 HA8
    have HX0 := hide (bAlloc (Below.refl w9.heap.size w9) (.cells #[.bool g, .string s, .string t] 32))
    have HC0 : Hid (RC (w9.alloc (.cells #[.bool g, .string s, .string t] 32)) w9.heap.size g s t) := RC.new _ _ _ _ _
    have HB0 := hide (bStepL HB9.out HX0.out)
    have HU0 := hide (HU9.out.below HX0.out)
    have HV0 := hide (HV9.out.below HX0.out)
    have HA0 := hide (HA9.out.below HX0.out)
    go_wp2_with fail
    obtain ⟨C, hC⟩ : ∃ C, w9.heap.size = C := ⟨_, rfl⟩
    obtain ⟨w10, hw10⟩ : ∃ W, w9.alloc (.cells #[.bool g, .string s, .string t] 32) = W := ⟨_, rfl⟩
    rw [hw10, hC] at HC0
    rw [hw10] at HB0 HU0 HV0 HA0
    rw [hw10, hC]
    clear hw10 hC HX0 HB9 HU9 HV9 HA9
    refine (ref29_ints L L u u' _ true (by simp) HU0.out HV0.out HLL.out).mono ?_
    rintro e w11 ⟨rfl, hb⟩
    have HB11 := hide (bStepL HB0.out hb)
    obtain ⟨p0, p1, p2, -, -, -⟩ := HA0.out.below hb
    obtain ⟨r0, r1, r2, -, -, -⟩ := HC0.out.below hb
    clear hb
    go_wp2_with fail
    go_ret
    exact ⟨rfl, HB11.out⟩
end Go.Proofs.YtcgplokdklomlaaGreatDoor
