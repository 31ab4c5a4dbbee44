/- IvG, IvH in one text. -/
import Derived.Test.YtbojlmnajndleaaGreatDoorIvW
set_option linter.unusedVariables false
set_option linter.unusedSimpArgs false
/- law 05: of, few. -/
namespace Go.Proofs.YtbojlmnajndleaaGreatDoor
open Go.RowKit Go.Sort

def XO (n d : Int) (x : Q3) : Prop := ∀ W, LawW W → Calls Tryz.prog 46 #[.int .i64 n, .int .i64 d] W fun e w' => e = .returned (.tuple #[.agg #[.bool x.1, .string x.2.1, .string x.2.2], .int .i64 0]) ∧ Below W.heap.size W w'

set_option maxHeartbeats 4000000 in
set_option maxRecDepth 100000 in
theorem law05_of (a b c d : Int) (x y : Q3) (w : World) (h1 : XO a b x) (h2 : XO c d y) (hw : LawW w) :
    Calls Tryz.prog 25 #[.int .i64 a, .int .i64 b, .int .i64 c, .int .i64 d] w fun e w' => e = .returned (.agg #[.bool x.1, .string x.2.1, .string x.2.2, .bool y.1, .string y.2.1, .string y.2.2]) ∧ Below w.heap.size w w' := by
  unfold XO at h1
  have Hh1 := hide h1
  unfold XO at h2
  have Hh2 := hide h2
  have HW := hide hw
  have HV0 : Hid (VB w w []) := VB.nil w
  clear h1 h2 hw 
  go_enter Tryz.func25, Tryz.ntmps25
  have HV0_ := hide (HV0.out.push6 (b := w.heap.size) (by simp) (.bool false) (.string ⟨#[]⟩) (.string ⟨#[]⟩) (.bool false) (.string ⟨#[]⟩) (.string ⟨#[]⟩) 26)
  clear HV0
  go_wp2_with fail
  refine (Hh1.out _ (HV0_.out.law HW.out)).mono ?_
  rintro e w1 ⟨rfl, hb⟩
  have HV1 := hide (HV0_.out.below hb)
  clear hb HV0_
  have HV1_ := hide (HV1.out.push3 (b := w1.heap.size) (by simp) (.bool x.1) (.string x.2.1) (.string x.2.2) 24)
  clear HV1
  go_wp2_with fail
  refine (Hh2.out _ (HV1_.out.law HW.out)).mono ?_
  rintro e w2 ⟨rfl, hb⟩
  have HV2 := hide (HV1_.out.below hb)
  clear hb HV1_
  have HV2_ := hide (HV2.out.push3 (b := w2.heap.size) (by simp) (.bool y.1) (.string y.2.1) (.string y.2.2) 24)
  clear HV2
  obtain ⟨c1, c2, c3⟩ := HV2_.out.at3 1 rfl
  obtain ⟨c4, c5, c6⟩ := HV2_.out.at3 0 rfl
  obtain ⟨c7, c8, c9, c10, c11, c12⟩ := HV2_.out.at6 2 rfl
  obtain ⟨fc7, fc8, fc9, fc10, fc11, fc12⟩ := HV2_.out.fz6 2 rfl
  have HV2__ := hide (HV2_.out.put6 2 rfl (.bool x.1) (.string x.2.1) (.string x.2.2) (.bool y.1) (.string y.2.1) (.string y.2.2))
  clear HV2_
  go_wp2_with fail
  clear c1 c2 c3 c4 c5 c6 c7 c8 c9 c10 c11 c12 fc7 fc8 fc9 fc10 fc11 fc12
  obtain ⟨d0, d1, d2, d3, d4, d5⟩ := HV2__.out.at6 2 rfl
  exact bodyPost_ret (v := .agg #[.bool x.1, .string x.2.1, .string x.2.2, .bool y.1, .string y.2.1, .string y.2.2]) (by simp [results, Tryz.results25, go_sem, d0, d1, d2, d3, d4, d5]) rfl ⟨rfl, HV2__.out.bel⟩
/-- An interval of short strings. -/
def sm6 (a : Q3 × Q3) : Bool := fewQ 60 [a.1, a.2]
def fewI (l : List (Q3 × Q3)) : Bool := decide (l.length ≤ 12) && l.all sm6
theorem fewI_no {l : List (Q3 × Q3)} {k : Nat} (hk : k < l.length) (h : sm6 l[k] = false) : fewI l = false := by
  unfold fewI
  rw [Bool.and_eq_false_iff]
  exact .inr (List.all_eq_false.2 ⟨l[k], List.getElem_mem hk, by rw [h]; simp⟩)
theorem fewI_end {l : List (Q3 × Q3)} (h : l.length ≤ 12 → ∀ j (hj : j < l.length), sm6 l[j] = true) : fewI l = decide (l.length ≤ 12) := by
  unfold fewI
  by_cases hl : l.length ≤ 12
  · rw [decide_eq_true hl, Bool.true_and, List.all_eq_true]
    intro x hx
    obtain ⟨j, hj, rfl⟩ := List.getElem_of_mem hx
    exact h hl j hj
  · rw [decide_eq_false hl]; rfl
set_option maxHeartbeats 8000000 in
set_option maxRecDepth 100000 in
theorem ref05_few (l : List (Q3 × Q3)) (v : Value) (w : World) (hv : SliceOf vIv 6 w v l) (hl : l.length ≤ maxLen) :
    Calls Tryz.prog 26 #[v] w fun e w' => e = .returned (.bool (fewI l)) ∧ Below w.heap.size w w' := by
  have HS := hide hv
  have HLM : Hid (l.length ≤ 9223372036854775807) := by show _ ≤ _; unfold maxLen at hl; omega
  obtain ⟨ao, cp, rfl⟩ := hv.shape
  clear hv hl
  go_enter Tryz.func26, Tryz.ntmps26
  go_wp2_with fail
  go_loopw [3] (fun x wx => ∃ k : Nat, k ≤ l.length ∧ k ≤ 12 ∧ x = .int .i64 (k : Int) ∧ (∀ j (hj : j < l.length), j < k → sm6 l[j] = true) ∧ Below w.heap.size w wx) (fun x _ => 12 - (intOf x).toNat)
  case atStart => exact ⟨0, Nat.zero_le _, by omega, rfl, fun j hj h => by omega, Below.refl _ _⟩
  case round =>
    obtain ⟨k, hk, hk12, rfl, hall, hbl⟩ := hrel
    have HA := hide hall
    have HB := hide hbl
    have q0 : IntKind.i64.wrap ((k : Int) + 1) = (k : Int) + 1 := IntWalk.i64_in _ (by omega)
    clear hall
    by_cases hkl : k < l.length
    · have hkI : (k : Int) < (l.length : Int) := by omega
      have hk0 : (0 : Int) ≤ (k : Int) := by omega
      by_cases hk2 : k < 12
      · have hkJ : (k : Int) < 12 := by omega
        obtain ⟨b, off, cap, e1, hb, _, _, hc⟩ := (HS.out.below HB.out).some_of_pos (by omega)
        simp only [Value.slice.injEq] at e1
        obtain ⟨rfl, _, rfl⟩ := e1
        obtain ⟨x, hx⟩ : ∃ x, l[k] = x := ⟨_, rfl⟩
        have hc0 := q6 hc hkl hx
        obtain ⟨r, hr⟩ : ∃ r, sm6 x = r := ⟨_, rfl⟩
        have HNO : Hid (r = false → fewI l = false) := fun h => fewI_no hkl (by rw [hx, hr, h])
        have HYE : Hid (r = true → ∀ j (hj : j < l.length), j < k + 1 → sm6 l[j] = true) := fun h j hj hjk => by
          by_cases e : j = k
          · subst e; rw [hx, hr]; exact h
          · exact HA.out j hj (by omega)
        obtain ⟨⟨g1, s1, t1⟩, ⟨g2, s2, t2⟩⟩ := x
        have HF : Hid (∀ (W : World) (s : Nat), SliceOf vQ 3 W (.slice (some ⟨s, 0, none⟩) 2 2) [(g1, s1, t1), (g2, s2, t2)] → Calls Tryz.prog 27 #[.int .i64 60, .slice (some ⟨s, 0, none⟩) 2 2] W fun e w' => e = .returned (.bool r) ∧ W = w') := fun W s hsl => by
          have h := ref04_few 60 [(g1, s1, t1), (g2, s2, t2)] _ W (by decide) hsl (show 2 ≤ 1000 by decide)
          unfold sm6 at hr
          rw [hr] at h
          exact h
        have hsl1 : SliceOf vQ 3 (wr.alloc (.cells #[.bool g1, .string s1, .string t1, .bool g2, .string s2, .string t2] 24)).drew (.slice (some ⟨wr.heap.size, 0, none⟩) 2 2) [(g1, s1, t1), (g2, s2, t2)] := (slice_lit vQ_len wr [(g1, s1, t1), (g2, s2, t2)] 24 (show 2 ≤ maxLen by decide)).below (Below.refl _ _).drew
        have HSL1 := hide hsl1
        have HCS : Hid (∀ (W : World), Below wr.heap.size wr W → W.cell? ⟨b, off + k * 6, none⟩ = some (.bool g1) ∧ W.cell? ⟨b, off + k * 6 + 1, none⟩ = some (.string s1) ∧ W.cell? ⟨b, off + k * 6 + 2, none⟩ = some (.string t1) ∧ W.cell? ⟨b, off + k * 6 + 3, none⟩ = some (.bool g2) ∧ W.cell? ⟨b, off + k * 6 + 4, none⟩ = some (.string s2) ∧ W.cell? ⟨b, off + k * 6 + 5, none⟩ = some (.string t2)) := fun W h => by
          obtain ⟨a0, a1, a2, a3, a4, a5⟩ := hc0
          exact ⟨(h.cell (p := ⟨b, _, none⟩) hb).trans a0, (h.cell (p := ⟨b, _, none⟩) hb).trans a1, (h.cell (p := ⟨b, _, none⟩) hb).trans a2, (h.cell (p := ⟨b, _, none⟩) hb).trans a3, (h.cell (p := ⟨b, _, none⟩) hb).trans a4, (h.cell (p := ⟨b, _, none⟩) hb).trans a5⟩
        clear hx hr hc hc0 hb hbl hsl1
        go_wp2_with fail
        have hd := (Below.refl wr.heap.size wr).drew
        go_region_held3 (fun w' => w'.cell? ⟨b, off + k * 6, none⟩ = some (.bool g1) ∧ w'.cell? ⟨b, off + k * 6 + 1, none⟩ = some (.string s1) ∧ w'.cell? ⟨b, off + k * 6 + 2, none⟩ = some (.string t1) ∧ w'.cell? ⟨b, off + k * 6 + 3, none⟩ = some (.bool g2) ∧ w'.cell? ⟨b, off + k * 6 + 4, none⟩ = some (.string s2) ∧ w'.cell? ⟨b, off + k * 6 + 5, none⟩ = some (.string t2))
          (first | exact HCS.out _ (Below.refl _ _) | exact HCS.out _ hd | exact HCS.out _ (bAlloc hd _) | exact HCS.out _ (bAlloc (Below.refl _ _) _).drew | exact HCS.out _ (bAlloc (Below.refl _ _) _))
          ((first
            | (go_at_call 27; (with_reducible refine (HF.out _ _ HSL1.out).mono ?_); rintro e w5 ⟨rfl, rfl⟩)))
        all_goals
          have HB5 := hide (bStep HB.out (bAlloc (Below.refl _ _) (.cells #[.bool g1, .string s1, .string t1, .bool g2, .string s2, .string t2] 24)).drew)
          cases r
          · go_wp2_with fail
            go_ret
            exact ⟨ret_bool (HNO.out (by first | rfl | trivial)).symm, HB5.out⟩
          · go_wp2_with fail
            refine ⟨?_, ?_⟩
            · exact ⟨k + 1, by omega, by omega, by go_num, HYE.out (by first | rfl | trivial), HB5.out⟩
            · (simp [intOf]; try omega)
      · obtain rfl : k = 12 := by omega
        have HE := hide (fewI_end (l := l) (fun h j hj => HA.out j hj (by omega)))
        rw [decide_eq_false (show ¬ l.length ≤ 12 by omega)] at HE
        have hkJ : ¬ l.length ≤ 12 := by omega
        have hkK : ¬ (l.length : Int) ≤ 12 := by omega
        go_wp2_with fail
        go_ret
        exact ⟨ret_bool HE.out.symm, hbl⟩
    · obtain rfl : k = l.length := by omega
      have HE := hide (fewI_end (l := l) (fun h j hj => HA.out j hj hj))
      rw [decide_eq_true hk12] at HE
      have hkK : (l.length : Int) ≤ 12 := by omega
      go_wp2_with fail
      go_ret
      exact ⟨ret_bool HE.out.symm, hbl⟩
set_option maxHeartbeats 4000000 in
set_option maxRecDepth 100000 in
theorem law05_few (l : List (Q3 × Q3)) (m : List Q3) (v u : Value) (w : World) (hv : SliceOf vIv 6 w v l) (hu : SliceOf vQ 3 w u m) (hl : l.length ≤ maxLen) (hm : m.length ≤ 1000) :
    Calls Tryz.prog 10 #[v, u] w fun e w' => e = .returned (.bool (fewI l && fewQ 60 m)) ∧ Below w.heap.size w w' := by
  have H1 := hide (ref05_few l v w hv hl)
  have H2 := hide (fun W hb => ref04_few 60 m u W (by decide) (hu.below hb) hm)
  clear hv hu hl hm
  obtain ⟨r, hr⟩ : ∃ r, fewI l = r := ⟨_, rfl⟩
  obtain ⟨q, hq⟩ : ∃ r, fewQ 60 m = r := ⟨_, rfl⟩
  rw [hr] at H1 ⊢
  rw [hq] at H2 ⊢
  clear hr hq
  cases r
  · go_enter Tryz.func10, Tryz.ntmps10
    go_wp2_with fail
    refine H1.out.mono ?_
    rintro e w1 ⟨rfl, hb⟩
    have HB := hide hb
    clear hb
    go_wp2_with fail
    go_ret
    exact ⟨rfl, HB.out⟩
  · go_enter Tryz.func10, Tryz.ntmps10
    go_wp2_with fail
    refine H1.out.mono ?_
    rintro e w1 ⟨rfl, hb⟩
    have HB := hide hb
    clear hb
    go_wp2_with fail
    refine (H2.out _ HB.out).mono ?_
    rintro e w2 ⟨rfl, rfl⟩
    go_wp2_with fail
    go_ret
    exact ⟨rfl, HB.out⟩
end Go.Proofs.YtbojlmnajndleaaGreatDoor
/- law 05: head. -/
namespace Go.Proofs.YtbojlmnajndleaaGreatDoor
open Go.RowKit Go.Sort

theorem hq_m8_1 : IsQ (-(8) : Rat) true ⟨#[56]⟩ ⟨#[49]⟩ := litQ (by decide +kernel) (lit_nat (by decide +kernel) (by decide +kernel)) (lit_nat (by decide +kernel) (by decide +kernel))
theorem hx_m8_1 : IsX 4 (true, ⟨#[56]⟩, ⟨#[49]⟩) := .of hq_m8_1 (by unfold Sz; decide +kernel)
theorem hv_m8_1 : qv (true, ⟨#[56]⟩, ⟨#[49]⟩) = (-(8) : Rat) := qv_of hq_m8_1
theorem hq_m3_1 : IsQ (-(3) : Rat) true ⟨#[51]⟩ ⟨#[49]⟩ := litQ (by decide +kernel) (lit_nat (by decide +kernel) (by decide +kernel)) (lit_nat (by decide +kernel) (by decide +kernel))
theorem hx_m3_1 : IsX 4 (true, ⟨#[51]⟩, ⟨#[49]⟩) := .of hq_m3_1 (by unfold Sz; decide +kernel)
theorem hv_m3_1 : qv (true, ⟨#[51]⟩, ⟨#[49]⟩) = (-(3) : Rat) := qv_of hq_m3_1
theorem hq_m2_1 : IsQ (-(2) : Rat) true ⟨#[50]⟩ ⟨#[49]⟩ := litQ (by decide +kernel) (lit_nat (by decide +kernel) (by decide +kernel)) (lit_nat (by decide +kernel) (by decide +kernel))
theorem hx_m2_1 : IsX 4 (true, ⟨#[50]⟩, ⟨#[49]⟩) := .of hq_m2_1 (by unfold Sz; decide +kernel)
theorem hv_m2_1 : qv (true, ⟨#[50]⟩, ⟨#[49]⟩) = (-(2) : Rat) := qv_of hq_m2_1
theorem hq_m1_1 : IsQ (-(1) : Rat) true ⟨#[49]⟩ ⟨#[49]⟩ := litQ (by decide +kernel) (lit_nat (by decide +kernel) (by decide +kernel)) (lit_nat (by decide +kernel) (by decide +kernel))
theorem hx_m1_1 : IsX 4 (true, ⟨#[49]⟩, ⟨#[49]⟩) := .of hq_m1_1 (by unfold Sz; decide +kernel)
theorem hv_m1_1 : qv (true, ⟨#[49]⟩, ⟨#[49]⟩) = (-(1) : Rat) := qv_of hq_m1_1
theorem hq_m1_2 : IsQ (-(1 / 2) : Rat) true ⟨#[49]⟩ ⟨#[50]⟩ := litQ (by decide +kernel) (lit_nat (by decide +kernel) (by decide +kernel)) (lit_nat (by decide +kernel) (by decide +kernel))
theorem hx_m1_2 : IsX 4 (true, ⟨#[49]⟩, ⟨#[50]⟩) := .of hq_m1_2 (by unfold Sz; decide +kernel)
theorem hv_m1_2 : qv (true, ⟨#[49]⟩, ⟨#[50]⟩) = (-(1 / 2) : Rat) := qv_of hq_m1_2
theorem hq_p0_1 : IsQ (0 : Rat) false ⟨#[48]⟩ ⟨#[49]⟩ := litQ (by decide +kernel) (lit_nat (by decide +kernel) (by decide +kernel)) (lit_nat (by decide +kernel) (by decide +kernel))
theorem hx_p0_1 : IsX 4 (false, ⟨#[48]⟩, ⟨#[49]⟩) := .of hq_p0_1 (by unfold Sz; decide +kernel)
theorem hv_p0_1 : qv (false, ⟨#[48]⟩, ⟨#[49]⟩) = (0 : Rat) := qv_of hq_p0_1
theorem hq_p1_3 : IsQ (1 / 3 : Rat) false ⟨#[49]⟩ ⟨#[51]⟩ := litQ (by decide +kernel) (lit_nat (by decide +kernel) (by decide +kernel)) (lit_nat (by decide +kernel) (by decide +kernel))
theorem hx_p1_3 : IsX 4 (false, ⟨#[49]⟩, ⟨#[51]⟩) := .of hq_p1_3 (by unfold Sz; decide +kernel)
theorem hv_p1_3 : qv (false, ⟨#[49]⟩, ⟨#[51]⟩) = (1 / 3 : Rat) := qv_of hq_p1_3
theorem hq_p1_2 : IsQ (1 / 2 : Rat) false ⟨#[49]⟩ ⟨#[50]⟩ := litQ (by decide +kernel) (lit_nat (by decide +kernel) (by decide +kernel)) (lit_nat (by decide +kernel) (by decide +kernel))
theorem hx_p1_2 : IsX 4 (false, ⟨#[49]⟩, ⟨#[50]⟩) := .of hq_p1_2 (by unfold Sz; decide +kernel)
theorem hv_p1_2 : qv (false, ⟨#[49]⟩, ⟨#[50]⟩) = (1 / 2 : Rat) := qv_of hq_p1_2
theorem hq_p1_1 : IsQ (1 : Rat) false ⟨#[49]⟩ ⟨#[49]⟩ := litQ (by decide +kernel) (lit_nat (by decide +kernel) (by decide +kernel)) (lit_nat (by decide +kernel) (by decide +kernel))
theorem hx_p1_1 : IsX 4 (false, ⟨#[49]⟩, ⟨#[49]⟩) := .of hq_p1_1 (by unfold Sz; decide +kernel)
theorem hv_p1_1 : qv (false, ⟨#[49]⟩, ⟨#[49]⟩) = (1 : Rat) := qv_of hq_p1_1
theorem hq_p2_1 : IsQ (2 : Rat) false ⟨#[50]⟩ ⟨#[49]⟩ := litQ (by decide +kernel) (lit_nat (by decide +kernel) (by decide +kernel)) (lit_nat (by decide +kernel) (by decide +kernel))
theorem hx_p2_1 : IsX 4 (false, ⟨#[50]⟩, ⟨#[49]⟩) := .of hq_p2_1 (by unfold Sz; decide +kernel)
theorem hv_p2_1 : qv (false, ⟨#[50]⟩, ⟨#[49]⟩) = (2 : Rat) := qv_of hq_p2_1
theorem hq_p3_1 : IsQ (3 : Rat) false ⟨#[51]⟩ ⟨#[49]⟩ := litQ (by decide +kernel) (lit_nat (by decide +kernel) (by decide +kernel)) (lit_nat (by decide +kernel) (by decide +kernel))
theorem hx_p3_1 : IsX 4 (false, ⟨#[51]⟩, ⟨#[49]⟩) := .of hq_p3_1 (by unfold Sz; decide +kernel)
theorem hv_p3_1 : qv (false, ⟨#[51]⟩, ⟨#[49]⟩) = (3 : Rat) := qv_of hq_p3_1
theorem hq_p4_1 : IsQ (4 : Rat) false ⟨#[52]⟩ ⟨#[49]⟩ := litQ (by decide +kernel) (lit_nat (by decide +kernel) (by decide +kernel)) (lit_nat (by decide +kernel) (by decide +kernel))
theorem hx_p4_1 : IsX 4 (false, ⟨#[52]⟩, ⟨#[49]⟩) := .of hq_p4_1 (by unfold Sz; decide +kernel)
theorem hv_p4_1 : qv (false, ⟨#[52]⟩, ⟨#[49]⟩) = (4 : Rat) := qv_of hq_p4_1
theorem hq_p5_1 : IsQ (5 : Rat) false ⟨#[53]⟩ ⟨#[49]⟩ := litQ (by decide +kernel) (lit_nat (by decide +kernel) (by decide +kernel)) (lit_nat (by decide +kernel) (by decide +kernel))
theorem hx_p5_1 : IsX 4 (false, ⟨#[53]⟩, ⟨#[49]⟩) := .of hq_p5_1 (by unfold Sz; decide +kernel)
theorem hv_p5_1 : qv (false, ⟨#[53]⟩, ⟨#[49]⟩) = (5 : Rat) := qv_of hq_p5_1
theorem hq_p6_1 : IsQ (6 : Rat) false ⟨#[54]⟩ ⟨#[49]⟩ := litQ (by decide +kernel) (lit_nat (by decide +kernel) (by decide +kernel)) (lit_nat (by decide +kernel) (by decide +kernel))
theorem hx_p6_1 : IsX 4 (false, ⟨#[54]⟩, ⟨#[49]⟩) := .of hq_p6_1 (by unfold Sz; decide +kernel)
theorem hv_p6_1 : qv (false, ⟨#[54]⟩, ⟨#[49]⟩) = (6 : Rat) := qv_of hq_p6_1
theorem hq_p12_1 : IsQ (12 : Rat) false ⟨#[49, 50]⟩ ⟨#[49]⟩ := litQ (by decide +kernel) (lit_nat (by decide +kernel) (by decide +kernel)) (lit_nat (by decide +kernel) (by decide +kernel))
theorem hx_p12_1 : IsX 4 (false, ⟨#[49, 50]⟩, ⟨#[49]⟩) := .of hq_p12_1 (by unfold Sz; decide +kernel)
theorem hv_p12_1 : qv (false, ⟨#[49, 50]⟩, ⟨#[49]⟩) = (12 : Rat) := qv_of hq_p12_1
theorem ho_p1_2 : XO 1 2 (false, ⟨#[49]⟩, ⟨#[50]⟩) := fun W hW => of_ok (q := (1 / 2 : Rat)) (by unfold inI64; omega) (by unfold inI64; omega) (by decide) (by decide +kernel) hq_p1_2 W hW
theorem ho_p1_1 : XO 1 1 (false, ⟨#[49]⟩, ⟨#[49]⟩) := fun W hW => of_ok (q := (1 : Rat)) (by unfold inI64; omega) (by unfold inI64; omega) (by decide) (by decide +kernel) hq_p1_1 W hW
theorem ho_m1_1 : XO (-1) 1 (true, ⟨#[49]⟩, ⟨#[49]⟩) := fun W hW => of_ok (q := (-(1) : Rat)) (by unfold inI64; omega) (by unfold inI64; omega) (by decide) (by decide +kernel) hq_m1_1 W hW
theorem ho_p2_1 : XO 2 1 (false, ⟨#[50]⟩, ⟨#[49]⟩) := fun W hW => of_ok (q := (2 : Rat)) (by unfold inI64; omega) (by unfold inI64; omega) (by decide) (by decide +kernel) hq_p2_1 W hW
theorem ho_m2_1 : XO (-2) 1 (true, ⟨#[50]⟩, ⟨#[49]⟩) := fun W hW => of_ok (q := (-(2) : Rat)) (by unfold inI64; omega) (by unfold inI64; omega) (by decide) (by decide +kernel) hq_m2_1 W hW
theorem ho_p3_1 : XO 3 1 (false, ⟨#[51]⟩, ⟨#[49]⟩) := fun W hW => of_ok (q := (3 : Rat)) (by unfold inI64; omega) (by unfold inI64; omega) (by decide) (by decide +kernel) hq_p3_1 W hW
theorem ho_p4_1 : XO 4 1 (false, ⟨#[52]⟩, ⟨#[49]⟩) := fun W hW => of_ok (q := (4 : Rat)) (by unfold inI64; omega) (by unfold inI64; omega) (by decide) (by decide +kernel) hq_p4_1 W hW
theorem ho_p5_1 : XO 5 1 (false, ⟨#[53]⟩, ⟨#[49]⟩) := fun W hW => of_ok (q := (5 : Rat)) (by unfold inI64; omega) (by unfold inI64; omega) (by decide) (by decide +kernel) hq_p5_1 W hW
theorem ho_p6_1 : XO 6 1 (false, ⟨#[54]⟩, ⟨#[49]⟩) := fun W hW => of_ok (q := (6 : Rat)) (by unfold inI64; omega) (by unfold inI64; omega) (by decide) (by decide +kernel) hq_p6_1 W hW
theorem ho_p0_1 : XO 0 1 (false, ⟨#[48]⟩, ⟨#[49]⟩) := fun W hW => of_ok (q := (0 : Rat)) (by unfold inI64; omega) (by unfold inI64; omega) (by decide) (by decide +kernel) hq_p0_1 W hW
theorem ho_m1_2 : XO (-1) 2 (true, ⟨#[49]⟩, ⟨#[50]⟩) := fun W hW => of_ok (q := (-(1 / 2) : Rat)) (by unfold inI64; omega) (by unfold inI64; omega) (by decide) (by decide +kernel) hq_m1_2 W hW
theorem ho_m8_1 : XO (-8) 1 (true, ⟨#[56]⟩, ⟨#[49]⟩) := fun W hW => of_ok (q := (-(8) : Rat)) (by unfold inI64; omega) (by unfold inI64; omega) (by decide) (by decide +kernel) hq_m8_1 W hW
theorem ho_p12_1 : XO 12 1 (false, ⟨#[49, 50]⟩, ⟨#[49]⟩) := fun W hW => of_ok (q := (12 : Rat)) (by unfold inI64; omega) (by unfold inI64; omega) (by decide) (by decide +kernel) hq_p12_1 W hW
theorem ho_p1_3 : XO 1 3 (false, ⟨#[49]⟩, ⟨#[51]⟩) := fun W hW => of_ok (q := (1 / 3 : Rat)) (by unfold inI64; omega) (by unfold inI64; omega) (by decide) (by decide +kernel) hq_p1_3 W hW
theorem h5_add : ∀ W, LawW W → Calls Tryz.prog 11 #[.agg #[.bool false, .string ⟨#[49]⟩, .string ⟨#[50]⟩, .bool false, .string ⟨#[49]⟩, .string ⟨#[49]⟩], .agg #[.bool true, .string ⟨#[49]⟩, .string ⟨#[49]⟩, .bool false, .string ⟨#[50]⟩, .string ⟨#[49]⟩]] W fun e w' => e = .returned (.tuple #[.agg #[.bool true, .string ⟨#[49]⟩, .string ⟨#[50]⟩, .bool false, .string ⟨#[51]⟩, .string ⟨#[49]⟩], .int .i64 0]) ∧ Below W.heap.size W w' := fun W hW => c_add (⟨hx_p1_2, hx_p1_1, by rw [hv_p1_2, hv_p1_1]; decide +kernel⟩ : IvOk 4 ((false, ⟨#[49]⟩, ⟨#[50]⟩), (false, ⟨#[49]⟩, ⟨#[49]⟩))) (⟨hx_m1_1, hx_p2_1, by rw [hv_m1_1, hv_p2_1]; decide +kernel⟩ : IvOk 4 ((true, ⟨#[49]⟩, ⟨#[49]⟩), (false, ⟨#[50]⟩, ⟨#[49]⟩))) (by omega) (hx_m1_2.mono (by omega)) (hx_p3_1.mono (by omega)) (by rw [hv_m1_2, hv_p1_2, hv_m1_1]; decide +kernel) (by rw [hv_p3_1, hv_p1_1, hv_p2_1]; decide +kernel) W hW
theorem h5_prods : Prods (4 + 4) ((true, ⟨#[50]⟩, ⟨#[49]⟩), (false, ⟨#[51]⟩, ⟨#[49]⟩)) ((true, ⟨#[49]⟩, ⟨#[49]⟩), (false, ⟨#[52]⟩, ⟨#[49]⟩)) [(false, ⟨#[50]⟩, ⟨#[49]⟩), (true, ⟨#[56]⟩, ⟨#[49]⟩), (true, ⟨#[51]⟩, ⟨#[49]⟩), (false, ⟨#[49, 50]⟩, ⟨#[49]⟩)] := ⟨(false, ⟨#[50]⟩, ⟨#[49]⟩), (true, ⟨#[56]⟩, ⟨#[49]⟩), (true, ⟨#[51]⟩, ⟨#[49]⟩), (false, ⟨#[49, 50]⟩, ⟨#[49]⟩), rfl, ⟨hx_p2_1.mono (by omega), hx_m8_1.mono (by omega), hx_m3_1.mono (by omega), hx_p12_1.mono (by omega)⟩, by rw [hv_p2_1, hv_m2_1, hv_m1_1]; decide +kernel, by rw [hv_m8_1, hv_m2_1, hv_p4_1]; decide +kernel, by rw [hv_m3_1, hv_p3_1, hv_m1_1]; decide +kernel, by rw [hv_p12_1, hv_p3_1, hv_p4_1]; decide +kernel⟩
theorem h5_min : MinX [(false, ⟨#[50]⟩, ⟨#[49]⟩), (true, ⟨#[56]⟩, ⟨#[49]⟩), (true, ⟨#[51]⟩, ⟨#[49]⟩), (false, ⟨#[49, 50]⟩, ⟨#[49]⟩)] (true, ⟨#[56]⟩, ⟨#[49]⟩) := ⟨by simp, fun y hy => by
  simp only [List.mem_cons, List.not_mem_nil, or_false] at hy
  rcases hy with rfl | rfl | rfl | rfl <;> simp only [hv_m3_1, hv_m8_1, hv_p12_1, hv_p2_1] <;> decide +kernel⟩
theorem h5_max : MaxX [(false, ⟨#[50]⟩, ⟨#[49]⟩), (true, ⟨#[56]⟩, ⟨#[49]⟩), (true, ⟨#[51]⟩, ⟨#[49]⟩), (false, ⟨#[49, 50]⟩, ⟨#[49]⟩)] (false, ⟨#[49, 50]⟩, ⟨#[49]⟩) := ⟨by simp, fun y hy => by
  simp only [List.mem_cons, List.not_mem_nil, or_false] at hy
  rcases hy with rfl | rfl | rfl | rfl <;> simp only [hv_m3_1, hv_m8_1, hv_p12_1, hv_p2_1] <;> decide +kernel⟩
theorem h5_mul : ∀ W, LawW W → Calls Tryz.prog 13 #[.agg #[.bool true, .string ⟨#[50]⟩, .string ⟨#[49]⟩, .bool false, .string ⟨#[51]⟩, .string ⟨#[49]⟩], .agg #[.bool true, .string ⟨#[49]⟩, .string ⟨#[49]⟩, .bool false, .string ⟨#[52]⟩, .string ⟨#[49]⟩]] W fun e w' => e = .returned (.tuple #[.agg #[.bool true, .string ⟨#[56]⟩, .string ⟨#[49]⟩, .bool false, .string ⟨#[49, 50]⟩, .string ⟨#[49]⟩], .int .i64 0]) ∧ Below W.heap.size W w' := fun W hW => c_mul (⟨hx_m2_1, hx_p3_1, by rw [hv_m2_1, hv_p3_1]; decide +kernel⟩ : IvOk 4 ((true, ⟨#[50]⟩, ⟨#[49]⟩), (false, ⟨#[51]⟩, ⟨#[49]⟩))) (⟨hx_m1_1, hx_p4_1, by rw [hv_m1_1, hv_p4_1]; decide +kernel⟩ : IvOk 4 ((true, ⟨#[49]⟩, ⟨#[49]⟩), (false, ⟨#[52]⟩, ⟨#[49]⟩))) (by omega) h5_prods h5_min h5_max W hW
theorem h5_hmin : MinX [(false, ⟨#[49]⟩, ⟨#[49]⟩), (false, ⟨#[50]⟩, ⟨#[49]⟩), (false, ⟨#[53]⟩, ⟨#[49]⟩), (false, ⟨#[54]⟩, ⟨#[49]⟩), (false, ⟨#[48]⟩, ⟨#[49]⟩), (false, ⟨#[49]⟩, ⟨#[50]⟩)] (false, ⟨#[48]⟩, ⟨#[49]⟩) := ⟨by simp, fun y hy => by
  simp only [List.mem_cons, List.not_mem_nil, or_false] at hy
  rcases hy with rfl | rfl | rfl | rfl | rfl | rfl <;> simp only [hv_p0_1, hv_p1_1, hv_p1_2, hv_p2_1, hv_p5_1, hv_p6_1] <;> decide +kernel⟩
theorem h5_hmax : MaxX [(false, ⟨#[49]⟩, ⟨#[49]⟩), (false, ⟨#[50]⟩, ⟨#[49]⟩), (false, ⟨#[53]⟩, ⟨#[49]⟩), (false, ⟨#[54]⟩, ⟨#[49]⟩), (false, ⟨#[48]⟩, ⟨#[49]⟩), (false, ⟨#[49]⟩, ⟨#[50]⟩)] (false, ⟨#[54]⟩, ⟨#[49]⟩) := ⟨by simp, fun y hy => by
  simp only [List.mem_cons, List.not_mem_nil, or_false] at hy
  rcases hy with rfl | rfl | rfl | rfl | rfl | rfl <;> simp only [hv_p0_1, hv_p1_1, hv_p1_2, hv_p2_1, hv_p5_1, hv_p6_1] <;> decide +kernel⟩
theorem h5_hull (W : World) (v : Value) (hv : SliceOf vIv 6 W v [((false, ⟨#[49]⟩, ⟨#[49]⟩), (false, ⟨#[50]⟩, ⟨#[49]⟩)), ((false, ⟨#[53]⟩, ⟨#[49]⟩), (false, ⟨#[54]⟩, ⟨#[49]⟩)), ((false, ⟨#[48]⟩, ⟨#[49]⟩), (false, ⟨#[49]⟩, ⟨#[50]⟩))]) (hW : LawW W) : Calls Tryz.prog 15 #[v] W fun e w' => e = .returned (.tuple #[.agg #[.bool false, .string ⟨#[48]⟩, .string ⟨#[49]⟩, .bool false, .string ⟨#[54]⟩, .string ⟨#[49]⟩], .int .i64 0]) ∧ Below W.heap.size W w' :=
  c_hull (k := 4) (l := [((false, ⟨#[49]⟩, ⟨#[49]⟩), (false, ⟨#[50]⟩, ⟨#[49]⟩)), ((false, ⟨#[53]⟩, ⟨#[49]⟩), (false, ⟨#[54]⟩, ⟨#[49]⟩)), ((false, ⟨#[48]⟩, ⟨#[49]⟩), (false, ⟨#[49]⟩, ⟨#[50]⟩))]) (fun a ha => by
    simp only [List.mem_cons, List.not_mem_nil, or_false] at ha
    rcases ha with rfl | rfl | rfl
    · exact (⟨hx_p1_1, hx_p2_1, by rw [hv_p1_1, hv_p2_1]; decide +kernel⟩ : IvOk 4 ((false, ⟨#[49]⟩, ⟨#[49]⟩), (false, ⟨#[50]⟩, ⟨#[49]⟩)))
    · exact (⟨hx_p5_1, hx_p6_1, by rw [hv_p5_1, hv_p6_1]; decide +kernel⟩ : IvOk 4 ((false, ⟨#[53]⟩, ⟨#[49]⟩), (false, ⟨#[54]⟩, ⟨#[49]⟩)))
    · exact (⟨hx_p0_1, hx_p1_2, by rw [hv_p0_1, hv_p1_2]; decide +kernel⟩ : IvOk 4 ((false, ⟨#[48]⟩, ⟨#[49]⟩), (false, ⟨#[49]⟩, ⟨#[50]⟩)))) (by simp) (by simp) (by omega) h5_hmin h5_hmax W hv hW
theorem h5_nil : ∀ W, LawW W → Calls Tryz.prog 15 #[.slice none 0 0] W fun e w' => e = .returned (.tuple #[.agg #[.bool false, .string ⟨#[]⟩, .string ⟨#[]⟩, .bool false, .string ⟨#[]⟩, .string ⟨#[]⟩], .int .i64 10]) ∧ Below W.heap.size W w' := fun W hW => iv_hull_nil none 0 W (slice_nil W) hW
theorem h5_meet1 : ∀ W, LawW W → Calls Tryz.prog 17 #[.agg #[.bool false, .string ⟨#[48]⟩, .string ⟨#[49]⟩, .bool false, .string ⟨#[50]⟩, .string ⟨#[49]⟩], .agg #[.bool false, .string ⟨#[50]⟩, .string ⟨#[49]⟩, .bool false, .string ⟨#[51]⟩, .string ⟨#[49]⟩]] W fun e w' => e = .returned (.tuple #[.agg #[.bool false, .string ⟨#[50]⟩, .string ⟨#[49]⟩, .bool false, .string ⟨#[50]⟩, .string ⟨#[49]⟩], .bool true]) ∧ Below W.heap.size W w' := fun W hW => by
  have h := c_meet (⟨hx_p0_1, hx_p2_1, by rw [hv_p0_1, hv_p2_1]; decide +kernel⟩ : IvOk 4 ((false, ⟨#[48]⟩, ⟨#[49]⟩), (false, ⟨#[50]⟩, ⟨#[49]⟩))) (⟨hx_p2_1, hx_p3_1, by rw [hv_p2_1, hv_p3_1]; decide +kernel⟩ : IvOk 4 ((false, ⟨#[50]⟩, ⟨#[49]⟩), (false, ⟨#[51]⟩, ⟨#[49]⟩))) (by omega) (by omega) (x := (false, ⟨#[50]⟩, ⟨#[49]⟩)) (y := (false, ⟨#[50]⟩, ⟨#[49]⟩)) (by rw [if_pos (by rw [hv_p0_1, hv_p2_1]; decide +kernel)]) (by rw [if_neg (by rw [hv_p2_1, hv_p3_1]; decide +kernel)]) W hW
  rw [if_pos (by rw [hv_p2_1]; decide +kernel)] at h
  exact h
theorem h5_meet2 : ∀ W, LawW W → Calls Tryz.prog 17 #[.agg #[.bool false, .string ⟨#[48]⟩, .string ⟨#[49]⟩, .bool false, .string ⟨#[49]⟩, .string ⟨#[49]⟩], .agg #[.bool false, .string ⟨#[50]⟩, .string ⟨#[49]⟩, .bool false, .string ⟨#[51]⟩, .string ⟨#[49]⟩]] W fun e w' => e = .returned (.tuple #[.agg #[.bool false, .string ⟨#[]⟩, .string ⟨#[]⟩, .bool false, .string ⟨#[]⟩, .string ⟨#[]⟩], .bool false]) ∧ Below W.heap.size W w' := fun W hW => by
  have h := c_meet (⟨hx_p0_1, hx_p1_1, by rw [hv_p0_1, hv_p1_1]; decide +kernel⟩ : IvOk 4 ((false, ⟨#[48]⟩, ⟨#[49]⟩), (false, ⟨#[49]⟩, ⟨#[49]⟩))) (⟨hx_p2_1, hx_p3_1, by rw [hv_p2_1, hv_p3_1]; decide +kernel⟩ : IvOk 4 ((false, ⟨#[50]⟩, ⟨#[49]⟩), (false, ⟨#[51]⟩, ⟨#[49]⟩))) (by omega) (by omega) (x := (false, ⟨#[50]⟩, ⟨#[49]⟩)) (y := (false, ⟨#[49]⟩, ⟨#[49]⟩)) (by rw [if_pos (by rw [hv_p0_1, hv_p2_1]; decide +kernel)]) (by rw [if_neg (by rw [hv_p1_1, hv_p3_1]; decide +kernel)]) W hW
  rw [if_neg (by rw [hv_p2_1, hv_p1_1]; decide +kernel)] at h
  exact h
theorem h5_v1 : ∀ W, LawW W → Calls Tryz.prog 19 #[.agg #[.bool false, .string ⟨#[49]⟩, .string ⟨#[49]⟩, .bool false, .string ⟨#[49]⟩, .string ⟨#[49]⟩]] W fun e w' => e = .returned (.bool true) ∧ Below W.heap.size W w' := fun W hW => ivx_ok (⟨hx_p1_1, hx_p1_1, Rat.le_refl⟩ : IvOk 4 ((false, ⟨#[49]⟩, ⟨#[49]⟩), (false, ⟨#[49]⟩, ⟨#[49]⟩))) (by omega) W hW
theorem h5_v2 : ∀ W, LawW W → Calls Tryz.prog 19 #[.agg #[.bool false, .string ⟨#[50]⟩, .string ⟨#[49]⟩, .bool false, .string ⟨#[49]⟩, .string ⟨#[49]⟩]] W fun e w' => e = .returned (.bool false) ∧ Below W.heap.size W w' := fun W hW => by
  have h := iv_valid3 _ _ _ _ _ _ _ W (xv_ok hx_p2_1 (by omega)) (xv_ok hx_p1_1 (by omega)) (xc_ok hx_p2_1 hx_p1_1 (by omega) (by omega)) hW
  rw [decide_eq_false (fun h => absurd (cmpQ_le.1 h) (by rw [hv_p2_1, hv_p1_1]; decide +kernel))] at h
  exact h
theorem h5_v3 : ∀ W, LawW W → Calls Tryz.prog 19 #[.agg #[.bool false, .string ⟨#[]⟩, .string ⟨#[]⟩, .bool false, .string ⟨#[]⟩, .string ⟨#[]⟩]] W fun e w' => e = .returned (.bool false) ∧ Below W.heap.size W w' := fun W hW => iv_valid1 _ _ _ _ _ _ W (fun W hW => hd_V2 W hW) hW
set_option maxRecDepth 100000 in
theorem h5_c : ∀ W, LawW W → Calls Tryz.prog 21 #[.agg #[.bool false, .string ⟨#[48]⟩, .string ⟨#[49]⟩, .bool false, .string ⟨#[50]⟩, .string ⟨#[49]⟩], .agg #[.bool false, .string ⟨#[49]⟩, .string ⟨#[51]⟩]] W fun e w' => e = .returned (.bool true) ∧ Below W.heap.size W w' := fun W hW => by
  have h := c_contains (⟨hx_p0_1, hx_p2_1, by rw [hv_p0_1, hv_p2_1]; decide +kernel⟩ : IvOk 4 ((false, ⟨#[48]⟩, ⟨#[49]⟩), (false, ⟨#[50]⟩, ⟨#[49]⟩))) hx_p1_3 (by omega) (by omega) W hW
  rw [decide_eq_true (by rw [hv_p0_1, hv_p1_3, hv_p2_1]; decide +kernel)] at h
  exact h
theorem field_iv0 (a b c d e f : Value) (W : World) : Sem.run Tryz.prog (Instr.field 26 (.agg #[a, b, c, d, e, f]) 0) W = .ok (.agg #[a, b, c]) W := by
  simp [Instr.field, go_sem, asAgg, Tryz.underlying26]
attribute [local go_sem] field_iv0
theorem oo_1_2_1_1 : ∀ W, LawW W → Calls Tryz.prog 25 #[.int .i64 1, .int .i64 2, .int .i64 1, .int .i64 1] W fun e w' => e = .returned (.agg #[.bool false, .string ⟨#[49]⟩, .string ⟨#[50]⟩, .bool false, .string ⟨#[49]⟩, .string ⟨#[49]⟩]) ∧ Below W.heap.size W w' := fun W hW => law05_of (1) (2) (1) (1) (false, ⟨#[49]⟩, ⟨#[50]⟩) (false, ⟨#[49]⟩, ⟨#[49]⟩) W ho_p1_2 ho_p1_1 hW
theorem oo_m1_1_2_1 : ∀ W, LawW W → Calls Tryz.prog 25 #[.int .i64 (-1), .int .i64 1, .int .i64 2, .int .i64 1] W fun e w' => e = .returned (.agg #[.bool true, .string ⟨#[49]⟩, .string ⟨#[49]⟩, .bool false, .string ⟨#[50]⟩, .string ⟨#[49]⟩]) ∧ Below W.heap.size W w' := fun W hW => law05_of (-1) (1) (2) (1) (true, ⟨#[49]⟩, ⟨#[49]⟩) (false, ⟨#[50]⟩, ⟨#[49]⟩) W ho_m1_1 ho_p2_1 hW
theorem oo_m2_1_3_1 : ∀ W, LawW W → Calls Tryz.prog 25 #[.int .i64 (-2), .int .i64 1, .int .i64 3, .int .i64 1] W fun e w' => e = .returned (.agg #[.bool true, .string ⟨#[50]⟩, .string ⟨#[49]⟩, .bool false, .string ⟨#[51]⟩, .string ⟨#[49]⟩]) ∧ Below W.heap.size W w' := fun W hW => law05_of (-2) (1) (3) (1) (true, ⟨#[50]⟩, ⟨#[49]⟩) (false, ⟨#[51]⟩, ⟨#[49]⟩) W ho_m2_1 ho_p3_1 hW
theorem oo_m1_1_4_1 : ∀ W, LawW W → Calls Tryz.prog 25 #[.int .i64 (-1), .int .i64 1, .int .i64 4, .int .i64 1] W fun e w' => e = .returned (.agg #[.bool true, .string ⟨#[49]⟩, .string ⟨#[49]⟩, .bool false, .string ⟨#[52]⟩, .string ⟨#[49]⟩]) ∧ Below W.heap.size W w' := fun W hW => law05_of (-1) (1) (4) (1) (true, ⟨#[49]⟩, ⟨#[49]⟩) (false, ⟨#[52]⟩, ⟨#[49]⟩) W ho_m1_1 ho_p4_1 hW
theorem oo_1_1_2_1 : ∀ W, LawW W → Calls Tryz.prog 25 #[.int .i64 1, .int .i64 1, .int .i64 2, .int .i64 1] W fun e w' => e = .returned (.agg #[.bool false, .string ⟨#[49]⟩, .string ⟨#[49]⟩, .bool false, .string ⟨#[50]⟩, .string ⟨#[49]⟩]) ∧ Below W.heap.size W w' := fun W hW => law05_of (1) (1) (2) (1) (false, ⟨#[49]⟩, ⟨#[49]⟩) (false, ⟨#[50]⟩, ⟨#[49]⟩) W ho_p1_1 ho_p2_1 hW
theorem oo_5_1_6_1 : ∀ W, LawW W → Calls Tryz.prog 25 #[.int .i64 5, .int .i64 1, .int .i64 6, .int .i64 1] W fun e w' => e = .returned (.agg #[.bool false, .string ⟨#[53]⟩, .string ⟨#[49]⟩, .bool false, .string ⟨#[54]⟩, .string ⟨#[49]⟩]) ∧ Below W.heap.size W w' := fun W hW => law05_of (5) (1) (6) (1) (false, ⟨#[53]⟩, ⟨#[49]⟩) (false, ⟨#[54]⟩, ⟨#[49]⟩) W ho_p5_1 ho_p6_1 hW
theorem oo_0_1_1_2 : ∀ W, LawW W → Calls Tryz.prog 25 #[.int .i64 0, .int .i64 1, .int .i64 1, .int .i64 2] W fun e w' => e = .returned (.agg #[.bool false, .string ⟨#[48]⟩, .string ⟨#[49]⟩, .bool false, .string ⟨#[49]⟩, .string ⟨#[50]⟩]) ∧ Below W.heap.size W w' := fun W hW => law05_of (0) (1) (1) (2) (false, ⟨#[48]⟩, ⟨#[49]⟩) (false, ⟨#[49]⟩, ⟨#[50]⟩) W ho_p0_1 ho_p1_2 hW
theorem oo_0_1_2_1 : ∀ W, LawW W → Calls Tryz.prog 25 #[.int .i64 0, .int .i64 1, .int .i64 2, .int .i64 1] W fun e w' => e = .returned (.agg #[.bool false, .string ⟨#[48]⟩, .string ⟨#[49]⟩, .bool false, .string ⟨#[50]⟩, .string ⟨#[49]⟩]) ∧ Below W.heap.size W w' := fun W hW => law05_of (0) (1) (2) (1) (false, ⟨#[48]⟩, ⟨#[49]⟩) (false, ⟨#[50]⟩, ⟨#[49]⟩) W ho_p0_1 ho_p2_1 hW
theorem oo_2_1_3_1 : ∀ W, LawW W → Calls Tryz.prog 25 #[.int .i64 2, .int .i64 1, .int .i64 3, .int .i64 1] W fun e w' => e = .returned (.agg #[.bool false, .string ⟨#[50]⟩, .string ⟨#[49]⟩, .bool false, .string ⟨#[51]⟩, .string ⟨#[49]⟩]) ∧ Below W.heap.size W w' := fun W hW => law05_of (2) (1) (3) (1) (false, ⟨#[50]⟩, ⟨#[49]⟩) (false, ⟨#[51]⟩, ⟨#[49]⟩) W ho_p2_1 ho_p3_1 hW
theorem oo_0_1_1_1 : ∀ W, LawW W → Calls Tryz.prog 25 #[.int .i64 0, .int .i64 1, .int .i64 1, .int .i64 1] W fun e w' => e = .returned (.agg #[.bool false, .string ⟨#[48]⟩, .string ⟨#[49]⟩, .bool false, .string ⟨#[49]⟩, .string ⟨#[49]⟩]) ∧ Below W.heap.size W w' := fun W hW => law05_of (0) (1) (1) (1) (false, ⟨#[48]⟩, ⟨#[49]⟩) (false, ⟨#[49]⟩, ⟨#[49]⟩) W ho_p0_1 ho_p1_1 hW
theorem oo_m1_2_3_1 : ∀ W, LawW W → Calls Tryz.prog 25 #[.int .i64 (-1), .int .i64 2, .int .i64 3, .int .i64 1] W fun e w' => e = .returned (.agg #[.bool true, .string ⟨#[49]⟩, .string ⟨#[50]⟩, .bool false, .string ⟨#[51]⟩, .string ⟨#[49]⟩]) ∧ Below W.heap.size W w' := fun W hW => law05_of (-1) (2) (3) (1) (true, ⟨#[49]⟩, ⟨#[50]⟩) (false, ⟨#[51]⟩, ⟨#[49]⟩) W ho_m1_2 ho_p3_1 hW
theorem oo_m8_1_12_1 : ∀ W, LawW W → Calls Tryz.prog 25 #[.int .i64 (-8), .int .i64 1, .int .i64 12, .int .i64 1] W fun e w' => e = .returned (.agg #[.bool true, .string ⟨#[56]⟩, .string ⟨#[49]⟩, .bool false, .string ⟨#[49, 50]⟩, .string ⟨#[49]⟩]) ∧ Below W.heap.size W w' := fun W hW => law05_of (-8) (1) (12) (1) (true, ⟨#[56]⟩, ⟨#[49]⟩) (false, ⟨#[49, 50]⟩, ⟨#[49]⟩) W ho_m8_1 ho_p12_1 hW
theorem oo_0_1_6_1 : ∀ W, LawW W → Calls Tryz.prog 25 #[.int .i64 0, .int .i64 1, .int .i64 6, .int .i64 1] W fun e w' => e = .returned (.agg #[.bool false, .string ⟨#[48]⟩, .string ⟨#[49]⟩, .bool false, .string ⟨#[54]⟩, .string ⟨#[49]⟩]) ∧ Below W.heap.size W w' := fun W hW => law05_of (0) (1) (6) (1) (false, ⟨#[48]⟩, ⟨#[49]⟩) (false, ⟨#[54]⟩, ⟨#[49]⟩) W ho_p0_1 ho_p6_1 hW
theorem oo_2_1_2_1 : ∀ W, LawW W → Calls Tryz.prog 25 #[.int .i64 2, .int .i64 1, .int .i64 2, .int .i64 1] W fun e w' => e = .returned (.agg #[.bool false, .string ⟨#[50]⟩, .string ⟨#[49]⟩, .bool false, .string ⟨#[50]⟩, .string ⟨#[49]⟩]) ∧ Below W.heap.size W w' := fun W hW => law05_of (2) (1) (2) (1) (false, ⟨#[50]⟩, ⟨#[49]⟩) (false, ⟨#[50]⟩, ⟨#[49]⟩) W ho_p2_1 ho_p2_1 hW
theorem oo_1_1_1_1 : ∀ W, LawW W → Calls Tryz.prog 25 #[.int .i64 1, .int .i64 1, .int .i64 1, .int .i64 1] W fun e w' => e = .returned (.agg #[.bool false, .string ⟨#[49]⟩, .string ⟨#[49]⟩, .bool false, .string ⟨#[49]⟩, .string ⟨#[49]⟩]) ∧ Below W.heap.size W w' := fun W hW => law05_of (1) (1) (1) (1) (false, ⟨#[49]⟩, ⟨#[49]⟩) (false, ⟨#[49]⟩, ⟨#[49]⟩) W ho_p1_1 ho_p1_1 hW
theorem oo_2_1_1_1 : ∀ W, LawW W → Calls Tryz.prog 25 #[.int .i64 2, .int .i64 1, .int .i64 1, .int .i64 1] W fun e w' => e = .returned (.agg #[.bool false, .string ⟨#[50]⟩, .string ⟨#[49]⟩, .bool false, .string ⟨#[49]⟩, .string ⟨#[49]⟩]) ∧ Below W.heap.size W w' := fun W hW => law05_of (2) (1) (1) (1) (false, ⟨#[50]⟩, ⟨#[49]⟩) (false, ⟨#[49]⟩, ⟨#[49]⟩) W ho_p2_1 ho_p1_1 hW
theorem oo_1_3_1_1 : ∀ W, LawW W → Calls Tryz.prog 25 #[.int .i64 1, .int .i64 3, .int .i64 1, .int .i64 1] W fun e w' => e = .returned (.agg #[.bool false, .string ⟨#[49]⟩, .string ⟨#[51]⟩, .bool false, .string ⟨#[49]⟩, .string ⟨#[49]⟩]) ∧ Below W.heap.size W w' := fun W hW => law05_of (1) (3) (1) (1) (false, ⟨#[49]⟩, ⟨#[51]⟩) (false, ⟨#[49]⟩, ⟨#[49]⟩) W ho_p1_3 ho_p1_1 hW
set_option maxHeartbeats 4000000 in
set_option maxRecDepth 100000 in
theorem law05_head  (w : World)  (hw : LawW w) :
    Calls Tryz.prog 9 #[] w fun e w' => e = .returned (.bool true) ∧ Below w.heap.size w w' := by
  have HW := hide hw
  have HV0 : Hid (VB w w []) := VB.nil w
  clear hw 
  go_enter Tryz.func9, Tryz.ntmps9
  go_wp2_with fail
  refine ((hide oo_1_2_1_1).out _ (HV0.out.law HW.out)).mono ?_
  rintro e w1 ⟨rfl, hb⟩
  have HV1 := hide (HV0.out.below hb)
  clear hb HV0
  go_wp2_with fail
  refine ((hide oo_m1_1_2_1).out _ (HV1.out.law HW.out)).mono ?_
  rintro e w2 ⟨rfl, hb⟩
  have HV2 := hide (HV1.out.below hb)
  clear hb HV1
  go_wp2_with fail
  refine ((hide h5_add).out _ (HV2.out.law HW.out)).mono ?_
  rintro e w3 ⟨rfl, hb⟩
  have HV3 := hide (HV2.out.below hb)
  clear hb HV2
  have HV3_ := hide (HV3.out.push6 (b := w3.heap.size) (by simp) (.bool true) (.string ⟨#[49]⟩) (.string ⟨#[50]⟩) (.bool false) (.string ⟨#[51]⟩) (.string ⟨#[49]⟩) 26)
  clear HV3
  go_wp2_with fail
  refine ((hide oo_m2_1_3_1).out _ (HV3_.out.law HW.out)).mono ?_
  rintro e w4 ⟨rfl, hb⟩
  have HV4 := hide (HV3_.out.below hb)
  clear hb HV3_
  go_wp2_with fail
  refine ((hide oo_m1_1_4_1).out _ (HV4.out.law HW.out)).mono ?_
  rintro e w5 ⟨rfl, hb⟩
  have HV5 := hide (HV4.out.below hb)
  clear hb HV4
  go_wp2_with fail
  refine ((hide h5_mul).out _ (HV5.out.law HW.out)).mono ?_
  rintro e w6 ⟨rfl, hb⟩
  have HV6 := hide (HV5.out.below hb)
  clear hb HV5
  have HV6_ := hide (HV6.out.push6 (b := w6.heap.size) (by simp) (.bool true) (.string ⟨#[56]⟩) (.string ⟨#[49]⟩) (.bool false) (.string ⟨#[49, 50]⟩) (.string ⟨#[49]⟩) 26)
  clear HV6
  go_wp2_with fail
  refine ((hide oo_1_1_2_1).out _ (HV6_.out.law HW.out)).mono ?_
  rintro e w7 ⟨rfl, hb⟩
  have HV7 := hide (HV6_.out.below hb)
  clear hb HV6_
  go_wp2_with fail
  refine ((hide oo_5_1_6_1).out _ (HV7.out.law HW.out)).mono ?_
  rintro e w8 ⟨rfl, hb⟩
  have HV8 := hide (HV7.out.below hb)
  clear hb HV7
  go_wp2_with fail
  refine ((hide oo_0_1_1_2).out _ (HV8.out.law HW.out)).mono ?_
  rintro e w9 ⟨rfl, hb⟩
  have HV9 := hide (HV8.out.below hb)
  clear hb HV8
  have hlit : SliceOf vIv 6 (w9.alloc (.cells #[.bool false, .string ⟨#[49]⟩, .string ⟨#[49]⟩, .bool false, .string ⟨#[50]⟩, .string ⟨#[49]⟩, .bool false, .string ⟨#[53]⟩, .string ⟨#[49]⟩, .bool false, .string ⟨#[54]⟩, .string ⟨#[49]⟩, .bool false, .string ⟨#[48]⟩, .string ⟨#[49]⟩, .bool false, .string ⟨#[49]⟩, .string ⟨#[50]⟩] 26)) (.slice (some ⟨w9.heap.size, 0, none⟩) 3 3) [((false, ⟨#[49]⟩, ⟨#[49]⟩), (false, ⟨#[50]⟩, ⟨#[49]⟩)), ((false, ⟨#[53]⟩, ⟨#[49]⟩), (false, ⟨#[54]⟩, ⟨#[49]⟩)), ((false, ⟨#[48]⟩, ⟨#[49]⟩), (false, ⟨#[49]⟩, ⟨#[50]⟩))] := slice_lit_iv vIv_len w9 [((false, ⟨#[49]⟩, ⟨#[49]⟩), (false, ⟨#[50]⟩, ⟨#[49]⟩)), ((false, ⟨#[53]⟩, ⟨#[49]⟩), (false, ⟨#[54]⟩, ⟨#[49]⟩)), ((false, ⟨#[48]⟩, ⟨#[49]⟩), (false, ⟨#[49]⟩, ⟨#[50]⟩))] _ (show 3 ≤ maxLen by decide) rfl rfl rfl
  have HLIT := hide hlit
  clear hlit
  have HV9_ := hide (HV9.out.anon (.cells #[.bool false, .string ⟨#[49]⟩, .string ⟨#[49]⟩, .bool false, .string ⟨#[50]⟩, .string ⟨#[49]⟩, .bool false, .string ⟨#[53]⟩, .string ⟨#[49]⟩, .bool false, .string ⟨#[54]⟩, .string ⟨#[49]⟩, .bool false, .string ⟨#[48]⟩, .string ⟨#[49]⟩, .bool false, .string ⟨#[49]⟩, .string ⟨#[50]⟩] 26))
  clear HV9
  go_wp2_with fail
  refine (h5_hull _ _ HLIT.out (HV9_.out.law HW.out)).mono ?_
  rintro e w10 ⟨rfl, hb⟩
  have HV10 := hide (HV9_.out.below hb)
  clear hb HLIT HV9_
  have HV10_ := hide (HV10.out.push6 (b := w10.heap.size) (by simp) (.bool false) (.string ⟨#[48]⟩) (.string ⟨#[49]⟩) (.bool false) (.string ⟨#[54]⟩) (.string ⟨#[49]⟩) 26)
  clear HV10
  go_wp2_with fail
  refine ((hide h5_nil).out _ (HV10_.out.law HW.out)).mono ?_
  rintro e w11 ⟨rfl, hb⟩
  have HV11 := hide (HV10_.out.below hb)
  clear hb HV10_
  have HV11_ := hide (HV11.out.push6 (b := w11.heap.size) (by simp) (.bool false) (.string ⟨#[]⟩) (.string ⟨#[]⟩) (.bool false) (.string ⟨#[]⟩) (.string ⟨#[]⟩) 26)
  clear HV11
  go_wp2_with fail
  refine ((hide oo_0_1_2_1).out _ (HV11_.out.law HW.out)).mono ?_
  rintro e w12 ⟨rfl, hb⟩
  have HV12 := hide (HV11_.out.below hb)
  clear hb HV11_
  go_wp2_with fail
  refine ((hide oo_2_1_3_1).out _ (HV12.out.law HW.out)).mono ?_
  rintro e w13 ⟨rfl, hb⟩
  have HV13 := hide (HV12.out.below hb)
  clear hb HV12
  go_wp2_with fail
  refine ((hide h5_meet1).out _ (HV13.out.law HW.out)).mono ?_
  rintro e w14 ⟨rfl, hb⟩
  have HV14 := hide (HV13.out.below hb)
  clear hb HV13
  have HV14_ := hide (HV14.out.push6 (b := w14.heap.size) (by simp) (.bool false) (.string ⟨#[50]⟩) (.string ⟨#[49]⟩) (.bool false) (.string ⟨#[50]⟩) (.string ⟨#[49]⟩) 26)
  clear HV14
  go_wp2_with fail
  refine ((hide oo_0_1_1_1).out _ (HV14_.out.law HW.out)).mono ?_
  rintro e w15 ⟨rfl, hb⟩
  have HV15 := hide (HV14_.out.below hb)
  clear hb HV14_
  go_wp2_with fail
  refine ((hide oo_2_1_3_1).out _ (HV15.out.law HW.out)).mono ?_
  rintro e w16 ⟨rfl, hb⟩
  have HV16 := hide (HV15.out.below hb)
  clear hb HV15
  go_wp2_with fail
  refine ((hide h5_meet2).out _ (HV16.out.law HW.out)).mono ?_
  rintro e w17 ⟨rfl, hb⟩
  have HV17 := hide (HV16.out.below hb)
  clear hb HV16
  have HV17_ := hide (HV17.out.push6 (b := w17.heap.size) (by simp) (.bool false) (.string ⟨#[]⟩) (.string ⟨#[]⟩) (.bool false) (.string ⟨#[]⟩) (.string ⟨#[]⟩) 26)
  clear HV17
  go_wp2_with fail
  obtain ⟨wA, hwA⟩ : ∃ x, (w17.alloc (.cells #[.bool false, .string ⟨#[]⟩, .string ⟨#[]⟩, .bool false, .string ⟨#[]⟩, .string ⟨#[]⟩] 26)) = x := ⟨_, rfl⟩
  have hvA := HV17_.out
  rw [hwA] at hvA ⊢
  clear hwA HV17_
  have HSA : Hid (∀ W, VB w W [(w17.heap.size, [.bool false, .string ⟨#[]⟩, .string ⟨#[]⟩, .bool false, .string ⟨#[]⟩, .string ⟨#[]⟩]), (w14.heap.size, [.bool false, .string ⟨#[50]⟩, .string ⟨#[49]⟩, .bool false, .string ⟨#[50]⟩, .string ⟨#[49]⟩]), (w11.heap.size, [.bool false, .string ⟨#[]⟩, .string ⟨#[]⟩, .bool false, .string ⟨#[]⟩, .string ⟨#[]⟩]), (w10.heap.size, [.bool false, .string ⟨#[48]⟩, .string ⟨#[49]⟩, .bool false, .string ⟨#[54]⟩, .string ⟨#[49]⟩]), (w6.heap.size, [.bool true, .string ⟨#[56]⟩, .string ⟨#[49]⟩, .bool false, .string ⟨#[49, 50]⟩, .string ⟨#[49]⟩]), (w3.heap.size, [.bool true, .string ⟨#[49]⟩, .string ⟨#[50]⟩, .bool false, .string ⟨#[51]⟩, .string ⟨#[49]⟩])] → W.cell? ⟨w3.heap.size, 0, none⟩ = some (.bool true) ∧ W.cell? ⟨w3.heap.size, 1, none⟩ = some (.string ⟨#[49]⟩) ∧ W.cell? ⟨w3.heap.size, 2, none⟩ = some (.string ⟨#[50]⟩) ∧ W.cell? ⟨w3.heap.size, 3, none⟩ = some (.bool false) ∧ W.cell? ⟨w3.heap.size, 4, none⟩ = some (.string ⟨#[51]⟩) ∧ W.cell? ⟨w3.heap.size, 5, none⟩ = some (.string ⟨#[49]⟩) ∧ W.cell? ⟨w6.heap.size, 0, none⟩ = some (.bool true) ∧ W.cell? ⟨w6.heap.size, 1, none⟩ = some (.string ⟨#[56]⟩) ∧ W.cell? ⟨w6.heap.size, 2, none⟩ = some (.string ⟨#[49]⟩) ∧ W.cell? ⟨w6.heap.size, 3, none⟩ = some (.bool false) ∧ W.cell? ⟨w6.heap.size, 4, none⟩ = some (.string ⟨#[49, 50]⟩) ∧ W.cell? ⟨w6.heap.size, 5, none⟩ = some (.string ⟨#[49]⟩) ∧ W.cell? ⟨w10.heap.size, 0, none⟩ = some (.bool false) ∧ W.cell? ⟨w10.heap.size, 1, none⟩ = some (.string ⟨#[48]⟩) ∧ W.cell? ⟨w10.heap.size, 2, none⟩ = some (.string ⟨#[49]⟩) ∧ W.cell? ⟨w10.heap.size, 3, none⟩ = some (.bool false) ∧ W.cell? ⟨w10.heap.size, 4, none⟩ = some (.string ⟨#[54]⟩) ∧ W.cell? ⟨w10.heap.size, 5, none⟩ = some (.string ⟨#[49]⟩)) := fun W h => ⟨(h.at (b := w3.heap.size) (vs := [.bool true, .string ⟨#[49]⟩, .string ⟨#[50]⟩, .bool false, .string ⟨#[51]⟩, .string ⟨#[49]⟩]) (by simp) 0 (show 0 < 6 by decide)).1, (h.at (b := w3.heap.size) (vs := [.bool true, .string ⟨#[49]⟩, .string ⟨#[50]⟩, .bool false, .string ⟨#[51]⟩, .string ⟨#[49]⟩]) (by simp) 1 (show 1 < 6 by decide)).1, (h.at (b := w3.heap.size) (vs := [.bool true, .string ⟨#[49]⟩, .string ⟨#[50]⟩, .bool false, .string ⟨#[51]⟩, .string ⟨#[49]⟩]) (by simp) 2 (show 2 < 6 by decide)).1, (h.at (b := w3.heap.size) (vs := [.bool true, .string ⟨#[49]⟩, .string ⟨#[50]⟩, .bool false, .string ⟨#[51]⟩, .string ⟨#[49]⟩]) (by simp) 3 (show 3 < 6 by decide)).1, (h.at (b := w3.heap.size) (vs := [.bool true, .string ⟨#[49]⟩, .string ⟨#[50]⟩, .bool false, .string ⟨#[51]⟩, .string ⟨#[49]⟩]) (by simp) 4 (show 4 < 6 by decide)).1, (h.at (b := w3.heap.size) (vs := [.bool true, .string ⟨#[49]⟩, .string ⟨#[50]⟩, .bool false, .string ⟨#[51]⟩, .string ⟨#[49]⟩]) (by simp) 5 (show 5 < 6 by decide)).1, (h.at (b := w6.heap.size) (vs := [.bool true, .string ⟨#[56]⟩, .string ⟨#[49]⟩, .bool false, .string ⟨#[49, 50]⟩, .string ⟨#[49]⟩]) (by simp) 0 (show 0 < 6 by decide)).1, (h.at (b := w6.heap.size) (vs := [.bool true, .string ⟨#[56]⟩, .string ⟨#[49]⟩, .bool false, .string ⟨#[49, 50]⟩, .string ⟨#[49]⟩]) (by simp) 1 (show 1 < 6 by decide)).1, (h.at (b := w6.heap.size) (vs := [.bool true, .string ⟨#[56]⟩, .string ⟨#[49]⟩, .bool false, .string ⟨#[49, 50]⟩, .string ⟨#[49]⟩]) (by simp) 2 (show 2 < 6 by decide)).1, (h.at (b := w6.heap.size) (vs := [.bool true, .string ⟨#[56]⟩, .string ⟨#[49]⟩, .bool false, .string ⟨#[49, 50]⟩, .string ⟨#[49]⟩]) (by simp) 3 (show 3 < 6 by decide)).1, (h.at (b := w6.heap.size) (vs := [.bool true, .string ⟨#[56]⟩, .string ⟨#[49]⟩, .bool false, .string ⟨#[49, 50]⟩, .string ⟨#[49]⟩]) (by simp) 4 (show 4 < 6 by decide)).1, (h.at (b := w6.heap.size) (vs := [.bool true, .string ⟨#[56]⟩, .string ⟨#[49]⟩, .bool false, .string ⟨#[49, 50]⟩, .string ⟨#[49]⟩]) (by simp) 5 (show 5 < 6 by decide)).1, (h.at (b := w10.heap.size) (vs := [.bool false, .string ⟨#[48]⟩, .string ⟨#[49]⟩, .bool false, .string ⟨#[54]⟩, .string ⟨#[49]⟩]) (by simp) 0 (show 0 < 6 by decide)).1, (h.at (b := w10.heap.size) (vs := [.bool false, .string ⟨#[48]⟩, .string ⟨#[49]⟩, .bool false, .string ⟨#[54]⟩, .string ⟨#[49]⟩]) (by simp) 1 (show 1 < 6 by decide)).1, (h.at (b := w10.heap.size) (vs := [.bool false, .string ⟨#[48]⟩, .string ⟨#[49]⟩, .bool false, .string ⟨#[54]⟩, .string ⟨#[49]⟩]) (by simp) 2 (show 2 < 6 by decide)).1, (h.at (b := w10.heap.size) (vs := [.bool false, .string ⟨#[48]⟩, .string ⟨#[49]⟩, .bool false, .string ⟨#[54]⟩, .string ⟨#[49]⟩]) (by simp) 3 (show 3 < 6 by decide)).1, (h.at (b := w10.heap.size) (vs := [.bool false, .string ⟨#[48]⟩, .string ⟨#[49]⟩, .bool false, .string ⟨#[54]⟩, .string ⟨#[49]⟩]) (by simp) 4 (show 4 < 6 by decide)).1, (h.at (b := w10.heap.size) (vs := [.bool false, .string ⟨#[48]⟩, .string ⟨#[49]⟩, .bool false, .string ⟨#[54]⟩, .string ⟨#[49]⟩]) (by simp) 5 (show 5 < 6 by decide)).1⟩
  go_cut [13] (fun z wx => z = .bool true ∧ VB w wx [(w17.heap.size, [.bool false, .string ⟨#[]⟩, .string ⟨#[]⟩, .bool false, .string ⟨#[]⟩, .string ⟨#[]⟩]), (w14.heap.size, [.bool false, .string ⟨#[50]⟩, .string ⟨#[49]⟩, .bool false, .string ⟨#[50]⟩, .string ⟨#[49]⟩]), (w11.heap.size, [.bool false, .string ⟨#[]⟩, .string ⟨#[]⟩, .bool false, .string ⟨#[]⟩, .string ⟨#[]⟩]), (w10.heap.size, [.bool false, .string ⟨#[48]⟩, .string ⟨#[49]⟩, .bool false, .string ⟨#[54]⟩, .string ⟨#[49]⟩]), (w6.heap.size, [.bool true, .string ⟨#[56]⟩, .string ⟨#[49]⟩, .bool false, .string ⟨#[49, 50]⟩, .string ⟨#[49]⟩]), (w3.heap.size, [.bool true, .string ⟨#[49]⟩, .string ⟨#[50]⟩, .bool false, .string ⟨#[51]⟩, .string ⟨#[49]⟩])])
  case first =>
    have hd := hvA.drew
    go_region_held3 (fun w' => w'.cell? ⟨w3.heap.size, 0, none⟩ = some (.bool true) ∧ w'.cell? ⟨w3.heap.size, 1, none⟩ = some (.string ⟨#[49]⟩) ∧ w'.cell? ⟨w3.heap.size, 2, none⟩ = some (.string ⟨#[50]⟩) ∧ w'.cell? ⟨w3.heap.size, 3, none⟩ = some (.bool false) ∧ w'.cell? ⟨w3.heap.size, 4, none⟩ = some (.string ⟨#[51]⟩) ∧ w'.cell? ⟨w3.heap.size, 5, none⟩ = some (.string ⟨#[49]⟩) ∧ w'.cell? ⟨w6.heap.size, 0, none⟩ = some (.bool true) ∧ w'.cell? ⟨w6.heap.size, 1, none⟩ = some (.string ⟨#[56]⟩) ∧ w'.cell? ⟨w6.heap.size, 2, none⟩ = some (.string ⟨#[49]⟩) ∧ w'.cell? ⟨w6.heap.size, 3, none⟩ = some (.bool false) ∧ w'.cell? ⟨w6.heap.size, 4, none⟩ = some (.string ⟨#[49, 50]⟩) ∧ w'.cell? ⟨w6.heap.size, 5, none⟩ = some (.string ⟨#[49]⟩) ∧ w'.cell? ⟨w10.heap.size, 0, none⟩ = some (.bool false) ∧ w'.cell? ⟨w10.heap.size, 1, none⟩ = some (.string ⟨#[48]⟩) ∧ w'.cell? ⟨w10.heap.size, 2, none⟩ = some (.string ⟨#[49]⟩) ∧ w'.cell? ⟨w10.heap.size, 3, none⟩ = some (.bool false) ∧ w'.cell? ⟨w10.heap.size, 4, none⟩ = some (.string ⟨#[54]⟩) ∧ w'.cell? ⟨w10.heap.size, 5, none⟩ = some (.string ⟨#[49]⟩))
      (first | exact HSA.out _ (by assumption) | exact HSA.out _ (VB.anon (by assumption) _))
      ((first
        | (go_at_call 25; (with_reducible refine ((hide oo_m1_2_3_1).out _ (VB.law (w := w) (L := [(w17.heap.size, [.bool false, .string ⟨#[]⟩, .string ⟨#[]⟩, .bool false, .string ⟨#[]⟩, .string ⟨#[]⟩]), (w14.heap.size, [.bool false, .string ⟨#[50]⟩, .string ⟨#[49]⟩, .bool false, .string ⟨#[50]⟩, .string ⟨#[49]⟩]), (w11.heap.size, [.bool false, .string ⟨#[]⟩, .string ⟨#[]⟩, .bool false, .string ⟨#[]⟩, .string ⟨#[]⟩]), (w10.heap.size, [.bool false, .string ⟨#[48]⟩, .string ⟨#[49]⟩, .bool false, .string ⟨#[54]⟩, .string ⟨#[49]⟩]), (w6.heap.size, [.bool true, .string ⟨#[56]⟩, .string ⟨#[49]⟩, .bool false, .string ⟨#[49, 50]⟩, .string ⟨#[49]⟩]), (w3.heap.size, [.bool true, .string ⟨#[49]⟩, .string ⟨#[50]⟩, .bool false, .string ⟨#[51]⟩, .string ⟨#[49]⟩])]) (by assumption) HW.out)).mono ?_); rintro e wa ⟨rfl, hb⟩; have hd := VB.below (w := w) (L := [(w17.heap.size, [.bool false, .string ⟨#[]⟩, .string ⟨#[]⟩, .bool false, .string ⟨#[]⟩, .string ⟨#[]⟩]), (w14.heap.size, [.bool false, .string ⟨#[50]⟩, .string ⟨#[49]⟩, .bool false, .string ⟨#[50]⟩, .string ⟨#[49]⟩]), (w11.heap.size, [.bool false, .string ⟨#[]⟩, .string ⟨#[]⟩, .bool false, .string ⟨#[]⟩, .string ⟨#[]⟩]), (w10.heap.size, [.bool false, .string ⟨#[48]⟩, .string ⟨#[49]⟩, .bool false, .string ⟨#[54]⟩, .string ⟨#[49]⟩]), (w6.heap.size, [.bool true, .string ⟨#[56]⟩, .string ⟨#[49]⟩, .bool false, .string ⟨#[49, 50]⟩, .string ⟨#[49]⟩]), (w3.heap.size, [.bool true, .string ⟨#[49]⟩, .string ⟨#[50]⟩, .bool false, .string ⟨#[51]⟩, .string ⟨#[49]⟩])]) (by assumption) hb; clear hb)
        | (go_at_call 25; (with_reducible refine ((hide oo_m8_1_12_1).out _ (VB.law (w := w) (L := [(w17.heap.size, [.bool false, .string ⟨#[]⟩, .string ⟨#[]⟩, .bool false, .string ⟨#[]⟩, .string ⟨#[]⟩]), (w14.heap.size, [.bool false, .string ⟨#[50]⟩, .string ⟨#[49]⟩, .bool false, .string ⟨#[50]⟩, .string ⟨#[49]⟩]), (w11.heap.size, [.bool false, .string ⟨#[]⟩, .string ⟨#[]⟩, .bool false, .string ⟨#[]⟩, .string ⟨#[]⟩]), (w10.heap.size, [.bool false, .string ⟨#[48]⟩, .string ⟨#[49]⟩, .bool false, .string ⟨#[54]⟩, .string ⟨#[49]⟩]), (w6.heap.size, [.bool true, .string ⟨#[56]⟩, .string ⟨#[49]⟩, .bool false, .string ⟨#[49, 50]⟩, .string ⟨#[49]⟩]), (w3.heap.size, [.bool true, .string ⟨#[49]⟩, .string ⟨#[50]⟩, .bool false, .string ⟨#[51]⟩, .string ⟨#[49]⟩])]) (by assumption) HW.out)).mono ?_); rintro e wa ⟨rfl, hb⟩; have hd := VB.below (w := w) (L := [(w17.heap.size, [.bool false, .string ⟨#[]⟩, .string ⟨#[]⟩, .bool false, .string ⟨#[]⟩, .string ⟨#[]⟩]), (w14.heap.size, [.bool false, .string ⟨#[50]⟩, .string ⟨#[49]⟩, .bool false, .string ⟨#[50]⟩, .string ⟨#[49]⟩]), (w11.heap.size, [.bool false, .string ⟨#[]⟩, .string ⟨#[]⟩, .bool false, .string ⟨#[]⟩, .string ⟨#[]⟩]), (w10.heap.size, [.bool false, .string ⟨#[48]⟩, .string ⟨#[49]⟩, .bool false, .string ⟨#[54]⟩, .string ⟨#[49]⟩]), (w6.heap.size, [.bool true, .string ⟨#[56]⟩, .string ⟨#[49]⟩, .bool false, .string ⟨#[49, 50]⟩, .string ⟨#[49]⟩]), (w3.heap.size, [.bool true, .string ⟨#[49]⟩, .string ⟨#[50]⟩, .bool false, .string ⟨#[51]⟩, .string ⟨#[49]⟩])]) (by assumption) hb; clear hb)
        | (go_at_call 25; (with_reducible refine ((hide oo_0_1_6_1).out _ (VB.law (w := w) (L := [(w17.heap.size, [.bool false, .string ⟨#[]⟩, .string ⟨#[]⟩, .bool false, .string ⟨#[]⟩, .string ⟨#[]⟩]), (w14.heap.size, [.bool false, .string ⟨#[50]⟩, .string ⟨#[49]⟩, .bool false, .string ⟨#[50]⟩, .string ⟨#[49]⟩]), (w11.heap.size, [.bool false, .string ⟨#[]⟩, .string ⟨#[]⟩, .bool false, .string ⟨#[]⟩, .string ⟨#[]⟩]), (w10.heap.size, [.bool false, .string ⟨#[48]⟩, .string ⟨#[49]⟩, .bool false, .string ⟨#[54]⟩, .string ⟨#[49]⟩]), (w6.heap.size, [.bool true, .string ⟨#[56]⟩, .string ⟨#[49]⟩, .bool false, .string ⟨#[49, 50]⟩, .string ⟨#[49]⟩]), (w3.heap.size, [.bool true, .string ⟨#[49]⟩, .string ⟨#[50]⟩, .bool false, .string ⟨#[51]⟩, .string ⟨#[49]⟩])]) (by assumption) HW.out)).mono ?_); rintro e wa ⟨rfl, hb⟩; have hd := VB.below (w := w) (L := [(w17.heap.size, [.bool false, .string ⟨#[]⟩, .string ⟨#[]⟩, .bool false, .string ⟨#[]⟩, .string ⟨#[]⟩]), (w14.heap.size, [.bool false, .string ⟨#[50]⟩, .string ⟨#[49]⟩, .bool false, .string ⟨#[50]⟩, .string ⟨#[49]⟩]), (w11.heap.size, [.bool false, .string ⟨#[]⟩, .string ⟨#[]⟩, .bool false, .string ⟨#[]⟩, .string ⟨#[]⟩]), (w10.heap.size, [.bool false, .string ⟨#[48]⟩, .string ⟨#[49]⟩, .bool false, .string ⟨#[54]⟩, .string ⟨#[49]⟩]), (w6.heap.size, [.bool true, .string ⟨#[56]⟩, .string ⟨#[49]⟩, .bool false, .string ⟨#[49, 50]⟩, .string ⟨#[49]⟩]), (w3.heap.size, [.bool true, .string ⟨#[49]⟩, .string ⟨#[50]⟩, .bool false, .string ⟨#[51]⟩, .string ⟨#[49]⟩])]) (by assumption) hb; clear hb)
        ))
    all_goals
      go_wp2_with fail
      go_meet
      exact ⟨rfl, by assumption⟩
  case rest =>
    obtain ⟨rfl, hvA2⟩ := hcut
    have HVA := hide hvA2
    clear hvA2 HSA hvA
    obtain ⟨wq, rfl⟩ : ∃ x, x = wc := ⟨_, rfl⟩
    obtain ⟨wB, hwB⟩ : ∃ x, wq = x := ⟨_, rfl⟩
    have hvB := HVA.out
    rw [hwB] at hvB ⊢
    clear hwB HVA
    have HSB : Hid (∀ W, VB w W [(w17.heap.size, [.bool false, .string ⟨#[]⟩, .string ⟨#[]⟩, .bool false, .string ⟨#[]⟩, .string ⟨#[]⟩]), (w14.heap.size, [.bool false, .string ⟨#[50]⟩, .string ⟨#[49]⟩, .bool false, .string ⟨#[50]⟩, .string ⟨#[49]⟩]), (w11.heap.size, [.bool false, .string ⟨#[]⟩, .string ⟨#[]⟩, .bool false, .string ⟨#[]⟩, .string ⟨#[]⟩]), (w10.heap.size, [.bool false, .string ⟨#[48]⟩, .string ⟨#[49]⟩, .bool false, .string ⟨#[54]⟩, .string ⟨#[49]⟩]), (w6.heap.size, [.bool true, .string ⟨#[56]⟩, .string ⟨#[49]⟩, .bool false, .string ⟨#[49, 50]⟩, .string ⟨#[49]⟩]), (w3.heap.size, [.bool true, .string ⟨#[49]⟩, .string ⟨#[50]⟩, .bool false, .string ⟨#[51]⟩, .string ⟨#[49]⟩])] → W.cell? ⟨w14.heap.size, 0, none⟩ = some (.bool false) ∧ W.cell? ⟨w14.heap.size, 1, none⟩ = some (.string ⟨#[50]⟩) ∧ W.cell? ⟨w14.heap.size, 2, none⟩ = some (.string ⟨#[49]⟩) ∧ W.cell? ⟨w14.heap.size, 3, none⟩ = some (.bool false) ∧ W.cell? ⟨w14.heap.size, 4, none⟩ = some (.string ⟨#[50]⟩) ∧ W.cell? ⟨w14.heap.size, 5, none⟩ = some (.string ⟨#[49]⟩)) := fun W h => ⟨(h.at (b := w14.heap.size) (vs := [.bool false, .string ⟨#[50]⟩, .string ⟨#[49]⟩, .bool false, .string ⟨#[50]⟩, .string ⟨#[49]⟩]) (by simp) 0 (show 0 < 6 by decide)).1, (h.at (b := w14.heap.size) (vs := [.bool false, .string ⟨#[50]⟩, .string ⟨#[49]⟩, .bool false, .string ⟨#[50]⟩, .string ⟨#[49]⟩]) (by simp) 1 (show 1 < 6 by decide)).1, (h.at (b := w14.heap.size) (vs := [.bool false, .string ⟨#[50]⟩, .string ⟨#[49]⟩, .bool false, .string ⟨#[50]⟩, .string ⟨#[49]⟩]) (by simp) 2 (show 2 < 6 by decide)).1, (h.at (b := w14.heap.size) (vs := [.bool false, .string ⟨#[50]⟩, .string ⟨#[49]⟩, .bool false, .string ⟨#[50]⟩, .string ⟨#[49]⟩]) (by simp) 3 (show 3 < 6 by decide)).1, (h.at (b := w14.heap.size) (vs := [.bool false, .string ⟨#[50]⟩, .string ⟨#[49]⟩, .bool false, .string ⟨#[50]⟩, .string ⟨#[49]⟩]) (by simp) 4 (show 4 < 6 by decide)).1, (h.at (b := w14.heap.size) (vs := [.bool false, .string ⟨#[50]⟩, .string ⟨#[49]⟩, .bool false, .string ⟨#[50]⟩, .string ⟨#[49]⟩]) (by simp) 5 (show 5 < 6 by decide)).1⟩
    go_upto_region 8 with fail
    go_cut [0] (fun z wx => z = .bool true ∧ VB w wx [(w17.heap.size, [.bool false, .string ⟨#[]⟩, .string ⟨#[]⟩, .bool false, .string ⟨#[]⟩, .string ⟨#[]⟩]), (w14.heap.size, [.bool false, .string ⟨#[50]⟩, .string ⟨#[49]⟩, .bool false, .string ⟨#[50]⟩, .string ⟨#[49]⟩]), (w11.heap.size, [.bool false, .string ⟨#[]⟩, .string ⟨#[]⟩, .bool false, .string ⟨#[]⟩, .string ⟨#[]⟩]), (w10.heap.size, [.bool false, .string ⟨#[48]⟩, .string ⟨#[49]⟩, .bool false, .string ⟨#[54]⟩, .string ⟨#[49]⟩]), (w6.heap.size, [.bool true, .string ⟨#[56]⟩, .string ⟨#[49]⟩, .bool false, .string ⟨#[49, 50]⟩, .string ⟨#[49]⟩]), (w3.heap.size, [.bool true, .string ⟨#[49]⟩, .string ⟨#[50]⟩, .bool false, .string ⟨#[51]⟩, .string ⟨#[49]⟩])])
    case first =>
      have hd := hvB.drew
      go_region_held3 (fun w' => w'.cell? ⟨w14.heap.size, 0, none⟩ = some (.bool false) ∧ w'.cell? ⟨w14.heap.size, 1, none⟩ = some (.string ⟨#[50]⟩) ∧ w'.cell? ⟨w14.heap.size, 2, none⟩ = some (.string ⟨#[49]⟩) ∧ w'.cell? ⟨w14.heap.size, 3, none⟩ = some (.bool false) ∧ w'.cell? ⟨w14.heap.size, 4, none⟩ = some (.string ⟨#[50]⟩) ∧ w'.cell? ⟨w14.heap.size, 5, none⟩ = some (.string ⟨#[49]⟩))
        (first | exact HSB.out _ (by assumption) | exact HSB.out _ (VB.anon (by assumption) _))
        ((first
          | (go_at_call 25; (with_reducible refine ((hide oo_2_1_2_1).out _ (VB.law (w := w) (L := [(w17.heap.size, [.bool false, .string ⟨#[]⟩, .string ⟨#[]⟩, .bool false, .string ⟨#[]⟩, .string ⟨#[]⟩]), (w14.heap.size, [.bool false, .string ⟨#[50]⟩, .string ⟨#[49]⟩, .bool false, .string ⟨#[50]⟩, .string ⟨#[49]⟩]), (w11.heap.size, [.bool false, .string ⟨#[]⟩, .string ⟨#[]⟩, .bool false, .string ⟨#[]⟩, .string ⟨#[]⟩]), (w10.heap.size, [.bool false, .string ⟨#[48]⟩, .string ⟨#[49]⟩, .bool false, .string ⟨#[54]⟩, .string ⟨#[49]⟩]), (w6.heap.size, [.bool true, .string ⟨#[56]⟩, .string ⟨#[49]⟩, .bool false, .string ⟨#[49, 50]⟩, .string ⟨#[49]⟩]), (w3.heap.size, [.bool true, .string ⟨#[49]⟩, .string ⟨#[50]⟩, .bool false, .string ⟨#[51]⟩, .string ⟨#[49]⟩])]) (by assumption) HW.out)).mono ?_); rintro e wa ⟨rfl, hb⟩; have hd := VB.below (w := w) (L := [(w17.heap.size, [.bool false, .string ⟨#[]⟩, .string ⟨#[]⟩, .bool false, .string ⟨#[]⟩, .string ⟨#[]⟩]), (w14.heap.size, [.bool false, .string ⟨#[50]⟩, .string ⟨#[49]⟩, .bool false, .string ⟨#[50]⟩, .string ⟨#[49]⟩]), (w11.heap.size, [.bool false, .string ⟨#[]⟩, .string ⟨#[]⟩, .bool false, .string ⟨#[]⟩, .string ⟨#[]⟩]), (w10.heap.size, [.bool false, .string ⟨#[48]⟩, .string ⟨#[49]⟩, .bool false, .string ⟨#[54]⟩, .string ⟨#[49]⟩]), (w6.heap.size, [.bool true, .string ⟨#[56]⟩, .string ⟨#[49]⟩, .bool false, .string ⟨#[49, 50]⟩, .string ⟨#[49]⟩]), (w3.heap.size, [.bool true, .string ⟨#[49]⟩, .string ⟨#[50]⟩, .bool false, .string ⟨#[51]⟩, .string ⟨#[49]⟩])]) (by assumption) hb; clear hb)
          | (go_at_call 25; (with_reducible refine ((hide oo_1_1_1_1).out _ (VB.law (w := w) (L := [(w17.heap.size, [.bool false, .string ⟨#[]⟩, .string ⟨#[]⟩, .bool false, .string ⟨#[]⟩, .string ⟨#[]⟩]), (w14.heap.size, [.bool false, .string ⟨#[50]⟩, .string ⟨#[49]⟩, .bool false, .string ⟨#[50]⟩, .string ⟨#[49]⟩]), (w11.heap.size, [.bool false, .string ⟨#[]⟩, .string ⟨#[]⟩, .bool false, .string ⟨#[]⟩, .string ⟨#[]⟩]), (w10.heap.size, [.bool false, .string ⟨#[48]⟩, .string ⟨#[49]⟩, .bool false, .string ⟨#[54]⟩, .string ⟨#[49]⟩]), (w6.heap.size, [.bool true, .string ⟨#[56]⟩, .string ⟨#[49]⟩, .bool false, .string ⟨#[49, 50]⟩, .string ⟨#[49]⟩]), (w3.heap.size, [.bool true, .string ⟨#[49]⟩, .string ⟨#[50]⟩, .bool false, .string ⟨#[51]⟩, .string ⟨#[49]⟩])]) (by assumption) HW.out)).mono ?_); rintro e wa ⟨rfl, hb⟩; have hd := VB.below (w := w) (L := [(w17.heap.size, [.bool false, .string ⟨#[]⟩, .string ⟨#[]⟩, .bool false, .string ⟨#[]⟩, .string ⟨#[]⟩]), (w14.heap.size, [.bool false, .string ⟨#[50]⟩, .string ⟨#[49]⟩, .bool false, .string ⟨#[50]⟩, .string ⟨#[49]⟩]), (w11.heap.size, [.bool false, .string ⟨#[]⟩, .string ⟨#[]⟩, .bool false, .string ⟨#[]⟩, .string ⟨#[]⟩]), (w10.heap.size, [.bool false, .string ⟨#[48]⟩, .string ⟨#[49]⟩, .bool false, .string ⟨#[54]⟩, .string ⟨#[49]⟩]), (w6.heap.size, [.bool true, .string ⟨#[56]⟩, .string ⟨#[49]⟩, .bool false, .string ⟨#[49, 50]⟩, .string ⟨#[49]⟩]), (w3.heap.size, [.bool true, .string ⟨#[49]⟩, .string ⟨#[50]⟩, .bool false, .string ⟨#[51]⟩, .string ⟨#[49]⟩])]) (by assumption) hb; clear hb)
          | (go_at_call 25; (with_reducible refine ((hide oo_2_1_1_1).out _ (VB.law (w := w) (L := [(w17.heap.size, [.bool false, .string ⟨#[]⟩, .string ⟨#[]⟩, .bool false, .string ⟨#[]⟩, .string ⟨#[]⟩]), (w14.heap.size, [.bool false, .string ⟨#[50]⟩, .string ⟨#[49]⟩, .bool false, .string ⟨#[50]⟩, .string ⟨#[49]⟩]), (w11.heap.size, [.bool false, .string ⟨#[]⟩, .string ⟨#[]⟩, .bool false, .string ⟨#[]⟩, .string ⟨#[]⟩]), (w10.heap.size, [.bool false, .string ⟨#[48]⟩, .string ⟨#[49]⟩, .bool false, .string ⟨#[54]⟩, .string ⟨#[49]⟩]), (w6.heap.size, [.bool true, .string ⟨#[56]⟩, .string ⟨#[49]⟩, .bool false, .string ⟨#[49, 50]⟩, .string ⟨#[49]⟩]), (w3.heap.size, [.bool true, .string ⟨#[49]⟩, .string ⟨#[50]⟩, .bool false, .string ⟨#[51]⟩, .string ⟨#[49]⟩])]) (by assumption) HW.out)).mono ?_); rintro e wa ⟨rfl, hb⟩; have hd := VB.below (w := w) (L := [(w17.heap.size, [.bool false, .string ⟨#[]⟩, .string ⟨#[]⟩, .bool false, .string ⟨#[]⟩, .string ⟨#[]⟩]), (w14.heap.size, [.bool false, .string ⟨#[50]⟩, .string ⟨#[49]⟩, .bool false, .string ⟨#[50]⟩, .string ⟨#[49]⟩]), (w11.heap.size, [.bool false, .string ⟨#[]⟩, .string ⟨#[]⟩, .bool false, .string ⟨#[]⟩, .string ⟨#[]⟩]), (w10.heap.size, [.bool false, .string ⟨#[48]⟩, .string ⟨#[49]⟩, .bool false, .string ⟨#[54]⟩, .string ⟨#[49]⟩]), (w6.heap.size, [.bool true, .string ⟨#[56]⟩, .string ⟨#[49]⟩, .bool false, .string ⟨#[49, 50]⟩, .string ⟨#[49]⟩]), (w3.heap.size, [.bool true, .string ⟨#[49]⟩, .string ⟨#[50]⟩, .bool false, .string ⟨#[51]⟩, .string ⟨#[49]⟩])]) (by assumption) hb; clear hb)
          | (go_at_call 25; (with_reducible refine ((hide oo_0_1_2_1).out _ (VB.law (w := w) (L := [(w17.heap.size, [.bool false, .string ⟨#[]⟩, .string ⟨#[]⟩, .bool false, .string ⟨#[]⟩, .string ⟨#[]⟩]), (w14.heap.size, [.bool false, .string ⟨#[50]⟩, .string ⟨#[49]⟩, .bool false, .string ⟨#[50]⟩, .string ⟨#[49]⟩]), (w11.heap.size, [.bool false, .string ⟨#[]⟩, .string ⟨#[]⟩, .bool false, .string ⟨#[]⟩, .string ⟨#[]⟩]), (w10.heap.size, [.bool false, .string ⟨#[48]⟩, .string ⟨#[49]⟩, .bool false, .string ⟨#[54]⟩, .string ⟨#[49]⟩]), (w6.heap.size, [.bool true, .string ⟨#[56]⟩, .string ⟨#[49]⟩, .bool false, .string ⟨#[49, 50]⟩, .string ⟨#[49]⟩]), (w3.heap.size, [.bool true, .string ⟨#[49]⟩, .string ⟨#[50]⟩, .bool false, .string ⟨#[51]⟩, .string ⟨#[49]⟩])]) (by assumption) HW.out)).mono ?_); rintro e wa ⟨rfl, hb⟩; have hd := VB.below (w := w) (L := [(w17.heap.size, [.bool false, .string ⟨#[]⟩, .string ⟨#[]⟩, .bool false, .string ⟨#[]⟩, .string ⟨#[]⟩]), (w14.heap.size, [.bool false, .string ⟨#[50]⟩, .string ⟨#[49]⟩, .bool false, .string ⟨#[50]⟩, .string ⟨#[49]⟩]), (w11.heap.size, [.bool false, .string ⟨#[]⟩, .string ⟨#[]⟩, .bool false, .string ⟨#[]⟩, .string ⟨#[]⟩]), (w10.heap.size, [.bool false, .string ⟨#[48]⟩, .string ⟨#[49]⟩, .bool false, .string ⟨#[54]⟩, .string ⟨#[49]⟩]), (w6.heap.size, [.bool true, .string ⟨#[56]⟩, .string ⟨#[49]⟩, .bool false, .string ⟨#[49, 50]⟩, .string ⟨#[49]⟩]), (w3.heap.size, [.bool true, .string ⟨#[49]⟩, .string ⟨#[50]⟩, .bool false, .string ⟨#[51]⟩, .string ⟨#[49]⟩])]) (by assumption) hb; clear hb)
          | (go_at_call 25; (with_reducible refine ((hide oo_1_3_1_1).out _ (VB.law (w := w) (L := [(w17.heap.size, [.bool false, .string ⟨#[]⟩, .string ⟨#[]⟩, .bool false, .string ⟨#[]⟩, .string ⟨#[]⟩]), (w14.heap.size, [.bool false, .string ⟨#[50]⟩, .string ⟨#[49]⟩, .bool false, .string ⟨#[50]⟩, .string ⟨#[49]⟩]), (w11.heap.size, [.bool false, .string ⟨#[]⟩, .string ⟨#[]⟩, .bool false, .string ⟨#[]⟩, .string ⟨#[]⟩]), (w10.heap.size, [.bool false, .string ⟨#[48]⟩, .string ⟨#[49]⟩, .bool false, .string ⟨#[54]⟩, .string ⟨#[49]⟩]), (w6.heap.size, [.bool true, .string ⟨#[56]⟩, .string ⟨#[49]⟩, .bool false, .string ⟨#[49, 50]⟩, .string ⟨#[49]⟩]), (w3.heap.size, [.bool true, .string ⟨#[49]⟩, .string ⟨#[50]⟩, .bool false, .string ⟨#[51]⟩, .string ⟨#[49]⟩])]) (by assumption) HW.out)).mono ?_); rintro e wa ⟨rfl, hb⟩; have hd := VB.below (w := w) (L := [(w17.heap.size, [.bool false, .string ⟨#[]⟩, .string ⟨#[]⟩, .bool false, .string ⟨#[]⟩, .string ⟨#[]⟩]), (w14.heap.size, [.bool false, .string ⟨#[50]⟩, .string ⟨#[49]⟩, .bool false, .string ⟨#[50]⟩, .string ⟨#[49]⟩]), (w11.heap.size, [.bool false, .string ⟨#[]⟩, .string ⟨#[]⟩, .bool false, .string ⟨#[]⟩, .string ⟨#[]⟩]), (w10.heap.size, [.bool false, .string ⟨#[48]⟩, .string ⟨#[49]⟩, .bool false, .string ⟨#[54]⟩, .string ⟨#[49]⟩]), (w6.heap.size, [.bool true, .string ⟨#[56]⟩, .string ⟨#[49]⟩, .bool false, .string ⟨#[49, 50]⟩, .string ⟨#[49]⟩]), (w3.heap.size, [.bool true, .string ⟨#[49]⟩, .string ⟨#[50]⟩, .bool false, .string ⟨#[51]⟩, .string ⟨#[49]⟩])]) (by assumption) hb; clear hb)
          | (go_at_call 19; (with_reducible refine ((hide h5_v1).out _ (VB.law (w := w) (L := [(w17.heap.size, [.bool false, .string ⟨#[]⟩, .string ⟨#[]⟩, .bool false, .string ⟨#[]⟩, .string ⟨#[]⟩]), (w14.heap.size, [.bool false, .string ⟨#[50]⟩, .string ⟨#[49]⟩, .bool false, .string ⟨#[50]⟩, .string ⟨#[49]⟩]), (w11.heap.size, [.bool false, .string ⟨#[]⟩, .string ⟨#[]⟩, .bool false, .string ⟨#[]⟩, .string ⟨#[]⟩]), (w10.heap.size, [.bool false, .string ⟨#[48]⟩, .string ⟨#[49]⟩, .bool false, .string ⟨#[54]⟩, .string ⟨#[49]⟩]), (w6.heap.size, [.bool true, .string ⟨#[56]⟩, .string ⟨#[49]⟩, .bool false, .string ⟨#[49, 50]⟩, .string ⟨#[49]⟩]), (w3.heap.size, [.bool true, .string ⟨#[49]⟩, .string ⟨#[50]⟩, .bool false, .string ⟨#[51]⟩, .string ⟨#[49]⟩])]) (by assumption) HW.out)).mono ?_); rintro e wa ⟨rfl, hb⟩; have hd := VB.below (w := w) (L := [(w17.heap.size, [.bool false, .string ⟨#[]⟩, .string ⟨#[]⟩, .bool false, .string ⟨#[]⟩, .string ⟨#[]⟩]), (w14.heap.size, [.bool false, .string ⟨#[50]⟩, .string ⟨#[49]⟩, .bool false, .string ⟨#[50]⟩, .string ⟨#[49]⟩]), (w11.heap.size, [.bool false, .string ⟨#[]⟩, .string ⟨#[]⟩, .bool false, .string ⟨#[]⟩, .string ⟨#[]⟩]), (w10.heap.size, [.bool false, .string ⟨#[48]⟩, .string ⟨#[49]⟩, .bool false, .string ⟨#[54]⟩, .string ⟨#[49]⟩]), (w6.heap.size, [.bool true, .string ⟨#[56]⟩, .string ⟨#[49]⟩, .bool false, .string ⟨#[49, 50]⟩, .string ⟨#[49]⟩]), (w3.heap.size, [.bool true, .string ⟨#[49]⟩, .string ⟨#[50]⟩, .bool false, .string ⟨#[51]⟩, .string ⟨#[49]⟩])]) (by assumption) hb; clear hb)
          | (go_at_call 19; (with_reducible refine ((hide h5_v2).out _ (VB.law (w := w) (L := [(w17.heap.size, [.bool false, .string ⟨#[]⟩, .string ⟨#[]⟩, .bool false, .string ⟨#[]⟩, .string ⟨#[]⟩]), (w14.heap.size, [.bool false, .string ⟨#[50]⟩, .string ⟨#[49]⟩, .bool false, .string ⟨#[50]⟩, .string ⟨#[49]⟩]), (w11.heap.size, [.bool false, .string ⟨#[]⟩, .string ⟨#[]⟩, .bool false, .string ⟨#[]⟩, .string ⟨#[]⟩]), (w10.heap.size, [.bool false, .string ⟨#[48]⟩, .string ⟨#[49]⟩, .bool false, .string ⟨#[54]⟩, .string ⟨#[49]⟩]), (w6.heap.size, [.bool true, .string ⟨#[56]⟩, .string ⟨#[49]⟩, .bool false, .string ⟨#[49, 50]⟩, .string ⟨#[49]⟩]), (w3.heap.size, [.bool true, .string ⟨#[49]⟩, .string ⟨#[50]⟩, .bool false, .string ⟨#[51]⟩, .string ⟨#[49]⟩])]) (by assumption) HW.out)).mono ?_); rintro e wa ⟨rfl, hb⟩; have hd := VB.below (w := w) (L := [(w17.heap.size, [.bool false, .string ⟨#[]⟩, .string ⟨#[]⟩, .bool false, .string ⟨#[]⟩, .string ⟨#[]⟩]), (w14.heap.size, [.bool false, .string ⟨#[50]⟩, .string ⟨#[49]⟩, .bool false, .string ⟨#[50]⟩, .string ⟨#[49]⟩]), (w11.heap.size, [.bool false, .string ⟨#[]⟩, .string ⟨#[]⟩, .bool false, .string ⟨#[]⟩, .string ⟨#[]⟩]), (w10.heap.size, [.bool false, .string ⟨#[48]⟩, .string ⟨#[49]⟩, .bool false, .string ⟨#[54]⟩, .string ⟨#[49]⟩]), (w6.heap.size, [.bool true, .string ⟨#[56]⟩, .string ⟨#[49]⟩, .bool false, .string ⟨#[49, 50]⟩, .string ⟨#[49]⟩]), (w3.heap.size, [.bool true, .string ⟨#[49]⟩, .string ⟨#[50]⟩, .bool false, .string ⟨#[51]⟩, .string ⟨#[49]⟩])]) (by assumption) hb; clear hb)
          | (go_at_call 19; (with_reducible refine ((hide h5_v3).out _ (VB.law (w := w) (L := [(w17.heap.size, [.bool false, .string ⟨#[]⟩, .string ⟨#[]⟩, .bool false, .string ⟨#[]⟩, .string ⟨#[]⟩]), (w14.heap.size, [.bool false, .string ⟨#[50]⟩, .string ⟨#[49]⟩, .bool false, .string ⟨#[50]⟩, .string ⟨#[49]⟩]), (w11.heap.size, [.bool false, .string ⟨#[]⟩, .string ⟨#[]⟩, .bool false, .string ⟨#[]⟩, .string ⟨#[]⟩]), (w10.heap.size, [.bool false, .string ⟨#[48]⟩, .string ⟨#[49]⟩, .bool false, .string ⟨#[54]⟩, .string ⟨#[49]⟩]), (w6.heap.size, [.bool true, .string ⟨#[56]⟩, .string ⟨#[49]⟩, .bool false, .string ⟨#[49, 50]⟩, .string ⟨#[49]⟩]), (w3.heap.size, [.bool true, .string ⟨#[49]⟩, .string ⟨#[50]⟩, .bool false, .string ⟨#[51]⟩, .string ⟨#[49]⟩])]) (by assumption) HW.out)).mono ?_); rintro e wa ⟨rfl, hb⟩; have hd := VB.below (w := w) (L := [(w17.heap.size, [.bool false, .string ⟨#[]⟩, .string ⟨#[]⟩, .bool false, .string ⟨#[]⟩, .string ⟨#[]⟩]), (w14.heap.size, [.bool false, .string ⟨#[50]⟩, .string ⟨#[49]⟩, .bool false, .string ⟨#[50]⟩, .string ⟨#[49]⟩]), (w11.heap.size, [.bool false, .string ⟨#[]⟩, .string ⟨#[]⟩, .bool false, .string ⟨#[]⟩, .string ⟨#[]⟩]), (w10.heap.size, [.bool false, .string ⟨#[48]⟩, .string ⟨#[49]⟩, .bool false, .string ⟨#[54]⟩, .string ⟨#[49]⟩]), (w6.heap.size, [.bool true, .string ⟨#[56]⟩, .string ⟨#[49]⟩, .bool false, .string ⟨#[49, 50]⟩, .string ⟨#[49]⟩]), (w3.heap.size, [.bool true, .string ⟨#[49]⟩, .string ⟨#[50]⟩, .bool false, .string ⟨#[51]⟩, .string ⟨#[49]⟩])]) (by assumption) hb; clear hb)
          | (go_at_call 21; (with_reducible refine ((hide h5_c).out _ (VB.law (w := w) (L := [(w17.heap.size, [.bool false, .string ⟨#[]⟩, .string ⟨#[]⟩, .bool false, .string ⟨#[]⟩, .string ⟨#[]⟩]), (w14.heap.size, [.bool false, .string ⟨#[50]⟩, .string ⟨#[49]⟩, .bool false, .string ⟨#[50]⟩, .string ⟨#[49]⟩]), (w11.heap.size, [.bool false, .string ⟨#[]⟩, .string ⟨#[]⟩, .bool false, .string ⟨#[]⟩, .string ⟨#[]⟩]), (w10.heap.size, [.bool false, .string ⟨#[48]⟩, .string ⟨#[49]⟩, .bool false, .string ⟨#[54]⟩, .string ⟨#[49]⟩]), (w6.heap.size, [.bool true, .string ⟨#[56]⟩, .string ⟨#[49]⟩, .bool false, .string ⟨#[49, 50]⟩, .string ⟨#[49]⟩]), (w3.heap.size, [.bool true, .string ⟨#[49]⟩, .string ⟨#[50]⟩, .bool false, .string ⟨#[51]⟩, .string ⟨#[49]⟩])]) (by assumption) HW.out)).mono ?_); rintro e wa ⟨rfl, hb⟩; have hd := VB.below (w := w) (L := [(w17.heap.size, [.bool false, .string ⟨#[]⟩, .string ⟨#[]⟩, .bool false, .string ⟨#[]⟩, .string ⟨#[]⟩]), (w14.heap.size, [.bool false, .string ⟨#[50]⟩, .string ⟨#[49]⟩, .bool false, .string ⟨#[50]⟩, .string ⟨#[49]⟩]), (w11.heap.size, [.bool false, .string ⟨#[]⟩, .string ⟨#[]⟩, .bool false, .string ⟨#[]⟩, .string ⟨#[]⟩]), (w10.heap.size, [.bool false, .string ⟨#[48]⟩, .string ⟨#[49]⟩, .bool false, .string ⟨#[54]⟩, .string ⟨#[49]⟩]), (w6.heap.size, [.bool true, .string ⟨#[56]⟩, .string ⟨#[49]⟩, .bool false, .string ⟨#[49, 50]⟩, .string ⟨#[49]⟩]), (w3.heap.size, [.bool true, .string ⟨#[49]⟩, .string ⟨#[50]⟩, .bool false, .string ⟨#[51]⟩, .string ⟨#[49]⟩])]) (by assumption) hb; clear hb)
          ))
      all_goals
        go_wp2_with fail
        go_meet
        exact ⟨rfl, by assumption⟩
    case rest =>
      obtain ⟨rfl, hvB2⟩ := hcut
      have HVB := hide hvB2
      clear hvB2 HSB hvB
      go_wp2_with fail
      go_ret
      exact ⟨rfl, HVB.out.bel⟩
end Go.Proofs.YtbojlmnajndleaaGreatDoor
