/- law 29: the reference's List; LotteryDraws. -/
import Derived.Test.YtcgplokdklomlaaGreatDoorLoY
set_option linter.unusedVariables false
set_option linter.unusedSimpArgs false
namespace Go.Proofs.YtcgplokdklomlaaGreatDoor
open Go.RowKit

theorem lst_end {l : List Int} (h : ∀ j (hj : j < l.length), 0 ≤ l[j] ∧ l[j] ≤ 720) : lstB l = (decide (l.length ≤ 200) && decide (psum l l.length = 720)) := by
  rw [Bool.eq_iff_iff]
  simp only [Bool.and_eq_true, decide_eq_true_eq]
  constructor
  · intro e
    obtain ⟨h1, h2, h3⟩ := lst_iff e
    exact ⟨h1.2, h3⟩
  · rintro ⟨h1, h2⟩
    have h0 : 1 ≤ l.length := by
      rcases Nat.eq_zero_or_pos l.length with e | e
      · rw [e] at h2; have : psum l 0 = 0 := rfl; omega
      · exact e
    unfold lstB
    simp only [Bool.and_eq_true, decide_eq_true_eq]
    refine ⟨inB_iff.2 (fun x hx => by simp at hx; omega), inB_iff.2 (fun x hx => ?_), h2⟩
    obtain ⟨j, hj, rfl⟩ := List.mem_iff_getElem.1 hx
    exact h j hj
set_option maxHeartbeats 4000000 in
set_option maxRecDepth 100000 in
theorem ref29_list (l : List Int) (v : Value) (w : World) (b : Bool) (hb : lstB l = b) (hv : SliceOf vI 1 w v l) (hl : l.length ≤ 1000) :
    Calls Tryz.prog 21 #[v] w fun e w' => e = .returned (.bool b) ∧ w' = w := by
  have HS := hide hv
  obtain ⟨ao, cp, rfl⟩ := hv.shape
  have HBB := hide hb
  have hlI : (l.length : Int) ≤ 1000 := by omega
  clear hv hb
  have HSU : Hid (∀ k (hk : k < l.length), psum l (k + 1) = psum l k + l[k]) := fun k hk => psum_succ hk
  go_enter Tryz.func21, Tryz.ntmps21
  go_wp2_with fail
  go_loop [3, 4] (fun s i => ∃ k : Nat, k ≤ l.length ∧ i = .int .i64 (k : Int) ∧ s = .int .i64 (psum l k) ∧ (∀ j (hj : j < l.length), j < k → 0 ≤ l[j] ∧ l[j] ≤ 720) ∧ 0 ≤ psum l k ∧ psum l k ≤ 720 * (k : Int)) (fun _ i => l.length - (intOf i).toNat)
  case atStart => exact ⟨0, Nat.zero_le _, rfl, rfl, fun j _ h => absurd h (Nat.not_lt_zero _), Int.le_refl _, Int.le_refl _⟩
  case round =>
    obtain ⟨k, hk, rfl, rfl, hall, hp1, hp2⟩ := hrel
    have HA := hide hall
    clear hall
    by_cases hlt : k < l.length
    · have hki : (k : Int) < (l.length : Int) := by omega
      have hk0 : (0 : Int) ≤ (k : Int) := by omega
      obtain ⟨b', off, rfl, _, hcap, hcm, hc⟩ := SliceOf.at_ HS.out (by omega)
      have hcpI : (l.length : Int) ≤ (cp : Int) := by omega
      have hcmI : (cp : Int) ≤ 9223372036854775807 := by unfold maxLen at hcm; omega
      have c0 := int_cell hc hlt
      have HS1 := hide (HSU.out k hlt)
      have HN : Hid (0 ≤ l[k] ∧ l[k] ≤ 720 → ∀ j (hj : j < l.length), j < k + 1 → 0 ≤ l[j] ∧ l[j] ≤ 720) := fun e j hj h => by
        by_cases e2 : j = k
        · subst e2; exact e
        · exact HA.out j hj (by omega)
      have HBF : Hid (lstB l = true → 0 ≤ l[k] ∧ l[k] ≤ 720) := fun e => (lst_iff e).2.1 _ (List.getElem_mem hlt)
      obtain ⟨x, hx⟩ : ∃ x, l[k] = x := ⟨_, rfl⟩
      obtain ⟨y, hy⟩ : ∃ x, psum l k = x := ⟨_, rfl⟩
      rw [hx] at c0 HS1 HN HBF
      rw [hy] at hp1 hp2 HS1 ⊢
      clear hx hy hc hcap hcm HA
      by_cases h0 : x < 0
      · have d0 : decide (x < 0) = true := decide_eq_true h0
        obtain rfl : b = false := by
          cases b with
          | false => rfl
          | true => have := (HBF.out HBB.out).1; omega
        go_wp2_with fail
        go_ret
        exact ⟨rfl, rfl⟩
      have d0 : decide (x < 0) = false := decide_eq_false h0
      by_cases h7 : 720 < x
      · have d7 : decide (720 < x) = true := decide_eq_true h7
        obtain rfl : b = false := by
          cases b with
          | false => rfl
          | true => have := (HBF.out HBB.out).2; omega
        go_wp2_with fail
        go_ret
        exact ⟨rfl, rfl⟩
      have d7 : decide (720 < x) = false := decide_eq_false h7
      have hx0 : 0 ≤ x := by omega
      have hx7 : x ≤ 720 := by omega
      have HN2 := hide (HN.out ⟨hx0, hx7⟩)
      go_wp2_with fail
      go_round
      case rel => exact ⟨k + 1, by omega, by go_num, congrArg (Value.int .i64) (by rw [HS1.out]), HN2.out, by rw [HS1.out]; omega, by rw [HS1.out]; omega⟩
      case measure => (simp [intOf]; omega)
    · have hk' : k = l.length := by omega
      subst hk'
      have HF := hide (HBB.out.symm.trans (lst_end fun j hj => HA.out j hj hj))
      obtain ⟨y, hy⟩ : ∃ x, psum l l.length = x := ⟨_, rfl⟩
      rw [hy] at hp1 hp2 HF ⊢
      clear hy HA HBB
      by_cases hL : l.length ≤ 200
      · have e1 : decide ((l.length : Int) ≤ 200) = true := decide_eq_true (by omega)
        by_cases hz : y = 720
        · have d1 : (y == 720) = true := beq_iff_eq.2 hz
          obtain rfl : b = true := by rw [HF.out, decide_eq_true hL, decide_eq_true hz]; rfl
          clear HF
          go_wp2_with fail
          go_ret
          exact ⟨by first | rfl | exact ret_bool d1, rfl⟩
        · have d1 : (y == 720) = false := beq_eq_false_iff_ne.2 hz
          obtain rfl : b = false := by rw [HF.out, decide_eq_false hz, Bool.and_false]
          clear HF
          go_wp2_with fail
          go_ret
          exact ⟨by first | rfl | exact ret_bool d1, rfl⟩
      · have e1 : decide ((l.length : Int) ≤ 200) = false := decide_eq_false (by omega)
        obtain rfl : b = false := by rw [HF.out, decide_eq_false hL, Bool.false_and]
        clear HF
        go_wp2_with fail
        go_ret
        exact ⟨rfl, rfl⟩
set_option maxHeartbeats 8000000 in
set_option maxRecDepth 100000 in
theorem lotteryDraws (l : List Int) (v : Value) (w : World) (hv : SliceOf vI 1 w v l) (hW : LawW w) :
    Calls Tryz.prog 9 #[v] w fun e w' => e = .returned (.bool true) ∧ Below w.heap.size w w' := by
  have HH := hide (law29_head w hW)
  have HS := hide hv
  have HW := hide hW
  obtain ⟨ao, cp, rfl⟩ := hv.shape
  clear hv hW
  by_cases h30 : 30 < l.length
  · have d0 : decide ((30 : Int) < (l.length : Int)) = true := decide_eq_true (by omega)
    go_enter Tryz.func9, Tryz.ntmps9
    go_wp2_with fail
    refine HH.out.mono ?_
    rintro e w1 ⟨rfl, hb⟩
    have HB1 := hide hb
    clear hb
    go_wp2_with fail
    go_ret
    exact ⟨rfl, HB1.out⟩
  have d0 : decide ((30 : Int) < (l.length : Int)) = false := decide_eq_false (by omega)
  rcases Bool.eq_false_or_eq_true (lstB l) with hv | hv
  case inr =>
    have HRL := hide (fun W (hX : Below w.heap.size w W) => ref29_list l _ W false hv (HS.out.below hX) (by omega))
    have HWB := hide (fun W (hX : Below w.heap.size w W) => lo_winner_bad l 0 _ W (.inl hv) (by omega) (HS.out.below hX))
    have HOB := hide (fun W (hX : Below w.heap.size w W) => lo_odds_bad l 0 _ W (.inl hv) (by omega) (HS.out.below hX))
    clear hv
    go_enter Tryz.func9, Tryz.ntmps9
    go_wp2_with fail
    refine HH.out.mono ?_
    rintro e w1 ⟨rfl, hb⟩
    have HB1 := hide hb
    clear hb
    go_wp2_with fail
    refine (HRL.out _ HB1.out).mono ?_
    rintro e w2 ⟨rfl, rfl⟩
    go_wp2_with fail
    refine (HWB.out _ HB1.out).mono ?_
    rintro e w3 ⟨rfl, hb⟩
    have HB3 := hide (bStepL HB1.out hb)
    clear hb
    go_wp2_with fail
    refine (HOB.out _ HB3.out).mono ?_
    rintro e w4 ⟨rfl, hb⟩
    have HB4 := hide (bAlloc (bStepL HB3.out hb) (.cells #[.bool false, .string ⟨#[]⟩, .string ⟨#[]⟩] 32))
    clear hb
    go_wp2_with fail
    go_ret
    exact ⟨rfl, HB4.out⟩
  obtain ⟨⟨n1, n2⟩, hel, hsum⟩ := lst_iff hv
  have HRL := hide (fun W (hX : Below w.heap.size w W) => ref29_list l _ W true hv (HS.out.below hX) (by omega))
  have HWI := hide (fun (d : Int) W (hX : Below w.heap.size w W) h0 h1 => lo_winner l d _ W hv (HS.out.below hX) h0 h1)
  have HOD := hide (fun (i : Nat) q g s t W (hX : Below w.heap.size w W) hi e hq => lo_odds l i q g s t _ W hv (HS.out.below hX) hi e hq (HW.out.below hX))
  have HEL := hide hel
  have HSM := hide hsum
  obtain ⟨b', off, rfl, _, hcap, hcm, hc⟩ := SliceOf.at_ HS.out (by omega)
  have hcpI : (l.length : Int) ≤ (cp : Int) := by omega
  have hcmI : (cp : Int) ≤ 9223372036854775807 := by unfold maxLen at hcm; omega
  have HC : Hid (∀ k (hk : k < l.length), w.cell? ⟨b', off + k, none⟩ = some (.int .i64 l[k])) := fun k hk => int_cell hc hk
  obtain ⟨G, hG⟩ : ∃ G : Nat → Bool × ByteArray × ByteArray, ∀ k, IsQ (ofQ (psum l k) 720) (G k).1 (G k).2.1 (G k).2.2 := ⟨fun k => (ngQ (ofQ (psum l k) 720), natS (nmQ (ofQ (psum l k) 720)), natS (ofQ (psum l k) 720).den), fun k => rfl⟩
  have HG := hide hG
  have HG0 : Hid (false = (G 0).1 ∧ (⟨#[48]⟩ : ByteArray) = (G 0).2.1 ∧ (⟨#[49]⟩ : ByteArray) = (G 0).2.2) := by
    have h1 : Value.agg _ = Value.agg _ := of_0.symm.trans (hG 0)
    simp only [Value.agg.injEq, Array.mk.injEq, List.cons.injEq, Value.bool.injEq, Value.string.injEq, and_true] at h1
    exact h1
  have HGN : Hid ((G l.length).1 = false ∧ (G l.length).2.1 = ⟨#[49]⟩ ∧ (G l.length).2.2 = ⟨#[49]⟩) := by
    have h0 := hG l.length
    rw [hsum] at h0
    have h1 : Value.agg _ = Value.agg _ := h0.symm.trans of_1
    simp only [Value.agg.injEq, Array.mk.injEq, List.cons.injEq, Value.bool.injEq, Value.string.injEq, and_true] at h1
    exact h1
  have hnI : (l.length : Int) ≤ 30 := by omega
  have hn0 : (0 : Int) ≤ (l.length : Int) := by omega
  have HMK := hide (run_make_row' (P := Tryz.prog) 22 3 (.int .i64 0) 8 Tryz.underlying22 Tryz.infoInt3 rfl .i64 .i64 l.length (by omega) (by omega))
  clear hv hel hsum hG hc hcap hcm n1 n2
  go_enter Tryz.func9, Tryz.ntmps9
  go_wp2_with fail
  refine HH.out.mono ?_
  rintro e w1 ⟨rfl, hb⟩
  have HB1 := hide hb
  clear hb
  go_wp2_with fail
  refine (HRL.out _ HB1.out).mono ?_
  rintro e w2 ⟨rfl, rfl⟩
  have hmk := HMK.out
  go_wp2_with fail
  clear hmk HMK HRL
  have HI0 := hide ((IC.made w2 l.length 3).congr (g := fun j => cntZ l j 0) (fun j hj => (cnt_0 HEL.out hj).symm))
  have HB2 := hide (bAlloc HB1.out (.cells (madeCells #[.int .i64 0] l.length) 3))
  have HHW : Hid (w.heap.size ≤ w2.heap.size) := HB1.out.size
  obtain ⟨H, hH⟩ : ∃ H, w2.heap.size = H := ⟨_, rfl⟩
  obtain ⟨w3, hw3⟩ : ∃ W, w2.alloc (.cells (madeCells #[.int .i64 0] l.length) 3) = W := ⟨_, rfl⟩
  rw [hw3, hH] at HI0
  rw [hw3] at HB2
  rw [hH] at HHW
  rw [hw3, hH]
  clear hw3 hH HB1
  go_loopw [9] (fun i wx => ∃ D : Nat, D ≤ 720 ∧ i = .int .i64 (D : Int) ∧ IC wx H l.length (fun j => cntZ l j (D : Int)) ∧ Below w.heap.size w wx) (fun i _ => 720 - (intOf i).toNat)
  case atStart => exact ⟨0, Nat.zero_le _, rfl, HI0.out, HB2.out⟩
  case round =>
    obtain ⟨D, hD, rfl, hic, hbl⟩ := hrel
    have HI := hide hic
    have HB := hide hbl
    clear hic hbl HI0 HB2
    by_cases hlt : D < 720
    · have hDI : (D : Int) < 720 := by omega
      have hD0 : (0 : Int) ≤ (D : Int) := by omega
      go_wp2_with fail
      refine (HWI.out (D : Int) _ HB.out (by omega) (by omega)).mono ?_
      rintro e w4 ⟨i, rfl, ⟨hi, h1, h2⟩, hb⟩
      have HI4 := hide (HI.out.below hb)
      have HB4 := hide (bStepL HB.out hb)
      have hiI : (i : Int) < (l.length : Int) := by omega
      have hi0 : (0 : Int) ≤ (i : Int) := by omega
      have dge : decide ((l.length : Int) ≤ (i : Int)) = false := decide_eq_false (by omega)
      have dlt : decide ((i : Int) < 0) = false := decide_eq_false (by omega)
      have c0 := HI4.out.c i hi
      have z0 := HI4.out.z i hi
      have hbd := cnt_bd HEL.out hi hD0 (by omega)
      have HNX : Hid (∀ j, j < l.length → (if j = i then cntZ l i (D : Int) + 1 else cntZ l j (D : Int)) = cntZ l j ((D + 1 : Nat) : Int)) := fun j hj => by
        rw [Int.natCast_succ]
        by_cases e : j = i
        · subst e; rw [if_pos rfl, cnt_hit h1 h2]
        · rw [if_neg e, cnt_miss HEL.out hi hj h1 h2 e]
      have HI5 := hide ((HI4.out.set hi (cntZ l i (D : Int) + 1)).congr HNX.out)
      obtain ⟨c, hcc⟩ : ∃ c, cntZ l i (D : Int) = c := ⟨_, rfl⟩
      simp only [hcc] at c0 hbd HI5
      have hcw : IntKind.i64.wrap (c + 1) = c + 1 := IntWalk.i64_in _ (by omega)
      have HB5 := hide (HB4.out.setCell (p := ⟨H, i, none⟩) (by have := HHW.out; show w.heap.size ≤ H; omega) (.int .i64 (c + 1)))
      clear hb h1 h2 hcc HNX HI HB
      go_wp2_with fail
      go_roundw
      case rel => exact ⟨D + 1, by omega, by go_num, HI5.out, HB5.out⟩
      case measure => (simp [intOf]; omega)
    · obtain rfl : D = 720 := by omega
      have HIE := hide (HI.out.congr (g := fun j => l.getD j 0) (fun j hj => by rw [getD_at hj]; exact cnt_end HEL.out HSM.out hj))
      clear HI HWI hlt hD
      go_wp2_with fail
      have HI6 := hide (HIE.out.below (bAlloc (Below.refl _ _) (.cells #[.bool false, .string ⟨#[48]⟩, .string ⟨#[49]⟩] 32)))
      have HB6 := hide (bAlloc HB.out (.cells #[.bool false, .string ⟨#[48]⟩, .string ⟨#[49]⟩] 32))
      have HR6 : Hid (RC (wr.alloc (.cells #[.bool false, .string ⟨#[48]⟩, .string ⟨#[49]⟩] 32)) wr.heap.size (G 0).1 (G 0).2.1 (G 0).2.2) := by
        obtain ⟨e1, e2, e3⟩ := HG0.out
        rw [← e1, ← e2, ← e3]
        exact RC.new _ _ _ _ _
      have HSW : Hid (w.heap.size ≤ wr.heap.size) := HB.out.size
      have HHS : Hid (H ≠ wr.heap.size) := fun e => by have := HIE.out.lt; omega
      obtain ⟨S, hS⟩ : ∃ S, wr.heap.size = S := ⟨_, rfl⟩
      obtain ⟨w6, hw6⟩ : ∃ W, wr.alloc (.cells #[.bool false, .string ⟨#[48]⟩, .string ⟨#[49]⟩] 32) = W := ⟨_, rfl⟩
      rw [hw6] at HI6 HB6 HR6
      rw [hS] at HR6 HSW HHS
      rw [hw6, hS]
      clear hw6 hS HB HIE
      go_loopw [13] (fun i wx => ∃ k : Nat, k ≤ l.length ∧ i = .int .i64 (k : Int) ∧ IC wx H l.length (fun j => l.getD j 0) ∧ RC wx S (G k).1 (G k).2.1 (G k).2.2 ∧ Below w.heap.size w wx) (fun i _ => l.length - (intOf i).toNat)
      case atStart => exact ⟨0, Nat.zero_le _, rfl, HI6.out, HR6.out, HB6.out⟩
      case round =>
        obtain ⟨k, hk, rfl, hic, hrc, hbl⟩ := hrel
        have HI := hide hic
        have HR := hide hrc
        have HB := hide hbl
        clear hic hrc hbl HI6 HR6 HB6
        by_cases hlt : k < l.length
        · have hki : (k : Int) < (l.length : Int) := by omega
          have hk0 : (0 : Int) ≤ (k : Int) := by omega
          have HGK := hide (HG.out k)
          have HGK1 := hide (HG.out (k + 1))
          have HX := hide (HEL.out _ (List.getElem_mem hlt))
          have HPS := hide (psum_succ hlt)
          have HPK : Hid (0 ≤ psum l k ∧ psum l (k + 1) ≤ 720) := by
            have h1 := psum_mono HEL.out (j := 0) (k := k) (by omega) (by omega)
            have h2 := psum_mono HEL.out (j := k + 1) (k := l.length) (by omega) (Nat.le_refl _)
            have h3 := HSM.out
            have h4 : psum l 0 = 0 := rfl
            exact ⟨by omega, by omega⟩
          have HCK := hide (HC.out k hlt)
          have HGD := hide (getD_at hlt)
          have HCN := hide (HI.out.c k hlt)
          simp only [HGD.out] at HCN
          obtain ⟨x, hx⟩ : ∃ x, l[k] = x := ⟨_, rfl⟩
          rw [hx] at HX HPS HCK HGD HCN
          clear hx
          obtain ⟨q, hq⟩ : ∃ q, ofQ x 720 = q := ⟨_, rfl⟩
          obtain ⟨g, s, t, hqv⟩ : ∃ g s t, rqV q = .agg #[.bool g, .string s, .string t] := ⟨_, _, _, rfl⟩
          have HQV := hide hqv
          have HOX := hide (HOD.out k q g s t wr HB.out hlt (by rw [HGD.out]; exact hq) hqv)
          have HOF := hide (fun W hX => of_ok (n := x) (d := 720) (by have := HX.out; unfold inI64; omega) (by unfold inI64; omega) (by omega) hq hqv W hX)
          have HSQ : Hid (Sz 4 q) := by have := HX.out; show Sz 4 q; rw [← hq]; exact of_sz this.1 this.2
          have HSK : Hid (Sz 4 (ofQ (psum l k) 720)) := by have := HPK.out; have := HPS.out; have := HX.out; exact of_sz (by omega) (by omega)
          have HAD := hide (fun W hX => add_okq (r := ofQ (psum l (k + 1)) 720) HSK.out HSQ.out (by omega) (by rw [← hq, of_add, HPS.out]) HGK.out HQV.out HGK1.out W hX)
          obtain ⟨⟨g1, s1, t1⟩, hp1⟩ : ∃ p, G k = p := ⟨_, rfl⟩
          obtain ⟨⟨g2, s2, t2⟩, hp2⟩ : ∃ p, G (k + 1) = p := ⟨_, rfl⟩
          rw [hp1] at HAD HR
          rw [hp2] at HAD
          have HP2 := hide hp2
          clear hq hqv hp1 hp2 HGK HGK1 HX HPS HPK HGD HSQ HSK HQV
          go_wp2_with fail
          refine HOX.out.mono ?_
          rintro e w7 ⟨rfl, hb⟩
          have HN7 := hide (keep_cell hb HCN.out)
          have HI7 := hide (HI.out.below hb)
          have HR7 := hide (HR.out.below hb)
          have HB7 := hide (bStepL HB.out hb)
          clear hb HCN HI HR HB
          have n8 := keep_cell (bAlloc (Below.refl w7.heap.size w7) (.cells #[.bool g, .string s, .string t] 32)) HN7.out
          go_wp2_with fail
          have HA8 : Hid (RC (w7.alloc (.cells #[.bool g, .string s, .string t] 32)) w7.heap.size g s t) := RC.new _ _ _ _ _
          have HN8 := hide n8
          have HI8 := hide (HI7.out.below (bAlloc (Below.refl w7.heap.size w7) (.cells #[.bool g, .string s, .string t] 32)))
          have HR8 := hide (HR7.out.below (bAlloc (Below.refl w7.heap.size w7) (.cells #[.bool g, .string s, .string t] 32)))
          have HB8 := hide (bAlloc HB7.out (.cells #[.bool g, .string s, .string t] 32))
          clear n8 HN7 HI7 HR7 HB7
          obtain ⟨A, hA⟩ : ∃ A, w7.heap.size = A := ⟨_, rfl⟩
          obtain ⟨w8, hw8⟩ : ∃ W, w7.alloc (.cells #[.bool g, .string s, .string t] 32) = W := ⟨_, rfl⟩
          rw [hw8, hA] at HA8
          rw [hw8] at HN8 HI8 HR8 HB8
          rw [hw8, hA]
          clear hw8 hA
          refine (HOF.out _ (HW.out.below HB8.out)).mono ?_
          rintro e w9 ⟨rfl, hb⟩
          have HA9 := hide (HA8.out.below hb)
          have HN9 := hide (keep_cell hb HN8.out)
          have HI9 := hide (HI8.out.below hb)
          have HR9 := hide (HR8.out.below hb)
          have HB9 := hide (bStepL HB8.out hb)
          clear hb HA8 HN8 HI8 HR8 HB8
          go_wp2_with fail
          have HA0 := hide (HA9.out.below (bAlloc (Below.refl w9.heap.size w9) (.cells #[.bool g, .string s, .string t] 32)))
          have HC0 : Hid (RC (w9.alloc (.cells #[.bool g, .string s, .string t] 32)) w9.heap.size g s t) := RC.new _ _ _ _ _
          have HN0 := hide (keep_cell (bAlloc (Below.refl w9.heap.size w9) (.cells #[.bool g, .string s, .string t] 32)) HN9.out)
          have HI0 := hide (HI9.out.below (bAlloc (Below.refl w9.heap.size w9) (.cells #[.bool g, .string s, .string t] 32)))
          have HR0 := hide (HR9.out.below (bAlloc (Below.refl w9.heap.size w9) (.cells #[.bool g, .string s, .string t] 32)))
          have HB0 := hide (bAlloc HB9.out (.cells #[.bool g, .string s, .string t] 32))
          clear HA9 HN9 HI9 HR9 HB9
          obtain ⟨C, hC⟩ : ∃ C, w9.heap.size = C := ⟨_, rfl⟩
          obtain ⟨w10, hw10⟩ : ∃ W, w9.alloc (.cells #[.bool g, .string s, .string t] 32) = W := ⟨_, rfl⟩
          rw [hw10, hC] at HC0
          rw [hw10] at HN0 HI0 HR0 HB0 HA0
          rw [hw10, hC]
          clear hw10 hC
          obtain ⟨p0, p1, p2, -, -, -⟩ := HA0.out
          obtain ⟨q0, q1, q2, -, -, -⟩ := HC0.out
          have n0 := HN0.out
          have l0 := keep_cell HB0.out HCK.out
          go_quiet (fail)
          obtain ⟨w11, hw11⟩ : ∃ W, w10.drewN nq = W := ⟨_, rfl⟩
          have HD := hide (drw_below (B := w10.heap.size) hw11)
          rw [hw11]
          clear hw11 p0 p1 p2 q0 q1 q2 n0 l0
          have HA1 := hide (HA0.out.below HD.out)
          have HI1 := hide (HI0.out.below HD.out)
          have HR1 := hide (HR0.out.below HD.out)
          have HB1 := hide (bStepL HB0.out HD.out)
          clear HA0 HC0 HN0 HI0 HR0 HB0 HD
          obtain ⟨p0, p1, p2, -, -, -⟩ := HA1.out
          obtain ⟨q0, q1, q2, -, -, -⟩ := HR1.out
          go_wp2_with fail
          refine (HAD.out _ (HW.out.below HB1.out)).mono ?_
          rintro e w12 ⟨rfl, hb⟩
          have HI2 := hide (HI1.out.below hb)
          have HR2 := hide (HR1.out.below hb)
          have HB2 := hide (bStepL HB1.out hb)
          clear hb p0 p1 p2 q0 q1 q2 HA1 HI1 HR1 HB1
          obtain ⟨q0, q1, q2, f0, f1, f2⟩ := HR2.out
          go_wp2_with fail
          have HR3 := hide (HR2.out.set3 g2 s2 t2)
          have HI3 := hide (((HI2.out.far (a := ⟨S, 0, none⟩) (fun e => HHS.out e.symm) (.bool g2)).far (a := ⟨S, 1, none⟩) (fun e => HHS.out e.symm) (.string s2)).far (a := ⟨S, 2, none⟩) (fun e => HHS.out e.symm) (.string t2))
          have HB3 := hide (bset3 HB2.out HSW.out (.bool g2) (.string s2) (.string t2))
          have e2 := HP2.out
          refine ⟨?_, ?measure⟩
          · (repeat apply Exists.intro)
            refine ⟨?rel, rfl⟩
            case rel => exact ⟨k + 1, by omega, by go_num, HI3.out, by rw [e2]; exact HR3.out, HB3.out⟩
          case measure => (simp [intOf]; omega)
        · obtain rfl : k = l.length := by omega
          obtain ⟨e1, e2, e3⟩ := HGN.out
          have HR2 := HR.out
          rw [e1, e2, e3] at HR2
          obtain ⟨q0, q1, q2, -, -, -⟩ := HR2
          clear HR e1 e2 e3 HGN
          go_wp2_with fail
          go_ret
          exact ⟨rfl, HB.out⟩
end Go.Proofs.YtcgplokdklomlaaGreatDoor
