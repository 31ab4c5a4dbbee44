/- lottery.Odds; names, of, in; observatoryref29: Few, Ints. -/
import Derived.Test.YtcgplokdklomlaaGreatDoorLoH
import Derived.Test.YtcgplokdklomlaaGreatDoorPkJ
set_option linter.unusedVariables false
set_option linter.unusedSimpArgs false
namespace Go.Proofs.YtcgplokdklomlaaGreatDoor
open Go.RowKit

def fewL (a b c : Nat) : Bool := decide (a ≤ 20) && ((decide (b ≤ 30) || decide (200 < b)) && (decide (b ≤ 210) && decide (c ≤ 210)))
set_option maxRecDepth 100000 in
theorem ref29_few (a b c : Nat) (x1 x2 x3 : Option Addr) (c1 c2 c3 : Nat) (p : Bool) (hp : fewL a b c = p) (w : World) :
    Calls Tryz.prog 11 #[.slice x1 a c1, .slice x2 b c2, .slice x3 c c3] w fun e w' => e = .returned (.bool p) ∧ w = w' := by
  have HP : Hid ((decide (a ≤ 20) && ((decide (b ≤ 30) || decide (200 < b)) && (decide (b ≤ 210) && decide (c ≤ 210)))) = p) := hp
  clear hp
  by_cases h1 : a ≤ 20
  case neg =>
    have d1 : decide ((a : Int) ≤ 20) = false := decide_eq_false (by omega)
    have d1' : decide (a ≤ 20) = false := decide_eq_false h1
    obtain rfl : false = p := by rw [← HP.out, d1', Bool.false_and]
    clear HP h1
    go_enter Tryz.func11, Tryz.ntmps11
    go_wp2_with fail
    go_ret
    exact ⟨rfl, rfl⟩
  have d1 : decide ((a : Int) ≤ 20) = true := decide_eq_true (by omega)
  have d1' : decide (a ≤ 20) = true := decide_eq_true h1
  by_cases h2 : b ≤ 30
  · have d2 : decide ((b : Int) ≤ 30) = true := decide_eq_true (by omega)
    have d2' : decide (b ≤ 30) = true := decide_eq_true h2
    have d4 : decide ((b : Int) ≤ 210) = true := decide_eq_true (by omega)
    have d4' : decide (b ≤ 210) = true := decide_eq_true (by omega)
    by_cases h5 : c ≤ 210
    · have d5 : decide ((c : Int) ≤ 210) = true := decide_eq_true (by omega)
      have d5' : decide (c ≤ 210) = true := decide_eq_true h5
      obtain rfl : true = p := by rw [← HP.out, d1', d2', d4', d5']; rfl
      clear HP h1 h2 h5
      go_enter Tryz.func11, Tryz.ntmps11
      go_wp2_with fail
      go_ret
      exact ⟨rfl, rfl⟩
    · have d5 : decide ((c : Int) ≤ 210) = false := decide_eq_false (by omega)
      have d5' : decide (c ≤ 210) = false := decide_eq_false h5
      obtain rfl : false = p := by rw [← HP.out, d5', Bool.and_false, Bool.and_false, Bool.and_false]
      clear HP h1 h2 h5
      go_enter Tryz.func11, Tryz.ntmps11
      go_wp2_with fail
      go_ret
      exact ⟨rfl, rfl⟩
  · have d2 : decide ((b : Int) ≤ 30) = false := decide_eq_false (by omega)
    have d2' : decide (b ≤ 30) = false := decide_eq_false h2
    by_cases h3 : 200 < b
    · have d3 : decide ((200 : Int) < (b : Int)) = true := decide_eq_true (by omega)
      have d3' : decide (200 < b) = true := decide_eq_true h3
      by_cases h4 : b ≤ 210
      · have d4 : decide ((b : Int) ≤ 210) = true := decide_eq_true (by omega)
        have d4' : decide (b ≤ 210) = true := decide_eq_true (by omega)
        by_cases h5 : c ≤ 210
        · have d5 : decide ((c : Int) ≤ 210) = true := decide_eq_true (by omega)
          have d5' : decide (c ≤ 210) = true := decide_eq_true h5
          obtain rfl : true = p := by rw [← HP.out, d1', d2', d3', d4', d5']; rfl
          clear HP h1 h2 h3 h4 h5
          go_enter Tryz.func11, Tryz.ntmps11
          go_wp2_with fail
          go_ret
          exact ⟨rfl, rfl⟩
        · have d5 : decide ((c : Int) ≤ 210) = false := decide_eq_false (by omega)
          have d5' : decide (c ≤ 210) = false := decide_eq_false h5
          obtain rfl : false = p := by rw [← HP.out, d5', Bool.and_false, Bool.and_false, Bool.and_false]
          clear HP h1 h2 h3 h4 h5
          go_enter Tryz.func11, Tryz.ntmps11
          go_wp2_with fail
          go_ret
          exact ⟨rfl, rfl⟩
      · have d4 : decide ((b : Int) ≤ 210) = false := decide_eq_false (by omega)
        have d4' : decide (b ≤ 210) = false := decide_eq_false (by omega)
        obtain rfl : false = p := by rw [← HP.out, d4', Bool.false_and, Bool.and_false, Bool.and_false]
        clear HP h1 h2 h3 h4
        go_enter Tryz.func11, Tryz.ntmps11
        go_wp2_with fail
        go_ret
        exact ⟨rfl, rfl⟩
    · have d3 : decide ((200 : Int) < (b : Int)) = false := decide_eq_false (by omega)
      have d3' : decide (200 < b) = false := decide_eq_false h3
      obtain rfl : false = p := by rw [← HP.out, d2', d3', Bool.false_or, Bool.false_and, Bool.and_false]
      clear HP h1 h2 h3
      go_enter Tryz.func11, Tryz.ntmps11
      go_wp2_with fail
      go_ret
      exact ⟨rfl, rfl⟩
theorem few_le {a b c : Nat} (h : fewL a b c = true) : a ≤ 20 ∧ b ≤ 210 ∧ c ≤ 210 := by
  unfold fewL at h
  simp only [Bool.and_eq_true, Bool.or_eq_true, decide_eq_true_eq] at h
  exact ⟨h.1, h.2.2.1, h.2.2.2⟩
theorem drw_below {w w' : World} {B n : Nat} (h : w.drewN n = w') : Below B w w' := by subst h; exact below_drewN (Below.refl _ _) _
set_option maxHeartbeats 4000000 in
set_option maxRecDepth 100000 in
theorem ref29_ints (l m : List Int) (v u : Value) (w : World) (p : Bool) (hp : decide (l = m) = p) (hv : SliceOf vI 1 w v l) (hu : SliceOf vI 1 w u m) (hl : l.length ≤ 1000000) :
    Calls Tryz.prog 18 #[v, u] w fun e w' => e = .returned (.bool p) ∧ Below w.heap.size w w' := by
  have HS := hide hv
  have HU := hide hu
  obtain ⟨a1, c1, rfl⟩ := hv.shape
  obtain ⟨a2, c2, rfl⟩ := hu.shape
  by_cases hlen : l.length = m.length
  case neg =>
    obtain rfl : false = p := by rw [← hp, decide_eq_false]; rintro rfl; exact hlen rfl
    have d1 : ((l.length : Int) != (m.length : Int)) = true := by rw [bne_iff_ne]; omega
    have d2 : (l.length != m.length) = true := by rw [bne_iff_ne]; omega
    clear hv hu hp hlen
    go_enter Tryz.func18, Tryz.ntmps18
    go_wp2_with fail
    go_ret
    exact ⟨rfl, Below.refl _ _⟩
  have HALL : Hid ((∀ j (h : j < l.length) (h' : j < m.length), l[j] = m[j]) → true = p) := fun h => by
    rw [← hp, decide_eq_true]
    exact List.ext_getElem hlen fun i h1 h2 => h i h1 h2
  have HNO : Hid (∀ j (h : j < l.length) (h' : j < m.length), l[j] ≠ m[j] → false = p) := fun j h h' hne => by
    rw [← hp, decide_eq_false]
    rintro rfl
    exact hne rfl
  have d1 : ((l.length : Int) != (m.length : Int)) = false := by rw [hlen]; simp
  have d2 : (l.length != m.length) = false := by rw [hlen]; simp
  rw [← hlen] at HU d1 d2 ⊢
  have HLE := hide hlen
  clear hv hu hp hlen
  go_enter Tryz.func18, Tryz.ntmps18
  go_wp2_with fail
  clear d1 d2
  go_loopw [5] (fun i wx => ∃ k : Nat, k ≤ l.length ∧ i = .int .i64 (k : Int) ∧ (∀ j (h : j < l.length) (h' : j < m.length), j < k → l[j] = m[j]) ∧ Below w.heap.size w wx) (fun i _ => l.length - (intOf i).toNat)
  case atStart => exact ⟨0, Nat.zero_le _, rfl, fun j _ _ h => absurd h (Nat.not_lt_zero _), Below.refl _ _⟩
  case round =>
    obtain ⟨k, hk, rfl, hall, hbl⟩ := hrel
    have HA := hide hall
    have HB := hide hbl
    clear hall hbl
    by_cases hlt : k < l.length
    · have hki : (k : Int) < (l.length : Int) := by omega
      have hk0 : (0 : Int) ≤ (k : Int) := by omega
      have hkm : k < m.length := by have := HLE.out; omega
      obtain ⟨b', off, rfl, _, hcap, hcm, hc⟩ := SliceOf.at_ (HS.out.below HB.out) (by omega)
      have hcpI : (l.length : Int) ≤ (c1 : Int) := by omega
      have hcmI : (c1 : Int) ≤ 9223372036854775807 := by unfold maxLen at hcm; omega
      have hu2 := HU.out.below HB.out
      rw [HLE.out] at hu2
      obtain ⟨b2, off2, rfl, _, hcap2, hcm2, hc2⟩ := SliceOf.at_ hu2 (by omega)
      have hcpI2 : (l.length : Int) ≤ (c2 : Int) := by have := HLE.out; omega
      have hcmI2 : (c2 : Int) ≤ 9223372036854775807 := by unfold maxLen at hcm2; omega
      have x0 := int_cell hc hlt
      have y0 := int_cell hc2 hkm
      have HK1 := hide (HNO.out k hlt hkm)
      have HK2 : Hid (l[k] = m[k] → ∀ j (h : j < l.length) (h' : j < m.length), j < k + 1 → l[j] = m[j]) := fun e j h h' hj => by
        by_cases e2 : j = k
        · subst e2; exact e
        · exact HA.out j h h' (by omega)
      obtain ⟨x, hx⟩ : ∃ x, l[k] = x := ⟨_, rfl⟩
      obtain ⟨y, hy⟩ : ∃ x, m[k] = x := ⟨_, rfl⟩
      rw [hx] at x0 HK1 HK2
      rw [hy] at y0 HK1 HK2
      clear hx hy hc hc2 hcap hcm hcap2 hcm2 hu2
      by_cases hxy : x = y
      · subst hxy
        have HN := hide (HK2.out rfl)
        go_wp2_with fail
        go_quiet (fail)
        go_wp2_with fail
        go_roundw
        case rel => exact ⟨k + 1, by omega, by go_num, HN.out, below_drewN HB.out _⟩
        case measure => (simp [intOf]; omega)
      · obtain rfl : false = p := HK1.out hxy
        have d1 : (x != y) = true := by rw [bne_iff_ne]; exact hxy
        go_wp2_with fail
        go_quiet (fail)
        go_wp2_with fail
        go_ret
        exact ⟨rfl, below_drewN HB.out _⟩
    · obtain rfl : true = p := HALL.out (fun j h h' => HA.out j h h' (by omega))
      have hk' : k = l.length := by omega
      subst hk'
      go_wp2_with fail
      go_ret
      exact ⟨rfl, HB.out⟩
theorem psum_mono {l : List Int} (h : ∀ x ∈ l, 0 ≤ x ∧ x ≤ 720) : ∀ {j k : Nat}, j ≤ k → k ≤ l.length → psum l j ≤ psum l k := by
  intro j k hjk
  induction k with
  | zero => intro _; have : j = 0 := by omega
            subst this; exact Int.le_refl _
  | succ k ih =>
    intro hk
    by_cases e : j = k + 1
    · subst e; exact Int.le_refl _
    · have := ih (by omega) (by omega)
      rw [psum_succ (by omega)]
      have := (h l[k] (List.getElem_mem (by omega))).1
      omega
theorem win_uniq {l : List Int} (h : ∀ x ∈ l, 0 ≤ x ∧ x ≤ 720) {d : Int} {i j : Nat} (hi : i < l.length) (h1 : psum l i ≤ d) (h2 : d < psum l (i + 1)) (hj : j < l.length) (h3 : psum l j ≤ d) (h4 : d < psum l (j + 1)) : i = j := by
  rcases Nat.lt_trichotomy i j with e | e | e
  · have := psum_mono h (j := i + 1) (k := j) (by omega) (by omega); omega
  · exact e
  · have := psum_mono h (j := j + 1) (k := i) (by omega) (by omega); omega
set_option maxRecDepth 100000 in
theorem lo_names (l : List Int) (d : Int) (i : Nat) (v : Value) (w : World) (hl : lstB l = true) (hv : SliceOf vI 1 w v l) (hd0 : 0 ≤ d) (hd1 : d ≤ 719) (hi : i < l.length) (h1 : psum l i ≤ d) (h2 : d < psum l (i + 1)) :
    Calls Tryz.prog 24 #[v, .int .i64 d, .int .i64 (i : Int)] w fun e w' => e = .returned (.bool true) ∧ Below w.heap.size w w' := by
  have HW := hide (lo_winner l d v w hl hv hd0 hd1)
  have HU : Hid (∀ j, j < l.length ∧ psum l j ≤ d ∧ d < psum l (j + 1) → j = i) := fun j h => win_uniq (lst_iff hl).2.1 h.1 h.2.1 h.2.2 hi h1 h2
  obtain ⟨ao, cp, rfl⟩ := hv.shape
  clear hl hv h1 h2 hi hd0 hd1
  go_enter Tryz.func24, Tryz.ntmps24
  go_wp2_with fail
  refine HW.out.mono ?_
  rintro e w1 ⟨j, rfl, hj, hb⟩
  obtain rfl := HU.out j hj
  have HB := hide hb
  clear hj hb
  go_wp2_with fail
  go_ret
  exact ⟨rfl, HB.out⟩
set_option maxHeartbeats 4000000 in
set_option maxRecDepth 100000 in
theorem lo_odds (l : List Int) (i : Nat) (q : Rat) (g : Bool) (s t : ByteArray) (v : Value) (w : World) (hl : lstB l = true) (hv : SliceOf vI 1 w v l) (hi : i < l.length) (e : ofQ (l.getD i 0) 720 = q) (hq : rqV q = .agg #[.bool g, .string s, .string t]) (hW : LawW w) :
    Calls Tryz.prog 16 #[v, .int .i64 (i : Int)] w fun e w' => e = .returned (.tuple #[.agg #[.bool g, .string s, .string t], .int .i64 0]) ∧ Below w.heap.size w w' := by
  obtain ⟨⟨n1, n2⟩, he, _⟩ := lst_iff hl
  have hx := he _ (List.getElem_mem hi)
  have hO := fun W hW => of_ok (n := l.getD i 0) (d := 720) (by unfold inI64; rw [getD_at hi]; omega) (by unfold inI64; omega) (by omega) e hq W hW
  rw [getD_at hi] at hO
  have HO := hide hO
  have HW := hide hW
  have HB0 := hide (bAlloc (Below.refl w.heap.size w) (.cells #[.bool false, .string ⟨#[]⟩, .string ⟨#[]⟩] 32))
  have HZ0 : Hid ((w.alloc (.cells #[.bool false, .string ⟨#[]⟩, .string ⟨#[]⟩] 32)).cell? ⟨w.heap.size, 0, none⟩ = some (.bool false) ∧ (w.alloc (.cells #[.bool false, .string ⟨#[]⟩, .string ⟨#[]⟩] 32)).cell? ⟨w.heap.size, 1, none⟩ = some (.string ⟨#[]⟩) ∧ (w.alloc (.cells #[.bool false, .string ⟨#[]⟩, .string ⟨#[]⟩] 32)).cell? ⟨w.heap.size, 2, none⟩ = some (.string ⟨#[]⟩)) := ⟨by simp [go_sem], by simp [go_sem], by simp [go_sem]⟩
  have HLI := hide (lo_list l v (w.alloc (.cells #[.bool false, .string ⟨#[]⟩, .string ⟨#[]⟩] 32)) true hl (hv.below HB0.out) (by omega))
  have HWI := hide (fun W (hb : Below w.heap.size w W) => lo_within 0 ((l.length : Int) - 1) [(i : Int)] _ (W.alloc (.cells #[.int .i64 (i : Int)] 3)) true (inB_iff.2 (fun x hx => by simp at hx; omega)) (int_lit W (i : Int) 3 rfl) (by simp))
  have HRC0 : Hid (RC (w.alloc (.cells #[.bool false, .string ⟨#[]⟩, .string ⟨#[]⟩] 32)) w.heap.size false ⟨#[]⟩ ⟨#[]⟩) := RC.new _ _ _ _ _
  have HV := hide hv
  obtain ⟨ao, cp, rfl⟩ := hv.shape
  obtain ⟨b', off, rfl, _, hcap, hcm, hc⟩ := SliceOf.at_ hv (by omega)
  have hcpI : (l.length : Int) ≤ (cp : Int) := by omega
  have hcmI : (cp : Int) ≤ 9223372036854775807 := by unfold maxLen at hcm; omega
  have hiI : (i : Int) < (l.length : Int) := by omega
  have hi0 : (0 : Int) ≤ (i : Int) := by omega
  have hlI : (l.length : Int) ≤ 200 := by omega
  have HC := hide (int_cell hc hi)
  obtain ⟨x, hxe⟩ : ∃ x, l[i] = x := ⟨_, rfl⟩
  rw [hxe] at HO HC
  clear hl hv hi e hq hW n1 n2 he hx hO hxe hc hcap hcm
  go_enter Tryz.func16, Tryz.ntmps16
  go_wp2_with fail
  refine HLI.out.mono ?_
  rintro e w1 ⟨rfl, hb⟩
  have HB1 := hide (bStepL HB0.out hb)
  have HR1 := hide (HRC0.out.below hb)
  clear hb
  go_wp2_with fail
  refine (HWI.out _ HB1.out).mono ?_
  rintro e w2 ⟨rfl, hb⟩
  have HB2 := hide (bStepL (bAlloc HB1.out _) hb)
  have HR2 := hide ((HR1.out.below (bAlloc (Below.refl _ _) _)).below hb)
  clear hb
  have c1 := keep_cell HB2.out HC.out
  go_wp2_with fail
  refine (HO.out _ (HW.out.below HB2.out)).mono ?_
  rintro e w3 ⟨rfl, hb⟩
  have HB3 := hide (bStepL HB2.out hb)
  have HR3 := hide (HR2.out.below hb)
  obtain ⟨z0, z1, z2, f0, f1, f2⟩ := HR3.out
  clear hb c1
  go_wp2_with fail
  obtain ⟨d0, d1, d2, _, _, _⟩ := HR3.out.set3 g s t
  exact bodyPost_ret (v := .tuple #[.agg #[.bool g, .string s, .string t], .int .i64 0]) (by simp [results, Tryz.results16, go_sem, d0, d1, d2]) rfl ⟨rfl, bset3 HB3.out (Nat.le_refl _) _ _ _⟩
set_option maxHeartbeats 4000000 in
set_option maxRecDepth 100000 in
theorem lo_odds_bad (l : List Int) (i : Int) (v : Value) (w : World) (hl : lstB l = false ∨ (lstB l = true ∧ (i < 0 ∨ (l.length : Int) ≤ i))) (hn : l.length ≤ 1000) (hv : SliceOf vI 1 w v l) :
    Calls Tryz.prog 16 #[v, .int .i64 i] w fun e w' => e = .returned (.tuple #[.agg #[.bool false, .string ⟨#[]⟩, .string ⟨#[]⟩], .int .i64 1]) ∧ Below w.heap.size w w' := by
  have HB0 := hide (bAlloc (Below.refl w.heap.size w) (.cells #[.bool false, .string ⟨#[]⟩, .string ⟨#[]⟩] 32))
  have HRC0 : Hid (RC (w.alloc (.cells #[.bool false, .string ⟨#[]⟩, .string ⟨#[]⟩] 32)) w.heap.size false ⟨#[]⟩ ⟨#[]⟩) := RC.new _ _ _ _ _
  rcases hl with hl | ⟨hl, hi⟩
  · have HLI := hide (lo_list l v (w.alloc (.cells #[.bool false, .string ⟨#[]⟩, .string ⟨#[]⟩] 32)) false hl (hv.below HB0.out) (by omega))
    obtain ⟨ao, cp, rfl⟩ := hv.shape
    clear hl hv
    go_enter Tryz.func16, Tryz.ntmps16
    go_wp2_with fail
    refine HLI.out.mono ?_
    rintro e w1 ⟨rfl, hb⟩
    have HB1 := hide (bStepL HB0.out hb)
    have HR1 := hide (HRC0.out.below hb)
    obtain ⟨z0, z1, z2, f0, f1, f2⟩ := HR1.out
    clear hb
    go_wp2_with fail
    obtain ⟨d0, d1, d2, _, _, _⟩ := HR1.out.set3 false ⟨#[]⟩ ⟨#[]⟩
    exact bodyPost_ret (v := .tuple #[.agg #[.bool false, .string ⟨#[]⟩, .string ⟨#[]⟩], .int .i64 1]) (by simp [results, Tryz.results16, go_sem, d0, d1, d2]) rfl ⟨rfl, bset3 HB1.out (Nat.le_refl _) _ _ _⟩
  · have HLI := hide (lo_list l v (w.alloc (.cells #[.bool false, .string ⟨#[]⟩, .string ⟨#[]⟩] 32)) true hl (hv.below HB0.out) (by omega))
    have HWI := hide (fun W (hb : Below w.heap.size w W) => lo_within 0 ((l.length : Int) - 1) [i] _ (W.alloc (.cells #[.int .i64 i] 3)) false (by
      rw [← Bool.not_eq_true, inB_iff]
      intro h
      have := h i (by simp)
      omega) (int_lit W i 3 rfl) (by simp))
    have hlI : (l.length : Int) ≤ 1000 := by omega
    obtain ⟨ao, cp, rfl⟩ := hv.shape
    clear hl hv hi
    go_enter Tryz.func16, Tryz.ntmps16
    go_wp2_with fail
    refine HLI.out.mono ?_
    rintro e w1 ⟨rfl, hb⟩
    have HB1 := hide (bStepL HB0.out hb)
    have HR1 := hide (HRC0.out.below hb)
    clear hb
    go_wp2_with fail
    refine (HWI.out _ HB1.out).mono ?_
    rintro e w2 ⟨rfl, hb⟩
    have HB2 := hide (bStepL (bAlloc HB1.out _) hb)
    have HR2 := hide ((HR1.out.below (bAlloc (Below.refl _ _) _)).below hb)
    obtain ⟨z0, z1, z2, f0, f1, f2⟩ := HR2.out
    clear hb
    go_wp2_with fail
    obtain ⟨d0, d1, d2, _, _, _⟩ := HR2.out.set3 false ⟨#[]⟩ ⟨#[]⟩
    exact bodyPost_ret (v := .tuple #[.agg #[.bool false, .string ⟨#[]⟩, .string ⟨#[]⟩], .int .i64 1]) (by simp [results, Tryz.results16, go_sem, d0, d1, d2]) rfl ⟨rfl, bset3 HB2.out (Nat.le_refl _) _ _ _⟩
end Go.Proofs.YtcgplokdklomlaaGreatDoor
