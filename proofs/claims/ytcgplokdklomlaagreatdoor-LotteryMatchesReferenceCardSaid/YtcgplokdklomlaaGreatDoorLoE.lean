/- lottery: within, valid, list. -/
import Derived.Test.YtcgplokdklomlaaGreatDoorLoD
set_option linter.unusedVariables false
set_option linter.unusedSimpArgs false
namespace Go.Proofs.YtcgplokdklomlaaGreatDoor
open Go.RowKit

/-- Whether all of a list are within two bounds. -/
def inB (lo hi : Int) (l : List Int) : Bool := !(l.any (outB lo hi))
theorem inB_iff {lo hi : Int} {l : List Int} : inB lo hi l = true ↔ ∀ x ∈ l, lo ≤ x ∧ x ≤ hi := by
  unfold inB
  rw [Bool.not_eq_true', List.any_eq_false]
  exact ⟨fun h x hx => outB_iff.1 (by simpa using h x hx), fun h x hx => by rw [outB_iff.2 (h x hx)]; exact Bool.noConfusion⟩
set_option maxRecDepth 100000 in
theorem lo_within (lo hi : Int) (l : List Int) (v : Value) (w : World) (b : Bool) (hb : inB lo hi l = b) (hv : SliceOf vI 1 w v l) (hl : l.length ≤ 1000000) :
    Calls Tryz.prog 31 #[.int .i64 lo, .int .i64 hi, v] w fun e w' => e = .returned (.bool b) ∧ Below w.heap.size w w' := by
  have hv2 := hv.below (bAlloc (bAlloc (Below.refl _ w) (.cells #[.int .i64 lo] 3)) (.cells #[.int .i64 hi] 3))
  have HI := hide (con_any2 51 (.pointer (some ⟨w.heap.size, 0, none⟩)) (.pointer (some ⟨w.heap.size + 1, 0, none⟩)) l (outB lo hi) v _ hv2 hl (fun args w => by simp [go_sem])
    (fun x _ => lo_out x lo hi _ _ _ (by simp [go_sem]) (by simp [go_sem])))
  obtain ⟨q, hq⟩ : ∃ q, l.any (outB lo hi) = q := ⟨_, rfl⟩
  have HQ : Hid ((!q) = b) := by rw [← hb, ← hq]; rfl
  have HB := hide (bAlloc (bAlloc (Below.refl w.heap.size w) (.cells #[.int .i64 lo] 3)) (.cells #[.int .i64 hi] 3))
  rw [hq] at HI
  clear hv hv2 hq hb
  go_enter Tryz.func31, Tryz.ntmps31
  go_wp2_with fail
  refine HI.out.mono ?_
  rintro e w5 ⟨rfl, rfl⟩
  go_wp2_with fail
  go_ret
  exact ⟨ret_bool HQ.out, HB.out⟩
/-- Whether the lists of requests are valid. -/
def vldL (shares owners merits : List Int) : Bool :=
  inB 1 16 [(shares.length : Int)] && (decide (owners.length ≤ 200) && (decide (owners.length = merits.length) && (inB 1 1000 shares && (inB 0 ((shares.length : Int) - 1) owners && inB 1 10000 merits))))
theorem int_lit (w : World) (x : Int) (T : TypeId) {s : Nat} (hs : w.heap.size = s) : SliceOf vI 1 (w.alloc (.cells #[.int .i64 x] T)) (.slice (some ⟨s, 0, none⟩) 1 1) [x] := by
  subst hs
  exact slice_lit vI_len w [x] T (by show 1 ≤ maxLen; decide)
set_option maxHeartbeats 4000000 in
set_option maxRecDepth 100000 in
theorem lo_valid (shares owners merits : List Int) (v1 v2 v3 : Value) (w : World) (b : Bool) (hb : vldL shares owners merits = b) (h1 : SliceOf vI 1 w v1 shares) (h2 : SliceOf vI 1 w v2 owners) (h3 : SliceOf vI 1 w v3 merits)
    (n1 : shares.length ≤ 1000) (n2 : owners.length ≤ 1000) (n3 : merits.length ≤ 1000) :
    Calls Tryz.prog 25 #[v1, v2, v3] w fun e w' => e = .returned (.bool b) ∧ Below w.heap.size w w' := by
  have H1 := hide h1
  have H2 := hide h2
  have H3 := hide h3
  obtain ⟨a1, c1, rfl⟩ := h1.shape
  obtain ⟨a2, c2, rfl⟩ := h2.shape
  obtain ⟨a3, c3, rfl⟩ := h3.shape
  have HL := hide (int_lit w (shares.length : Int) 3 rfl)
  have HB := hide (bAlloc (Below.refl w.heap.size w) (.cells #[.int .i64 (shares.length : Int)] 3))
  obtain ⟨p1, hp1⟩ : ∃ p, inB 1 16 [(shares.length : Int)] = p := ⟨_, rfl⟩
  obtain ⟨p2, hp2⟩ : ∃ p, inB 1 1000 shares = p := ⟨_, rfl⟩
  obtain ⟨p3, hp3⟩ : ∃ p, inB 0 ((shares.length : Int) - 1) owners = p := ⟨_, rfl⟩
  obtain ⟨p4, hp4⟩ : ∃ p, inB 1 10000 merits = p := ⟨_, rfl⟩
  have HQ : Hid ((p1 && (decide (owners.length ≤ 200) && (decide (owners.length = merits.length) && (p2 && (p3 && p4))))) = b) := by
    show _ = _
    rw [← hb]
    unfold vldL
    rw [hp1, hp2, hp3, hp4]
  have K1 := hide (lo_within 1 16 [(shares.length : Int)] _ _ p1 hp1 HL.out (by simp))
  have K2 := hide (fun W (hb : Below w.heap.size w W) => lo_within 1 1000 shares _ W p2 hp2 (H1.out.below hb) (by omega))
  have K3 := hide (fun W (hb : Below w.heap.size w W) => lo_within 0 ((shares.length : Int) - 1) owners _ W p3 hp3 (H2.out.below hb) (by omega))
  have K4 := hide (fun W (hb : Below w.heap.size w W) => lo_within 1 10000 merits _ W p4 hp4 (H3.out.below hb) (by omega))
  have hsI : (shares.length : Int) ≤ 1000 := by omega
  have hs0 : (0 : Int) ≤ (shares.length : Int) := by omega
  clear h1 h2 h3 hp1 hp2 hp3 hp4 hb
  by_cases l1 : owners.length ≤ 200
  · have d1 : decide ((200 : Int) < (owners.length : Int)) = false := decide_eq_false (by omega)
    have d1' : decide (200 < owners.length) = false := decide_eq_false (by omega)
    by_cases l2 : owners.length = merits.length
    · have d2 : ((owners.length : Int) != (merits.length : Int)) = false := by rw [l2]; simp
      have d2' : (owners.length != merits.length) = false := by rw [l2]; simp
      have HQ2 : Hid ((p1 && (p2 && (p3 && p4))) = b) := by
        have := HQ.out
        rw [decide_eq_true l1, decide_eq_true l2, Bool.true_and, Bool.true_and] at this
        exact this
      clear HQ l1 l2
      cases p1
      case false =>
        obtain rfl : false = b := HQ2.out
        go_enter Tryz.func25, Tryz.ntmps25
        go_wp2_with fail
        refine K1.out.mono ?_
        rintro e w5 ⟨rfl, hb⟩
        have HB5 := hide (bStepL HB.out hb)
        clear hb
        go_wp2_with fail
        go_ret
        exact ⟨rfl, HB5.out⟩
      cases p2
      case false =>
        obtain rfl : false = b := HQ2.out
        go_enter Tryz.func25, Tryz.ntmps25
        go_wp2_with fail
        refine K1.out.mono ?_
        rintro e w5 ⟨rfl, hb⟩
        have HB5 := hide (bStepL HB.out hb)
        clear hb
        go_wp2_with fail
        refine (K2.out _ HB5.out).mono ?_
        rintro e w6 ⟨rfl, hb⟩
        have HB6 := hide (bStepL HB5.out hb)
        clear hb
        go_wp2_with fail
        go_ret
        exact ⟨rfl, HB6.out⟩
      cases p3
      case false =>
        obtain rfl : false = b := HQ2.out
        go_enter Tryz.func25, Tryz.ntmps25
        go_wp2_with fail
        refine K1.out.mono ?_
        rintro e w5 ⟨rfl, hb⟩
        have HB5 := hide (bStepL HB.out hb)
        clear hb
        go_wp2_with fail
        refine (K2.out _ HB5.out).mono ?_
        rintro e w6 ⟨rfl, hb⟩
        have HB6 := hide (bStepL HB5.out hb)
        clear hb
        go_wp2_with fail
        refine (K3.out _ HB6.out).mono ?_
        rintro e w7 ⟨rfl, hb⟩
        have HB7 := hide (bStepL HB6.out hb)
        clear hb
        go_wp2_with fail
        go_ret
        exact ⟨rfl, HB7.out⟩
      obtain rfl : p4 = b := HQ2.out
      go_enter Tryz.func25, Tryz.ntmps25
      go_wp2_with fail
      refine K1.out.mono ?_
      rintro e w5 ⟨rfl, hb⟩
      have HB5 := hide (bStepL HB.out hb)
      clear hb
      go_wp2_with fail
      refine (K2.out _ HB5.out).mono ?_
      rintro e w6 ⟨rfl, hb⟩
      have HB6 := hide (bStepL HB5.out hb)
      clear hb
      go_wp2_with fail
      refine (K3.out _ HB6.out).mono ?_
      rintro e w7 ⟨rfl, hb⟩
      have HB7 := hide (bStepL HB6.out hb)
      clear hb
      go_wp2_with fail
      refine (K4.out _ HB7.out).mono ?_
      rintro e w8 ⟨rfl, hb⟩
      have HB8 := hide (bStepL HB7.out hb)
      clear hb
      go_wp2_with fail
      go_ret
      exact ⟨rfl, HB8.out⟩
    · have d2 : ((owners.length : Int) != (merits.length : Int)) = true := by rw [bne_iff_ne]; omega
      have d2' : (owners.length != merits.length) = true := by rw [bne_iff_ne]; omega
      obtain rfl : false = b := by
        have := HQ.out
        rw [decide_eq_false l2, Bool.false_and, Bool.and_false, Bool.and_false] at this
        exact this
      clear HQ l1 l2
      cases p1
      all_goals
        go_enter Tryz.func25, Tryz.ntmps25
        go_wp2_with fail
        refine K1.out.mono ?_
        rintro e w5 ⟨rfl, hb⟩
        have HB5 := hide (bStepL HB.out hb)
        clear hb
        go_wp2_with fail
        go_ret
        exact ⟨rfl, HB5.out⟩
  · have d1 : decide ((200 : Int) < (owners.length : Int)) = true := decide_eq_true (by omega)
    have d1' : decide (200 < owners.length) = true := decide_eq_true (by omega)
    obtain rfl : false = b := by
      have := HQ.out
      rw [decide_eq_false l1, Bool.false_and, Bool.and_false] at this
      exact this
    clear HQ l1
    cases p1
    all_goals
      go_enter Tryz.func25, Tryz.ntmps25
      go_wp2_with fail
      refine K1.out.mono ?_
      rintro e w5 ⟨rfl, hb⟩
      have HB5 := hide (bStepL HB.out hb)
      clear hb
      go_wp2_with fail
      go_ret
      exact ⟨rfl, HB5.out⟩
/-- The sum of the first k. -/
def psum (l : List Int) : Nat → Int
  | 0 => 0
  | k + 1 => psum l k + l.getD k 0
def lstB (l : List Int) : Bool := inB 1 200 [(l.length : Int)] && (inB 0 720 l && decide (psum l l.length = 720))
theorem getD_at {l : List Int} {k : Nat} (h : k < l.length) : l.getD k 0 = l[k] := by rw [List.getD_eq_getElem?_getD, List.getElem?_eq_getElem h]; rfl
theorem psum_bd {l : List Int} {lo hi : Int} (h : ∀ x ∈ l, lo ≤ x ∧ x ≤ hi) : ∀ k, k ≤ l.length → (k : Int) * lo ≤ psum l k ∧ psum l k ≤ (k : Int) * hi
  | 0, _ => by simp [psum]
  | k + 1, hk => by
    have h1 := psum_bd h k (by omega)
    have h2 := h l[k] (List.getElem_mem (by omega))
    unfold psum
    rw [getD_at (by omega), Int.natCast_succ, Int.add_mul, Int.add_mul, Int.one_mul, Int.one_mul]
    omega
set_option maxHeartbeats 4000000 in
set_option maxRecDepth 100000 in
theorem lo_list (l : List Int) (v : Value) (w : World) (b : Bool) (hb : lstB l = b) (hv : SliceOf vI 1 w v l) (hl : l.length ≤ 1000) :
    Calls Tryz.prog 30 #[v] w fun e w' => e = .returned (.bool b) ∧ Below w.heap.size w w' := by
  have HS := hide hv
  obtain ⟨ao, cp, rfl⟩ := hv.shape
  have HL := hide (int_lit w (l.length : Int) 3 rfl)
  have HB := hide (bAlloc (Below.refl w.heap.size w) (.cells #[.int .i64 (l.length : Int)] 3))
  obtain ⟨p1, hp1⟩ : ∃ p, inB 1 200 [(l.length : Int)] = p := ⟨_, rfl⟩
  obtain ⟨p2, hp2⟩ : ∃ p, inB 0 720 l = p := ⟨_, rfl⟩
  have HQ : Hid ((p1 && (p2 && decide (psum l l.length = 720))) = b) := by
    show _ = _
    rw [← hb]
    unfold lstB
    rw [hp1, hp2]
  have K1 := hide (lo_within 1 200 [(l.length : Int)] _ _ p1 hp1 HL.out (by simp))
  have K2 := hide (fun W (hb : Below w.heap.size w W) => lo_within 0 720 l _ W p2 hp2 (HS.out.below hb) (by omega))
  have HP2 := hide hp2
  have hlI : (l.length : Int) ≤ 1000 := by omega
  clear hp1 hp2 hb hv
  cases p1
  case false =>
    obtain rfl : false = b := HQ.out
    go_enter Tryz.func30, Tryz.ntmps30
    go_wp2_with fail
    refine K1.out.mono ?_
    rintro e w5 ⟨rfl, hb⟩
    have HB5 := hide (bStepL HB.out hb)
    clear hb
    go_wp2_with fail
    go_ret
    exact ⟨rfl, HB5.out⟩
  cases p2
  case false =>
    obtain rfl : false = b := HQ.out
    go_enter Tryz.func30, Tryz.ntmps30
    go_wp2_with fail
    refine K1.out.mono ?_
    rintro e w5 ⟨rfl, hb⟩
    have HB5 := hide (bStepL HB.out hb)
    clear hb
    go_wp2_with fail
    refine (K2.out _ HB5.out).mono ?_
    rintro e w6 ⟨rfl, hb⟩
    have HB6 := hide (bStepL HB5.out hb)
    clear hb
    go_wp2_with fail
    go_ret
    exact ⟨rfl, HB6.out⟩
  have HPS : Hid (∀ k, k ≤ l.length → 0 ≤ psum l k ∧ psum l k ≤ 720 * 1000) := fun k hk => by
    have := psum_bd (inB_iff.1 HP2.out) k hk
    have h2 : (k : Int) * 720 ≤ 1000 * 720 := Int.mul_le_mul_of_nonneg_right (by omega) (by omega)
    omega
  have HEL : Hid (∀ k (hk : k < l.length), 0 ≤ l[k] ∧ l[k] ≤ 720) := fun k hk => inB_iff.1 HP2.out _ (List.getElem_mem hk)
  have HSU : Hid (∀ k (hk : k < l.length), psum l (k + 1) = psum l k + l[k]) := fun k hk => by show psum l k + _ = _; rw [getD_at hk]
  have HZ : Hid ((0 : Int) = psum l 0) := rfl
  have HF : Hid (decide (psum l l.length = 720) = b) := HQ.out
  go_enter Tryz.func30, Tryz.ntmps30
  go_wp2_with fail
  refine K1.out.mono ?_
  rintro e w5 ⟨rfl, hb⟩
  have HB5 := hide (bStepL HB.out hb)
  clear hb
  go_wp2_with fail
  refine (K2.out _ HB5.out).mono ?_
  rintro e w6 ⟨rfl, hb⟩
  have HB6 := hide (bStepL HB5.out hb)
  clear hb HB5 K1 K2
  go_wp2_with fail
  go_loop [3, 18] (fun s i => ∃ k : Nat, k ≤ l.length ∧ i = .int .i64 (k : Int) ∧ s = .int .i64 (psum l k)) (fun _ i => l.length - (intOf i).toNat)
  case atStart => exact ⟨0, Nat.zero_le _, rfl, congrArg (Value.int .i64) HZ.out⟩
  case round =>
    obtain ⟨k, hk, rfl, rfl⟩ := hrel
    have hps := HPS.out k hk
    by_cases hlt : k < l.length
    · have hki : (k : Int) < (l.length : Int) := by omega
      have hk0 : (0 : Int) ≤ (k : Int) := by omega
      obtain ⟨b', off, rfl, _, hcap, hcm, hc⟩ := SliceOf.at_ (HS.out.below HB6.out) (by omega)
      have hcpI : (l.length : Int) ≤ (cp : Int) := by omega
      have hcmI : (cp : Int) ≤ 9223372036854775807 := by unfold maxLen at hcm; omega
      have c0 := int_cell hc hlt
      have hel := HEL.out k hlt
      have HS1 := hide (HSU.out k hlt)
      obtain ⟨x, hx⟩ : ∃ x, l[k] = x := ⟨_, rfl⟩
      obtain ⟨y, hy⟩ : ∃ x, psum l k = x := ⟨_, rfl⟩
      rw [hx] at c0 hel HS1
      rw [hy] at hps HS1 ⊢
      clear hx hy hc hcap hcm
      obtain ⟨he1, he2⟩ := hel
      obtain ⟨hp1, hp2⟩ := hps
      go_wp2_with fail
      go_round
      case rel => exact ⟨k + 1, by omega, by go_num, congrArg (Value.int .i64) (by rw [HS1.out])⟩
      case measure => (simp [intOf]; omega)
    · have hk' : k = l.length := by omega
      subst hk'
      obtain ⟨y, hy⟩ : ∃ x, psum l l.length = x := ⟨_, rfl⟩
      rw [hy] at hps HF ⊢
      clear hy
      by_cases hz : y = 720
      · have d1 : (y == 720) = true := beq_iff_eq.2 hz
        obtain rfl : true = b := by rw [← HF.out]; exact (decide_eq_true hz).symm
        clear HF
        go_wp2_with fail
        go_ret
        exact ⟨by first | rfl | exact ret_bool d1, HB6.out⟩
      · have d1 : (y == 720) = false := beq_eq_false_iff_ne.2 hz
        obtain rfl : false = b := by rw [← HF.out]; exact (decide_eq_false hz).symm
        clear HF
        go_wp2_with fail
        go_ret
        exact ⟨by first | rfl | exact ret_bool d1, HB6.out⟩
end Go.Proofs.YtcgplokdklomlaaGreatDoor
