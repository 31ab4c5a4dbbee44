/- SkyNear and SkySteps: the walks of the statements. -/
import Derived.Test.YtahlhiiekgnmpaaSkyN
namespace Go.Proofs.Ytahlhiiekgnmpaa
open Go.RowKit

theorem nearV_ok {a r : Int} (h1 : 0 ≤ a) (h2 : a < 512) (h3 : 0 ≤ r) (h4 : r < 32) : nearV a r = nearK a r 512 ∧ errB (nearB a r) = 0 := by
  have ha := isTile_iff.2 ⟨h1, h2⟩
  have hb : (isTile a && decide (0 ≤ r ∧ r < 32)) = true := by rw [ha]; simp [h3, h4]
  exact ⟨by unfold nearV; rw [if_pos hb], by unfold nearB; rw [hb]; rfl⟩
theorem sky_near_is (a r : Int) (l : List Int) (w : World) (h1 : 0 ≤ a) (h2 : a < 512) (h3 : 0 ≤ r) (h4 : r < 32) (hl : Hid (nearK a r 512 = l)) :
    Calls Try.prog 24 #[.int .i64 a, .int .i64 r] w fun e w' => ∃ v, e = .returned (.tuple #[v, .int .i64 0]) ∧ IntSlice w' v l ∧ Below w.heap.size w w' := by
  obtain ⟨e1, e2⟩ := nearV_ok h1 h2 h3 h4
  exact sky_near_at a r 0 l w (e1.trans hl.out) e2

def foundK (l : List Int) (b : Int) (k : Nat) : Bool := (l.take k).any (· == b)
theorem foundK_snoc {l : List Int} {b : Int} {k : Nat} (h : k < l.length) : foundK l b (k + 1) = (foundK l b k || (l[k] == b)) := by
  unfold foundK; rw [take_snoc h, List.any_append]; simp
theorem foundK_all (l : List Int) (b : Int) : foundK l b l.length = decide (b ∈ l) := by
  unfold foundK; rw [List.take_length, Bool.eq_iff_iff]; simp

set_option maxHeartbeats 2000000 in
set_option maxRecDepth 100000 in
theorem skyNear_walk (i j s : Int) (w : World) (i0 : 0 ≤ i) (i1 : i < 65536) (j0 : 0 ≤ j) (j1 : j < 65536) (s0 : 0 ≤ s) (s1 : s < 256) :
    Calls Try.prog 6 #[.int .u16 i, .int .u16 j, .int .u8 s] w fun e w' => e = .returned (.bool true) ∧ Below w.heap.size w w' := by
  obtain ⟨a, ha⟩ : ∃ x, i % 512 = x := ⟨_, rfl⟩
  obtain ⟨b, hb⟩ : ∃ x, j % 512 = x := ⟨_, rfl⟩
  obtain ⟨r, hr⟩ : ∃ x, s % 32 = x := ⟨_, rfl⟩
  have a1 : 0 ≤ a ∧ a < 512 := by omega
  have b1 : 0 ≤ b ∧ b < 512 := by omega
  have r1 : 0 ≤ r ∧ r < 32 := by omega
  obtain ⟨a1, a2⟩ := a1
  obtain ⟨b1, b2⟩ := b1
  obtain ⟨r1, r2⟩ := r1
  obtain ⟨l, hl⟩ : ∃ x, nearK a r 512 = x := ⟨_, rfl⟩
  obtain ⟨d, hd⟩ : ∃ x, distI a b = x := ⟨_, rfl⟩
  have hd1 := distI_bounds a b a1 a2 b1 b2
  have hnum := near_number_int a r a1 a2 r1 r2
  have hlen := nearK_le a r 512
  have hfound : decide (b ∈ l) = decide (d ≤ r) := by
    rw [← hl, ← hd]
    exact decide_eq_decide.2 ⟨fun h => ((nearK_mem a r 512 b).1 h).2.2, fun h => (nearK_mem a r 512 b).2 ⟨b1, by omega, h⟩⟩
  have hsort : ∀ n (h : n + 1 < l.length), l[n] < l[n + 1] := by subst hl; exact fun n h => nearK_lt h
  have hmem : a ∈ l := by rw [← hl]; exact (nearK_mem a r 512 a).2 ⟨a1, by omega, by rw [distI_self]; exact r1⟩
  rw [hl] at hnum hlen
  rw [hd] at hd1
  have Ha := hide ha
  have Hb := hide hb
  have Hr := hide hr
  have Hl := hide hl
  have Hd := hide hd
  have Hf := hide hfound
  have Hs := hide hsort
  have Hm := hide hmem
  clear ha hb hr hl hd hfound hsort hmem
  have Hnum := hide hnum
  clear hnum
  go_enter Try.func6, Try.ntmps6
  go_wp2_with fail
  refine (sky_head _).mono ?_
  rintro e w1 ⟨rfl, hw⟩
  go_wp2_with fail
  rw [Ha.out, Hr.out, Hb.out]
  refine (sky_near_is a r l _ a1 a2 r1 r2 Hl).mono ?_
  rintro e w2 ⟨v, rfl, hv, h⟩
  replace hw := btrans hw hw.size h
  clear h
  have Hv := hide hv
  clear hv
  go_wp2_with fail
  refine (sky_Distance_is a b d _ a1 a2 b1 b2 Hd).mono ?_
  rintro e w3 ⟨rfl, h⟩
  replace hw := btrans hw hw.size h
  replace Hv := hide (Hv.out.below h)
  clear h
  rcases Hv.out with ⟨_, e0⟩ | ⟨bl, off, cap, rfl, hbl, hc1, hc2, hcells⟩
  · have := Hm.out; rw [e0] at this; simp at this
  have Hc := hide hcells
  clear hcells Hv
  have hc0 : l.length ≤ 512 := hlen
  go_wp2_with fail
  go_loopw [15, 16] (fun f n wr => ∃ k : Nat, k ≤ l.length ∧ n = .int .i64 k ∧ f = .bool (foundK l b k) ∧ ∃ m, wr = w3.drewN m) (fun _ n _ => l.length - (intOf n).toNat)
  case atStart => exact ⟨0, Nat.zero_le _, rfl, rfl, 0, rfl⟩
  case round =>
    obtain ⟨k, hk, rfl, rfl, m, rfl⟩ := hrel
    by_cases hlt : k < l.length
    · have hcx := Hc.out k hlt
      have hki : (k : Int) < (l.length : Int) := by omega
      have H1 := hide (foundK_snoc (l := l) (b := b) hlt)
      by_cases h0 : k = 0
      · subst h0
        have hcx0 : w3.cell? ⟨bl, off, none⟩ = some (.int .i64 l[0]) := hcx
        clear hcx
        have hf0 : foundK l b 0 = false := rfl
        rw [hf0]
        rw [hf0] at H1
        clear hf0
        go_wp2_with fail
        go_quiet (fail)
        go_wp2_with fail
        go_roundw
        case rel => exact ⟨1, by omega, by go_num, by rw [H1.out]; rfl, _, rfl⟩
        case measure => simp [intOf]; omega
      · obtain ⟨n, rfl⟩ : ∃ n, k = n + 1 := ⟨k - 1, by omega⟩
        have hcy := Hc.out n (by omega)
        have hk0 : (0 : Int) < ((n + 1 : Nat) : Int) := by omega
        have hs1 := Hs.out n hlt
        have hs2 : decide (l[n + 1] ≤ l[n]) = false := by simpa using hs1
        have e1 : ((n + 1 : Nat) : Int) - 1 = (n : Int) := by omega
        obtain ⟨fb, hfb⟩ : ∃ x, foundK l b (n + 1) = x := ⟨_, rfl⟩
        rw [hfb] at H1
        rw [hfb]
        clear hfb
        cases fb
        · go_wp2_with fail
          go_quiet (fail)
          go_wp2_with fail
          go_roundw
          case rel => exact ⟨n + 1 + 1, by omega, by go_num, by rw [H1.out]; rfl, _, rfl⟩
          case measure => simp [intOf]; omega
        · go_wp2_with fail
          go_quiet (fail)
          go_wp2_with fail
          go_roundw
          case rel => exact ⟨n + 1 + 1, by omega, by go_num, by rw [H1.out]; rfl, _, rfl⟩
          case measure => simp [intOf]; omega
    · have hk' : k = l.length := by omega
      subst hk'
      have hff := foundK_all l b
      rw [Hf.out] at hff
      rw [hff]
      clear hff
      have hmin := imin_if
      have hmax := imax_if
      have q1 : 0 ≤ imin (a / 32 + r) 15 ∧ imin (a / 32 + r) 15 ≤ 15 := by unfold imin; omega
      have q2 : 0 ≤ imax (a / 32 - r) 0 ∧ imax (a / 32 - r) 0 ≤ 16 := by unfold imax; omega
      have q3 : 0 ≤ imin (2 * r + 1) 32 ∧ imin (2 * r + 1) 32 ≤ 32 := by unfold imin; omega
      have hnum := Hnum.out
      go_wp2_with fail
      go_ret
      exact ⟨rfl, below_drewN hw m⟩

set_option maxHeartbeats 2000000 in
set_option maxRecDepth 100000 in
theorem skySteps_walk (i j : Int) (w : World) (i0 : 0 ≤ i) (i1 : i < 65536) (j0 : 0 ≤ j) (j1 : j < 65536) :
    Calls Try.prog 7 #[.int .u16 i, .int .u16 j] w fun e w' => e = .returned (.bool true) ∧ Below w.heap.size w w' := by
  obtain ⟨a, ha⟩ : ∃ x, i % 512 = x := ⟨_, rfl⟩
  obtain ⟨b, hb⟩ : ∃ x, j % 512 = x := ⟨_, rfl⟩
  have a1 : 0 ≤ a ∧ a < 512 := by omega
  have b1 : 0 ≤ b ∧ b < 512 := by omega
  obtain ⟨a1, a2⟩ := a1
  obtain ⟨b1, b2⟩ := b1
  obtain ⟨l, hl⟩ : ∃ x, nearK a 1 512 = x := ⟨_, rfl⟩
  obtain ⟨d, hd⟩ : ∃ x, distI a b = x := ⟨_, rfl⟩
  have hd1 := distI_bounds a b a1 a2 b1 b2
  have hleast := least_steps a b a1 a2 b1 b2
  have hlen := nearK_le a 1 512
  have hmem : a ∈ l := by rw [← hl]; exact (nearK_mem a 1 512 a).2 ⟨a1, by omega, by rw [distI_self]; omega⟩
  have htile : ∀ k (h : k < l.length), 0 ≤ l[k] ∧ l[k] < 512 := by
    subst hl
    intro k h
    have := (nearK_mem a 1 512 _).1 (List.getElem_mem h)
    exact ⟨this.1, by omega⟩
  rw [hl, hd] at hleast
  rw [hl] at hlen
  rw [hd] at hd1
  have Ha := hide ha
  have Hb := hide hb
  have Hl := hide hl
  have Hd := hide hd
  have Hm := hide hmem
  have Ht := hide htile
  have Hleast := hide hleast
  clear ha hb hl hd hmem htile hleast
  go_enter Try.func7, Try.ntmps7
  go_wp2_with fail
  refine (sky_head _).mono ?_
  rintro e w1 ⟨rfl, hw⟩
  go_wp2_with fail
  rw [Ha.out, Hb.out]
  refine (sky_Distance_is a b d _ a1 a2 b1 b2 Hd).mono ?_
  rintro e w2 ⟨rfl, h⟩
  replace hw := btrans hw hw.size h
  clear h
  go_wp2_with fail
  refine (sky_near_is a 1 l _ a1 a2 (by omega) (by omega) Hl).mono ?_
  rintro e w3 ⟨v, rfl, hv, h⟩
  replace hw := btrans hw hw.size h
  clear h
  rcases hv with ⟨_, e0⟩ | ⟨bl, off, cap, rfl, hbl, hc1, hc2, hcells⟩
  · have := Hm.out; rw [e0] at this; simp at this
  have Hc := hide hcells
  clear hcells
  go_wp2_with fail
  go_loopw [12, 13] (fun f n wr => ∃ k : Nat, k ≤ l.length ∧ n = .int .i64 k ∧ f = .int .i64 (leastK l b d k) ∧ Below w3.heap.size w3 wr) (fun _ n _ => l.length - (intOf n).toNat)
  case atStart => exact ⟨0, Nat.zero_le _, rfl, rfl, Below.refl _ _⟩
  case round =>
    obtain ⟨k, hk, rfl, rfl, hbr⟩ := hrel
    by_cases hlt : k < l.length
    · have hcx : wr.cell? ⟨bl, off + k, none⟩ = some (.int .i64 l[k]) := keep_cell hbr (Hc.out k hlt)
      have hki : (k : Int) < (l.length : Int) := by omega
      obtain ⟨t1, t2⟩ := Ht.out k hlt
      have hst : Hid (leastK l b d (k + 1) = imin (leastK l b d k) (distI l[k] b)) := by
        show imin _ _ = _
        rw [List.getD_eq_getElem?_getD, List.getElem?_eq_getElem hlt, Option.getD_some]
      have hmin := imin_if
      go_wp2_with fail
      refine (sky_Distance_is l[k] b (distI l[k] b) _ t1 t2 b1 b2 rfl).mono ?_
      rintro e w4 ⟨rfl, h⟩
      replace hbr := btrans hbr hbr.size h
      clear h
      go_wp2_with fail
      go_roundw
      case rel => exact ⟨k + 1, by omega, by go_num, by rw [hst.out], hbr⟩
      case measure => simp [intOf]; omega
    · have hk' : k = l.length := by omega
      subst hk'
      rw [Hleast.out]
      have hwr := btrans hw hw.size hbr
      by_cases h0 : d = 0
      · subst h0
        rw [if_pos rfl]
        go_wp2_with fail
        go_ret
        exact ⟨rfl, hwr⟩
      · rw [if_neg h0]
        have hd0 : (d == 0) = false := beq_eq_false_iff_ne.2 h0
        have hd2 : 0 < d := by omega
        clear h0
        go_wp2_with fail
        go_ret
        exact ⟨rfl, hwr⟩
end Go.Proofs.Ytahlhiiekgnmpaa
