/- law 29: the reference's Winner and Odds; LotteryMatchesReference. -/
import Derived.Test.YtcgplokdklomlaaGreatDoorLoKc
import Derived.Test.YtcgplokdklomlaaGreatDoorLoZ
import Derived.Test.YtcgplokdklomlaaGreatDoorRgU
set_option linter.unusedVariables false
set_option linter.unusedSimpArgs false
namespace Go.Proofs.YtcgplokdklomlaaGreatDoor
open Go.RowKit

set_option maxHeartbeats 2000000 in
set_option maxRecDepth 100000 in
theorem ref29_tk (shares owners merits : List Int) (v1 v2 v3 : Value) (w : World) (h1 : SliceOf vI 1 w v1 shares) (h2 : SliceOf vI 1 w v2 owners) (h3 : SliceOf vI 1 w v3 merits)
    (n1 : shares.length ≤ 1000) (n2 : owners.length ≤ 1000) (n3 : merits.length ≤ 1000) :
    Calls Tryz.prog 13 #[v1, v2, v3] w (TkP w (tkL shares owners merits) (tkE shares owners merits)) := by
  rcases Bool.eq_false_or_eq_true (vldL shares owners merits) with hv | hv
  · unfold tkL tkE
    rw [if_pos hv, if_pos hv]
    obtain ⟨hk, e1, e2, e3⟩ := vld_ok hv
    by_cases h0 : owners = []
    · subst h0
      have HVA := hide (ref29_valid shares [] merits v1 v2 v3 w true hv h1 h2 h3 n1 n2 n3)
      obtain ⟨a2, c2, rfl⟩ := h2.shape
      have HE : Hid (toI (outL (toN shares) (toN []) (toN merits)) = []) := rfl
      clear hv hk e1 e2 e3 h1 h2 h3
      go_enter Tryz.func13, Tryz.ntmps13
      go_wp2_with fail
      refine HVA.out.mono ?_
      rintro e w1 ⟨rfl, rfl⟩
      go_wp2_with fail
      go_ret2
      exact ⟨_, rfl, by rw [HE.out]; exact slice_nil0 _ _ _, Below.refl _ _⟩
    · have hn : 0 < (toN owners).length := by rw [toN_len]; exact List.length_pos_iff.2 h0
      refine (ref29_tickets (toN shares) (toN owners) (toN merits) v1 v2 v3 w hk hn (by rw [e1]; exact h1) (by rw [e2]; exact h2) (by rw [e3]; exact h3)).mono ?_
      rintro e w' ⟨u, rfl, hs, hb⟩
      exact ⟨u, rfl, hs, hb⟩
  · have HVA := hide (ref29_valid shares owners merits v1 v2 v3 w false hv h1 h2 h3 n1 n2 n3)
    have HE1 : Hid (tkL shares owners merits = []) := by show _ = _; unfold tkL; rw [hv]; rfl
    have HE2 : Hid (tkE shares owners merits = 1) := by show _ = _; unfold tkE; rw [hv]; rfl
    rw [HE1.out, HE2.out]
    clear hv h1 h2 h3
    go_enter Tryz.func13, Tryz.ntmps13
    go_wp2_with fail
    refine HVA.out.mono ?_
    rintro e w1 ⟨rfl, rfl⟩
    go_wp2_with fail
    go_ret2
    exact ⟨_, rfl, slice_nil0 _ _ _, Below.refl _ _⟩
theorem win_ex {l : List Int} {d : Int} (h0 : 0 ≤ d) : ∀ n, n ≤ l.length → d < psum l n → ∃ i, i < n ∧ psum l i ≤ d ∧ d < psum l (i + 1)
  | 0, _, h => by have : psum l 0 = 0 := rfl; omega
  | n + 1, hn, h => by
    by_cases e : d < psum l n
    · obtain ⟨i, h1, h2⟩ := win_ex h0 n (by omega) e
      exact ⟨i, by omega, h2⟩
    · exact ⟨n, by omega, by omega, h⟩
set_option maxHeartbeats 4000000 in
set_option maxRecDepth 100000 in
theorem ref29_winner (l : List Int) (d : Int) (v : Value) (w : World) (hl : lstB l = true) (hv : SliceOf vI 1 w v l) (hd0 : 0 ≤ d) (hd1 : d ≤ 719) :
    Calls Tryz.prog 15 #[v, .int .i64 d] w (WiP w l d) := by
  obtain ⟨⟨n1, n2⟩, hel, hsum⟩ := lst_iff hl
  have HLI := hide (ref29_list l v w true hl hv (by omega))
  obtain ⟨ao, cp, rfl⟩ := hv.shape
  obtain ⟨b', off, rfl, _, hcap, hcm, hc⟩ := SliceOf.at_ hv (by omega)
  have hcpI : (l.length : Int) ≤ (cp : Int) := by omega
  have hcmI : (cp : Int) ≤ 9223372036854775807 := by unfold maxLen at hcm; omega
  have HC : Hid (∀ k (hk : k < l.length), w.cell? ⟨b', off + k, none⟩ = some (.int .i64 l[k])) := fun k hk => int_cell hc hk
  have HEL : Hid (∀ k (hk : k < l.length), 0 ≤ l[k] ∧ l[k] ≤ 720) := fun k hk => hel _ (List.getElem_mem hk)
  have HSU : Hid (∀ k (hk : k < l.length), psum l (k + 1) = psum l k + l[k]) := fun k hk => psum_succ hk
  have HSM := hide hsum
  have HMO := hide (fun k (hk : k ≤ l.length) => psum_mono hel (j := 0) (k := k) (Nat.zero_le _) hk)
  have d1 : decide (d < 0) = false := decide_eq_false (by omega)
  have d2 : decide (719 < d) = false := decide_eq_false (by omega)
  have hlI : (l.length : Int) ≤ 200 := by omega
  have HN1 := hide n1
  clear hl hv hel hsum hc hcap hcm n1 n2
  go_enter Tryz.func15, Tryz.ntmps15
  go_wp2_with fail
  refine HLI.out.mono ?_
  rintro e w1 ⟨rfl, rfl⟩
  go_wp2_with fail
  go_loop [1, 6] (fun y i => ∃ k : Nat, k < l.length ∧ i = .int .i64 (k : Int) ∧ y = .int .i64 (d - psum l k) ∧ psum l k ≤ d) (fun _ i => l.length - (intOf i).toNat)
  case atStart => exact ⟨0, HN1.out, rfl, by show Value.int .i64 d = .int .i64 (d - 0); rw [Int.sub_zero], hd0⟩
  case round =>
    obtain ⟨k, hk, rfl, rfl, hle⟩ := hrel
    have hki : (k : Int) < (l.length : Int) := by omega
    have hk0 : (0 : Int) ≤ (k : Int) := by omega
    have c0 := HC.out k hk
    have hx := HEL.out k hk
    have hs := HSU.out k hk
    have hm := HMO.out k (by omega)
    have HZ : Hid (k + 1 = l.length → psum l (k + 1) = 720) := fun e => by rw [e]; exact HSM.out
    have hp0 : psum l 0 = 0 := rfl
    have HS1 := hide hs
    obtain ⟨x, hxe⟩ : ∃ x, l[k] = x := ⟨_, rfl⟩
    obtain ⟨q, hq⟩ : ∃ x, psum l k = x := ⟨_, rfl⟩
    rw [hxe] at c0 hx HS1
    rw [hq] at hle hm HS1 ⊢
    have HQ := hide hq
    clear hxe hq hs
    rw [hp0] at hm
    clear hp0
    by_cases hd : x ≤ d - q
    · have e1 : decide (x ≤ d - q) = true := decide_eq_true hd
      have hk1 : k + 1 < l.length := by
        rcases Nat.lt_or_ge (k + 1) l.length with h | h
        · exact h
        · have := HZ.out (by omega); have := HS1.out; omega
      have hw1 : IntKind.i64.wrap (d - q - x) = d - q - x := IntWalk.i64_in _ (by omega)
      go_wp2_with fail
      go_round
      case rel => exact ⟨k + 1, hk1, by go_num, congrArg (Value.int .i64) (by rw [HS1.out]; omega), by rw [HS1.out]; omega⟩
      case measure => (simp [intOf]; omega)
    · have e1 : decide (x ≤ d - q) = false := decide_eq_false hd
      go_wp2_with fail
      go_ret2
      exact ⟨k, rfl, ⟨hk, by rw [HQ.out]; exact hle, by rw [HS1.out]; omega⟩, Below.refl _ _⟩
set_option maxHeartbeats 4000000 in
set_option maxRecDepth 100000 in
theorem ref29_winner_bad (l : List Int) (d : Int) (v : Value) (w : World) (hl : lstB l = false ∨ (lstB l = true ∧ (d < 0 ∨ 719 < d))) (hn : l.length ≤ 1000) (hv : SliceOf vI 1 w v l) :
    Calls Tryz.prog 15 #[v, .int .i64 d] w fun e w' => e = .returned (.tuple #[.int .i64 0, .int .i64 1]) ∧ Below w.heap.size w w' := by
  rcases hl with hl | ⟨hl, hd⟩
  · have HLI := hide (ref29_list l v w false hl hv hn)
    obtain ⟨ao, cp, rfl⟩ := hv.shape
    clear hl hv
    go_enter Tryz.func15, Tryz.ntmps15
    go_wp2_with fail
    refine HLI.out.mono ?_
    rintro e w1 ⟨rfl, rfl⟩
    go_wp2_with fail
    go_ret2
    exact ⟨rfl, Below.refl _ _⟩
  · have HLI := hide (ref29_list l v w true hl hv hn)
    obtain ⟨ao, cp, rfl⟩ := hv.shape
    clear hl hv
    by_cases h0 : d < 0
    · have d1 : decide (d < 0) = true := decide_eq_true h0
      go_enter Tryz.func15, Tryz.ntmps15
      go_wp2_with fail
      refine HLI.out.mono ?_
      rintro e w1 ⟨rfl, rfl⟩
      go_wp2_with fail
      go_ret2
      exact ⟨rfl, Below.refl _ _⟩
    · have d1 : decide (d < 0) = false := decide_eq_false h0
      have d2 : decide (719 < d) = true := decide_eq_true (by omega)
      go_enter Tryz.func15, Tryz.ntmps15
      go_wp2_with fail
      refine HLI.out.mono ?_
      rintro e w1 ⟨rfl, rfl⟩
      go_wp2_with fail
      go_ret2
      exact ⟨rfl, Below.refl _ _⟩
theorem win_any (l : List Int) (d : Int) (v : Value) (w : World) (hn : l.length ≤ 1000) (hv : SliceOf vI 1 w v l) : ∃ a k : Int,
    (∀ W, Below w.heap.size w W → Calls Tryz.prog 14 #[v, .int .i64 d] W fun e w' => e = .returned (.tuple #[.int .i64 a, .int .i64 k]) ∧ Below W.heap.size W w') ∧
    (∀ W, Below w.heap.size w W → Calls Tryz.prog 15 #[v, .int .i64 d] W fun e w' => e = .returned (.tuple #[.int .i64 a, .int .i64 k]) ∧ Below W.heap.size W w') := by
  by_cases h : lstB l = true ∧ 0 ≤ d ∧ d ≤ 719
  · obtain ⟨hl, h0, h1⟩ := h
    obtain ⟨⟨n1, n2⟩, hel, hsum⟩ := lst_iff hl
    obtain ⟨i, hi, hi1, hi2⟩ := win_ex h0 l.length (Nat.le_refl _) (by rw [hsum]; omega)
    refine ⟨(i : Int), 0, fun W hW => (lo_winner l d v W hl (hv.below hW) h0 h1).mono ?_, fun W hW => (ref29_winner l d v W hl (hv.below hW) h0 h1).mono ?_⟩
    · rintro e w' ⟨j, rfl, ⟨hj, hj1, hj2⟩, hb⟩
      obtain rfl := win_uniq hel hi hi1 hi2 hj hj1 hj2
      exact ⟨rfl, hb⟩
    · rintro e w' ⟨j, rfl, ⟨hj, hj1, hj2⟩, hb⟩
      obtain rfl := win_uniq hel hi hi1 hi2 hj hj1 hj2
      exact ⟨rfl, hb⟩
  · have hb : lstB l = false ∨ (lstB l = true ∧ (d < 0 ∨ 719 < d)) := by
      rcases Bool.eq_false_or_eq_true (lstB l) with e | e
      · exact .inr ⟨e, by
          by_cases h0 : d < 0
          · exact .inl h0
          · exact .inr (Int.not_le.1 fun h1 => h ⟨e, by omega, h1⟩)⟩
      · exact .inl e
    exact ⟨0, 1, fun W hW => lo_winner_bad l d v W hb hn (hv.below hW), fun W hW => ref29_winner_bad l d v W hb hn (hv.below hW)⟩
end Go.Proofs.YtcgplokdklomlaaGreatDoor
