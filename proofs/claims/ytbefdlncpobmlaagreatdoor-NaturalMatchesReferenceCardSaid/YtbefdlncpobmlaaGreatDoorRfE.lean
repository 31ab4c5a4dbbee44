/- observatoryref03: Valid, less. -/
import Derived.Test.YtbefdlncpobmlaaGreatDoorRfD
namespace Go.Proofs.YtbefdlncpobmlaaGreatDoor
open Go.RowKit

theorem dg_get {s : ByteArray} {k : Nat} (h : k < s.size) : s.data.toList[k]'h = s[k] := rfl
theorem vldN_bad_at {s : ByteArray} {k : Nat} (h : k < s.size) (hb : isDg s[k] = false) : vldN s = false := by
  refine vldN_nodigit fun h2 => ?_
  rw [List.all_eq_true] at h2
  have := h2 s[k] (by rw [← dg_get h]; exact List.getElem_mem _)
  rw [hb] at this; exact absurd this (by decide)
theorem all_dg {s : ByteArray} (h : ∀ j (hj : j < s.size), isDg s[j] = true) : s.data.toList.all isDg = true := by
  rw [List.all_eq_true]
  intro b hb
  obtain ⟨j, hj, rfl⟩ := List.mem_iff_getElem.1 hb
  exact h j hj
set_option maxHeartbeats 1000000 in
set_option maxRecDepth 100000 in
theorem ref_valid_loop (s : ByteArray) (w : World) (h0 : 0 < s.size) (h1000 : s.size ≤ 1000) (h3 : s[0].toNat ≠ 48 ∨ s.size = 1) :
    Calls Tryz.prog 22 #[.string s] w fun e w' => e = .returned (.bool (vldN s)) ∧ w = w' := by
  have h1 : decide ((s.size : Int) < 1) = false := decide_eq_false (by omega)
  have h2 : decide ((1000 : Int) < (s.size : Int)) = false := decide_eq_false (by omega)
  have H3 := hide h3
  have f0 : decide ((1 : Int) < (s.size : Int)) = false ∨ (decide ((1 : Int) < (s.size : Int)) = true ∧ ((s[0].toNat : Int) == 48) = false) := by
    by_cases hs : s.size = 1
    · exact .inl (decide_eq_false (by omega))
    · refine .inr ⟨decide_eq_true (by omega), ?_⟩
      rcases h3 with h | h
      · simp; omega
      · exact absurd h hs
  clear h3
  rcases f0 with f1 | ⟨f1, f2⟩
  all_goals
    go_enter Tryz.func22, Tryz.ntmps22
    go_wp2_with fail
    go_loop [3] (fun x => ∃ k : Nat, k ≤ s.size ∧ x = .int .i64 (k : Int) ∧ ∀ j (hj : j < s.size), j < k → isDg s[j] = true) (fun x => s.size - (intOf x).toNat)
    case atStart => exact ⟨0, Nat.zero_le _, rfl, fun j hj h => by omega⟩
    case round =>
      obtain ⟨k, hk, rfl, hall⟩ := hrel
      have HA := hide hall
      clear hall
      by_cases hkl : k < s.size
      · have g1 : decide ((k : Int) < (s.size : Int)) = true := decide_eq_true (by omega)
        by_cases hd : isDg s[k] = true
        · have HD := hide hd
          have hd' := isDg_iff.1 hd
          have g2 : decide ((s[k].toNat : Int) < 48) = false := decide_eq_false (by omega)
          have g3 : decide ((57 : Int) < (s[k].toNat : Int)) = false := decide_eq_false (by omega)
          clear hd hd'
          go_wp2_with fail
          go_round
          case rel => exact ⟨k + 1, by omega, by go_num, fun j hj hlt => by
            by_cases e : j = k
            · subst e; exact HD.out
            · exact HA.out j hj (by omega)⟩
          case measure => (simp [intOf]; try omega)
        · have hd0 : isDg s[k] = false := by simpa using hd
          have HR := hide (vldN_bad_at hkl hd0)
          have hd' : s[k].toNat < 48 ∨ 57 < s[k].toNat := by
            rcases Nat.lt_or_ge s[k].toNat 48 with h | h
            · exact .inl h
            · right
              rcases Nat.lt_or_ge 57 s[k].toNat with h' | h'
              · exact h'
              · exact absurd (isDg_iff.2 ⟨h, h'⟩) hd
          clear hd hd0
          rcases hd' with h | h
          · have g2 : decide ((s[k].toNat : Int) < 48) = true := decide_eq_true (by omega)
            go_wp2_with fail
            go_ret
            exact ⟨ret_bool HR.out.symm, rfl⟩
          · have g2 : decide ((s[k].toNat : Int) < 48) = false := decide_eq_false (by omega)
            have g3 : decide ((57 : Int) < (s[k].toNat : Int)) = true := decide_eq_true (by omega)
            go_wp2_with fail
            go_ret
            exact ⟨ret_bool HR.out.symm, rfl⟩
      · have g1 : decide ((k : Int) < (s.size : Int)) = false := decide_eq_false (by omega)
        have HR := hide (vldN_ok h0 h1000 (all_dg fun j hj => HA.out j hj (by omega)) H3.out)
        go_wp2_with fail
        go_ret
        exact ⟨ret_bool HR.out.symm, rfl⟩
set_option maxHeartbeats 1000000 in
set_option maxRecDepth 100000 in
theorem ref_valid (s : ByteArray) (w : World) (hs : s.size ≤ maxLen) :
    Calls Tryz.prog 22 #[.string s] w fun e w' => e = .returned (.bool (vldN s)) ∧ w = w' := by
  unfold maxLen at hs
  by_cases h0 : s.size = 0
  · have H := hide (vldN_size0 h0)
    have h1 : decide ((s.size : Int) < 1) = true := decide_eq_true (by omega)
    clear h0
    go_enter Tryz.func22, Tryz.ntmps22
    go_wp2_with fail
    go_ret
    exact ⟨ret_bool H.out.symm, rfl⟩
  by_cases hL : 1000 < s.size
  · have H := hide (vldN_long hL)
    have h1 : decide ((s.size : Int) < 1) = false := decide_eq_false (by omega)
    have h2 : decide ((1000 : Int) < (s.size : Int)) = true := decide_eq_true (by omega)
    go_enter Tryz.func22, Tryz.ntmps22
    go_wp2_with fail
    go_ret
    exact ⟨ret_bool H.out.symm, rfl⟩
  have h5 : 0 < s.size := by omega
  by_cases hz : s.size ≠ 1 ∧ s[0].toNat = 48
  · have H := hide (vldN_zero (s := s) (by omega) hz.2)
    have h1 : decide ((s.size : Int) < 1) = false := decide_eq_false (by omega)
    have h2 : decide ((1000 : Int) < (s.size : Int)) = false := decide_eq_false (by omega)
    have h3 : decide ((1 : Int) < (s.size : Int)) = true := decide_eq_true (by omega)
    have h4 : ((s[0].toNat : Int) == 48) = true := by rw [hz.2]; rfl
    clear hz
    go_enter Tryz.func22, Tryz.ntmps22
    go_wp2_with fail
    go_ret
    exact ⟨ret_bool H.out.symm, rfl⟩
  · refine ref_valid_loop s w (by omega) (by omega) ?_
    by_cases h1 : s.size = 1
    · exact .inr h1
    · exact .inl fun e => hz ⟨h1, e⟩
theorem bytes_list (s : ByteArray) : s.toList = s.data.toList := by
  rw [ByteArray.toList_eq]
set_option maxHeartbeats 1000000 in
set_option maxRecDepth 100000 in
theorem ref_less (x y : Nat) (w : World) (hx : x < capN) (hy : y < capN) :
    Calls Tryz.prog 31 #[.string (natS x), .string (natS y)] w fun e w' => e = .returned (.bool (decide (x < y))) ∧ w = w' := by
  have sx : 1 ≤ (natS x).size ∧ (natS x).size ≤ 1000 := by rw [natS_size]; exact ⟨dec_len_pos x, capN_len.2 hx⟩
  have sy : 1 ≤ (natS y).size ∧ (natS y).size ≤ 1000 := by rw [natS_size]; exact ⟨dec_len_pos y, capN_len.2 hy⟩
  by_cases h : (natS x).size = (natS y).size
  · have h1 : ((((natS x).size : Nat) : Int) != ((natS y).size : Int)) = false := by rw [h]; simp
    have HL : Hid (Op.bytesLess (natS x).toList (natS y).toList = decide (x < y)) := by
      show _ = _
      rw [bytes_list, bytes_list]
      have := less_digits (Lib.decDigits x) (Lib.decDigits y) (by rw [← natS_size, ← natS_size]; exact h) (dec_digit x) (dec_digit y)
      rw [nval_dec, nval_dec] at this
      exact this
    clear h
    go_enter Tryz.func31, Tryz.ntmps31
    go_wp2_with fail
    go_ret
    exact ⟨ret_bool HL.out, rfl⟩
  · have h1 : ((((natS x).size : Nat) : Int) != ((natS y).size : Int)) = true := by simp; omega
    by_cases hlt : (natS x).size < (natS y).size
    · have h2 : decide ((((natS x).size : Nat) : Int) < ((natS y).size : Int)) = true := decide_eq_true (by omega)
      have HR : Hid (decide (x < y) = true) := decide_eq_true (len_lt_lt (by rw [← natS_size, ← natS_size]; exact hlt))
      clear h
      go_enter Tryz.func31, Tryz.ntmps31
      go_wp2_with fail
      go_ret
      exact ⟨ret_bool HR.out.symm, rfl⟩
    · have h2 : decide ((((natS x).size : Nat) : Int) < ((natS y).size : Int)) = false := decide_eq_false (by omega)
      have HR : Hid (decide (x < y) = false) := by
        have := len_lt_lt (x := y) (y := x) (by rw [← natS_size, ← natS_size]; omega)
        exact decide_eq_false (by omega)
      clear h
      go_enter Tryz.func31, Tryz.ntmps31
      go_wp2_with fail
      go_ret
      exact ⟨ret_bool HR.out.symm, rfl⟩
end Go.Proofs.YtbefdlncpobmlaaGreatDoor
