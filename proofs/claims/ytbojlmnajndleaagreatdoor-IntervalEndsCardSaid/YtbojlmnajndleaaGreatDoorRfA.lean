/- observatoryref03: at, trimmed. -/
import Derived.Test.YtbojlmnajndleaaGreatDoorRfP
import Derived.Test.YtbojlmnajndleaaGreatDoorNatR
set_option linter.unusedVariables false
set_option linter.unusedSimpArgs false
namespace Go.Proofs.YtbojlmnajndleaaGreatDoor
open Go.RowKit

set_option maxHeartbeats 1000000 in
set_option maxRecDepth 100000 in
theorem ref_at_out (s : ByteArray) (p : Nat) (w : World) (h : s.size ≤ p) :
    Calls Tryz.prog 92 #[.string s, .int .i64 (p : Int)] w fun e w' => e = .returned (.int .i64 0) ∧ w' = w := by
  have h1 : decide ((s.size : Int) ≤ (p : Int)) = true := decide_eq_true (by omega)
  go_enter Tryz.func92, Tryz.ntmps92
  go_wp2_with fail
  go_ret
  exact ⟨rfl, rfl⟩
set_option maxHeartbeats 1000000 in
set_option maxRecDepth 100000 in
theorem ref_at_in (s : ByteArray) (p k : Nat) (w : World) (hs : s.size ≤ maxLen) (h : s.size = k + 1 + p) (d : Nat) (hd : (s[k]'(by omega)).toNat = 48 + d) (h9 : d < 10) :
    Calls Tryz.prog 92 #[.string s, .int .i64 (p : Int)] w fun e w' => e = .returned (.int .i64 (d : Int)) ∧ w' = w := by
  unfold maxLen at hs
  have h1 : decide ((s.size : Int) ≤ (p : Int)) = false := decide_eq_false (by omega)
  have q1 : IntKind.i64.wrap ((s.size : Int) - 1) = (s.size : Int) - 1 := IntWalk.i64_in _ (by omega)
  have q2 : IntKind.i64.wrap ((s.size : Int) - 1 - (p : Int)) = (k : Int) := by rw [show (s.size : Int) - 1 - (p : Int) = (k : Int) by omega]; exact IntWalk.i64_in _ (by omega)
  go_enter Tryz.func92, Tryz.ntmps92
  go_wp2_with fail
  go_ret
  refine ⟨?_, rfl⟩
  show Ending.returned (.int .i64 (48 + (d : Int) - 48)) = _
  rw [show 48 + (d : Int) - 48 = (d : Int) by omega]
theorem natS_at {x i : Nat} (h : i < (natS x).size) : (natS x)[i] = (Lib.decDigits x)[i]'(by rw [← natS_size]; exact h) := rfl
theorem ref_at (x p : Nat) (w : World) (hx : x < capN) :
    Calls Tryz.prog 92 #[.string (natS x), .int .i64 (p : Int)] w fun e w' => e = .returned (.int .i64 (atN x p : Int)) ∧ w' = w := by
  have hsz : (natS x).size ≤ 1000 := by rw [natS_size]; exact capN_len.2 hx
  by_cases h : p < (natS x).size
  · have h' : p < (Lib.decDigits x).length := by rw [← natS_size]; exact h
    have e := atN_in h'
    have hi : (Lib.decDigits x).length - 1 - p < (Lib.decDigits x).length := by omega
    have hdg := isDg_iff.1 (dec_digit x _ (List.getElem_mem hi))
    refine ref_at_in (natS x) p ((natS x).size - 1 - p) w (by unfold maxLen; omega) (by omega) (atN x p) ?_ (atN_lt x p)
    rw [← e]
    rw [natS_at]
    simp only [natS_size]
    unfold dvN; omega
  · have h' : (Lib.decDigits x).length ≤ p := by rw [← natS_size]; omega
    rw [atN_out h']
    exact ref_at_out (natS x) p w (by omega)
theorem ext_drop (s : ByteArray) (k : Nat) : (s.extract k s.size).data.toList = s.data.toList.drop k := by
  rw [ByteArray.data_extract, Array.toList_extract]
  simp only [List.extract]
  exact List.take_of_length_le (by rw [List.length_drop, ← ba_size]; exact Nat.le_refl _)
theorem ext_end {s : ByteArray} {k n : Nat} (h : s.data.toList.drop k = Lib.decDigits n) : s.extract k s.size = natS n := by
  apply ba_eq; rw [ext_drop, h]; rfl
set_option maxHeartbeats 1000000 in
set_option maxRecDepth 100000 in
theorem ref_trimmed (s : ByteArray) (w : World) (hs : s.size ≤ maxLen) (h0 : 0 < s.size) (hd : ∀ b ∈ s.data.toList, isDg b = true) :
    Calls Tryz.prog 107 #[.string s] w fun e w' => e = .returned (.string (natS (nval s.data.toList))) ∧ w' = w := by
  unfold maxLen at hs
  go_enter Tryz.func107, Tryz.ntmps107
  go_wp2_with fail
  go_loop [3] (fun i => ∃ k : Nat, k < s.size ∧ i = .int .i64 (k : Int) ∧ s.data.toList.take k = List.replicate k 48) (fun i => s.size - (intOf i).toNat)
  case atStart => exact ⟨0, h0, rfl, by simp⟩
  case round =>
    obtain ⟨k, hk, rfl, hz⟩ := hrel
    have HZ := hide hz
    have HD := hide hd
    have e1 : IntKind.i64.wrap ((k : Int) + 1) = (k : Int) + 1 := IntWalk.i64_in _ (by omega)
    have hk' : k < s.data.toList.length := hk
    have fin : (s.data.toList.length ≤ k + 1 ∨ s.data.toList[k] ≠ 48) → s.data.toList.drop k = Lib.decDigits (nval s.data.toList) := fun h => trim_end hd hk' hz h
    have FIN := hide fin
    clear hz hd fin
    by_cases hl : k + 1 < s.size
    · have f1 : decide ((k : Int) + 1 < (s.size : Int)) = true := decide_eq_true (by omega)
      by_cases hc : s[k].toNat = 48
      · have q2 : ((s[k].toNat : Int) == 48) = true := by simp; omega
        go_wp2_with fail
        go_round
        case rel => exact ⟨k + 1, by omega, by first | rfl | go_num, trim_step hk' HZ.out (UInt8.toNat_inj.1 hc)⟩
        case measure => (simp [intOf]; try omega)
      · have q2 : ((s[k].toNat : Int) == 48) = false := by simp; omega
        go_wp2_with fail
        go_ret
        exact ⟨congrArg (fun b => Ending.returned (.string b)) (ext_end (FIN.out (.inr fun e => hc (by show (s.data.toList[k]).toNat = 48; rw [e]; rfl)))), rfl⟩
    · have f1 : decide ((k : Int) + 1 < (s.size : Int)) = false := decide_eq_false (by omega)
      go_wp2_with fail
      go_ret
      exact ⟨congrArg (fun b => Ending.returned (.string b)) (ext_end (FIN.out (.inl (by rw [← ba_size]; omega)))), rfl⟩
end Go.Proofs.YtbojlmnajndleaaGreatDoor
