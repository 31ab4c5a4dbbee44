/- ref04: Abs. -/
import Derived.Test.YtbojlmnajndleaaGreatDoorRaI
set_option linter.unusedVariables false
set_option linter.unusedSimpArgs false
namespace Go.Proofs.YtbojlmnajndleaaGreatDoor
open Go.RowKit Go.Sort

/-- The ten digits. -/
def digC : ByteArray := ⟨#[48, 49, 50, 51, 52, 53, 54, 55, 56, 57]⟩
def dgS (d : Nat) : ByteArray := bL [UInt8.ofNat (48 + d)]
theorem digC_at (d : Nat) (hd : d < 10) : digC.extract d (d + 1) = dgS d := by
  unfold digC dgS bL
  match d, hd with
  | 0, _ => rfl
  | 1, _ => rfl
  | 2, _ => rfl
  | 3, _ => rfl
  | 4, _ => rfl
  | 5, _ => rfl
  | 6, _ => rfl
  | 7, _ => rfl
  | 8, _ => rfl
  | 9, _ => rfl
theorem digC_cut (d : Nat) (hd : d < 10) (W : World) : (Instr.slice 9 (.string ⟨#[48, 49, 50, 51, 52, 53, 54, 55, 56, 57]⟩) (some (.int .u64 (d : Int))) (some (.int .u64 ((d : Int) + 1))) none).run Tryz.prog W = .ok (.string (dgS d)) W := by
  rw [run_slice_string W 9 ⟨#[48, 49, 50, 51, 52, 53, 54, 55, 56, 57]⟩ .u64 .u64 (d : Int) ((d : Int) + 1) (by kernel_rfl) (by omega) (by omega) (by show (d : Int) + 1 ≤ ((10 : Nat) : Int); omega)]
  have e1 : (d : Int).toNat = d := by omega
  have e2 : ((d : Int) + 1).toNat = d + 1 := by omega
  rw [e1, e2, show (⟨#[48, 49, 50, 51, 52, 53, 54, 55, 56, 57]⟩ : ByteArray) = digC from rfl, digC_at d hd]
theorem digC_cutAt (d : Nat) (hd : d < 10) (W : World) : (Instr.sliceAt 9 (.string ⟨#[48, 49, 50, 51, 52, 53, 54, 55, 56, 57]⟩) (some (.int .u64 (d : Int))) (some (.int .u64 ((d : Int) + 1))) none).run Tryz.prog W = .ok (.string (dgS d)) W := by
  rw [run_sliceAt_string W 9 _ _ _ _ (by kernel_rfl)]
  exact digC_cut d hd W
/-- What is left of a number, and its end that is written. -/
def AbsI (M m : Nat) (s : ByteArray) : Prop := natS M = (if m = 0 then s else natS m ++ s) ∧ s.size ≤ 30 ∧ m * 10 ^ s.size ≤ M
theorem natS_split {m : Nat} (h : ¬ m < 10) : natS m = natS (m / 10) ++ dgS (m % 10) := by
  apply ba_eq
  rw [ba_append', natS_toList, natS_toList, dec_big h]; rfl
theorem natS_one_dig {m : Nat} (h : m < 10) : natS m = dgS m := by
  apply ba_eq
  rw [natS_toList, dec_small h]; rfl
theorem dgS_size (d : Nat) : (dgS d).size = 1 := rfl
theorem AbsI.start (M : Nat) : AbsI M (M / 10) (dgS (M % 10)) := by
  refine ⟨?_, by rw [dgS_size]; omega, by rw [dgS_size]; omega⟩
  by_cases h : M < 10
  · rw [if_pos (by omega), natS_one_dig h, Nat.mod_eq_of_lt h]
  · rw [if_neg (by omega), natS_split h]
theorem ba_assoc (a b c : ByteArray) : a ++ b ++ c = a ++ (b ++ c) := by
  apply ba_eq
  rw [ba_append', ba_append', ba_append', ba_append', List.append_assoc]
theorem AbsI.step {M m : Nat} {s : ByteArray} (h : AbsI M m s) (hm : 0 < m) (hM : M < 18446744073709551616) : AbsI M (m / 10) (dgS (m % 10) ++ s) := by
  obtain ⟨h1, h2, h3⟩ := h
  rw [if_neg (by omega)] at h1
  have hs : (dgS (m % 10) ++ s).size = 1 + s.size := by rw [ByteArray.size_append, dgS_size]
  have h4 : 10 ^ s.size ≤ M := Nat.le_trans (Nat.le_mul_of_pos_left _ hm) h3
  have h5 : s.size < 20 := by
    by_cases h : s.size < 20
    · exact h
    · have := Nat.pow_le_pow_right (n := 10) (by omega) (show 20 ≤ s.size by omega)
      omega
  refine ⟨?_, by rw [hs]; omega, ?_⟩
  · by_cases h : m < 10
    · rw [if_pos (by omega), h1, natS_one_dig h, Nat.mod_eq_of_lt h]
    · rw [if_neg (by omega), h1, natS_split h, ba_assoc]
  · rw [hs, Nat.add_comm 1, Nat.pow_succ, Nat.mul_comm (10 ^ s.size) 10, ← Nat.mul_assoc]
    exact Nat.le_trans (Nat.mul_le_mul_right _ (Nat.div_mul_le_self m 10)) h3
theorem AbsI.done {M : Nat} {s : ByteArray} (h : AbsI M 0 s) : s = natS M := by rw [h.1, if_pos rfl]
end Go.Proofs.YtbojlmnajndleaaGreatDoor
