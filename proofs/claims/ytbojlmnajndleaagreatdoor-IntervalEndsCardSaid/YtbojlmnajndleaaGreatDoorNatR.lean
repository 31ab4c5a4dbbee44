/- natural: Valid. -/
import Derived.Test.YtbojlmnajndleaaGreatDoorNatG
import Derived.Test.YtbojlmnajndleaaGreatDoorNatW
set_option linter.unusedVariables false
set_option linter.unusedSimpArgs false
namespace Go.Proofs.YtbojlmnajndleaaGreatDoor
open Go.RowKit

def digs : ByteArray := ⟨#[48, 49, 50, 51, 52, 53, 54, 55, 56, 57]⟩
theorem digs_all : ∀ (j : Nat) b, digs.data.toList[j]? = some b → b.toNat < 128 := Go.Proofs.ascii_of_all (by decide)
theorem digs_mem (b : UInt8) : digs.data.toList.contains b = isDg b := by
  show [48, 49, 50, 51, 52, 53, 54, 55, 56, 57].contains b = _
  have key : ∀ n : Fin 256, [48, 49, 50, 51, 52, 53, 54, 55, 56, 57].contains (UInt8.ofNat n.val) = isDg (UInt8.ofNat n.val) := by decide +kernel
  have := key ⟨b.toNat, UInt8.toNat_lt b⟩
  simpa using this
theorem dropWhile_nil {α : Type} (p : α → Bool) (l : List α) : l.dropWhile p = [] ↔ ∀ b ∈ l, p b = true := by
  induction l with
  | nil => simp
  | cons a l ih =>
    rw [List.dropWhile_cons]
    by_cases h : p a = true
    · rw [if_pos h, ih]; simp [h]
    · rw [if_neg h]; simp [h]
theorem trim_nil (l : List UInt8) : Lib.trimS l digs.data.toList = [] ↔ l.all isDg = true := by
  unfold Lib.trimS Lib.trimLeftS Lib.trimRightS
  rw [dropWhile_nil, List.all_eq_true]
  have e : ∀ m : List UInt8, (m.reverse.dropWhile (digs.data.toList.contains ·)).reverse = [] ∨ True := fun _ => .inr trivial
  constructor
  · intro h
    have h2 : ∀ b ∈ (l.reverse.dropWhile (digs.data.toList.contains ·)).reverse, isDg b = true := fun b hb => by rw [← digs_mem]; exact h b hb
    have h3 : l.reverse.dropWhile (digs.data.toList.contains ·) = [] := by
      cases hd : l.reverse.dropWhile (digs.data.toList.contains ·) with
      | nil => rfl
      | cons a t =>
        exfalso
        have h4 := List.head?_dropWhile_not (digs.data.toList.contains ·) l.reverse
        rw [hd] at h4
        simp only [List.head?_cons] at h4
        have h5 := h2 a (by rw [hd]; simp)
        rw [← digs_mem] at h5
        simp_all
    rw [dropWhile_nil] at h3
    intro b hb
    rw [← digs_mem]; exact h3 b (by simpa using hb)
  · intro h b hb
    rw [digs_mem]
    refine h b ?_
    have h1 : b ∈ l.reverse.dropWhile (digs.data.toList.contains ·) := by simpa using hb
    have h2 := (List.dropWhile_sublist (digs.data.toList.contains ·) (l := l.reverse)).mem h1
    simpa using h2
theorem vldN_size0 {s : ByteArray} (h : s.size = 0) : vldN s = false := by unfold vldN; simp [h]
theorem vldN_long {s : ByteArray} (h : 1000 < s.size) : vldN s = false := by
  unfold vldN
  have : decide (s.size ≤ 1000) = false := decide_eq_false (by omega)
  rw [this]; simp
theorem vldN_nodigit {s : ByteArray} (h : ¬ s.data.toList.all isDg = true) : vldN s = false := by
  unfold vldN
  have : s.data.toList.all isDg = false := by simpa using h
  rw [this]; simp
theorem head_at {s : ByteArray} (h : 0 < s.size) : s.data.toList.head? = some s[0] := by
  have h' : 0 < s.data.toList.length := by rw [← ba_size]; exact h
  rw [List.head?_eq_getElem?, List.getElem?_eq_getElem h']
  rfl
theorem vldN_zero {s : ByteArray} (h : 1 < s.size) (h0 : s[0].toNat = 48) : vldN s = false := by
  have hh := head_at (s := s) (by omega)
  have : s[0] = 48 := UInt8.toNat_inj.1 (by rw [h0]; rfl)
  rw [this] at hh
  unfold vldN
  rw [hh]
  have : decide (s.size = 1) = false := decide_eq_false (by omega)
  rw [this]; simp
theorem vldN_ok {s : ByteArray} (h0 : 0 < s.size) (h1 : s.size ≤ 1000) (h2 : s.data.toList.all isDg = true) (h3 : s[0].toNat ≠ 48 ∨ s.size = 1) : vldN s = true := by
  unfold vldN
  rw [h2, head_at h0]
  have a : decide (1 ≤ s.size) = true := decide_eq_true (by omega)
  have b : decide (s.size ≤ 1000) = true := decide_eq_true (by omega)
  rw [a, b]
  rcases h3 with h3 | h3
  · have : decide (some s[0] ≠ some 48) = true := by
      simp only [ne_eq, Option.some.injEq, decide_eq_true_eq]
      intro e; apply h3; rw [e]; rfl
    rw [this]; rfl
  · have : decide (s.size = 1) = true := by simp [h3]
    rw [this]; simp
set_option maxHeartbeats 1000000 in
set_option maxRecDepth 100000 in
theorem valid_any (s : ByteArray) (w : World) (hs : s.size ≤ maxLen) :
    Calls Tryz.prog 57 #[.string s] w fun e w' => e = .returned (.bool (vldN s)) ∧ Below w.heap.size w w' := by
  unfold maxLen at hs
  by_cases h0 : s.size = 0
  · have H := hide (vldN_size0 h0)
    have h1 : (s.size : Int) < 1 := by omega
    have h2 : decide (1 ≤ s.size) = false := decide_eq_false (by omega)
    have h3 : decide ((1 : Int) ≤ (s.size : Int)) = false := decide_eq_false (by omega)
    clear h0
    go_enter Tryz.func57, Tryz.ntmps57
    go_wp2_with fail
    go_ret
    exact ⟨ret_bool H.out.symm, Below.refl _ _⟩
  by_cases hL : 1000 < s.size
  · have H := hide (vldN_long hL)
    have h1 : (1000 : Int) < (s.size : Int) := by omega
    have h2 : decide (s.size ≤ 1000) = false := decide_eq_false (by omega)
    have h3 : decide ((s.size : Int) ≤ 1000) = false := decide_eq_false (by omega)
    have h4 : decide ((1 : Int) ≤ (s.size : Int)) = true := decide_eq_true (by omega)
    go_enter Tryz.func57, Tryz.ntmps57
    go_wp2_with fail
    go_ret
    exact ⟨ret_bool H.out.symm, Below.refl _ _⟩
  have h1 : (1 : Int) ≤ (s.size : Int) := by omega
  have h2 : (s.size : Int) ≤ 1000 := by omega
  have h0' : 0 < s.size := by omega
  have hc := Tryz.strings_Trim_laid s digs
  have HC := hide hc
  clear hc
  by_cases hd : s.data.toList.all isDg = true
  · have ht := (trim_nil s.data.toList).2 hd
    have HT := hide ht
    clear ht
    by_cases hz : s[0].toNat = 48
    · by_cases h1s : s.size = 1
      · have H := hide (vldN_ok h0' (by omega) hd (.inr h1s))
        have q3 : ((s.size : Int) == 1) = true := by simp; omega
        clear h1s
        clear hd
        go_enter Tryz.func57, Tryz.ntmps57
        go_wp2_with fail
        refine (HC.out _ hs (by decide) digs_all).mono ?_
        rintro e w1 ⟨rfl, hb1⟩
        rw [HT.out]
        have HB1 := hide hb1
        clear hb1
        go_wp2_with fail
        go_ret
        exact ⟨ret_bool H.out.symm, HB1.out⟩
      · have H := hide (vldN_zero (by omega) hz)
        have q3 : ((s.size : Int) == 1) = false := by simp; omega
        clear hd
        go_enter Tryz.func57, Tryz.ntmps57
        go_wp2_with fail
        refine (HC.out _ hs (by decide) digs_all).mono ?_
        rintro e w1 ⟨rfl, hb1⟩
        rw [HT.out]
        have HB1 := hide hb1
        clear hb1
        go_wp2_with fail
        go_ret
        exact ⟨ret_bool H.out.symm, HB1.out⟩
    · have H := hide (vldN_ok h0' (by omega) hd (.inl hz))
      have q1 : ((s[0].toNat : Int) != 48) = true := by simp; omega
      have q2 : ((s[0].toNat : Int) == 48) = false := by simp; omega
      clear hd
      go_enter Tryz.func57, Tryz.ntmps57
      go_wp2_with fail
      refine (HC.out _ hs (by decide) digs_all).mono ?_
      rintro e w1 ⟨rfl, hb1⟩
      rw [HT.out]
      have HB1 := hide hb1
      clear hb1
      go_wp2_with fail
      go_ret
      exact ⟨ret_bool H.out.symm, HB1.out⟩
  · have H := hide (vldN_nodigit hd)
    have ht : Lib.trimS s.data.toList digs.data.toList ≠ [] := fun e => hd ((trim_nil _).1 e)
    obtain ⟨c, t, hte⟩ : ∃ c t, Lib.trimS s.data.toList digs.data.toList = c :: t := by
      cases hx : Lib.trimS s.data.toList digs.data.toList with
      | nil => exact absurd hx ht
      | cons c t => exact ⟨c, t, rfl⟩
    have HTE := hide hte
    clear ht hd hte
    go_enter Tryz.func57, Tryz.ntmps57
    go_wp2_with fail
    refine (HC.out _ hs (by decide) digs_all).mono ?_
    rintro e w1 ⟨rfl, hb1⟩
    rw [HTE.out]
    have HB1 := hide hb1
    clear hb1
    go_wp2_with fail
    go_ret
    exact ⟨ret_bool H.out.symm, HB1.out⟩
end Go.Proofs.YtbojlmnajndleaaGreatDoor
