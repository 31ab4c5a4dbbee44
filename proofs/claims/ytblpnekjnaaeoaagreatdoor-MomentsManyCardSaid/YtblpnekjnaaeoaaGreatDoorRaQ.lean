/- The string of a number, and its parts: plain. -/
import Derived.Test.YtblpnekjnaaeoaaGreatDoorPkG
import Derived.Lib.Bytealg
import Derived.Lib.Strings
set_option linter.unusedVariables false
set_option linter.unusedSimpArgs false
namespace Go.Proofs.YtblpnekjnaaeoaaGreatDoor
open Go.Lib

def txtL (g : Bool) (n d : Nat) : List UInt8 := (if g then [45] else []) ++ (decDigits n ++ if d = 1 then [] else 47 :: decDigits d)
theorem dg_ne {b : UInt8} (h : isDg b = true) : b ≠ 45 ∧ b ≠ 47 := by
  have := isDg_iff.1 h
  constructor <;> (intro e; subst e; revert this; decide)
theorem indexByte_none : ∀ (l : List UInt8) (c : UInt8), (∀ b ∈ l, b ≠ c) → indexByte l c = -1
  | [], _, _ => rfl
  | b :: l, c, h => by
    unfold indexByte
    rw [if_neg (by simpa using h b (by simp)), indexByte_none l c (fun x hx => h x (by simp [hx]))]; rfl
theorem indexByte_at : ∀ (l m : List UInt8) (c : UInt8), (∀ b ∈ l, b ≠ c) → indexByte (l ++ c :: m) c = (l.length : Int)
  | [], m, c, _ => by simp [indexByte]
  | b :: l, m, c, h => by
    rw [List.cons_append]
    unfold indexByte
    rw [if_neg (by simpa using h b (by simp)), indexByte_at l m c (fun x hx => h x (by simp [hx]))]
    rw [if_neg (by simp; try omega)]; simp
/-- '-' taken off. -/
def cutP (l : List UInt8) : List UInt8 × Bool := if hasPrefix l [45] then (l.drop 1, true) else (l, false)
/-- The parts ahead of '/' and behind it. -/
def cutSl (l : List UInt8) : List UInt8 × List UInt8 × Bool := if 0 ≤ indexByte l 47 then (l.take (indexByte l 47).toNat, l.drop ((indexByte l 47).toNat + 1), true) else (l, [], false)
theorem num_ne {n : Nat} (c : UInt8) (h : isDg c = false) : ∀ b ∈ decDigits n, b ≠ c := fun b hb e => by
  have := dec_digit n b hb
  rw [e, h] at this; cases this
theorem cutP_txt (g : Bool) (n d : Nat) : cutP (txtL g n d) = (decDigits n ++ if d = 1 then [] else 47 :: decDigits d, g) := by
  unfold cutP txtL
  cases g with
  | true => simp [hasPrefix]
  | false =>
    have hne := dec_ne_nil n
    cases hd : decDigits n with
    | nil => exact absurd hd hne
    | cons b l =>
      have hb : b ≠ 45 := num_ne (n := n) 45 (by decide) b (by rw [hd]; simp)
      simp [hasPrefix, hb.symm]
theorem cutS_txt (n d : Nat) : cutSl (decDigits n ++ if d = 1 then [] else 47 :: decDigits d) = (decDigits n, (if d = 1 then [] else decDigits d), decide (d ≠ 1)) := by
  unfold cutSl
  by_cases h : d = 1
  · simp only [if_pos h, List.append_nil]
    rw [indexByte_none _ _ (num_ne 47 (by decide)), if_neg (by decide), decide_eq_false (by simp [h])]
  · simp only [if_neg h]
    rw [indexByte_at _ _ _ (num_ne 47 (by decide)), if_pos (by omega), decide_eq_true h]
    simp
theorem txt_inj {g h : Bool} {n d m e : Nat} (H : txtL g n d = txtL h m e) : g = h ∧ n = m ∧ d = e := by
  have h1 := cutP_txt g n d
  rw [H, cutP_txt] at h1
  simp only [Prod.mk.injEq] at h1
  have h2 := cutS_txt n d
  rw [← h1.1, cutS_txt] at h2
  simp only [Prod.mk.injEq] at h2
  refine ⟨h1.2.symm, (dec_inj h2.1).symm, ?_⟩
  have h3 := h2.2.2
  by_cases hd : d = 1
  · rw [decide_eq_false (show ¬ d ≠ 1 by simp [hd])] at h3
    have := of_decide_eq_false h3
    omega
  · rw [decide_eq_true hd] at h3
    have h4 := of_decide_eq_true h3
    have h5 := h2.2.1
    rw [if_neg h4, if_neg hd] at h5
    exact (dec_inj h5).symm
def txtQ (q : Rat) : List UInt8 := txtL (ngQ q) (nmQ q) q.den
theorem txtQ_inj {p q : Rat} (h : txtQ p = txtQ q) : p = q := by
  obtain ⟨a, b, c⟩ := txt_inj h
  exact q_ext a b c
theorem txtL_len (g : Bool) {n d k : Nat} (hn : (decDigits n).length ≤ k) (hd : (decDigits d).length ≤ k) : (txtL g n d).length ≤ 2 * k + 2 := by
  unfold txtL
  have h1 : (if g then [45] else ([] : List UInt8)).length ≤ 1 := by cases g <;> simp
  have h2 : (if d = 1 then [] else (47 : UInt8) :: decDigits d).length ≤ k + 1 := by
    by_cases h : d = 1
    · rw [if_pos h]; simp
    · rw [if_neg h, List.length_cons]; omega
  rw [List.length_append, List.length_append]
  omega
end Go.Proofs.YtblpnekjnaaeoaaGreatDoor
