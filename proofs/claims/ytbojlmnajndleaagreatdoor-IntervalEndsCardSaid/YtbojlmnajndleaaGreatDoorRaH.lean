/- rational: Text, Parse. -/
import Derived.Test.YtbojlmnajndleaaGreatDoorRaG
import Derived.Test.YtbojlmnajndleaaGreatDoorRaQ
import Derived.Test.YtbojlmnajndleaaGreatDoorRfA
set_option linter.unusedVariables false
set_option linter.unusedSimpArgs false
namespace Go.Proofs.YtbojlmnajndleaaGreatDoor
open Go.RowKit

theorem indexByte_lt : ∀ (l : List UInt8) (c : UInt8), 0 ≤ Lib.indexByte l c → Lib.indexByte l c < l.length
  | [], _, h => by simp [Lib.indexByte] at h
  | b :: l, c, h => by
    have ih := indexByte_lt l c
    have hg := Lib.indexByte_ge l c
    rw [Lib.indexByte] at h ⊢
    by_cases h1 : (b == c) = true
    · rw [if_pos h1]; simp
    · rw [if_neg h1] at h ⊢
      by_cases h2 : (Lib.indexByte l c == -1) = true
      · rw [if_pos h2] at h; omega
      · rw [if_neg h2]
        have : Lib.indexByte l c ≠ -1 := by simpa using h2
        have := ih (by omega)
        rw [List.length_cons]; omega
def bL (l : List UInt8) : ByteArray := ⟨l.toArray⟩
theorem bL_list (l : List UInt8) : (bL l).data.toList = l := rfl
theorem bL_size (l : List UInt8) : (bL l).size = l.length := rfl
theorem bL_of (s : ByteArray) : bL s.data.toList = s := by apply ba_eq; rfl
theorem ba_append' (a b : ByteArray) : (a ++ b).data.toList = a.data.toList ++ b.data.toList := by
  rw [ByteArray.data_append, Array.toList_append]
theorem add_bL (a b : List UInt8) (h : a.length + b.length ≤ 9223372036854775807) (W : World) : (Op.stringOp .add (bL a) (bL b)).run Tryz.prog W = .ok (.string (bL (a ++ b))) W := by
  rw [run_string_add_sum W _ _ (by rw [bL_size, bL_size]; exact h)]
  congr 2
/-- What Parse takes a string for. -/
def parN (l : List UInt8) : List UInt8 := (cutSl (cutP l).1).1
def parD (l : List UInt8) : List UInt8 := if (cutSl (cutP l).1).2.2 then (cutSl (cutP l).1).2.1 else [49]
theorem par_q (q : Rat) : (cutP (txtQ q)).2 = ngQ q ∧ parN (txtQ q) = Lib.decDigits (nmQ q) ∧ parD (txtQ q) = Lib.decDigits q.den := by
  unfold parN parD txtQ
  rw [cutP_txt, cutS_txt]
  refine ⟨rfl, rfl, ?_⟩
  by_cases h : q.den = 1
  · rw [if_neg (by simp [h]), h, dec_small (by omega)]; rfl
  · rw [if_pos (decide_eq_true h), if_neg h]
theorem txtQ_len {q : Rat} (h : FitQ q) : (txtQ q).length ≤ 1000000 := by
  have := txtL_len (ngQ q) (capN_len.2 h.1) (capN_len.2 h.2)
  unfold txtQ
  omega
theorem parts_len (l : List UInt8) : (parN l).length ≤ l.length + 1 ∧ (parD l).length ≤ l.length + 1 := by
  have h1 : (cutP l).1.length ≤ l.length := by
    unfold cutP
    split
    · rw [List.length_drop]; omega
    · exact Nat.le_refl _
  have h2 : ∀ m : List UInt8, (cutSl m).1.length ≤ m.length ∧ (cutSl m).2.1.length ≤ m.length := fun m => by
    unfold cutSl
    split
    · exact ⟨by rw [List.length_take]; omega, by rw [List.length_drop]; omega⟩
    · exact ⟨Nat.le_refl _, Nat.zero_le _⟩
  have h3 := h2 (cutP l).1
  unfold parN parD
  refine ⟨by omega, ?_⟩
  split
  · omega
  · simp
end Go.Proofs.YtbojlmnajndleaaGreatDoor
