/- RationalBack. -/
import Derived.Test.YtbojlmnajndleaaGreatDoorRaM
import Derived.Test.YtbojlmnajndleaaGreatDoorRaO
import Derived.BigGuard
set_option linter.unusedVariables false
set_option linter.unusedSimpArgs false
namespace Go.Proofs.YtbojlmnajndleaaGreatDoor
open Go.RowKit Go.Sort

theorem isQ_zero : IsQ 0 false ⟨#[48]⟩ ⟨#[49]⟩ := by
  unfold IsQ rqV
  rw [nmQ_zero.2 rfl, show (0 : Rat).den = 1 from rfl, natS_zero, natS_one]; rfl
theorem sz_zero : Sz 1 (0 : Rat) := ⟨by rw [nmQ_zero.2 rfl]; exact capK_pos 1, by show 1 < capK 1; unfold capK; omega⟩
theorem isQ_num {q : Rat} {g : Bool} {s t : ByteArray} (h : IsQ q g s t) (h0 : q ≠ 0) : (s.toList == [48]) = false := by
  unfold IsQ rqV at h
  simp only [Value.agg.injEq, Array.mk.injEq, List.cons.injEq, Value.bool.injEq, Value.string.injEq, and_true] at h
  rw [← h.2.1]
  exact str_ne (t := ⟨#[48]⟩) (natS_ne_zero (Nat.pos_of_ne_zero fun e => h0 (nmQ_zero.1 e))) rfl
end Go.Proofs.YtbojlmnajndleaaGreatDoor
