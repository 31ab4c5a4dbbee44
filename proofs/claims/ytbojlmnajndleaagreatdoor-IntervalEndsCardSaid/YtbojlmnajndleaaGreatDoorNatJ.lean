/- law 03: few. -/
import Derived.Test.YtbojlmnajndleaaGreatDoorNatH
set_option linter.unusedVariables false
set_option linter.unusedSimpArgs false
namespace Go.Proofs.YtbojlmnajndleaaGreatDoor
open Go.RowKit

def vSt (s : ByteArray) : List Value := [.string s]
theorem vSt_len (s : ByteArray) : (vSt s).length = 1 := rfl
def fewB (l : List ByteArray) : Bool := l.all fun s => decide (s.size ≤ 80)
theorem st_cell {w : World} {b off : Nat} {l : List ByteArray} (h : ∀ i (h : i < l.length) j u, (vSt l[i])[j]? = some u → w.cell? ⟨b, off + i * 1 + j, none⟩ = some u) {k : Nat} (hk : k < l.length) : w.cell? ⟨b, off + k, none⟩ = some (.string l[k]) := by
  have := h k hk 0 _ rfl
  simpa using this
theorem few_no {l : List ByteArray} {k : Nat} (h : k < l.length) (hs : 80 < l[k].size) : fewB l = false := by
  unfold fewB
  rw [List.all_eq_false]
  exact ⟨l[k], List.getElem_mem h, by simp; omega⟩
theorem few_yes {l : List ByteArray} (h : ∀ j (hj : j < l.length), l[j].size ≤ 80) : fewB l = true := by
  unfold fewB
  rw [List.all_eq_true]
  intro x hx
  obtain ⟨j, hj, rfl⟩ := List.mem_iff_getElem.1 hx
  simpa using h j hj

theorem few3_slice (w : World) (a b c : ByteArray) (T : TypeId) : SliceOf vSt 1 (w.alloc (.cells #[.string a, .string b, .string c] T)) (.slice (some ⟨w.heap.size, 0, none⟩) 3 3) [a, b, c] := slice_lit vSt_len w [a, b, c] T (by simp [maxLen])
theorem few2_slice (w : World) (a b : ByteArray) (T : TypeId) : SliceOf vSt 1 (w.alloc (.cells #[.string a, .string b] T)) (.slice (some ⟨w.heap.size, 0, none⟩) 2 2) [a, b] := slice_lit vSt_len w [a, b] T (by simp [maxLen])
theorem few1_slice (w : World) (a : ByteArray) (T : TypeId) : SliceOf vSt 1 (w.alloc (.cells #[.string a] T)) (.slice (some ⟨w.heap.size, 0, none⟩) 1 1) [a] := slice_lit vSt_len w [a] T (by simp [maxLen])

/-- Three valid strings of at most 80 bytes. -/
theorem few3_nat {a b c : ByteArray} (h : fewB [a, b, c] = true) (ha : vldN a = true) (hb : vldN b = true) (hc : vldN c = true) : ∃ x y z, a = natS x ∧ b = natS y ∧ c = natS z ∧ x < capK 80 ∧ y < capK 80 ∧ z < capK 80 := by
  obtain ⟨x, _, rfl⟩ := vldN_obtain ha
  obtain ⟨y, _, rfl⟩ := vldN_obtain hb
  obtain ⟨z, _, rfl⟩ := vldN_obtain hc
  simp only [fewB, List.all_cons, List.all_nil, Bool.and_true, Bool.and_eq_true, decide_eq_true_eq, natS_size] at h
  exact ⟨x, y, z, rfl, rfl, rfl, (capK_len (by decide)).1 h.1, (capK_len (by decide)).1 h.2.1, (capK_len (by decide)).1 h.2.2⟩
theorem capK_mul (a b : Nat) : capK a * capK b = capK (a + b) := by unfold capK; rw [Nat.pow_add]
theorem capK_le {a b : Nat} (h : a ≤ b) : capK a ≤ capK b := Nat.pow_le_pow_right (by decide) h
theorem capK_two (a : Nat) : capK a + capK a ≤ capK (a + 1) := by
  unfold capK; rw [Nat.pow_succ]; omega
theorem mul_capK {x y a b : Nat} (hx : x < capK a) (hy : y < capK b) : x * y < capK (a + b) := by
  rw [← capK_mul]
  exact Nat.mul_lt_mul_of_le_of_lt (Nat.le_of_lt hx) hy (Nat.lt_of_le_of_lt (Nat.zero_le _) hx)
theorem add_capK {x y a : Nat} (hx : x < capK a) (hy : y < capK a) : x + y < capK (a + 1) := by
  have := capK_two a; omega
theorem to_capN {x k : Nat} (h : x < capK k) (hk : k ≤ 1000) : x < capN := Nat.lt_of_lt_of_le h (capK_le hk)
end Go.Proofs.YtbojlmnajndleaaGreatDoor
