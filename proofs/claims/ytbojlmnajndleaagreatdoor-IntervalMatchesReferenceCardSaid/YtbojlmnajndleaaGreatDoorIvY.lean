/- IvI, IvJ, IvK in one text. -/
import Derived.Test.YtbojlmnajndleaaGreatDoorIvV
import Derived.Test.YtbojlmnajndleaaGreatDoorIvO
set_option linter.unusedVariables false
set_option linter.unusedSimpArgs false
namespace Go.Proofs.YtbojlmnajndleaaGreatDoor
open Go.RowKit Go.Sort
/-- A short interval. -/
def ShI (a : Q3 × Q3) : Prop := (a.1.2.1.size ≤ 60 ∧ a.1.2.2.size ≤ 60) ∧ a.2.2.1.size ≤ 60 ∧ a.2.2.2.size ≤ 60
def ShQ (r : Q3) : Prop := r.2.1.size ≤ 60 ∧ r.2.2.size ≤ 60
theorem fewQ_sh {l : List Q3} (h : fewQ 60 l = true) : ∀ x ∈ l, ShQ x := fun x hx => by
  unfold fewQ at h
  have := List.all_eq_true.1 h x hx
  simpa [ShQ] using this
theorem sm6_sh {a : Q3 × Q3} (h : sm6 a = true) : ShI a := by
  unfold sm6 at h
  have h1 := fewQ_sh h a.1 (by simp)
  have h2 := fewQ_sh h a.2 (by simp)
  exact ⟨h1, h2⟩
theorem fewI_sh {l : List (Q3 × Q3)} (h : fewI l = true) : l.length ≤ 12 ∧ ∀ a ∈ l, ShI a := by
  unfold fewI at h
  rw [Bool.and_eq_true] at h
  exact ⟨of_decide_eq_true h.1, fun a ha => sm6_sh (List.all_eq_true.1 h.2 a ha)⟩
theorem fewI_two {a c : Q3 × Q3} (h : fewI [a, c] = true) : ShI a ∧ ShI c := ⟨(fewI_sh h).2 a (by simp), (fewI_sh h).2 c (by simp)⟩
end Go.Proofs.YtbojlmnajndleaaGreatDoor
namespace Go.Proofs.YtbojlmnajndleaaGreatDoor
open Go.RowKit Go.Sort

end Go.Proofs.YtbojlmnajndleaaGreatDoor
namespace Go.Proofs.YtbojlmnajndleaaGreatDoor
open Go.RowKit Go.Sort

theorem Prods.ends {k : Nat} {a c : Q3 × Q3} {l : List Q3} (pl : Prods k a c l) {z : Q3} (hz : z ∈ l) : ∃ x y, (x = a.1 ∨ x = a.2) ∧ (y = c.1 ∨ y = c.2) ∧ qv z = qv x * qv y := by
  obtain ⟨m0, m1, m2, m3, rfl, _, e0, e1, e2, e3⟩ := pl.all
  simp only [List.mem_cons, List.not_mem_nil, or_false] at hz
  rcases hz with rfl | rfl | rfl | rfl
  · exact ⟨_, _, .inl rfl, .inl rfl, e0⟩
  · exact ⟨_, _, .inl rfl, .inr rfl, e1⟩
  · exact ⟨_, _, .inr rfl, .inl rfl, e2⟩
  · exact ⟨_, _, .inr rfl, .inr rfl, e3⟩
theorem Prods.ne {k : Nat} {a c : Q3 × Q3} {l : List Q3} (pl : Prods k a c l) : l ≠ [] := by
  obtain ⟨_, _, _, _, rfl, _⟩ := pl.all; simp
end Go.Proofs.YtbojlmnajndleaaGreatDoor
