/- Law 38: the chapter's examples. -/
import Derived.Test.YtahlhiiekgnmpabMrgK
set_option linter.unusedVariables false
set_option linter.unusedSimpArgs false
namespace Go.Proofs.Ytahlhiiekgnmpab
open Go.RowKit

def adjB (win : Int) (l : List Al) (x y : Nat) : Bool := match l[x]?, l[y]? with
  | some a, some b => nearB win a b
  | _, _ => false
theorem adjB_iff {win : Int} {l : List Al} {x y : Nat} : adjB win l x y = true ↔ adj win l x y := by
  unfold adjB adj
  cases hx : l[x]? with
  | none => simp
  | some a =>
    cases hy : l[y]? with
    | none => simp
    | some b => simp
def par3 (par : Nat → Nat) (x : Nat) : Nat := par (par (par x))
def chkC (win : Int) (l : List Al) (par : Nat → Nat) : Bool :=
  (List.range l.length).all fun x => (decide (par x < l.length) && (par x == x || adjB win l x (par x))) && (List.range l.length).all fun y => !adjB win l x y || par3 par x == par3 par y
theorem class_of {win : Int} {l : List Al} {par : Nat → Nat} (h : chkC win l par = true) {x y : Nat} (hx : x < l.length) (hy : y < l.length) : par3 par x = par3 par y ↔ Conn (adj win l) x y := by
  unfold chkC at h
  rw [List.all_eq_true] at h
  have h' : ∀ x, x < l.length → (par x < l.length ∧ (par x = x ∨ adj win l x (par x))) ∧ ∀ y, y < l.length → adj win l x y → par3 par x = par3 par y := by
    intro x hx
    have h1 := h x (by simpa using hx)
    rw [Bool.and_eq_true, Bool.and_eq_true, Bool.or_eq_true, decide_eq_true_iff, beq_iff_eq, adjB_iff, List.all_eq_true] at h1
    refine ⟨h1.1, fun y hy p => ?_⟩
    have h2 := h1.2 y (by simpa using hy)
    rw [Bool.or_eq_true, beq_iff_eq, adjB_iff.2 p] at h2
    rcases h2 with h2 | h2
    · cases h2
    · exact h2
  have hc : ∀ x, x < l.length → Conn (adj win l) x (par x) := fun x hx => by
    rcases (h' x hx).1.2 with e | e
    · rw [e]; exact .refl _
    · exact Conn.tail (.refl _) e
  have h3 : ∀ x, x < l.length → Conn (adj win l) x (par3 par x) := fun x hx => by
    have a1 := (h' x hx).1.1
    have a2 := (h' _ a1).1.1
    exact ((hc x hx).trans (hc _ a1)).trans (hc _ a2)
  constructor
  · intro e
    have a1 := h3 x hx
    have a2 := h3 y hy
    rw [← e] at a2
    exact a1.trans (a2.symm fun x y p => adj_symm p)
  · intro c
    induction c with
    | refl => rfl
    | @tail y z _ p ih =>
      have b := adj_lt p
      exact (ih b.1).trans ((h' y b.1).2 z b.2 p)
theorem gok_is {win : Int} {l : List Al} {M : List (List Int)} (h : GOk win l M) (he : gErr win l = 0) {par : Nat → Nat} (hp : chkC win l par = true) : M = gK (par3 par) l.length := by
  obtain ⟨rt, h1, h2⟩ := h.1 he
  rw [h2]
  exact gK_congr fun x y hx hy => (h1 x y hx hy).trans (class_of hp hx hy).symm
/-- Two lists of groups for the same alerts and window. -/
theorem gok_uniq {win : Int} {l : List Al} {M M' : List (List Int)} (h : GOk win l M) (h' : GOk win l M') : M = M' := by
  by_cases he : gErr win l = 0
  · obtain ⟨rt, h1, h2⟩ := h.1 he
    obtain ⟨rt', h3, h4⟩ := h'.1 he
    rw [h2, h4]
    exact gK_congr fun x y hx hy => (h1 x y hx hy).trans (h3 x y hx hy).symm
  · rw [h.2 he, h'.2 he]
theorem cnt_is {win : Int} {l : List Al} {rt par : Nat → Nat} (h : ∀ x y, x < l.length → y < l.length → (rt x = rt y ↔ Conn (adj win l) x y)) (hp : chkC win l par = true) {i : Nat} (hi : i < l.length) : cnt l.length rt (rt i) = cnt l.length (par3 par) (par3 par i) := by
  unfold cnt
  refine List.countP_congr fun x hx => ?_
  have hx' : x < l.length := by simpa using hx
  rw [decide_eq_true_iff, decide_eq_true_iff]
  exact (h x i hx' hi).trans (class_of hp hx' hi).symm

def smp : List Al := [⟨5, 0, 0, 0, 10⟩, ⟨40, 0, 0, 0, 90⟩, ⟨6, 0, 0, 0, 12⟩, ⟨7, 0, 0, 0, 15⟩]
def extra : Al := ⟨39, 0, 0, 0, 20⟩
def pA : Nat → Nat := fun x => if x = 2 then 0 else if x = 3 then 2 else x
def pB : Nat → Nat := fun x => if x = 2 then 0 else x
def pC : Nat → Nat := fun x => x
def pD : Nat → Nat := fun x => if x = 1 then 3 else if x = 3 then 2 else if x = 2 then 0 else if x = 4 then 3 else x
theorem smp_A : chkC 3 smp pA = true := by decide +kernel
theorem smp_B : chkC 2 smp pB = true := by decide +kernel
theorem smp_C : chkC 0 smp pC = true := by decide +kernel
theorem smp_D : chkC 80 smp pD = true := by decide +kernel
theorem smp_E : chkC 80 (smp ++ [extra]) pD = true := by decide +kernel
theorem smp_Ag : gK (par3 pA) 4 = [[0, 2, 3], [1]] := by decide +kernel
theorem smp_Bg : gK (par3 pB) 4 = [[0, 2], [1], [3]] := by decide +kernel
theorem smp_Cg : (gK (par3 pC) 4).length = 4 := by decide +kernel
theorem smp_Dn : cnt 4 (par3 pD) (par3 pD 3) = 4 := by decide +kernel
theorem smp_En : cnt 5 (par3 pD) (par3 pD 4) = 5 := by decide +kernel
theorem smp_Eg : gK (par3 pD) 5 = [[0, 1, 2, 3, 4]] := by decide +kernel
theorem smp_err : gErr 3 smp = 0 ∧ gErr 2 smp = 0 ∧ gErr 0 smp = 0 ∧ gErr (-1) smp = 1 := by decide +kernel
theorem smp_val : AllV smp := allVB_iff.1 (by decide +kernel)
theorem extra_val : valB extra = true := by decide +kernel
theorem smp_A_is {M : List (List Int)} (h : GOk 3 smp M) : M = [[0, 2, 3], [1]] := by rw [gok_is h smp_err.1 smp_A]; exact smp_Ag
theorem smp_B_is {M : List (List Int)} (h : GOk 2 smp M) : M = [[0, 2], [1], [3]] := by rw [gok_is h smp_err.2.1 smp_B]; exact smp_Bg
theorem smp_C_len {M : List (List Int)} (h : GOk 0 smp M) : M.length = 4 := by rw [gok_is h smp_err.2.2.1 smp_C]; exact smp_Cg

/-! ### few, sample -/
def fewB (n : Nat) : Bool := decide (n ≤ 24 ∨ (200 < n ∧ n ≤ 210))
theorem law38_few (ao : Option Addr) (n c : Nat) (w : World) : Calls Try.prog 25 #[.slice ao n c] w fun e w' => e = .returned (.bool (fewB n)) ∧ w = w' := by
  by_cases h1 : (n : Int) ≤ 24
  · have E : Hid (fewB n = true) := decide_eq_true (by omega)
    go_enter Try.func25, Try.ntmps25
    go_wp2_with fail
    go_ret
    exact ⟨ret_bool E.out.symm, rfl⟩
  · by_cases h2 : (200 : Int) < (n : Int)
    · have E : Hid (fewB n = decide ((n : Int) ≤ 210)) := decide_eq_decide.2 (by omega)
      go_enter Try.func25, Try.ntmps25
      go_wp2_with fail
      go_ret
      exact ⟨ret_bool E.out.symm, rfl⟩
    · have E : Hid (fewB n = false) := decide_eq_false (by omega)
      go_enter Try.func25, Try.ntmps25
      go_wp2_with fail
      go_ret
      exact ⟨ret_bool E.out.symm, rfl⟩
theorem law38_sample (w : World) : Calls Try.prog 44 #[] w fun e w' => ∃ v, e = .returned v ∧ SliceOf vAl 5 w' v smp ∧ Below w.heap.size w w' := by
  have hs : Hid (SliceOf vAl 5 (w.alloc (.cells (flatV vAl smp).toArray 57)) (.slice (some ⟨w.heap.size, 0, none⟩) 4 4) smp) := slice_lit vAl_len w smp _ (by decide)
  have hb := hide (bAlloc (Below.refl _ w) (.cells (flatV vAl smp).toArray 57))
  go_enter Try.func44, Try.ntmps44
  go_wp2_with fail
  go_ret
  exact ⟨_, rfl, hs.out, hb.out⟩
end Go.Proofs.Ytahlhiiekgnmpab
