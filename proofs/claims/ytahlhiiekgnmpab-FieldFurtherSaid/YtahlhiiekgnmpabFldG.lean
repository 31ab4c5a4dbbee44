/- The reference of layer 6: Interpolate, whatever its arguments. -/
import Derived.Test.YtahlhiiekgnmpabFldE
namespace Go.Proofs.Ytahlhiiekgnmpab
open Go.RowKit

def inP (p : Int × Int) : Bool := inF p.1 && inF p.2
def allP (l : List (Int × Int)) : Bool := l.all inP
theorem allP_take {l : List (Int × Int)} {k : Nat} (hk : k < l.length) (h : allP (l.take k) = true) : allP (l.take (k + 1)) = inP l[k] := by
  have e : l.take (k + 1) = l.take k ++ [l[k]] := by rw [List.take_succ_eq_append_getElem hk]
  unfold allP at h ⊢
  rw [e, List.all_append, h]; simp
theorem allP_no {l : List (Int × Int)} {k : Nat} (hk : k < l.length) (h : inP l[k] = false) : allP l = false := by
  unfold allP
  rw [List.all_eq_false]
  exact ⟨l[k], List.getElem_mem hk, by rw [h]; simp⟩
def el2 (p : Int × Int) : FP × FP := (el p.1, el p.2)
def va2 (p : FP × FP) : Int × Int := (va p.1, va p.2)
theorem el2_va2 (p : FP × FP) : el2 (va2 p) = p := by unfold el2 va2; rw [el_va, el_va]
theorem allP_el {l : List (Int × Int)} (h : allP l = true) : ∃ ps : List (FP × FP), l = ps.map va2 := by
  induction l with
  | nil => exact ⟨[], rfl⟩
  | cons a l ih =>
    have h' : inP a = true ∧ allP l = true := by simpa [allP] using h
    have h2 : inF a.1 = true ∧ inF a.2 = true := by simpa [inP] using h'.1
    obtain ⟨x, hx⟩ := inF_el h2.1
    obtain ⟨y, hy⟩ := inF_el h2.2
    obtain ⟨ps, hps⟩ := ih h'.2
    refine ⟨(x, y) :: ps, ?_⟩
    have ha : a = va2 (x, y) := Prod.ext hx hy
    rw [ha, hps]; rfl
theorem allP_va (ps : List (FP × FP)) : allP (ps.map va2) = true := by
  induction ps with
  | nil => rfl
  | cons p ps ih =>
    show ((inF (va p.1) && inF (va p.2)) && allP (ps.map va2)) = true
    rw [inF_va, inF_va, ih]; rfl
def itB (l : List (Int × Int)) (x : Int) : Bool := decide (1 ≤ l.length) && decide (l.length ≤ 16) && inF x && allP l
def ipV (l : List (Int × Int)) (x : Int) : Int := if itB l x then itV (l.map el2) (el x) else 0
def ipE (l : List (Int × Int)) (x : Int) : Int := if itB l x then itE (l.map el2) else 1
theorem map_el2_va2 (ps : List (FP × FP)) : (ps.map va2).map el2 = ps := by
  rw [List.map_map]
  conv => rhs; rw [← List.map_id ps]
  exact List.map_congr_left fun x _ => el2_va2 x
theorem itB_va {ps : List (FP × FP)} {x : FP} (h0 : 0 < ps.length) (h1 : ps.length ≤ 16) : itB (ps.map va2) (va x) = true := by
  unfold itB
  rw [allP_va, inF_va, List.length_map, decide_eq_true h1, decide_eq_true (show 1 ≤ ps.length by omega)]; rfl
theorem ip_va {ps : List (FP × FP)} {x : FP} (h0 : 0 < ps.length) (h1 : ps.length ≤ 16) : ipV (ps.map va2) (va x) = itV ps x ∧ ipE (ps.map va2) (va x) = itE ps := by
  unfold ipV ipE
  rw [if_pos (itB_va h0 h1), if_pos (itB_va h0 h1), map_el2_va2, el_va]
  exact ⟨rfl, rfl⟩
theorem itB_el {l : List (Int × Int)} {x : Int} (h : itB l x = true) : ∃ (ps : List (FP × FP)) (y : FP), l = ps.map va2 ∧ x = va y ∧ 0 < ps.length ∧ ps.length ≤ 16 := by
  have h' : ((1 ≤ l.length ∧ l.length ≤ 16) ∧ inF x = true) ∧ allP l = true := by simpa [itB] using h
  obtain ⟨ps, hps⟩ := allP_el h'.2
  obtain ⟨y, hy⟩ := inF_el h'.1.2
  have e : l.length = ps.length := by rw [hps, List.length_map]
  exact ⟨ps, y, hps, hy, by omega, by omega⟩
theorem ip_bad {l : List (Int × Int)} {x : Int} (h : itB l x = false) : ipV l x = 0 ∧ ipE l x = 1 := by
  unfold ipV ipE
  rw [h]; exact ⟨rfl, rfl⟩
theorem slice_va2 {w : World} {v : Value} {ps : List (FP × FP)} (h : SliceOf vP2 2 w v (ps.map va2)) : SliceOf vF2 2 w v ps := by
  rcases h with ⟨ao, h1, h2⟩ | ⟨b, off, cap, h1, h2, h3, h5, h4⟩
  · exact .inl ⟨ao, h1, by simpa using h2⟩
  · rw [List.length_map] at h1 h3
    exact .inr ⟨b, off, cap, h1, h2, h3, h5, fun i hi j u hu => h4 i (by simpa using hi) j u (by rw [List.getElem_map]; exact hu)⟩
theorem slice_av2 {w : World} {v : Value} {ps : List (FP × FP)} (h : SliceOf vF2 2 w v ps) : SliceOf vP2 2 w v (ps.map va2) := by
  rcases h with ⟨ao, h1, h2⟩ | ⟨b, off, cap, h1, h2, h3, h5, h4⟩
  · exact .inl ⟨ao, h1, by rw [h2]; rfl⟩
  · refine .inr ⟨b, off, cap, by rw [List.length_map]; exact h1, h2, by rw [List.length_map]; exact h3, h5, fun i hi j u hu => ?_⟩
    rw [List.getElem_map] at hu
    exact h4 i (by simpa using hi) j u hu

end Go.Proofs.Ytahlhiiekgnmpab
