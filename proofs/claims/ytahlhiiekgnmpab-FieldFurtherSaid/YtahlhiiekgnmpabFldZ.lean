/- The laws of layer 6: FieldFurther, the plain part. -/
import Derived.Test.YtahlhiiekgnmpabFldW
namespace Go.Proofs.Ytahlhiiekgnmpab
open Go.RowKit

def ofB (x : Int) (l : List (Int × Int)) : Bool := l.any fun p => p.1 == x
theorem dst_append {ps : List (FP × FP)} {p : FP × FP} (h : dstB (ps ++ [p]) = true) : dstB ps = true ∧ ∀ k, k < ps.length → px ps k ≠ p.1 := by
  unfold dstB at h ⊢
  rw [decide_eq_true_iff] at h ⊢
  rw [List.map_append] at h
  refine ⟨(List.nodup_append.1 h).1, fun k hk => ?_⟩
  have h3 := (List.nodup_append.1 h).2.2
  refine h3 (px ps k) ?_ p.1 (by simp)
  rw [← px_at hk]
  exact List.mem_map.2 ⟨ps[k], List.getElem_mem hk, rfl⟩
theorem px_append {ps : List (FP × FP)} {p : FP × FP} {k : Nat} (hk : k < ps.length) : px (ps ++ [p]) k = px ps k ∧ py (ps ++ [p]) k = py ps k := by
  have h' : k < (ps ++ [p]).length := by simp; omega
  rw [← px_at h', ← py_at h', ← px_at hk, ← py_at hk, List.getElem_append_left hk]
  exact ⟨rfl, rfl⟩
theorem px_last (ps : List (FP × FP)) (p : FP × FP) : px (ps ++ [p]) ps.length = p.1 ∧ py (ps ++ [p]) ps.length = p.2 := by
  have h' : ps.length < (ps ++ [p]).length := by simp
  rw [← px_at h', ← py_at h', List.getElem_append_right (Nat.le_refl _)]
  simp
theorem further_main {ps : List (FP × FP)} {p : FP × FP} (h0 : 0 < ps.length) (hd : dstB (ps ++ [p]) = true) (x : FP) :
    (itV ps x = itV (ps ++ [p]) x) ↔ ((∃ k, k < ps.length ∧ px ps k = x) ∨ itV ps p.1 = va p.2) := by
  obtain ⟨hdp, hne⟩ := dst_append hd
  obtain ⟨n, hn⟩ : ∃ n, ps.length = n + 1 := ⟨ps.length - 1, by omega⟩
  have hn2 : (ps ++ [p]).length = n + 1 + 1 := by simp; omega
  obtain ⟨P, hP⟩ : ∃ P : FP → FP, P = fun x => nv (px ps) (py ps) x 0 n := ⟨_, rfl⟩
  obtain ⟨Q, hQ⟩ : ∃ Q : FP → FP, Q = fun x => nv (px (ps ++ [p])) (py (ps ++ [p])) x 0 (n + 1) := ⟨_, rfl⟩
  have pP : IsPoly (n + 1) P := by rw [hP]; exact nv_poly _ _ n 0
  have pQ : IsPoly (n + 1 + 1) Q := by rw [hQ]; exact nv_poly _ _ (n + 1) 0
  have eP : ∀ x, itV ps x = va (P x) := fun x => by rw [(itV_dst hdp x).1, hn, hP]; rfl
  have eQ : ∀ x, itV (ps ++ [p]) x = va (Q x) := fun x => by rw [(itV_dst hd x).1, hn2, hQ]; rfl
  have tP : ∀ k, k < n + 1 → P (px ps k) = py ps k := fun k hk => by rw [hP]; exact nv_pt hn hdp hk
  have tQ : ∀ k, k < n + 1 → Q (px ps k) = py ps k := fun k hk => by
    have := nv_pt hn2 hd (show k < n + 1 + 1 by omega)
    rw [(px_append (show k < ps.length by omega)).1, (px_append (show k < ps.length by omega)).2] at this
    rw [hQ]; exact this
  have lQ : Q p.1 = p.2 := by
    have := nv_pt hn2 hd (show n + 1 < n + 1 + 1 by omega)
    rw [← hn, (px_last ps p).1, (px_last ps p).2, hn] at this
    rw [hQ]; exact this
  have pD : IsPoly (n + 1 + 1) fun x => Q x - P x := pQ.sub pP.pad
  have zero : ∀ t, (∀ k, k < ps.length → px ps k ≠ t) → Q t - P t = 0 → ∀ y, Q y - P y = 0 := by
    intro t ht hz y
    have hnd : (ps.map Prod.fst ++ [t]).Nodup := by
      have h1 : (ps.map Prod.fst).Nodup := by
        have := hdp
        unfold dstB at this
        rwa [decide_eq_true_iff] at this
      rw [List.nodup_append]
      refine ⟨h1, by simp, fun a ha b hb => ?_⟩
      obtain ⟨q, hq, rfl⟩ := List.mem_map.1 ha
      obtain ⟨k, hk, rfl⟩ := List.getElem_of_mem hq
      obtain rfl : b = t := by simpa using hb
      have := ht k hk
      rw [← px_at hk] at this
      exact this
    refine pD.roots (ps.map Prod.fst ++ [t]) hnd (by simp; omega) (fun a ha => ?_) y
    rcases List.mem_append.1 ha with h | h
    · obtain ⟨q, hq, rfl⟩ := List.mem_map.1 h
      obtain ⟨k, hk, rfl⟩ := List.getElem_of_mem hq
      rw [px_at hk]
      show Q (px ps k) - P (px ps k) = 0
      rw [tQ k (by omega), tP k (by omega)]
      grind
    · obtain rfl : a = t := by simpa using h
      exact hz
  rw [eP, eQ, eP, va_eq, va_eq]
  constructor
  · intro h
    by_cases hx : ∃ k, k < ps.length ∧ px ps k = x
    · exact .inl hx
    · right
      have := zero x (fun k hk e => hx ⟨k, hk, e⟩) (by rw [h]; grind) p.1
      rw [lQ] at this
      grind
  · rintro (⟨k, hk, rfl⟩ | h)
    · rw [tP k (by omega), tQ k (by omega)]
    · have := zero p.1 hne (by rw [lQ, h]; grind) x
      grind
theorem further_facts {l : List (Int × Int)} {fu : Int × Int} {x : Int} (h0 : 0 < l.length) (h1 : l.length ≤ 15) (h : ipE (l ++ [fu]) x = 0) :
    ipE l x = 0 ∧ ipE l fu.1 = 0 ∧ ((ipV l x = ipV (l ++ [fu]) x) ↔ (ofB x l = true ∨ ipV l fu.1 = fu.2)) := by
  obtain ⟨qs, y, e, rfl, q0, q1, hd⟩ := ip_ok h
  obtain ⟨ps, r, rfl, e1, e2⟩ := List.map_eq_append_iff.1 e.symm
  obtain ⟨p, rfl⟩ : ∃ p, r = [p] := by
    match r, e2 with
    | [p], _ => exact ⟨p, rfl⟩
  have e3 : fu = va2 p := by simpa using e2.symm
  subst e1 e3
  have hl : (ps.map va2).length = ps.length := List.length_map _
  rw [hl] at h0 h1
  obtain ⟨hdp, _⟩ := dst_append hd
  have m1 := ip_va (x := y) h0 (by omega)
  have m2 := ip_va (x := p.1) h0 (by omega)
  have m3 := ip_va (x := y) q0 q1
  rw [List.map_append] at m3
  have e4 : (va2 p).1 = va p.1 := rfl
  have e5 : (va2 p).2 = va p.2 := rfl
  have e6 : [p].map va2 = [va2 p] := rfl
  rw [e6] at m3
  rw [e4, e5, m1.1, m1.2, m2.1, m2.2, m3.1, (itV_dst hdp 0).2]
  refine ⟨rfl, rfl, (further_main h0 hd y).trans (or_congr ?_ Iff.rfl)⟩
  unfold ofB
  rw [List.any_eq_true]
  constructor
  · rintro ⟨k, hk, e⟩
    refine ⟨va2 ps[k], List.mem_map.2 ⟨_, List.getElem_mem hk, rfl⟩, ?_⟩
    rw [beq_iff_eq]
    show va ps[k].1 = va y
    rw [px_at hk, e]
  · rintro ⟨q, hq, e⟩
    obtain ⟨r, hr, rfl⟩ := List.mem_map.1 hq
    obtain ⟨k, hk, rfl⟩ := List.getElem_of_mem hr
    rw [beq_iff_eq] at e
    exact ⟨k, hk, by rw [← px_at hk]; exact va_inj e⟩
end Go.Proofs.Ytahlhiiekgnmpab
