/- MomentsLimits: for every list of points the law returns true. -/
import Derived.Test.YtblpnekjnaaeoaaGreatDoorMqS
import Derived.Test.YtblpnekjnaaeoaaGreatDoorMqU
import Derived.Test.YtblpnekjnaaeoaaGreatDoorMqL
set_option linter.unusedVariables false
set_option linter.unusedSimpArgs false
namespace Go.Proofs.YtblpnekjnaaeoaaGreatDoor
open Go.RowKit

theorem cmp_later {p q : Rat} {w : World} (hL : LawM w) (hp : FitQ p) (hq : FitQ q) : KCmp w (rqM p) (rqM q) (cmpQ p q) := fun W hW => rat_Compare p q W hp hq (hL.below hW).1
theorem rat_later {n d : Int} {q : Rat} {w : World} (hL : LawM w) (hn : inI64 n) (hd : inI64 d) (h0 : d ≠ 0) (hq : ofQ n d = q) : KRat w n d (rqM q) := fun W hW => law46_rat hn hd h0 hq W (hL.below hW)
theorem law46_limits (M : List (T3 × T3)) (v : Value) (w : World) (hL : LawM w) (ha : SliceOf vPr 6 w v M) (hz : ∀ x ∈ M, szP x) :
    Calls Tryz.prog 7 #[v] w fun e w' => e = .returned (.bool true) ∧ Below w.heap.size w w' := by
  obtain ⟨ao, c, rfl⟩ := ha.shape
  cases hfa : fewM M with
  | false => exact l46_lim_nf ao _ c w hL (few_later ha hfa)
  | true =>
  cases hva : vdB M with
  | false => exact l46_lim_nv ao _ c w hL (few_later ha hfa) (valid_later hz hL ha hva)
  | true =>
  obtain ⟨L, da⟩ := vdB_get hva
  obtain rfl := da.eq
  have fa := few_of hfa
  have B1 := few_later ha hfa
  have B2 := valid_later hz hL ha hva
  have kM := (meanL_later hL da).at ha
  have kR := (varL_later hL da).at ha
  rw [mean_few fa] at kM
  have hlm : (L.map encP).length = L.length := List.length_map ..
  have hn1 := da.len.1
  rcases eO_cases (varO L) with ⟨e, _⟩ | ⟨r, e, hr⟩
  · rw [e] at kR
    exact l46_lim_no ao _ c _ _ w hL (beq_eq_false_iff_ne.2 (by omega)) B1 B2 kM kR
  rw [hr] at kR
  have hre := var_exact hr
  have fr := varO_fit hr
  have fm := meanO_fit (Nat.le_refl _) (mean_few fa)
  obtain ⟨b, off, rfl, hblt, hnc, hcM, hcl⟩ := SliceOf.at_ ha (by omega)
  obtain ⟨k, hk⟩ : ∃ k, L.length = k + 1 := ⟨L.length - 1, by omega⟩
  have hEi : ∀ W, Below w.heap.size w W → ∀ i (hi : i < L.length), P6 W b (off + i * 6) (encP L[i]) := fun W hW i hi => by
    have hi' : i < (L.map encP).length := by rw [hlm]; exact hi
    have hc : ∀ j u, (vPr (encP L[i]))[j]? = some u → W.cell? ⟨b, off + i * 6 + j, none⟩ = some u := fun j u hu => by
      have := hcl i hi' j u (by rw [List.getElem_map]; exact hu)
      exact (hW.cell (p := ⟨b, off + i * 6 + j, none⟩) hblt).trans this
    exact ⟨by have := hc 0 _ rfl; simpa using this, hc 1 _ rfl, hc 2 _ rfl, hc 3 _ rfl, hc 4 _ rfl, hc 5 _ rfl⟩
  have h0 : 0 < L.length := by omega
  have hk0 : k < L.length := by omega
  have hE0 : ∀ W, Below w.heap.size w W → c3 W b off (rqM L[0].1) := fun W hW => by
    obtain ⟨h1, h2, h3, _⟩ := hEi W hW 0 h0
    rw [Nat.zero_mul, Nat.add_zero] at h1 h2 h3
    exact ⟨h1, h2, h3⟩
  have hEk : ∀ W, Below w.heap.size w W → c3 W b (off + k * 6) (rqM L[k].1) := fun W hW => by
    obtain ⟨h1, h2, h3, _⟩ := hEi W hW k hk0
    exact ⟨h1, h2, h3⟩
  have f0 := (da.vl.fit _ (List.getElem_mem h0)).1
  have fk := (da.vl.fit _ (List.getElem_mem hk0)).1
  have hz1 : decide (0 < cmpQ L[0].1 (meanE L)) = false := cmp_le (mean_first da h0)
  have hz2 : decide (0 < cmpQ (meanE L) L[k].1) = false := cmp_le (mean_last da hk.symm)
  have hR0 : KRat w 0 1 (rqM 0) := rat_later hL (by unfold inI64; omega) (by unfold inI64; omega) (by decide) (by rw [ofQ_one]; rfl)
  have er0 : rqM 0 = (false, ⟨#[48]⟩, ⟨#[49]⟩) := by
    show (ngQ 0, natS (nmQ 0), natS (0 : Rat).den) = _
    rw [ngQ_zero, nmQ_zero.2 rfl, natS_zero, den_zero, natS_one]
  have t0 : TO (some 0) (rqM 0) := TO.rq fitQ_zero
  have hv0 : 0 ≤ r := by rw [hre]; exact varE_nonneg (fun z hz => Rat.le_of_lt (da.vl.pos z hz))
  have evr : rqM r = (false, natS (nmQ r), natS r.den) := by
    show (ngQ r, natS (nmQ r), natS r.den) = _
    rw [show ngQ r = false from ng_of hv0]
  have kR' : KR w 14 (.slice (some ⟨b, off, none⟩) (L.map encP).length c) (false, natS (nmQ r), natS r.den) 0 := by
    rw [← evr]; exact kR
  have hend : ∀ o s, o = some (sqPart L (L.map encP).length) → TO (add2 o (negO (mul2 (some (meanE L)) (some (meanE L))))) s → (add2 o (negO (mul2 (some (meanE L)) (some (meanE L))))).isNone = false → s = (false, natS (nmQ r), natS r.den) := fun o s ho ht hn => by
    obtain ⟨x, y, hx, hy, e⟩ := add2_ex hn
    obtain ⟨z, hz, hy2⟩ := negO_ex hy
    rw [(ht.ok _ e).1, ← evr, hre, varE_eq da.totE]
    have g1 : x = sqE L := by
      rw [ho, hlm, sqPart_all] at hx
      exact (Option.some.inj hx).symm
    rw [g1, hy2, mul2_some hz, Rat.sub_eq_add_neg]
  have hz0 : varE L = 0 ↔ L.length = 1 := varE_zero_iff da.vl.srt da.vl.pos da.totE (by intro e; rw [e] at h0; cases h0)
  refine l46_lim_main b off _ c k L (rqM (meanE L)) _ _ (rqM 0) _ _ (meanE L) _ _ w hL (by omega) (by have := fa.1; omega) hnc hcM hlm.symm B1 B2 kM kR' hE0 hEk hEi (cmp_later hL f0 fm) (cmp_later hL fm fk) hz1 hz2 (by rw [← er0]; exact hR0) hR0 t0 (TO.rq fm) da.vl.fit ?_ hend
  by_cases h1 : L.length = 1
  · have hr0 : r = 0 := by rw [hre]; exact hz0.2 h1
    subst hr0
    exact .inl ⟨by rw [nmQ_zero.2 rfl, natS_zero], by rw [den_zero, natS_one], beq_iff_eq.2 (by omega)⟩
  · have hrn : r ≠ 0 := fun e => h1 (hz0.1 (by rw [← hre, e]))
    have hnm : 0 < nmQ r := Nat.pos_of_ne_zero (fun e => hrn (nmQ_zero.1 e))
    exact .inr ⟨str_ne (natS_ne_zero hnm) rfl, beq_eq_false_iff_ne.2 (by omega)⟩
end Go.Proofs.YtblpnekjnaaeoaaGreatDoor
