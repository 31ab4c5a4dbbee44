/- MomentsSingle: for every list of points, number and weights the law returns true. -/
import Derived.Test.YtblpnekjnaaeoaaGreatDoorMqT
import Derived.Test.YtblpnekjnaaeoaaGreatDoorMqRb
set_option linter.unusedVariables false
set_option linter.unusedSimpArgs false
namespace Go.Proofs.YtblpnekjnaaeoaaGreatDoor
open Go.RowKit

theorem rt_later {n d : Int} {q : Rat} {w : World} (hL : LawM w) (hn : inI64 n) (hd : inI64 d) (h0 : d ≠ 0) (hq : ofQ n d = q) : KRt w n d (rqM q) := fun W hW => law46_rat hn hd h0 hq W (hL.below hW)
theorem law46_single (Ma : List (T3 × T3)) (va : Value) (bb xx yy : Int) (hbb : -32768 ≤ bb ∧ bb < 32768) (hxx : 0 ≤ xx ∧ xx < 256) (hyy : 0 ≤ yy ∧ yy < 256) (w : World) (hL : LawM w) (ha : SliceOf vPr 6 w va Ma) (hza : ∀ x ∈ Ma, szP x) :
    Calls Tryz.prog 8 #[va, .int .i16 bb, .int .u8 xx, .int .u8 yy] w fun e w' => e = .returned (.bool true) ∧ Below w.heap.size w w' := by
  obtain ⟨ao, c, rfl⟩ := ha.shape
  cases hfa : fewM Ma with
  | false => exact l46_one_e0 ao _ c bb xx yy w hL (few_later ha hfa)
  | true =>
  cases hva : vdB Ma with
  | false => exact l46_one_e1 ao _ c bb xx yy w hL (few_later ha hfa) (valid_later hza hL ha hva)
  | true =>
  obtain ⟨La, da⟩ := vdB_get hva
  obtain rfl := da.eq
  have fa := few_of hfa
  obtain ⟨p, q, hsh, hshc⟩ := law46_share xx yy hxx hyy
  have hz0 : (0 : Int).natAbs ≤ 1000000 := by decide
  have hbz : bb.natAbs ≤ 1000000 := by omega
  have w1 : ∀ x ∈ [(1 : Rat)], S20 x := fun x hx => by rw [List.mem_singleton.1 hx]; exact s20_one
  have w2 : ∀ x ∈ [p, q], S20 x := fun x hx => by
    rcases List.mem_cons.1 hx with rfl | hx
    · exact hsh.ps
    · rw [List.mem_singleton.1 hx]; exact hsh.qs
  have l1 : ∀ x ∈ [La], FewL x := fun x hx => by rw [List.mem_singleton.1 hx]; exact fa
  have l2 : ∀ x ∈ [La, La], FewL x := fun x hx => by
    rcases List.mem_cons.1 hx with rfl | hx
    · exact fa
    · rw [List.mem_singleton.1 hx]; exact fa
  have xd1 := xd_one da
  have xd2 := xd_two hsh da da
  obtain ⟨s, hs, vs, ss, _⟩ := sum_few fa (oneL_few hz0) da (oneL_vd hz0)
  obtain ⟨t, ht, vt, st, _⟩ := mix_few xd1 w1 l1 (show 1 ≤ 2 by decide)
  obtain ⟨u, hu, vu, su, _⟩ := mix_few xd2 w2 l2 (Nat.le_refl 2)
  obtain ⟨m, hm, vm, sm, _⟩ := sum_few fa (oneL_few hbz) da (oneL_vd hbz)
  obtain rfl : s = La := vd_unique vs da (fun f => by rw [ss f]; exact sum_zero La f)
  obtain rfl : t = s := vd_unique vt da (fun f => by rw [st f]; exact mix1_self s f)
  obtain rfl : u = t := vd_unique vu da (fun f => by rw [su f]; exact mix2_self hsh.sum t f)
  have hvar : varE m = varE u := by rw [sm.var, varE_sumE da.totE (oneL_vd hbz).totE, oneL_var, Rat.add_zero]
  have kRa := (varL_later hL da).at ha
  have kRm := varL_later hL vm
  have B1 := few_later ha hfa
  have B3 := valid_later hza hL ha hva
  have C0 := shr_later hL hshc
  have P0 : KPts w 0 1 1 (oneL 0) := by rw [← oneL_pt]; exact pts_later hL (by unfold ptOk inI64; dsimp only; omega)
  have P1 : KPts w bb 1 1 (oneL bb) := by rw [← oneL_pt]; exact pts_later hL (by unfold ptOk inI64; dsimp only; omega)
  have S1 : KSumL w _ (oneL 0) u := sumL_later da (oneL_vd hz0) hL ha hs
  have S2 := sumL_later da (oneL_vd hbz) hL ha hm
  have R1 : KRt w 1 1 (rqM 1) := rt_later hL (by unfold inI64; omega) (by unfold inI64; omega) (by decide) (by rw [ofQ_one]; rfl)
  have M1 := mix1_later hL ha xd1 ht
  have M2 := mix_later hL ha ha xd2 hu
  have hb2 : -32768 ≤ bb ∧ bb ≤ 32767 := by omega
  have C4 : KSame w u := same_later (by have := fa.1; omega)
  refine l46_one_main ao _ c bb xx yy _ _ _ u _ _ m _ _ _ _ w hL B1 B3 hb2 ha C0 P0 P1 S1 S2 R1 M1 M2 C4 kRa kRm ?_
  rcases eO_cases (varO u) with ⟨e, _⟩ | ⟨ra, e, hra⟩
  · exact .inl e
  rcases eO_cases (varO m) with ⟨e', _⟩ | ⟨rm, e', hrm⟩
  · exact .inr (.inl ⟨e, e'⟩)
  refine .inr (.inr ⟨e, e', ?_⟩)
  rw [hra, hrm, var_exact hra, var_exact hrm, hvar]
end Go.Proofs.YtblpnekjnaaeoaaGreatDoor
