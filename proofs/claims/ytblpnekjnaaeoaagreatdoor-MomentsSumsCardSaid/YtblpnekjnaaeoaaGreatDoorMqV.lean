/- MomentsSums: for every two lists of points the law returns true. -/
import Derived.Test.YtblpnekjnaaeoaaGreatDoorMqQ
import Derived.Test.YtblpnekjnaaeoaaGreatDoorMqU
import Derived.Test.YtblpnekjnaaeoaaGreatDoorMqL
set_option linter.unusedVariables false
set_option linter.unusedSimpArgs false
namespace Go.Proofs.YtblpnekjnaaeoaaGreatDoor
open Go.RowKit

theorem law46_sums (Ma Mb : List (T3 × T3)) (va vb : Value) (w : World) (hL : LawM w) (ha : SliceOf vPr 6 w va Ma) (hb : SliceOf vPr 6 w vb Mb) (hza : ∀ x ∈ Ma, szP x) (hzb : ∀ x ∈ Mb, szP x) :
    Calls Tryz.prog 5 #[va, vb] w fun e w' => e = .returned (.bool true) ∧ Below w.heap.size w w' := by
  obtain ⟨ao, c, rfl⟩ := ha.shape
  obtain ⟨bo, d, rfl⟩ := hb.shape
  cases hfa : fewM Ma with
  | false => exact l46_sums_e0 ao bo _ c _ d w hL (few_later ha hfa)
  | true =>
  cases hfb : fewM Mb with
  | false => exact l46_sums_e1 ao bo _ c _ d w hL (few_later ha hfa) (few_later hb hfb)
  | true =>
  cases hva : vdB Ma with
  | false => exact l46_sums_e2 ao bo _ c _ d w hL (few_later ha hfa) (few_later hb hfb) (valid_later hza hL ha hva)
  | true =>
  cases hvb : vdB Mb with
  | false => exact l46_sums_e3 ao bo _ c _ d w hL (few_later ha hfa) (few_later hb hfb) (valid_later hza hL ha hva) (valid_later hzb hL hb hvb)
  | true =>
  obtain ⟨La, da⟩ := vdB_get hva
  obtain ⟨Lb, db⟩ := vdB_get hvb
  obtain rfl := da.eq
  obtain rfl := db.eq
  have fa := few_of hfa
  have fb := few_of hfb
  obtain ⟨s, hs, vs, ss, ls⟩ := sum_few fa fb da db
  obtain ⟨t, ht, vt, st, lt⟩ := sum_few fb fa db da
  obtain rfl : t = s := vd_unique vt vs (fun f => by rw [st f, ss f, dot_sumE_swap])
  have kMa := (meanL_later hL da).at ha
  have kMb := (meanL_later hL db).at hb
  have kRa := (varL_later hL da).at ha
  have kRb := (varL_later hL db).at hb
  have kMs := meanL_later hL vs
  have kRs := varL_later hL vs
  rw [mean_few fa] at kMa
  rw [mean_few fb] at kMb
  have B1 := few_later ha hfa
  have B2 := few_later hb hfb
  have B3 := valid_later hza hL ha hva
  have B4 := valid_later hzb hL hb hvb
  have C1 := sum_later da db hL ha hb hs
  have C2 := sum_later db da hL hb ha ht
  have C3 := validL_later hL vs
  have C4 : KSame w t := same_later (by omega)
  have hm := TO.rq (meanO_fit (Nat.le_refl _) (mean_few fa))
  have hm' := TO.rq (meanO_fit (Nat.le_refl _) (mean_few fb))
  refine l46_sums_main ao bo _ c _ d t _ _ _ _ _ _ _ _ _ _ (meanE La) (meanE Lb) ((varO La).getD 0) ((varO Lb).getD 0) w hL B1 B2 B3 B4 C1 C2 C3 C4 kMa kMb kMs kRa kRb kRs ?_
  rcases eO_cases (meanO t t.length) with ⟨e, _⟩ | ⟨ms, e, hms⟩
  · exact .inl e
  rcases eO_cases (varO La) with ⟨e1, _⟩ | ⟨ra, e1, hra⟩
  · exact .inr (.inl ⟨e, e1⟩)
  rcases eO_cases (varO Lb) with ⟨e2, _⟩ | ⟨rb, e2, hrb⟩
  · exact .inr (.inr (.inl ⟨e, e1, e2⟩))
  rcases eO_cases (varO t) with ⟨e3, _⟩ | ⟨rs, e3, hrs⟩
  · exact .inr (.inr (.inr (.inl ⟨e, e1, e2, e3⟩)))
  refine .inr (.inr (.inr (.inr ⟨e, e1, e2, e3, hm, hm', ?_, ?_, ?_, ?_⟩)))
  · rw [hra]; exact TO.rq (varO_fit hra)
  · rw [hrb]; exact TO.rq (varO_fit hrb)
  · intro r hr hn
    rw [(hr.ok _ (add2_get hn)).1, hms, mean_exact hms, ss.mean, meanE_sumE da.totE db.totE]
    rfl
  · intro r hr hn
    rw [(hr.ok _ (add2_get hn)).1, hrs, var_exact hrs, ss.var, varE_sumE da.totE db.totE, hra, hrb, var_exact hra, var_exact hrb]
    rfl
end Go.Proofs.YtblpnekjnaaeoaaGreatDoor
