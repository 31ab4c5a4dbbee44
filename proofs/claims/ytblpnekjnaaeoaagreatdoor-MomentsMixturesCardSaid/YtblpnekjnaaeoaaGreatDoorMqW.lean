/- MomentsMixtures: for every two lists of points and weights the law returns true. -/
import Derived.Test.YtblpnekjnaaeoaaGreatDoorMqR
import Derived.Test.YtblpnekjnaaeoaaGreatDoorMqRb
set_option linter.unusedVariables false
set_option linter.unusedSimpArgs false
namespace Go.Proofs.YtblpnekjnaaeoaaGreatDoor
open Go.RowKit

theorem law46_mix (Ma Mb : List (T3 × T3)) (va vb : Value) (xx yy : Int) (hxx : 0 ≤ xx ∧ xx < 256) (hyy : 0 ≤ yy ∧ yy < 256) (w : World) (hL : LawM w) (ha : SliceOf vPr 6 w va Ma) (hb : SliceOf vPr 6 w vb Mb) (hza : ∀ x ∈ Ma, szP x) (hzb : ∀ x ∈ Mb, szP x) :
    Calls Tryz.prog 6 #[va, vb, .int .u8 xx, .int .u8 yy] w fun e w' => e = .returned (.bool true) ∧ Below w.heap.size w w' := by
  obtain ⟨ao, c, rfl⟩ := ha.shape
  obtain ⟨bo, d, rfl⟩ := hb.shape
  cases hfa : fewM Ma with
  | false => exact l46_mix_e0 ao bo _ c _ d xx yy w hL (few_later ha hfa)
  | true =>
  cases hfb : fewM Mb with
  | false => exact l46_mix_e1 ao bo _ c _ d xx yy w hL (few_later ha hfa) (few_later hb hfb)
  | true =>
  cases hva : vdB Ma with
  | false => exact l46_mix_e2 ao bo _ c _ d xx yy w hL (few_later ha hfa) (few_later hb hfb) (valid_later hza hL ha hva)
  | true =>
  cases hvb : vdB Mb with
  | false => exact l46_mix_e3 ao bo _ c _ d xx yy w hL (few_later ha hfa) (few_later hb hfb) (valid_later hza hL ha hva) (valid_later hzb hL hb hvb)
  | true =>
  obtain ⟨La, da⟩ := vdB_get hva
  obtain ⟨Lb, db⟩ := vdB_get hvb
  obtain rfl := da.eq
  obtain rfl := db.eq
  have fa := few_of hfa
  have fb := few_of hfb
  obtain ⟨p, q, hsh, hshc⟩ := law46_share xx yy hxx hyy
  have xd := xd_two hsh da db
  have xd' := xd_two hsh.flip db da
  have w2 : ∀ x ∈ [p, q], S20 x := fun x hx => by
    rcases List.mem_cons.1 hx with rfl | hx
    · exact hsh.ps
    · rw [List.mem_singleton.1 hx]; exact hsh.qs
  have w2' : ∀ x ∈ [q, p], S20 x := fun x hx => by
    rcases List.mem_cons.1 hx with rfl | hx
    · exact hsh.qs
    · rw [List.mem_singleton.1 hx]; exact hsh.ps
  have l2 : ∀ x ∈ [La, Lb], FewL x := fun x hx => by
    rcases List.mem_cons.1 hx with rfl | hx
    · exact fa
    · rw [List.mem_singleton.1 hx]; exact fb
  have l2' : ∀ x ∈ [Lb, La], FewL x := fun x hx => by
    rcases List.mem_cons.1 hx with rfl | hx
    · exact fb
    · rw [List.mem_singleton.1 hx]; exact fa
  obtain ⟨s, hs, vs, ss, ls⟩ := mix_few xd w2 l2 (Nat.le_refl 2)
  obtain ⟨t, ht, vt, st, lt⟩ := mix_few xd' w2' l2' (Nat.le_refl 2)
  obtain rfl : t = s := vd_unique vt vs (fun f => by rw [st f, ss f, mix2_swap])
  have kMa := (meanL_later hL da).at ha
  have kMb := (meanL_later hL db).at hb
  have kRa := (varL_later hL da).at ha
  have kRb := (varL_later hL db).at hb
  have kMs := meanL_later hL vs
  have kRs := varL_later hL vs
  rw [mean_few fa] at kMa
  rw [mean_few fb] at kMb
  have B1 := few_later ha hfa
  have B2 := few_later hb hfb
  have B3 := valid_later hza hL ha hva
  have B4 := valid_later hzb hL hb hvb
  have C0 := shr_later hL hshc
  have C1 := mix_later hL ha hb xd hs
  have C2 := mix_later hL hb ha xd' ht
  have C3 := validL_later hL vs
  have C4 : KSame w t := same_later (by omega)
  have hma := TO.rq (meanO_fit (Nat.le_refl _) (mean_few fa))
  have hmb := TO.rq (meanO_fit (Nat.le_refl _) (mean_few fb))
  refine l46_mix_main ao bo _ c _ d xx yy (rqM p) (rqM q) t _ _ _ _ _ _ _ _ _ _ p q (meanE La) (meanE Lb) ((varO La).getD 0) ((varO Lb).getD 0) w hL B1 B2 B3 B4 C0 C1 C2 C3 C4 kMa kMb kMs kRa kRb kRs ?_
  rcases eO_cases (meanO t t.length) with ⟨e, _⟩ | ⟨ms, e, hms⟩
  · exact .inl e
  rcases eO_cases (varO La) with ⟨e1, _⟩ | ⟨ra, e1, hra⟩
  · exact .inr (.inl ⟨e, e1⟩)
  rcases eO_cases (varO Lb) with ⟨e2, _⟩ | ⟨rb, e2, hrb⟩
  · exact .inr (.inr (.inl ⟨e, e1, e2⟩))
  rcases eO_cases (varO t) with ⟨e3, _⟩ | ⟨rs, e3, hrs⟩
  · exact .inr (.inr (.inr (.inl ⟨e, e1, e2, e3⟩)))
  have hm : ms = p * meanE La + q * meanE Lb := by rw [mean_exact hms, ss.mean, mean_mix2]
  have hv : rs = p * varE La + q * varE Lb + p * q * ((meanE La - meanE Lb) * (meanE La - meanE Lb)) := by rw [var_exact hrs, ss.var, var_mix2 hsh.sum da.totE db.totE]
  have hva := var_exact hra
  have hvb := var_exact hrb
  rw [hms, hra, hrb, hrs]
  simp only [Option.getD_some]
  refine .inr (.inr (.inr (.inr ⟨rfl, rfl, rfl, rfl, TO.rq (s20_fit hsh.ps), TO.rq (s20_fit hsh.qs), hma, hmb, TO.rq (varO_fit hra), TO.rq (varO_fit hrb), ?_, ?_⟩)))
  · intro r hr hn
    obtain ⟨x, y, hx, hy, e⟩ := add2_ex hn
    rw [(hr.ok _ e).1, mul2_some hx, mul2_some hy]
    show _ = rqM ms
    rw [hm]
  · intro r hr hn
    obtain ⟨x, y, hx, hy, e⟩ := add2_ex hn
    rw [(hr.ok _ e).1]
    show _ = rqM rs
    rw [hv]
    have hx' := hx
    obtain ⟨x1, x2, h1, h2, e1⟩ := add2_ex (a := mul2 (some p) (some ra)) (b := mul2 (some q) (some rb)) (by rw [hx]; rfl)
    rw [e1] at hx
    have hy' := hy
    obtain ⟨y1, y2, h3, h4, e2⟩ := mul2_ex (a := mul2 (some p) (some q)) (b := mul2 (add2 (some (meanE La)) (negO (some (meanE Lb)))) (add2 (some (meanE La)) (negO (some (meanE Lb))))) (by rw [hy]; rfl)
    rw [e2] at hy
    obtain ⟨z1, z2, h5, h6, e3⟩ := mul2_ex (a := add2 (some (meanE La)) (negO (some (meanE Lb)))) (b := add2 (some (meanE La)) (negO (some (meanE Lb)))) (by rw [h4]; rfl)
    rw [e3] at h4
    obtain ⟨v1, v2, h7, h8, e4⟩ := add2_ex (a := some (meanE La)) (b := negO (some (meanE Lb))) (by rw [h5]; rfl)
    obtain ⟨v3, h9, h10⟩ := negO_ex h8
    rw [e4] at h5 h6
    have g1 := mul2_some h1
    have g2 := mul2_some h2
    have g3 := mul2_some h3
    have g4 : x1 + x2 = x := Option.some.inj hx
    have g5 : y1 * y2 = y := Option.some.inj hy
    have g6 : z1 * z2 = y2 := Option.some.inj h4
    have g7 : v1 + v2 = z1 := Option.some.inj h5
    have g8 : v1 + v2 = z2 := Option.some.inj h6
    have g9 : meanE La = v1 := Option.some.inj h7
    have g10 : meanE Lb = v3 := Option.some.inj h9
    have g11 : meanE La - meanE Lb = z1 := by rw [g9, g10, ← g7, h10, Rat.sub_eq_add_neg]
    have g12 : meanE La - meanE Lb = z2 := by rw [g9, g10, ← g8, h10, Rat.sub_eq_add_neg]
    rw [← g4, g1, g2, ← g5, g3, ← g6, ← g11, ← g12, hva, hvb]
end Go.Proofs.YtblpnekjnaaeoaaGreatDoor
