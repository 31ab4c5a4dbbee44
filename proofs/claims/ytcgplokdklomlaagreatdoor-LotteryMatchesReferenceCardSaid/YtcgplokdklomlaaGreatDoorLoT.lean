/- law 29: LotteryWithholds. -/
import Derived.Test.YtcgplokdklomlaaGreatDoorLoS
set_option linter.unusedVariables false
set_option linter.unusedSimpArgs false
namespace Go.Proofs.YtcgplokdklomlaaGreatDoor
open Go.RowKit

/-- The list without the requests of a partner. -/
def resL (ow xs : List Int) (p : Int) : Nat → List Int
  | 0 => []
  | k + 1 => if ow.getD k 0 = p then resL ow xs p k else resL ow xs p k ++ [xs.getD k 0]
theorem resL_len (ow xs ys : List Int) (p : Int) : ∀ k, (resL ow xs p k).length = (resL ow ys p k).length
  | 0 => rfl
  | k + 1 => by
    unfold resL
    split
    · exact resL_len ow xs ys p k
    · rw [List.length_append, List.length_append, resL_len ow xs ys p k]; rfl
theorem resL_le (ow xs : List Int) (p : Int) : ∀ k, (resL ow xs p k).length ≤ k
  | 0 => Nat.le_refl _
  | k + 1 => by
    unfold resL
    have := resL_le ow xs p k
    split
    · omega
    · rw [List.length_append]; simp; omega
theorem resL_mem {ow xs : List Int} {p x : Int} : ∀ {k : Nat}, x ∈ resL ow xs p k ↔ ∃ j, j < k ∧ ow.getD j 0 ≠ p ∧ xs.getD j 0 = x
  | 0 => by simp [resL]
  | k + 1 => by
    unfold resL
    have ih := resL_mem (ow := ow) (xs := xs) (p := p) (x := x) (k := k)
    constructor
    · intro h
      split at h
      · obtain ⟨j, h1, h2⟩ := ih.1 h; exact ⟨j, by omega, h2⟩
      · rename_i hne
        rcases List.mem_append.1 h with h | h
        · obtain ⟨j, h1, h2⟩ := ih.1 h; exact ⟨j, by omega, h2⟩
        · exact ⟨k, by omega, hne, (List.mem_singleton.1 h).symm⟩
    · rintro ⟨j, h1, h2, h3⟩
      by_cases e : j = k
      · subst e
        rw [if_neg h2]
        exact List.mem_append_right _ (by rw [h3]; exact List.mem_singleton.2 rfl)
      · have := ih.2 ⟨j, by omega, h2, h3⟩
        split
        · exact this
        · exact List.mem_append_left _ this
set_option maxRecDepth 100000 in
theorem vld_res {sh ow me : List Int} (h : vldL sh ow me = true) (p : Int) : vldL sh (resL ow ow p ow.length) (resL ow me p ow.length) = true := by
  unfold vldL at h ⊢
  simp only [Bool.and_eq_true, decide_eq_true_eq] at h ⊢
  obtain ⟨h1, h2, h3, h4, h5, h6⟩ := h
  have hl := resL_le ow ow p ow.length
  refine ⟨h1, by omega, resL_len ow ow me p _, h4, ?_, ?_⟩
  · rw [inB_iff] at h5 ⊢
    intro x hx
    obtain ⟨j, hj, _, rfl⟩ := resL_mem.1 hx
    rw [getD_at hj]
    exact h5 _ (List.getElem_mem hj)
  · rw [inB_iff] at h6 ⊢
    intro x hx
    obtain ⟨j, hj, _, rfl⟩ := resL_mem.1 hx
    rw [getD_at (by omega)]
    exact h6 _ (List.getElem_mem (by omega))
theorem wN_wtL {sh ow : List Nat} {p : Nat} (hp : p < sh.length) : wN (wtL sh ow) p = wtK sh ow ow.length p := by
  unfold wN
  have h : p < (wtL sh ow).length := by rw [wtL_len]; exact hp
  rw [List.getD_eq_getElem?_getD, List.getElem?_eq_getElem h]
  exact wtL_get h
theorem wtK_in {sh ow : List Nat} {p : Nat} (h : p ∈ ow) : wtK sh ow ow.length p = sh.getD p 0 := by unfold wtK; rw [if_neg (by rw [ownN_nil]; exact fun n => n h)]
theorem wtK_out {sh ow : List Nat} {p : Nat} (h : p ∉ ow) : wtK sh ow ow.length p = 0 := by unfold wtK; rw [if_pos (by rw [ownN_nil]; exact h)]
set_option maxRecDepth 100000 in
theorem res_more {sh ow me : List Int} (h : vldL sh ow me = true) {p : Int} {q : Nat} (hq : q < sh.length) (hne : (q : Int) ≠ p) :
    ofL ow (tkL sh ow me) (q : Int) ow.length ≤ ofL (resL ow ow p ow.length) (tkL sh (resL ow ow p ow.length) (resL ow me p ow.length)) (q : Int) (resL ow ow p ow.length).length := by
  have h2 := vld_res h p
  have hmem : ∀ x : Int, x ∈ resL ow ow p ow.length ↔ x ∈ ow ∧ x ≠ p := fun x => by
    rw [resL_mem]
    constructor
    · rintro ⟨j, hj, h1, rfl⟩
      exact ⟨by rw [getD_at hj]; exact List.getElem_mem hj, h1⟩
    · rintro ⟨h1, h2⟩
      obtain ⟨j, hj, rfl⟩ := List.mem_iff_getElem.1 h1
      exact ⟨j, hj, by rw [getD_at hj]; exact h2, getD_at hj⟩
  obtain ⟨R, hR⟩ : ∃ R, resL ow ow p ow.length = R := ⟨_, rfl⟩
  obtain ⟨V, hV⟩ : ∃ V, resL ow me p ow.length = V := ⟨_, rfl⟩
  rw [hR, hV] at h2
  rw [hR] at hmem
  rw [hR, hV]
  clear hR hV
  obtain ⟨k1, e0, e1, e2⟩ := vld_ok h
  obtain ⟨k2, _, e3, e4⟩ := vld_ok h2
  have hq' : q < (toN sh).length := by rw [toN_len]; exact hq
  have a1 := of_tot k1 hq'
  have a2 := of_tot k2 hq'
  rw [e1, toN_len] at a1
  rw [e3, toN_len] at a2
  unfold tkL
  rw [if_pos h, if_pos h2, a1, a2]
  have hm' : ∀ x : Nat, x ∈ toN R ↔ x ∈ toN ow ∧ (x : Int) ≠ p := fun x => by
    rw [← mem_toN e1, ← mem_toN e3]; exact hmem x
  by_cases hz : toN ow = []
  · rw [if_pos hz]
    split
    · exact Int.le_refl _
    · omega
  rw [if_neg hz]
  by_cases hr : toN R = []
  · rw [if_pos hr]
    have hno : q ∉ toN ow := fun hm => by
      have := (hm' q).2 ⟨hm, hne⟩
      rw [hr] at this; cases this
    rw [tot_none k1 (List.length_pos_iff.2 hz) hq' (ownN_nil.2 hno)]
    exact Int.le_refl _
  rw [if_neg hr]
  refine Int.ofNat_le.2 ?_
  have s1 := sum_dh (ws := wtL (toN sh) (toN ow)) (by rw [wtL_len]; exact k1.s0) 720
  have s2 := sum_dh (ws := wtL (toN sh) (toN R)) (by rw [wtL_len]; exact k1.s0) 720
  have i1 := inv_dh (wtL (toN sh) (toN ow)) 720
  have i2 := inv_dh (wtL (toN sh) (toN R)) 720
  rw [wtL_len] at s1 s2 i1 i2
  refine inv_mono i1 i2 (by rw [s1, s2]; exact Nat.le_refl _) hq' ?_ fun j hj hjq => ?_
  · rw [wN_wtL hq', wN_wtL hq']
    by_cases hm : q ∈ toN ow
    · rw [wtK_in hm, wtK_in ((hm' q).2 ⟨hm, hne⟩)]; exact Nat.le_refl _
    · rw [wtK_out hm]; exact Nat.zero_le _
  · rw [wN_wtL hj, wN_wtL hj]
    by_cases hm : j ∈ toN R
    · rw [wtK_in hm, wtK_in ((hm' j).1 hm).1]; exact Nat.le_refl _
    · rw [wtK_out hm]; exact Nat.zero_le _
theorem Bld.more {α : Type} {f : α → List Value} {size : Nat} {w wr : World} {M N : List α} {u : Value} {k : Nat} (h : Bld f size w wr M u k) (hk : k ≤ M.length) : Bld f size w wr (M ++ N) u k :=
  ⟨by rw [List.take_append_of_le_length hk]; exact h.own, h.below⟩
theorem Bld2.more {α β : Type} {f : α → List Value} {size : Nat} {g : β → List Value} {size' : Nat} {w wr : World} {M N : List α} {M' N' : List β} {u v : Value} {k k' : Nat} (h : Bld2 f size g size' w wr M M' u v k k') (hk : k ≤ M.length) (hk' : k' ≤ M'.length) : Bld2 f size g size' w wr (M ++ N) (M' ++ N') u v k k' :=
  ⟨h.left.more hk, h.right.more hk', h.apart⟩
set_option maxHeartbeats 8000000 in
set_option maxRecDepth 100000 in
theorem lotteryWithholds (sh ow me : List Int) (raw : Int) (v1 v2 v3 : Value) (w : World) (h1 : SliceOf vI 1 w v1 sh) (h2 : SliceOf vI 1 w v2 ow) (h3 : SliceOf vI 1 w v3 me) (r0 : 0 ≤ raw) (r1 : raw < 256) (hW : LawW w) :
    Calls Tryz.prog 8 #[v1, v2, v3, .int .u8 raw] w fun e w' => e = .returned (.bool true) ∧ Below w.heap.size w w' := by
  have HH := hide (law29_head w hW)
  have HT := hide (fun (X : World) (hX : Below w.heap.size w X) n1 n2 n3 => lo_tk sh ow me v1 v2 v3 X (h1.below hX) (h2.below hX) (h3.below hX) n1 n2 n3)
  have HT5 := hide (fun (X : World) (hX : Below w.heap.size w X) o2 m2 v4 v5 h4 h5 n1 n2 n3 => lo_tk sh o2 m2 v1 v4 v5 X (h1.below hX) h4 h5 n1 n2 n3)
  have HS2 := hide h2
  have HS3 := hide h3
  obtain ⟨a1, c1, rfl⟩ := h1.shape
  obtain ⟨a2, c2, rfl⟩ := h2.shape
  obtain ⟨a3, c3, rfl⟩ := h3.shape
  obtain ⟨p, hp⟩ : ∃ p, fewL sh.length ow.length me.length = p := ⟨_, rfl⟩
  have HF := hide (fun X => ref29_few sh.length ow.length me.length a1 a2 a3 c1 c2 c3 p hp X)
  clear h1 h2 h3 hW
  cases p with
  | false =>
    clear hp
    go_enter Tryz.func8, Tryz.ntmps8
    go_wp2_with fail
    refine HH.out.mono ?_
    rintro e w1 ⟨rfl, hb⟩
    have HB1 := hide hb
    clear hb
    go_wp2_with fail
    refine (HF.out _).mono ?_
    rintro e w2 ⟨rfl, rfl⟩
    go_wp2_with fail
    go_ret
    exact ⟨rfl, HB1.out⟩
  | true =>
    obtain ⟨q1, q2, q3⟩ := few_le hp
    have HT2 := hide (fun X hX => HT.out X hX (by omega) (by omega) (by omega))
    clear HT hp
    by_cases hz : sh = []
    · subst hz
      clear HT2 HT5
      go_enter Tryz.func8, Tryz.ntmps8
      go_wp2_with fail
      refine HH.out.mono ?_
      rintro e w1 ⟨rfl, hb⟩
      have HB1 := hide hb
      clear hb
      go_wp2_with fail
      refine (HF.out _).mono ?_
      rintro e w2 ⟨rfl, rfl⟩
      go_wp2_with fail
      go_ret
      exact ⟨rfl, HB1.out⟩
    have hz0 : 0 < sh.length := List.length_pos_iff.2 hz
    have hzI : ((sh.length : Int) == 0) = false := by rw [beq_eq_false_iff_ne]; omega
    have hzI2 : (sh.length == 0) = false := by rw [beq_eq_false_iff_ne]; omega
    rcases Bool.eq_false_or_eq_true (vldL sh ow me) with hv | hv
    case inr =>
      have HE1 : Hid (tkL sh ow me = []) := by show _ = _; unfold tkL; rw [hv]; rfl
      have HE2 : Hid (tkE sh ow me = 1) := by show _ = _; unfold tkE; rw [hv]; rfl
      rw [HE1.out, HE2.out] at HT2
      clear hv HE1 HE2 HT5 hz
      go_enter Tryz.func8, Tryz.ntmps8
      go_wp2_with fail
      refine HH.out.mono ?_
      rintro e w1 ⟨rfl, hb⟩
      have HB1 := hide hb
      clear hb
      go_wp2_with fail
      refine (HF.out _).mono ?_
      rintro e w2 ⟨rfl, rfl⟩
      go_wp2_with fail
      refine (HT2.out _ HB1.out).mono ?_
      rintro e w3 ⟨u, rfl, hs, hb⟩
      obtain ⟨uo, uc, rfl⟩ : ∃ uo uc, u = .slice uo 0 uc := hs.shape
      have HB3 := hide (bStepL HB1.out hb)
      clear hs hb
      go_wp2_with fail
      go_ret
      exact ⟨rfl, HB3.out⟩
    obtain ⟨t1, t2, -⟩ := tkL_ok hv
    have HE1 : Hid (tkE sh ow me = 0) := by show _ = _; unfold tkE; rw [if_pos hv]
    obtain ⟨P, hP⟩ : ∃ P, raw.tmod (sh.length : Int) = P := ⟨_, rfl⟩
    have hP0 : 0 ≤ P ∧ P < (sh.length : Int) := by
      rw [← hP, Int.tmod_eq_emod_of_nonneg r0]
      exact ⟨Int.emod_nonneg _ (by omega), Int.emod_lt_of_pos _ (by omega)⟩
    have hv2 := vld_res hv P
    have HMORE := hide (fun q hq hne => res_more (p := P) (q := q) hv hq hne)
    obtain ⟨t3, t4, -⟩ := tkL_ok hv2
    have HE2 : Hid (tkE sh (resL ow ow P ow.length) (resL ow me P ow.length) = 0) := by show _ = _; unfold tkE; rw [if_pos hv2]
    have hrl := resL_le ow ow P ow.length
    have hrl2 := resL_len ow ow me P ow.length
    have hml : me.length = ow.length := by
      unfold vldL at hv
      simp only [Bool.and_eq_true, decide_eq_true_eq] at hv
      omega
    have HML := hide hml
    have HT6 := hide (fun (X : World) (hX : Below w.heap.size w X) v4 v5 h4 h5 => HT5.out X hX (resL ow ow P ow.length) (resL ow me P ow.length) v4 v5 h4 h5 (by omega) (by omega) (by omega))
    obtain ⟨l, hl⟩ : ∃ l, tkL sh ow me = l := ⟨_, rfl⟩
    obtain ⟨m, hm⟩ : ∃ l, tkL sh (resL ow ow P ow.length) (resL ow me P ow.length) = l := ⟨_, rfl⟩
    rw [hl] at t1 t2 HT2 HMORE
    rw [hm] at t3 t4 HT6 HMORE
    rw [HE1.out] at HT2
    rw [HE2.out] at HT6
    have HRN : Hid (∀ k, (resL ow me P k).length = (resL ow ow P k).length) := fun k => resL_len _ _ _ _ _
    have HRK : Hid (∀ k, (resL ow ow P k).length ≤ k) := fun k => resL_le _ _ _ _
    have HT1 := hide t1
    have HTT2 := hide t2
    have HT3 := hide t3
    have HTT4 := hide t4
    have HRL := hide hrl
    have d1 : ((l.length : Int) != (ow.length : Int)) = false := by rw [t1]; simp
    have d1' : (l.length != ow.length) = false := by rw [t1]; simp
    have d2 : ((m.length : Int) != ((resL ow ow P ow.length).length : Int)) = false := by rw [t3]; simp
    have d2' : (m.length != (resL ow ow P ow.length).length) = false := by rw [t3]; simp
    clear HE1 HE2 hl hm hv hv2 hz hml hrl hrl2 t1 t2 t3 t4 HT5
    obtain ⟨i0, hi, hz0', hz1, hz2⟩ := info_parts Tryz.infoInt3
    go_enter Tryz.func8, Tryz.ntmps8
    go_wp2_with fail
    refine HH.out.mono ?_
    rintro e w1 ⟨rfl, hb⟩
    have HB1 := hide hb
    clear hb
    go_wp2_with fail
    refine (HF.out _).mono ?_
    rintro e w2 ⟨rfl, rfl⟩
    go_wp2_with fail
    refine (HT2.out _ HB1.out).mono ?_
    rintro e w3 ⟨u, rfl, hs, hb⟩
    obtain ⟨uo, uc, rfl⟩ : ∃ uo uc, u = .slice uo l.length uc := hs.shape
    have HS := hide hs
    have HB3 := hide (bStepL HB1.out hb)
    clear hs hb
    go_wp2_with fail
    go_loopw [13, 14, 15] (fun u v i wx => ∃ k : Nat, k ≤ ow.length ∧ i = .int .i64 (k : Int) ∧ Bld2 vI 1 vI 1 w3 wx (resL ow ow P k) (resL ow me P k) u v (resL ow ow P k).length (resL ow ow P k).length) (fun _ _ i _ => ow.length - (intOf i).toNat)
    case atStart => exact ⟨0, Nat.zero_le _, rfl, Bld2.nil_at _ _ _ _ _ _ (Below.refl _ _)⟩
    case round =>
      obtain ⟨k, hk, rfl, hst⟩ := hrel
      have HST := hide hst
      clear hst
      by_cases hlt : k < ow.length
      · have hki : (k : Int) < (ow.length : Int) := by omega
        have hk0 : (0 : Int) ≤ (k : Int) := by omega
        have hkt : k < me.length := by have := HML.out; omega
        obtain ⟨b', off, rfl, _, hcap, hcm, hc⟩ := SliceOf.at_ HS2.out (by omega)
        have hcpI : (ow.length : Int) ≤ (c2 : Int) := by omega
        have hcmI : (c2 : Int) ≤ 9223372036854775807 := by unfold maxLen at hcm; omega
        obtain ⟨b2, off2, rfl, _, hcap2, hcm2, hc2⟩ := SliceOf.at_ HS3.out (by omega)
        have hcpI2 : (me.length : Int) ≤ (c3 : Int) := by omega
        have hcmI2 : (c3 : Int) ≤ 9223372036854775807 := by unfold maxLen at hcm2; omega
        have hkm : (k : Int) < (me.length : Int) := by omega
        have x0 := int_cell hc hlt
        have y0 := int_cell hc2 hkt
        have HK : Hid (∀ W, Below w3.heap.size w3 W → W.cell? ⟨b', off + k, none⟩ = some (.int .i64 ow[k]) ∧ W.cell? ⟨b2, off2 + k, none⟩ = some (.int .i64 me[k])) := fun W hW => ⟨keep_cell (bStepL HB3.out hW) x0, keep_cell (bStepL HB3.out hW) y0⟩
        have c0 := (HK.out _ HST.out.left.below).1
        have HR1 : Hid (∀ xs, ow.getD k 0 = P → resL ow xs P (k + 1) = resL ow xs P k) := fun xs h => if_pos h
        have HR2 : Hid (∀ xs, ow.getD k 0 ≠ P → resL ow xs P (k + 1) = resL ow xs P k ++ [xs.getD k 0]) := fun xs h => if_neg h
        have e1 : ow.getD k 0 = ow[k] := getD_at hlt
        have e2 : me.getD k 0 = me[k] := getD_at hkt
        have HR3 := hide (HR2.out ow)
        have HR4 := hide (HR2.out me)
        rw [e1] at HR1 HR3 HR4
        rw [e2] at HR4
        obtain ⟨x, hx⟩ : ∃ x, ow[k] = x := ⟨_, rfl⟩
        obtain ⟨y, hy⟩ : ∃ x, me[k] = x := ⟨_, rfl⟩
        rw [hx] at HK HR1 HR3 HR4 c0
        rw [hy] at HK HR4
        clear hx hy e1 e2 hc hc2 hcap hcm hcap2 hcm2 HR2 x0 y0
        have hrk := HRK.out k
        have hrn := HRN.out k
        by_cases hxp : x = P
        · subst hxp
          have z1 := HR1.out ow rfl
          have z2 := HR1.out me rfl
          have HN := hide HST.out
          go_wp2_with fail
          go_roundw
          case rel => exact ⟨k + 1, by omega, by go_num, by rw [z1, z2]; exact HN.out⟩
          case measure => (simp [intOf]; omega)
        · have d3 : (x != P) = true := by rw [bne_iff_ne]; exact hxp
          have z1 := HR3.out hxp
          have z2 := HR4.out hxp
          obtain ⟨A, hA⟩ : ∃ A, resL ow ow P k = A := ⟨_, rfl⟩
          obtain ⟨B, hB⟩ : ∃ A, resL ow me P k = A := ⟨_, rfl⟩
          rw [hA, hB] at HST
          rw [hA] at z1 hrk hrn
          rw [hB] at z2 hrn
          have HSX := hide (HST.out.more (N := [x]) (N' := [y]) (Nat.le_refl _) (by omega))
          have HZ1 := hide z1
          have HZ2 := hide z2
          have hbytes : (A.length + 1) * 8 ≤ 140737488355328 := by omega
          have HOW := hide HSX.out.left.own
          have HSZ := hide HSX.out.left.below.size
          have HA1 : Hid (A.length < (A ++ [x]).length) := by show _ < _; rw [List.length_append]; simp
          have HA2 : Hid ((A ++ [x])[A.length]'HA1.out = x) := by show _ = _; simp
          have hBA : B.length = A.length := hrn
          have HA3 : Hid (A.length < (B ++ [y]).length) := by show _ < _; rw [List.length_append, hBA]; simp
          have HA4 : Hid ((B ++ [y])[A.length]'HA3.out = y) := by show _ = _; simp [← hBA]
          have HTA : Hid (List.take A.length (A ++ [x]) = A) := List.take_left
          have HTB : Hid (List.take A.length (B ++ [y]) = B) := by show _ = _; rw [← hBA]; exact List.take_left
          clear hA hB z1 z2 HR1 HR3 HR4 HST hBA hrn
          have hone : ∀ z : Int, ∀ u ∈ (#[Value.int .i64 z] : Array Value).toList, u.oneCell' = true := by
            intro z u hu
            simp at hu
            rw [hu]; rfl
          have H1 := hide (hone x)
          have H2 := hide (hone y)
          clear hone
          go_wp2_with (at_builtin; refine wpList_appendS rfl _ _ 22 rfl w3.heap.size 3 i0 (.int .i64 0) 1 8 Tryz.underlying22 hi hz0' hz1 hz2 rfl (by decide) _ A.length _ rfl HOW.out #[.int .i64 x] 3 1 rfl rfl H1.out hbytes (by decide) HSZ.out ?_)
          intro g4 off4 cap4 w4 hown4 hg4 hb4 hat4
          have HN := hide (HSX.out.step (Below.refl _ _) HA1.out HA2.out rfl (by first | exact hown4 | (rw [HTA.out]; exact hown4)) hg4 hat4)
          have HOW2 := hide HN.out.right.own
          have HSZ2 := hide HN.out.left.below.size
          obtain ⟨_, c1'⟩ := HK.out _ HN.out.left.below
          clear hown4 hg4 hb4 hat4 c0
          go_wp2_with (at_builtin; refine wpList_appendS rfl _ _ 22 rfl w3.heap.size 3 i0 (.int .i64 0) 1 8 Tryz.underlying22 hi hz0' hz1 hz2 rfl (by decide) _ A.length _ rfl HOW2.out #[.int .i64 y] 3 1 rfl rfl H2.out hbytes (by decide) HSZ2.out ?_)
          intro g6 off6 cap6 w6 hown6 hg6 hb6 hat6
          have HN6 := hide (HN.out.swap.step (Below.refl _ _) HA3.out HA4.out rfl (by first | exact hown6 | (rw [HTB.out]; exact hown6)) hg6 hat6).swap
          clear hown6 hg6 hb6 hat6 c1'
          have hal : (A ++ [x]).length = A.length + 1 := by simp
          go_wp2_with fail
          go_roundw
          case rel => exact ⟨k + 1, by omega, by go_num, by rw [HZ1.out, HZ2.out, hal]; exact HN6.out⟩
          case measure => (simp [intOf]; omega)
      · have hk' : k = ow.length := by omega
        subst hk'
        have HM1 := hide (Bld.to_slice vI_len HST.out.left)
        have HM2 := hide (Bld.to_slice (M := resL ow me P ow.length) vI_len (by rw [HRN.out]; exact HST.out.right))
        obtain ⟨g1, g2, rfl⟩ := HM1.out.shape
        obtain ⟨g3, g4, rfl⟩ := HM2.out.shape
        have HB4 := hide (bStepL HB3.out HST.out.left.below)
        have HSb := hide (HS.out.below HST.out.left.below)
        clear HST HRK HRN hk hlt
        go_wp2_with fail
        refine (HT6.out _ HB4.out _ _ HM1.out HM2.out).mono ?_
        rintro e w5 ⟨u, rfl, hs, hb⟩
        obtain ⟨vo, vc, rfl⟩ : ∃ uo uc, u = .slice uo m.length uc := hs.shape
        have HO1 := hide (fun q => law29_of ow l q _ _ w5 (HS2.out.below (bStepL HB4.out hb)) (HSb.out.below hb) HT1.out (by omega) HTT2.out)
        have HO2 := hide (fun q => law29_of _ m q _ _ w5 (HM1.out.below hb) hs HT3.out (by have := HRL.out; omega) HTT4.out)
        have HB5 := hide (bStepL HB4.out hb)
        obtain ⟨R, hR⟩ : ∃ R, resL ow ow P ow.length = R := ⟨_, rfl⟩
        rw [hR] at HO2 HMORE d2 d2' ⊢
        clear hs hb HM1 HM2 HSb HS HT6 HT2 HTT2 HTT4 HT3 HT1 hR
        go_wp2_with fail
        go_loopw [18] (fun i wx => ∃ k : Nat, k ≤ sh.length ∧ i = .int .i64 (k : Int) ∧ wx = w5) (fun i _ => sh.length - (intOf i).toNat)
        case atStart => exact ⟨0, Nat.zero_le _, rfl, rfl⟩
        case round =>
          obtain ⟨k, hk, rfl, rfl⟩ := hrel
          by_cases hlt : k < sh.length
          · have hki : (k : Int) < (sh.length : Int) := by omega
            have hk0 : (0 : Int) ≤ (k : Int) := by omega
            by_cases hkp : (k : Int) = P
            · have d4 : ((k : Int) != P) = false := by rw [hkp]; simp
              go_wp2_with fail
              go_roundw
              case rel => exact ⟨k + 1, by omega, by go_num, trivial⟩
              case measure => (simp [intOf]; omega)
            · have d4 : ((k : Int) != P) = true := by rw [bne_iff_ne]; exact hkp
              have HC1 := hide (HO1.out (k : Int))
              have HC2 := hide (HO2.out (k : Int))
              have hle := HMORE.out k hlt hkp
              obtain ⟨x, hx⟩ : ∃ x, ofL ow l (k : Int) ow.length = x := ⟨_, rfl⟩
              obtain ⟨y, hy⟩ : ∃ x, ofL R m (k : Int) R.length = x := ⟨_, rfl⟩
              rw [hx] at HC1 hle
              rw [hy] at HC2 hle
              have d5 : decide (y < x) = false := decide_eq_false (by omega)
              clear hx hy
              go_wp2_with fail
              refine HC2.out.mono ?_
              rintro e w6 ⟨rfl, rfl⟩
              go_wp2_with fail
              refine HC1.out.mono ?_
              rintro e w6 ⟨rfl, rfl⟩
              go_wp2_with fail
              go_roundw
              case rel => exact ⟨k + 1, by omega, by go_num, trivial⟩
              case measure => (simp [intOf]; omega)
          · have hk' : k = sh.length := by omega
            subst hk'
            go_wp2_with fail
            go_ret
            exact ⟨rfl, HB5.out⟩
end Go.Proofs.YtcgplokdklomlaaGreatDoor
