/- law 29: in, of; LotteryPartners. -/
import Derived.Test.YtcgplokdklomlaaGreatDoorLoR
set_option linter.unusedVariables false
set_option linter.unusedSimpArgs false
namespace Go.Proofs.YtcgplokdklomlaaGreatDoor
open Go.RowKit

set_option maxHeartbeats 2000000 in
set_option maxRecDepth 100000 in
theorem law29_in (l : List Int) (p : Int) (b : Bool) (hb : decide (p ∈ l) = b) (v : Value) (w : World) (hv : SliceOf vI 1 w v l) (hl : l.length ≤ 1000) :
    Calls Tryz.prog 19 #[v, .int .i64 p] w fun e w' => e = .returned (.bool b) ∧ w = w' := by
  have HS := hide hv
  obtain ⟨a1, c1, rfl⟩ := hv.shape
  have HT : Hid (∀ k (h : k < l.length), l[k] = p → b = true) := fun k h e => by rw [← hb, decide_eq_true]; rw [← e]; exact List.getElem_mem h
  have HF : Hid ((∀ k (h : k < l.length), l[k] ≠ p) → b = false) := fun h => by
    rw [← hb, decide_eq_false]
    intro hm
    obtain ⟨i, hi, e⟩ := List.mem_iff_getElem.1 hm
    exact h i hi e
  clear hb hv
  go_enter Tryz.func19, Tryz.ntmps19
  go_wp2_with fail
  go_loopw [5] (fun i wx => ∃ k : Nat, k ≤ l.length ∧ i = .int .i64 (k : Int) ∧ (∀ j (h : j < l.length), j < k → l[j] ≠ p) ∧ wx = w) (fun i _ => l.length - (intOf i).toNat)
  case atStart => exact ⟨0, Nat.zero_le _, rfl, fun j _ h => absurd h (Nat.not_lt_zero _), rfl⟩
  case round =>
    obtain ⟨k, hk, rfl, hall, rfl⟩ := hrel
    have HA := hide hall
    clear hall
    by_cases hlt : k < l.length
    · have hki : (k : Int) < (l.length : Int) := by omega
      have hk0 : (0 : Int) ≤ (k : Int) := by omega
      obtain ⟨b', off, rfl, _, hcap, hcm, hc⟩ := SliceOf.at_ HS.out (by omega)
      have hcpI : (l.length : Int) ≤ (c1 : Int) := by omega
      have hcmI : (c1 : Int) ≤ 9223372036854775807 := by unfold maxLen at hcm; omega
      have c0 := int_cell hc hlt
      have HTk := hide (HT.out k hlt)
      have HAk : Hid (l[k] ≠ p → ∀ j (h : j < l.length), j < k + 1 → l[j] ≠ p) := fun e j h hj => by
        by_cases e2 : j = k
        · subst e2; exact e
        · exact HA.out j h (by omega)
      obtain ⟨x, hx⟩ : ∃ x, l[k] = x := ⟨_, rfl⟩
      rw [hx] at c0 HTk HAk
      clear hx hc hcap hcm HA
      by_cases hxp : x = p
      · subst hxp
        obtain rfl := HTk.out rfl
        go_wp2_with fail
        go_ret
        exact ⟨rfl, rfl⟩
      · have d1 : (x == p) = false := by rw [beq_eq_false_iff_ne]; exact hxp
        have HN := hide (HAk.out hxp)
        go_wp2_with fail
        go_roundw
        case rel => exact ⟨k + 1, by omega, by go_num, HN.out, trivial⟩
        case measure => (simp [intOf]; omega)
    · obtain rfl := HF.out (fun j h => HA.out j h (by omega))
      have hk' : k = l.length := by omega
      subst hk'
      go_wp2_with fail
      go_ret
      exact ⟨rfl, rfl⟩
/-- The tickets of a partner. -/
def ofL (ow tk : List Int) (p : Int) : Nat → Int
  | 0 => 0
  | k + 1 => ofL ow tk p k + if ow.getD k 0 = p then tk.getD k 0 else 0
theorem ofL_bd {ow tk : List Int} {p : Int} (h : ∀ x ∈ tk, 0 ≤ x ∧ x ≤ 720) : ∀ {k : Nat}, k ≤ tk.length → 0 ≤ ofL ow tk p k ∧ ofL ow tk p k ≤ (k : Int) * 720
  | 0, _ => by simp [ofL]
  | k + 1, hk => by
    have h1 := ofL_bd (ow := ow) (p := p) h (k := k) (by omega)
    have h2 := h tk[k] (List.getElem_mem (by omega))
    show 0 ≤ ofL ow tk p k + _ ∧ ofL ow tk p k + _ ≤ _
    rw [getD_at (l := tk) (by omega)]
    split <;> omega
set_option maxHeartbeats 4000000 in
set_option maxRecDepth 100000 in
theorem law29_of (ow tk : List Int) (p : Int) (v u : Value) (w : World) (hv : SliceOf vI 1 w v ow) (hu : SliceOf vI 1 w u tk) (hlen : tk.length = ow.length) (hl : ow.length ≤ 1000) (hel : ∀ x ∈ tk, 0 ≤ x ∧ x ≤ 720) :
    Calls Tryz.prog 20 #[v, u, .int .i64 p] w fun e w' => e = .returned (.int .i64 (ofL ow tk p ow.length)) ∧ w = w' := by
  have HS := hide hv
  have HU := hide hu
  obtain ⟨a1, c1, rfl⟩ := hv.shape
  obtain ⟨a2, c2, rfl⟩ := hu.shape
  have HBD : Hid (∀ k, k ≤ ow.length → 0 ≤ ofL ow tk p k ∧ ofL ow tk p k ≤ 720000) := fun k hk => by
    have := ofL_bd (ow := ow) (p := p) hel (k := k) (by omega)
    omega
  have HEL : Hid (∀ k (hk : k < tk.length), 0 ≤ tk[k] ∧ tk[k] ≤ 720) := fun k hk => hel _ (List.getElem_mem hk)
  have HSC : Hid (∀ k, k < ow.length → ofL ow tk p (k + 1) = ofL ow tk p k + if ow.getD k 0 = p then tk.getD k 0 else 0) := fun k _ => rfl
  have HLE := hide hlen
  rw [hlen] at HU ⊢
  clear hv hu hel hlen
  go_enter Tryz.func20, Tryz.ntmps20
  go_wp2_with fail
  go_loopw [7, 8] (fun s i wx => ∃ k : Nat, k ≤ ow.length ∧ s = .int .i64 (ofL ow tk p k) ∧ i = .int .i64 (k : Int) ∧ wx = w) (fun s i _ => ow.length - (intOf i).toNat)
  case atStart => exact ⟨0, Nat.zero_le _, rfl, rfl, rfl⟩
  case round =>
    obtain ⟨k, hk, rfl, rfl, rfl⟩ := hrel
    by_cases hlt : k < ow.length
    · have hki : (k : Int) < (ow.length : Int) := by omega
      have hk0 : (0 : Int) ≤ (k : Int) := by omega
      have hkt : k < tk.length := by have := HLE.out; omega
      obtain ⟨b', off, rfl, _, hcap, hcm, hc⟩ := SliceOf.at_ HS.out (by omega)
      have hcpI : (ow.length : Int) ≤ (c1 : Int) := by omega
      have hcmI : (c1 : Int) ≤ 9223372036854775807 := by unfold maxLen at hcm; omega
      have hu2 := HU.out
      rw [← HLE.out] at hu2
      obtain ⟨b2, off2, rfl, _, hcap2, hcm2, hc2⟩ := SliceOf.at_ hu2 (by omega)
      have hcpI2 : (ow.length : Int) ≤ (c2 : Int) := by have := HLE.out; omega
      have hcmI2 : (c2 : Int) ≤ 9223372036854775807 := by unfold maxLen at hcm2; omega
      have c0 := int_cell hc hlt
      have y0 := int_cell hc2 hkt
      obtain ⟨e1, e2⟩ := HEL.out k hkt
      obtain ⟨e3, e4⟩ := HBD.out k hk
      have HP := hide (HSC.out k hlt)
      rw [getD_at hlt, getD_at hkt] at HP
      obtain ⟨x, hx⟩ : ∃ x, ow[k] = x := ⟨_, rfl⟩
      obtain ⟨y, hy⟩ : ∃ x, tk[k] = x := ⟨_, rfl⟩
      rw [hx] at c0 HP
      rw [hy] at y0 HP e1 e2
      clear hx hy hc hc2 hcap hcm hcap2 hcm2 hu2
      by_cases hxp : x = p
      · subst hxp
        rw [if_pos rfl] at HP
        go_wp2_with fail
        go_roundw
        case rel => exact ⟨k + 1, by omega, by rw [HP.out], by go_num, trivial⟩
        case measure => (simp [intOf]; omega)
      · have d1 : (x == p) = false := by rw [beq_eq_false_iff_ne]; exact hxp
        rw [if_neg hxp] at HP
        go_wp2_with fail
        go_roundw
        case rel => exact ⟨k + 1, by omega, by rw [HP.out, Int.add_zero], by go_num, trivial⟩
        case measure => (simp [intOf]; omega)
    · have hk' : k = ow.length := by omega
      subst hk'
      go_wp2_with fail
      go_ret
      exact ⟨rfl, rfl⟩
section
variable {sh ow me : List Nat}
theorem getD_toI (l : List Nat) (k : Nat) : (toI l).getD k 0 = ((l.getD k 0 : Nat) : Int) := by
  by_cases h : k < l.length
  · rw [getD_at (by rw [toI_len]; exact h), toI_get h, List.getD_eq_getElem?_getD, List.getElem?_eq_getElem h]; rfl
  · rw [List.getD_eq_getElem?_getD, List.getD_eq_getElem?_getD, List.getElem?_eq_none (by rw [toI_len]; omega), List.getElem?_eq_none (by omega)]; rfl
theorem outL_getD {k : Nat} (h : k < ow.length) : (outL sh ow me).getD k 0 = outN sh ow me k := by
  have h' : k < (outL sh ow me).length := by rw [outL_len]; exact h
  rw [List.getD_eq_getElem?_getD, List.getElem?_eq_getElem h']
  exact outL_get h'
theorem ofL_parts (p : Nat) : ∀ k, k ≤ ow.length → ofL (toI ow) (toI (outL sh ow me)) (p : Int) k = ((sumN (ownN ow p k).length (sN (valL me ow p) (totN sh ow p)) : Nat) : Int)
  | 0, _ => rfl
  | k + 1, hk => by
    show ofL _ _ _ k + _ = _
    rw [ofL_parts p k (by omega), getD_toI, getD_toI, ownN_succ, outL_getD (by omega)]
    have e0 : ow.getD k 0 = owN ow k := rfl
    rw [e0]
    by_cases e : owN ow k = p
    · subst e
      rw [if_pos rfl, if_pos rfl, List.length_append]
      show _ = ((sumN _ _ + _ : Nat) : Int)
      unfold outN
      omega
    · rw [if_neg e, if_neg (by omega)]; omega
theorem ownN_nil {p : Nat} : ownN ow p ow.length = [] ↔ p ∉ ow := by
  constructor
  · intro h hm
    obtain ⟨i, hi, e⟩ := List.mem_iff_getElem.1 hm
    have : owN ow i = p := by unfold owN; rw [List.getD_eq_getElem?_getD, List.getElem?_eq_getElem hi]; exact e
    rw [← this] at h
    exact ownN_ne hi h
  · intro h
    unfold ownN
    rw [List.filter_eq_nil_iff]
    intro i hi e
    apply h
    rw [← (beq_iff_eq.1 e)]
    exact getD_mem (List.mem_range.1 hi)
/-- The partner's own, or none. -/
theorem of_tot (h : TkOk sh ow me) {p : Nat} (hp : p < sh.length) : ofL (toI ow) (toI (outL sh ow me)) (p : Int) ow.length = if ow = [] then 0 else ((totN sh ow p : Nat) : Int) := by
  rw [ofL_parts p _ (Nat.le_refl _)]
  by_cases e : ow = []
  · subst e; rfl
  · rw [if_neg e, tot_part h (List.length_pos_iff.2 e) hp]
end
theorem mem_toN {l : List Int} (h : toI (toN l) = l) (p : Nat) : (p : Int) ∈ l ↔ p ∈ toN l := by
  conv => lhs; rw [← h]
  unfold toI
  constructor
  · intro hm
    obtain ⟨x, hx, e⟩ := List.mem_map.1 hm
    have : x = p := by omega
    subst this; exact hx
  · exact fun hm => List.mem_map.2 ⟨p, hm, rfl⟩
set_option maxRecDepth 100000 in
theorem of_same {sh o1 m1 o2 m2 : List Int} (h1 : vldL sh o1 m1 = true) (h2 : vldL sh o2 m2 = true) (hin : ∀ p : Nat, p < sh.length → decide ((p : Int) ∈ o1) = decide ((p : Int) ∈ o2)) {p : Nat} (hp : p < sh.length) :
    ofL o1 (tkL sh o1 m1) (p : Int) o1.length = ofL o2 (tkL sh o2 m2) (p : Int) o2.length := by
  obtain ⟨k1, e0, e1, e2⟩ := vld_ok h1
  obtain ⟨k2, _, e3, e4⟩ := vld_ok h2
  have hp' : p < (toN sh).length := by rw [toN_len]; exact hp
  have a1 := of_tot k1 hp'
  have a2 := of_tot k2 hp'
  rw [e1, toN_len] at a1
  rw [e3, toN_len] at a2
  unfold tkL
  rw [if_pos h1, if_pos h2, a1, a2]
  have hin' : ∀ p : Nat, p < (toN sh).length → (p ∈ toN o1 ↔ p ∈ toN o2) := fun p hp => by
    rw [toN_len] at hp
    have := hin p hp
    rw [decide_eq_decide] at this
    rw [← mem_toN e1, ← mem_toN e3]; exact this
  have hw : wtL (toN sh) (toN o1) = wtL (toN sh) (toN o2) := by
    unfold wtL
    refine List.map_congr_left fun p hp => ?_
    unfold wtK
    have := hin' p (List.mem_range.1 hp)
    by_cases h : p ∈ toN o1
    · rw [if_neg (by rw [ownN_nil]; exact fun n => n h), if_neg (by rw [ownN_nil]; exact fun n => n (this.1 h))]
    · rw [if_pos (by rw [ownN_nil]; exact h), if_pos (by rw [ownN_nil]; exact fun n => h (this.2 n))]
  have ht : totN (toN sh) (toN o1) p = totN (toN sh) (toN o2) p := by unfold totN; rw [hw]
  have hz : toN o1 = [] ↔ toN o2 = [] := by
    constructor
    · intro h
      refine List.eq_nil_iff_forall_not_mem.2 fun x hx => ?_
      have := (hin' x (k2.ov x hx)).2 hx
      rw [h] at this; cases this
    · intro h
      refine List.eq_nil_iff_forall_not_mem.2 fun x hx => ?_
      have := (hin' x (k1.ov x hx)).1 hx
      rw [h] at this; cases this
  by_cases h : toN o1 = []
  · rw [if_pos h, if_pos (hz.1 h)]
  · rw [if_neg h, if_neg (fun n => h (hz.2 n)), ht]
set_option maxHeartbeats 8000000 in
set_option maxRecDepth 100000 in
theorem lotteryPartners (sh ow me o2 m2 : List Int) (v1 v2 v3 v4 v5 : Value) (w : World) (h1 : SliceOf vI 1 w v1 sh) (h2 : SliceOf vI 1 w v2 ow) (h3 : SliceOf vI 1 w v3 me) (h4 : SliceOf vI 1 w v4 o2) (h5 : SliceOf vI 1 w v5 m2) (hW : LawW w) :
    Calls Tryz.prog 5 #[v1, v2, v3, v4, v5] w fun e w' => e = .returned (.bool true) ∧ Below w.heap.size w w' := by
  have HH := hide (law29_head w hW)
  have HT := hide (fun (X : World) (hX : Below w.heap.size w X) n1 n2 n3 => lo_tk sh ow me v1 v2 v3 X (h1.below hX) (h2.below hX) (h3.below hX) n1 n2 n3)
  have HT5 := hide (fun (X : World) (hX : Below w.heap.size w X) n1 n2 n3 => lo_tk sh o2 m2 v1 v4 v5 X (h1.below hX) (h4.below hX) (h5.below hX) n1 n2 n3)
  have HS2 := hide h2
  have HS4 := hide h4
  obtain ⟨a1, c1, rfl⟩ := h1.shape
  obtain ⟨a2, c2, rfl⟩ := h2.shape
  obtain ⟨a3, c3, rfl⟩ := h3.shape
  obtain ⟨a4, c4, rfl⟩ := h4.shape
  obtain ⟨a5, c5, rfl⟩ := h5.shape
  obtain ⟨p, hp⟩ : ∃ p, fewL sh.length ow.length me.length = p := ⟨_, rfl⟩
  have HF := hide (fun X => ref29_few sh.length ow.length me.length a1 a2 a3 c1 c2 c3 p hp X)
  obtain ⟨q, hq⟩ : ∃ p, fewL 0 o2.length m2.length = p := ⟨_, rfl⟩
  have HG := hide (fun X => ref29_few 0 o2.length m2.length none a4 a5 0 c4 c5 q hq X)
  clear h1 h2 h3 h4 h5 hW
  cases p with
  | false =>
    clear hp hq
    go_enter Tryz.func5, Tryz.ntmps5
    go_wp2_with fail
    refine HH.out.mono ?_
    rintro e w1 ⟨rfl, hb⟩
    have HB1 := hide hb
    clear hb
    go_wp2_with fail
    refine (HF.out _).mono ?_
    rintro e w2 ⟨rfl, rfl⟩
    go_wp2_with fail
    go_ret
    exact ⟨rfl, HB1.out⟩
  | true =>
    cases q with
    | false =>
      clear hp hq
      go_enter Tryz.func5, Tryz.ntmps5
      go_wp2_with fail
      refine HH.out.mono ?_
      rintro e w1 ⟨rfl, hb⟩
      have HB1 := hide hb
      clear hb
      go_wp2_with fail
      refine (HF.out _).mono ?_
      rintro e w2 ⟨rfl, rfl⟩
      go_wp2_with fail
      refine (HG.out _).mono ?_
      rintro e w2 ⟨rfl, rfl⟩
      go_wp2_with fail
      go_ret
      exact ⟨rfl, HB1.out⟩
    | true =>
      obtain ⟨q1, q2, q3⟩ := few_le hp
      obtain ⟨_, q4, q5⟩ := few_le hq
      have HT2 := hide (fun X hX => HT.out X hX (by omega) (by omega) (by omega))
      have HT6 := hide (fun X hX => HT5.out X hX (by omega) (by omega) (by omega))
      clear HT HT5 hp hq
      obtain ⟨E1, hE1⟩ : ∃ e, tkE sh ow me = e := ⟨_, rfl⟩
      obtain ⟨E2, hE2⟩ : ∃ e, tkE sh o2 m2 = e := ⟨_, rfl⟩
      obtain ⟨l, hl⟩ : ∃ l, tkL sh ow me = l := ⟨_, rfl⟩
      obtain ⟨m, hm⟩ : ∃ l, tkL sh o2 m2 = l := ⟨_, rfl⟩
      have HV1 : Hid (vldL sh ow me = true → l.length = ow.length ∧ ∀ x ∈ l, 0 ≤ x ∧ x ≤ 720) := fun h => by have := tkL_ok h; rw [hl] at this; exact ⟨this.1, this.2.1⟩
      have HV2 : Hid (vldL sh o2 m2 = true → m.length = o2.length ∧ ∀ x ∈ m, 0 ≤ x ∧ x ≤ 720) := fun h => by have := tkL_ok h; rw [hm] at this; exact ⟨this.1, this.2.1⟩
      have HSAME : Hid (vldL sh ow me = true → vldL sh o2 m2 = true → (∀ p : Nat, p < sh.length → decide ((p : Int) ∈ ow) = decide ((p : Int) ∈ o2)) → ∀ p, p < sh.length → ofL ow l (p : Int) ow.length = ofL o2 m (p : Int) o2.length) := fun h1 h2 h3 p hp => by rw [← hl, ← hm]; exact of_same h1 h2 h3 hp
      rw [hE1, hl] at HT2
      rw [hE2, hm] at HT6
      have HE1 : Hid ((vldL sh ow me = true ∧ E1 = 0) ∨ E1 = 1) := by
        show _ ∨ _
        rw [← hE1]; unfold tkE
        rcases Bool.eq_false_or_eq_true (vldL sh ow me) with h | h
        · left; rw [h]; exact ⟨rfl, rfl⟩
        · right; rw [h]; rfl
      have HE2 : Hid ((vldL sh o2 m2 = true ∧ E2 = 0) ∨ E2 = 1) := by
        show _ ∨ _
        rw [← hE2]; unfold tkE
        rcases Bool.eq_false_or_eq_true (vldL sh o2 m2) with h | h
        · left; rw [h]; exact ⟨rfl, rfl⟩
        · right; rw [h]; rfl
      clear hl hm hE1 hE2
      go_enter Tryz.func5, Tryz.ntmps5
      go_wp2_with fail
      refine HH.out.mono ?_
      rintro e w1 ⟨rfl, hb⟩
      have HB1 := hide hb
      clear hb
      go_wp2_with fail
      refine (HF.out _).mono ?_
      rintro e w2 ⟨rfl, rfl⟩
      go_wp2_with fail
      refine (HG.out _).mono ?_
      rintro e w2 ⟨rfl, rfl⟩
      go_wp2_with fail
      refine (HT2.out _ HB1.out).mono ?_
      rintro e w3 ⟨u, rfl, hs, hb⟩
      obtain ⟨uo, uc, rfl⟩ : ∃ uo uc, u = .slice uo l.length uc := hs.shape
      have HS := hide hs
      have HB3 := hide (bStepL HB1.out hb)
      clear hs hb
      go_wp2_with fail
      refine (HT6.out _ HB3.out).mono ?_
      rintro e w4 ⟨u, rfl, hs, hb⟩
      obtain ⟨vo, vc, rfl⟩ : ∃ uo uc, u = .slice uo m.length uc := hs.shape
      have HR := hide hs
      have HSb := hide (HS.out.below hb)
      have HB4 := hide (bStepL HB3.out hb)
      clear hs hb
      rcases HE1.out with ⟨hv1, rfl⟩ | rfl
      case inr =>
        clear HE1 HE2
        go_wp2_with fail
        go_ret
        exact ⟨rfl, HB4.out⟩
      rcases HE2.out with ⟨hv2, rfl⟩ | rfl
      case inr =>
        clear HE1 HE2
        go_wp2_with fail
        go_ret
        exact ⟨rfl, HB4.out⟩
      obtain ⟨t1, t2⟩ := HV1.out hv1
      obtain ⟨t3, t4⟩ := HV2.out hv2
      have HN := hide (HSAME.out hv1 hv2)
      have HI1 := hide (fun p b hb => law29_in ow p b hb _ w4 (HS2.out.below HB4.out) (by omega))
      have HI2 := hide (fun p b hb => law29_in o2 p b hb _ w4 (HS4.out.below HB4.out) (by omega))
      have HO1 := hide (fun p => law29_of ow l p _ _ w4 (HS2.out.below HB4.out) HSb.out t1 (by omega) t2)
      have HO2 := hide (fun p => law29_of o2 m p _ _ w4 (HS4.out.below HB4.out) HR.out t3 (by omega) t4)
      clear HE1 HE2 HV1 HV2 HSAME t1 t2 t3 t4 hv1 hv2 q2 q3 q4 q5
      go_wp2_with fail
      go_loopw [16] (fun i wx => ∃ k : Nat, k ≤ sh.length ∧ i = .int .i64 (k : Int) ∧ (∀ p : Nat, p < k → decide ((p : Int) ∈ ow) = decide ((p : Int) ∈ o2)) ∧ wx = w4) (fun i _ => sh.length - (intOf i).toNat)
      case atStart => exact ⟨0, Nat.zero_le _, rfl, fun j h => absurd h (Nat.not_lt_zero _), rfl⟩
      case round =>
        obtain ⟨k, hk, rfl, hall, rfl⟩ := hrel
        have HA := hide hall
        clear hall
        by_cases hlt : k < sh.length
        · have hki : (k : Int) < (sh.length : Int) := by omega
          have hk0 : (0 : Int) ≤ (k : Int) := by omega
          obtain ⟨b1, hb1⟩ : ∃ b, decide ((k : Int) ∈ ow) = b := ⟨_, rfl⟩
          obtain ⟨b2, hb2⟩ : ∃ b, decide ((k : Int) ∈ o2) = b := ⟨_, rfl⟩
          have HC1 := hide (HI1.out _ _ hb1)
          have HC2 := hide (HI2.out _ _ hb2)
          have HAk : Hid (b1 = b2 → ∀ p : Nat, p < k + 1 → decide ((p : Int) ∈ ow) = decide ((p : Int) ∈ o2)) := fun e p hp => by
            by_cases e2 : p = k
            · subst e2; rw [hb1, hb2, e]
            · exact HA.out p (by omega)
          clear hb1 hb2 HA
          go_wp2_with fail
          refine HC1.out.mono ?_
          rintro e w5 ⟨rfl, rfl⟩
          go_wp2_with fail
          refine HC2.out.mono ?_
          rintro e w5 ⟨rfl, rfl⟩
          cases b1 <;> cases b2
          case false.false =>
            have HK := hide (HAk.out rfl)
            clear HAk
            go_wp2_with fail
            go_roundw
            case rel => exact ⟨k + 1, by omega, by go_num, HK.out, trivial⟩
            case measure => (simp [intOf]; omega)
          case true.true =>
            have HK := hide (HAk.out rfl)
            clear HAk
            go_wp2_with fail
            go_roundw
            case rel => exact ⟨k + 1, by omega, by go_num, HK.out, trivial⟩
            case measure => (simp [intOf]; omega)
          case false.true =>
            clear HAk
            go_wp2_with fail
            go_ret
            exact ⟨rfl, HB4.out⟩
          case true.false =>
            clear HAk
            go_wp2_with fail
            go_ret
            exact ⟨rfl, HB4.out⟩
        · have HM := hide (HN.out (fun p hp => HA.out p (by omega)))
          have hk' : k = sh.length := by omega
          subst hk'
          clear HA HN HI1 HI2 hk hlt
          go_wp2_with fail
          go_loopw [17] (fun i wx => ∃ k : Nat, k ≤ sh.length ∧ i = .int .i64 (k : Int) ∧ wx = wr) (fun i _ => sh.length - (intOf i).toNat)
          case atStart => exact ⟨0, Nat.zero_le _, rfl, rfl⟩
          case round =>
            obtain ⟨k, hk, rfl, rfl⟩ := hrel
            by_cases hlt : k < sh.length
            · have hki : (k : Int) < (sh.length : Int) := by omega
              have hk0 : (0 : Int) ≤ (k : Int) := by omega
              have HC1 := hide (HO1.out (k : Int))
              have HC2 := hide (HO2.out (k : Int))
              rw [← HM.out k hlt] at HC2
              obtain ⟨x, hx⟩ : ∃ x, ofL ow l (k : Int) ow.length = x := ⟨_, rfl⟩
              rw [hx] at HC1 HC2
              clear hx
              go_wp2_with fail
              refine HC1.out.mono ?_
              rintro e w5 ⟨rfl, rfl⟩
              go_wp2_with fail
              refine HC2.out.mono ?_
              rintro e w5 ⟨rfl, rfl⟩
              go_wp2_with fail
              go_roundw
              case rel => exact ⟨k + 1, by omega, by go_num, trivial⟩
              case measure => (simp [intOf]; omega)
            · have hk' : k = sh.length := by omega
              subst hk'
              go_wp2_with fail
              go_ret
              exact ⟨rfl, HB4.out⟩
end Go.Proofs.YtcgplokdklomlaaGreatDoor
