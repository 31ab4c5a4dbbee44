/- law 29: LotterySplits. -/
import Derived.Test.YtcgplokdklomlaaGreatDoorLoW
import Derived.Test.YtcgplokdklomlaaGreatDoorLoV
set_option linter.unusedVariables false
set_option linter.unusedSimpArgs false
namespace Go.Proofs.YtcgplokdklomlaaGreatDoor
open Go.RowKit

theorem lit_blk {w : World} {H : Nat} {l : List Int} {T : TypeId} (h : w.heap[H]? = some (.cells (flatV vI l).toArray T (0, 0))) (hm : l.length ≤ maxLen) : SliceOf vI 1 w (.slice (some ⟨H, 0, none⟩) l.length l.length) l := by
  refine .inr ⟨H, 0, l.length, rfl, (Array.getElem?_eq_some_iff.1 h).1, Nat.le_refl _, hm, fun i hi j u hu => ?_⟩
  have hj : j < 1 := by
    have := (List.getElem?_eq_some_iff.1 hu).1
    rw [vI_len] at this; exact this
  have e := flatV_get vI_len l i hi j hj
  rw [hu] at e
  have := news_block h (i * 1 + j) u (by simpa using e)
  rw [addr_add] at this
  rw [← Nat.add_assoc] at this
  exact this
theorem lit_blk1 {w : World} {H : Nat} {x : Int} {T : TypeId} (h : w.heap[H]? = some (.cells #[.int .i64 x] T (0, 0))) : SliceOf vI 1 w (.slice (some ⟨H, 0, none⟩) 1 1) [x] := lit_blk (l := [x]) h (by show 1 ≤ maxLen; decide)
theorem lit_blk2 {w : World} {H : Nat} {x y : Int} {T : TypeId} (h : w.heap[H]? = some (.cells #[.int .i64 x, .int .i64 y] T (0, 0))) : SliceOf vI 1 w (.slice (some ⟨H, 0, none⟩) 2 2) [x, y] := lit_blk (l := [x, y]) h (by show 2 ≤ maxLen; decide)
theorem slice_take {w : World} {b off c : Nat} {l : List Int} {k : Nat} (h : SliceOf vI 1 w (.slice (some ⟨b, off, none⟩) l.length c) l) (hk : k ≤ l.length) : SliceOf vI 1 w (.slice (some ⟨b, off, none⟩) k c) (l.take k) := SliceOf.take h k hk
theorem slice_drop {w : World} {b off c : Nat} {l : List Int} {k : Nat} (h : SliceOf vI 1 w (.slice (some ⟨b, off, none⟩) l.length c) l) (hk : k ≤ l.length) : SliceOf vI 1 w (.slice (if c = k then some ⟨b, off, none⟩ else some ⟨b, off + k, none⟩) (l.length - k) (c - k)) (l.drop k) := by
  have hlen : (l.drop k).length = l.length - k := List.length_drop ..
  by_cases hd : l.length = k
  · subst hd
    have e : l.drop l.length = [] := List.drop_length
    rw [e, Nat.sub_self]
    rcases h with ⟨ao, e1, e2⟩ | ⟨b', off', cap', e1, hb, h1, h2, hc⟩
    · subst e2
      simp only [Value.slice.injEq] at e1
      obtain ⟨-, -, rfl⟩ := e1
      exact .inl ⟨_, rfl, rfl⟩
    · simp only [Value.slice.injEq, Option.some.injEq, Addr.mk.injEq, and_true] at e1
      obtain ⟨⟨rfl, rfl⟩, -, rfl⟩ := e1
      by_cases hck : c = l.length
      · subst hck; rw [if_pos rfl, Nat.sub_self]; exact .inl ⟨_, rfl, rfl⟩
      · rw [if_neg hck]
        exact .inr ⟨b, _, _, rfl, hb, by simp, by omega, fun i hi => absurd hi (by simp)⟩
  · rcases h with ⟨ao, e1, e2⟩ | ⟨b', off', cap', e1, hb, h1, h2, hc⟩
    · subst e2; simp at hk hd; omega
    · simp only [Value.slice.injEq, Option.some.injEq, Addr.mk.injEq, and_true] at e1
      obtain ⟨⟨rfl, rfl⟩, -, rfl⟩ := e1
      rw [if_neg (by omega)]
      refine .inr ⟨b, _, _, by rw [hlen], hb, by rw [hlen]; omega, by omega, fun i hi j u hu => ?_⟩
      rw [List.getElem_drop] at hu
      have := hc (k + i) (by omega) j u hu
      rw [show off + k + i * 1 + j = off + (k + i) * 1 + j by omega]
      exact this
theorem own_nil0 {w : World} {B X : Nat} (h : B ≤ X) (h2 : X < w.heap.size) : OwnS w B 1 (.slice (some ⟨X, 0, none⟩) 0 0) 0 (flatV vI []) := ⟨by simp [flatV], .inl ⟨some ⟨X, 0, none⟩, rfl, rfl, fun a ha => by
    obtain rfl : (⟨X, 0, none⟩ : Addr) = a := by simpa using ha
    exact ⟨h, h2⟩⟩⟩
/-- append of a slice of ints, in a region that draws its order. -/
theorem step_apI {ops : Array Oper} {o : Oper} {a : Act} {w : World} {K : Act → World → Prop} {Q : Exit → Act → World → Prop} {E : Prop} (hgd : o.guard = none) (s x : Operand)
    (ho : o.op = .call { callee := .builtin .append, args := #[s, x], argTypes := #[22, 22] })
    (B : Nat) (xl l : List Int) (n m : Nat) (hn : n + l.length = m) (v : Value) (hs : a.eval s = v) (hown : OwnS w B 1 v n (flatV vI xl)) (vx : Value) (hxe : a.eval x = vx) (hx : SliceOf vI 1 w vx l)
    (h63 : m ≤ 1000) (hbase : B ≤ w.heap.size)
    (h : ∀ ao cap w', OwnS w' B 1 (.slice ao m cap) m (flatV vI (xl ++ l)) → w.grownBy w' v.ownBlock → Below B w w' → K (a.put o.dst (.slice ao m cap)) w') :
    if Region.wanted o (yielded ops a.tmps) = true then Oper.wp Tryz.prog o a w K Q else E := by
  subst hn
  obtain ⟨i0, hi, hz0', hz1, hz2⟩ := info_parts Tryz.infoInt3
  refine step_append_slice hgd s x 22 ho B 3 i0 (.int .i64 0) 1 8 Tryz.underlying22 hi hz0' hz1 hz2 rfl (by decide) vI_len vI_one v n (flatV vI xl) hs hown vx l hxe hx (by unfold maxLen; omega) (by omega) hbase ?_
  intro ao cap w' h1 h2
  refine h ao cap w' (by rw [flatV_append]; exact h1) h2 (below_of_grown hown h2 hbase)

theorem new_two (w : World) (o1 o2 : Obj) : ((w.alloc o1).alloc o2).heap[w.heap.size]? = some o1 := by
  show ((w.heap.push o1).push o2)[w.heap.size]? = some o1
  rw [Array.getElem?_push, if_neg (by simp), Array.getElem?_push, if_pos rfl]
theorem new_two' (w : World) (o1 o2 : Obj) : ((w.alloc o1).alloc o2).heap[w.heap.size + 1]? = some o2 := by
  show ((w.heap.push o1).push o2)[w.heap.size + 1]? = some o2
  rw [Array.getElem?_push, if_pos (by simp)]
theorem grown_lit {w w' : World} {X : Nat} (h : w.grownBy w' (Value.slice (some ⟨X, 0, none⟩) 0 0).ownBlock) : w.grownBy w' (some X) := h
theorem spl_ownM {w : World} {B : Nat} {v : Value} {me : List Int} {K : Nat} {x y : Int} (hK : K < me.length) (h : OwnS w B 1 v (me.length + 1) (flatV vI (me.take K ++ [x, y] ++ me.drop (K + 1)))) : SliceOf vI 1 w v (splM me K x y) := by
  refine OwnS.slice vI_len (B := B) ?_
  rw [splM_len hK]
  exact h
theorem spl_own {w : World} {B : Nat} {v : Value} {ow : List Int} {K : Nat} {x : Int} (hx : ow.getD K 0 = x) (hK : K < ow.length) (h : OwnS w B 1 v (ow.length + 1) (flatV vI (ow.take (K + 1) ++ [x] ++ ow.drop (K + 1)))) : SliceOf vI 1 w v (splO ow K) := by
  refine OwnS.slice vI_len (B := B) ?_
  rw [splO_len hK]
  unfold splO
  rw [hx]
  exact h
set_option maxHeartbeats 8000000 in
set_option maxRecDepth 100000 in
theorem lotterySplits (sh ow me : List Int) (wh one two : Int) (v1 v2 v3 : Value) (w : World) (h1 : SliceOf vI 1 w v1 sh) (h2 : SliceOf vI 1 w v2 ow) (h3 : SliceOf vI 1 w v3 me) (wh0 : 0 ≤ wh) (wh1 : wh < 256) (b0 : 0 ≤ one) (b1 : one < 65536) (r0 : 0 ≤ two) (r1 : two < 65536) (hW : LawW w) :
    Calls Tryz.prog 6 #[v1, v2, v3, .int .u8 wh, .int .u16 one, .int .u16 two] w fun e w' => e = .returned (.bool true) ∧ Below w.heap.size w w' := by
  have HH := hide (law29_head w hW)
  have HT := hide (fun (X : World) (hX : Below w.heap.size w X) n1 n2 n3 => lo_tk sh ow me v1 v2 v3 X (h1.below hX) (h2.below hX) (h3.below hX) n1 n2 n3)
  have HT5 := hide (fun (X : World) (hX : Below w.heap.size w X) o2 m2 v4 v5 h4 h5 n1 n2 n3 => lo_tk sh o2 m2 v1 v4 v5 X (h1.below hX) h4 h5 n1 n2 n3)
  have HS2 := hide h2
  have HS3 := hide h3
  obtain ⟨a1, c1, rfl⟩ := h1.shape
  obtain ⟨a2, c2, rfl⟩ := h2.shape
  obtain ⟨a3, c3, rfl⟩ := h3.shape
  obtain ⟨p, hp⟩ : ∃ p, fewL sh.length ow.length me.length = p := ⟨_, rfl⟩
  have HF := hide (fun X => ref29_few sh.length ow.length me.length a1 a2 a3 c1 c2 c3 p hp X)
  clear h1 h2 h3 hW
  cases p with
  | false =>
    clear hp
    go_enter Tryz.func6, Tryz.ntmps6
    go_wp2_with fail
    refine HH.out.mono ?_
    rintro e w1 ⟨rfl, hb⟩
    have HB1 := hide hb
    clear hb
    go_wp2_with fail
    refine (HF.out _).mono ?_
    rintro e w2 ⟨rfl, rfl⟩
    go_wp2_with fail
    go_ret
    exact ⟨rfl, HB1.out⟩
  | true =>
    obtain ⟨q1, q2, q3⟩ := few_le hp
    have HT2 := hide (fun X hX => HT.out X hX (by omega) (by omega) (by omega))
    clear HT hp
    by_cases hz : ow = []
    · subst hz
      clear HT2 HT5
      go_enter Tryz.func6, Tryz.ntmps6
      go_wp2_with fail
      refine HH.out.mono ?_
      rintro e w1 ⟨rfl, hb⟩
      have HB1 := hide hb
      clear hb
      go_wp2_with fail
      refine (HF.out _).mono ?_
      rintro e w2 ⟨rfl, rfl⟩
      go_wp2_with fail
      go_ret
      exact ⟨rfl, HB1.out⟩
    have hz0 : 0 < ow.length := List.length_pos_iff.2 hz
    have hzI : ((ow.length : Int) == 0) = false := by rw [beq_eq_false_iff_ne]; omega
    have hzI2 : (ow.length == 0) = false := by rw [beq_eq_false_iff_ne]; omega
    by_cases h29 : 29 < ow.length
    · have d29 : decide ((29 : Int) < (ow.length : Int)) = true := decide_eq_true (by omega)
      clear HT2 HT5
      go_enter Tryz.func6, Tryz.ntmps6
      go_wp2_with fail
      refine HH.out.mono ?_
      rintro e w1 ⟨rfl, hb⟩
      have HB1 := hide hb
      clear hb
      go_wp2_with fail
      refine (HF.out _).mono ?_
      rintro e w2 ⟨rfl, rfl⟩
      go_wp2_with fail
      go_ret
      exact ⟨rfl, HB1.out⟩
    have d29 : decide ((29 : Int) < (ow.length : Int)) = false := decide_eq_false (by omega)
    rcases Bool.eq_false_or_eq_true (vldL sh ow me) with hv | hv
    case inr =>
      have HE1 : Hid (tkL sh ow me = []) := by show _ = _; unfold tkL; rw [hv]; rfl
      have HE2 : Hid (tkE sh ow me = 1) := by show _ = _; unfold tkE; rw [hv]; rfl
      rw [HE1.out, HE2.out] at HT2
      clear hv HE1 HE2 HT5 hz
      go_enter Tryz.func6, Tryz.ntmps6
      go_wp2_with fail
      refine HH.out.mono ?_
      rintro e w1 ⟨rfl, hb⟩
      have HB1 := hide hb
      clear hb
      go_wp2_with fail
      refine (HF.out _).mono ?_
      rintro e w2 ⟨rfl, rfl⟩
      go_wp2_with fail
      refine (HT2.out _ HB1.out).mono ?_
      rintro e w3 ⟨u, rfl, hs, hb⟩
      obtain ⟨uo, uc, rfl⟩ : ∃ uo uc, u = .slice uo 0 uc := hs.shape
      have HB3 := hide (bStepL HB1.out hb)
      clear hs hb
      go_wp2_with fail
      go_ret
      exact ⟨rfl, HB3.out⟩
    obtain ⟨t1, t2, -⟩ := tkL_ok hv
    have HE1 : Hid (tkE sh ow me = 0) := by show _ = _; unfold tkE; rw [if_pos hv]
    obtain ⟨K, hK, hKl⟩ : ∃ K : Nat, wh.tmod (ow.length : Int) = (K : Int) ∧ K < ow.length := by
      rw [Int.tmod_eq_emod_of_nonneg wh0]
      have e1 := Int.emod_nonneg wh (b := (ow.length : Int)) (by omega)
      have e2 := Int.emod_lt_of_pos wh (b := (ow.length : Int)) (by omega)
      exact ⟨(wh % (ow.length : Int)).toNat, by omega, by omega⟩
    obtain ⟨C, hC, hC1, hC2⟩ : ∃ C : Int, 1 + one % 10000 = C ∧ 1 ≤ C ∧ C ≤ 10000 := ⟨_, rfl, by omega, by omega⟩
    obtain ⟨D, hD, hD1, hD2⟩ : ∃ D : Int, 1 + two % 10000 = D ∧ 1 ≤ D ∧ D ≤ 10000 := ⟨_, rfl, by omega, by omega⟩
    have hCw : IntKind.i64.wrap (1 + (IntKind.i64.wrap one).tmod 10000) = C := by
      rw [IntWalk.i64_in one (by omega), Int.tmod_eq_emod_of_nonneg (by omega), hC]
      exact IntWalk.i64_in _ (by omega)
    have hDw : IntKind.i64.wrap (1 + (IntKind.i64.wrap two).tmod 10000) = D := by
      rw [IntWalk.i64_in two (by omega), Int.tmod_eq_emod_of_nonneg (by omega), hD]
      exact IntWalk.i64_in _ (by omega)
    obtain ⟨p1, p2, p3⟩ := vld_parts hv
    obtain ⟨v9, s9⟩ := spl_ok (a := C) (b := D) hv (by omega) hKl ⟨hC1, hC2⟩ ⟨hD1, hD2⟩
    obtain ⟨t3, t4, -⟩ := tkL_ok v9
    have HE9 : Hid (tkE sh (splO ow K) (splM me K C D) = 0) := by show _ = _; unfold tkE; rw [if_pos v9]
    rw [splO_len hKl] at t3
    have HT6 := hide (fun X hX v4 v5 h4 h5 => HT5.out X hX (splO ow K) (splM me K C D) v4 v5 h4 h5 (by omega) (by rw [splO_len hKl]; omega) (by rw [splM_len (by omega)]; omega))
    rw [HE9.out] at HT6
    obtain ⟨m, hm⟩ : ∃ m, tkL sh (splO ow K) (splM me K C D) = m := ⟨_, rfl⟩
    rw [hm] at t3 t4 HT6 s9
    obtain ⟨l, hl⟩ : ∃ l, tkL sh ow me = l := ⟨_, rfl⟩
    rw [hl] at t1 t2 HT2 s9
    rw [HE1.out] at HT2
    have d1 : ((l.length : Int) != (ow.length : Int)) = false := by rw [t1]; simp
    have d1' : (l.length != ow.length) = false := by rw [t1]; simp
    have HML := hide p1
    have HT1 := hide t1
    have HT3 := hide t3
    have HS9 := hide s9
    clear hl hm hv hz HE1 t1 t2 t3 t4 s9 p1 p2 p3 v9 HE9 HT5
    obtain ⟨b2, off2, rfl, hb2, hcp2, hcm2, hcl2⟩ := SliceOf.at_ HS2.out hz0
    obtain ⟨b3, off3, rfl, hb3, hcp3, hcm3, hcl3⟩ := SliceOf.at_ HS3.out (by have := HML.out; omega)
    have x0 := int_cell hcl2 hKl
    have HXE : Hid (ow.getD K 0 = ow[K]) := getD_at hKl
    have HCL : Hid (∀ k (hk : k < ow.length), w.cell? ⟨b2, off2 + k, none⟩ = some (.int .i64 ow[k])) := fun k hk => int_cell hcl2 hk
    obtain ⟨x, hx⟩ : ∃ x, ow[K] = x := ⟨_, rfl⟩
    rw [hx] at x0
    have HX := hide (HXE.out.trans hx)
    have HP2 := hide (slice_take (k := K + 1) HS2.out (by omega))
    have HQ2 := hide (slice_drop (k := K + 1) HS2.out (by omega))
    have HP3 := hide (slice_take (k := K) HS3.out (by have := HML.out; omega))
    have HQ3 := hide (slice_drop (k := K + 1) HS3.out (by have := HML.out; omega))
    have hK1 : IntKind.i64.wrap ((K : Int) + 1) = (K : Int) + 1 := IntWalk.i64_in _ (by omega)
    have hK0 : (0 : Int) ≤ (K : Int) := by omega
    have hK01 : (0 : Int) ≤ (K : Int) + 1 := by omega
    have hKI : (K : Int) < (ow.length : Int) := by omega
    have hKI1 : (K : Int) + 1 ≤ (ow.length : Int) := by omega
    have hKc : (K : Int) + 1 ≤ (c2 : Int) := by omega
    have hcI : (ow.length : Int) ≤ (c2 : Int) := by omega
    have hcm2 : (c2 : Int) ≤ 9223372036854775807 := by unfold maxLen at hcm2; omega
    have hcm3 : (c3 : Int) ≤ 9223372036854775807 := by unfold maxLen at hcm3; omega
    have hKm : (K : Int) ≤ (c3 : Int) := by have := HML.out; omega
    have hKm1 : (K : Int) + 1 ≤ (me.length : Int) := by have := HML.out; omega
    have hmI : (me.length : Int) ≤ (c3 : Int) := by omega
    have hsz2 : b2 < w.heap.size := hb2
    clear hx HXE hcl2 hcl3 hb3 hb2
    go_enter Tryz.func6, Tryz.ntmps6
    go_wp2_with fail
    refine HH.out.mono ?_
    rintro e w1 ⟨rfl, hb⟩
    have HB1 := hide hb
    clear hb
    go_wp2_with fail
    refine (HF.out _).mono ?_
    rintro e w2 ⟨rfl, rfl⟩
    go_wp2_with fail
    refine (HT2.out _ HB1.out).mono ?_
    rintro e w3 ⟨u, rfl, hs, hb⟩
    obtain ⟨uo, uc, rfl⟩ : ∃ uo uc, u = .slice uo l.length uc := hs.shape
    have HS := hide hs
    have HB3 := hide (bStepL HB1.out hb)
    clear hs hb
    replace x0 := keep_cell HB3.out x0
    have HX0 : Hid (∀ W, Below w3.heap.size w3 W → W.cell? ⟨b2, off2 + K, none⟩ = some (.int .i64 x)) := fun W hW => keep_cell hW x0
    have HP2 := hide (HP2.out.below HB3.out)
    have HQ2 := hide (HQ2.out.below HB3.out)
    go_wp2_with fail
    go_region_held3 (fun w' => w'.cell? ⟨b2, off2 + K, none⟩ = some (.int .i64 x))
      (first | exact HX0.out _ HF.out.2 | exact HX0.out _ HB5.out | exact HX0.out _ HB4.out | exact HX0.out _ (bAlloc HB4.out _) | exact HX0.out _ (bAlloc (bDraw (Below.refl _ w3)) _) | exact HX0.out _ (bAlloc (bAlloc (bDraw (Below.refl _ w3)) _) _) | go_keep)
      (first
        | (refine step_apI rfl _ _ rfl w3.heap.size (ow.take (K + 1)) [x] (K + 1) (K + 2) rfl _ rfl (by first | exact HO4.out | exact HO4.out.alloc _) _ rfl (lit_blk1 (by first | exact new_block _ _ | (refine (HG4.out.block _ (by simp <;> omega) (by simp <;> omega)).trans ?_; first | exact new_two' _ _ _ | exact new_two _ _ _))) (by omega) (by first | exact HB4.out.size | exact (bAlloc HB4.out _).size) ?_; intro ao5 cap5 w5 ho5 hg5 hb5; have HO5 := hide ho5; have HB5 : Hid (Below w3.heap.size w3 w5) := (by first | exact HB4.out.trans hb5 | exact (bAlloc HB4.out _).trans hb5); clear ho5 hg5 hb5 HG4)
        | (refine step_apI rfl _ _ rfl w3.heap.size [] (ow.take (K + 1)) 0 (K + 1) (by rw [List.length_take]; omega) _ rfl (own_nil0 (by simp <;> omega) (by simp <;> omega)) _ rfl (HP2.out.below (by first | exact bAlloc (bDraw (Below.refl _ w3)) _ | exact bAlloc (bAlloc (bDraw (Below.refl _ w3)) _) _)) (by omega) (by simp <;> omega) ?_; intro ao4 cap4 w4 ho4 hg4 hb4; rw [List.nil_append] at ho4; have HO4 := hide ho4; have HG4 := hide (grown_lit hg4); have HB4 : Hid (Below w3.heap.size w3 w4) := (by first | exact (bAlloc (bDraw (Below.refl _ w3)) _).trans hb4 | exact (bAlloc (bAlloc (bDraw (Below.refl _ w3)) _) _).trans hb4); clear ho4 hg4 hb4)
        | (refine step_apI rfl _ _ rfl w3.heap.size (ow.take (K + 1) ++ [x]) (ow.drop (K + 1)) (K + 2) (ow.length + 1) (by rw [List.length_drop]; omega) _ rfl HO5.out _ rfl (HQ2.out.below HB5.out) (by omega) HB5.out.size ?_; intro ao6 cap6 w6 ho6 hg6 hb6; have HF : Hid (SliceOf vI 1 w6 (.slice ao6 (ow.length + 1) cap6) (splO ow K) ∧ Below w3.heap.size w3 w6) := ⟨spl_own (HX.out) hKl ho6, HB5.out.trans hb6⟩; clear ho6 hg6 hb6 HB5 HO5))
    all_goals
      have HM6 := hide HF.out.1
      have HB36 := hide HF.out.2
      have HB6 := hide (HB3.out.trans (HF.out.2.mono HB3.out.size))
      have HP3 := hide ((HP3.out.below HB3.out).below HF.out.2)
      have HQ3 := hide ((HQ3.out.below HB3.out).below HF.out.2)
      have hKme : K + 1 ≤ me.length := by have := HML.out; omega
      have x0 := keep_cell HF.out.2 x0
      have HX6 : Hid (∀ W, Below w6.heap.size w6 W → W.cell? ⟨b2, off2 + K, none⟩ = some (.int .i64 x)) := fun W hW => keep_cell hW x0
      clear HF HX0 HP2 HQ2 HB4 HO4
      generalize (ite (c2 = K + 1) (some (⟨b2, off2, none⟩ : Addr)) (some ⟨b2, off2 + (K + 1), none⟩)) = dd2
      go_wp2_with fail
      go_region_held3 (fun w' => w'.cell? ⟨b2, off2 + K, none⟩ = some (.int .i64 x))
        (first | exact HX6.out _ HF.out.2 | exact HX6.out _ HB5.out | exact HX6.out _ HB4.out | exact HX6.out _ (bAlloc HB4.out _) | exact HX6.out _ (bAlloc (bDraw (Below.refl _ w6)) _) | exact HX6.out _ (bAlloc (bAlloc (bDraw (Below.refl _ w6)) _) _) | go_keep)
        (first
          | (refine step_apI rfl _ _ rfl w6.heap.size [] (me.take K) 0 K (by rw [List.length_take]; omega) _ rfl (own_nil0 (by simp <;> omega) (by simp <;> omega)) _ rfl (HP3.out.below (by first | exact bAlloc (bDraw (Below.refl _ w6)) _ | exact bAlloc (bAlloc (bDraw (Below.refl _ w6)) _) _)) (by omega) (by simp <;> omega) ?_; intro ao4 cap4 w4 ho4 hg4 hb4; rw [List.nil_append] at ho4; have HO4 := hide ho4; have HG4 := hide (grown_lit hg4); have HB4 : Hid (Below w6.heap.size w6 w4) := (by first | exact (bAlloc (bDraw (Below.refl _ w6)) _).trans hb4 | exact (bAlloc (bAlloc (bDraw (Below.refl _ w6)) _) _).trans hb4); clear ho4 hg4 hb4)
          | (refine step_apI rfl _ _ rfl w6.heap.size (me.take K) [_, _] K (K + 2) rfl _ rfl (by first | exact HO4.out | exact HO4.out.alloc _) _ rfl (lit_blk2 (by first | exact new_block _ _ | (refine (HG4.out.block _ (by simp <;> omega) (by simp <;> omega)).trans ?_; first | exact new_two' _ _ _ | exact new_two _ _ _))) (by omega) (by first | exact HB4.out.size | exact (bAlloc HB4.out _).size) ?_; intro ao5 cap5 w5 ho5 hg5 hb5; (try simp only [hCw, hDw] at ho5); have HO5 := hide ho5; have HB5 : Hid (Below w6.heap.size w6 w5) := (by first | exact HB4.out.trans hb5 | exact (bAlloc HB4.out _).trans hb5); clear ho5 hg5 hb5 HG4)
          | (refine step_apI rfl _ _ rfl w6.heap.size _ (me.drop (K + 1)) (K + 2) (me.length + 1) (by rw [List.length_drop]; omega) _ rfl HO5.out _ rfl (HQ3.out.below HB5.out) (by omega) HB5.out.size ?_; intro ao7 cap7 w7 ho7 hg7 hb7; have HF : Hid (SliceOf vI 1 w7 (.slice ao7 (me.length + 1) cap7) (splM me K C D) ∧ Below w6.heap.size w6 w7) := ⟨spl_ownM (by omega) ho7, HB5.out.trans hb7⟩; clear ho7 hg7 hb7 HB5 HO5))
    all_goals
      generalize (ite (c3 = K + 1) (some (⟨b3, off3, none⟩ : Addr)) (some ⟨b3, off3 + (K + 1), none⟩)) = dd3
      have HT7 := hide (HT6.out _ (HB6.out.trans (HF.out.2.mono HB6.out.size)) _ _ (HM6.out.below HF.out.2) HF.out.1)
      have HB37 := hide (HB36.out.trans (HF.out.2.mono HB36.out.size))
      have HB7 := hide (HB6.out.trans (HF.out.2.mono HB6.out.size))
      have HS7 := hide (HS.out.below HB37.out)
      clear HF HM6 HB36 HP3 HQ3 HX6 x0 HB4 HO4 HT6 HB6 HS HT2 hKme hCw hDw HS2 HS3 hKm hKm1 hmI hcm3 hcp3 hK1 hKI1 hKc hK01
      go_wp2_with fail
      refine HT7.out.mono ?_
      rintro e w8 ⟨u, rfl, hs, hb⟩
      obtain ⟨vo, vc, rfl⟩ : ∃ uo uc, u = .slice uo m.length uc := hs.shape
      have HR8 := hide hs
      have HS8 := hide (HS7.out.below hb)
      have HB8 := hide (bStepL HB7.out hb)
      clear hs hb HT7 HS7
      have hlI : (l.length : Int) ≤ 29 := by have := HT1.out; omega
      have hlm : ((m.length : Int) != (l.length : Int) + 1) = false := by rw [HT1.out, HT3.out]; simp
      have hlm' : IntKind.i64.wrap ((l.length : Int) + 1) = (l.length : Int) + 1 := IntWalk.i64_in _ (by omega)
      obtain ⟨bl, ol, rfl, hbl0, hcl1, hcl2, hcc⟩ := SliceOf.at_ HS8.out (by have := HT1.out; omega)
      obtain ⟨bm, om, rfl, hbm0, hcm1', hcm2', hcm⟩ := SliceOf.at_ HR8.out (by have := HT3.out; omega)
      have HC1 : Hid (∀ k (hk : k < l.length), w8.cell? ⟨bl, ol + k, none⟩ = some (.int .i64 l[k])) := fun k hk => int_cell hcc hk
      have HC2 : Hid (∀ k (hk : k < m.length), w8.cell? ⟨bm, om + k, none⟩ = some (.int .i64 m[k])) := fun k hk => int_cell hcm hk
      have HCO : Hid (∀ k (hk : k < ow.length), w8.cell? ⟨b2, off2 + k, none⟩ = some (.int .i64 ow[k])) := fun k hk => keep_cell HB8.out (HCL.out k hk)
      have g1 : (l.length : Int) ≤ (uc : Int) := by omega
      have g2 : (uc : Int) ≤ 9223372036854775807 := by unfold maxLen at hcl2; omega
      have g3 : (m.length : Int) ≤ (vc : Int) := by omega
      have g4 : (vc : Int) ≤ 9223372036854775807 := by unfold maxLen at hcm2'; omega
      clear hbl0 hcl1 hcl2 hcc hbm0 hcm1' hcm2' hcm HS8 HR8 HCL HB7 HB37
      go_wp2_with fail
      go_loopw [21] (fun i wx => ∃ k : Nat, k ≤ l.length ∧ i = .int .i64 (k : Int) ∧ Below w8.heap.size w8 wx) (fun i _ => l.length - (intOf i).toNat)
      case atStart => exact ⟨0, Nat.zero_le _, rfl, Below.refl _ _⟩
      case round =>
        obtain ⟨k, hk, rfl, hbl⟩ := hrel
        have HBL := hide hbl
        clear hbl
        by_cases hlt : k < l.length
        · have hko : k < ow.length := by have := HT1.out; omega
          have hki : (k : Int) < (l.length : Int) := by omega
          have hkoI : (k : Int) < (ow.length : Int) := by omega
          have hk0 : (0 : Int) ≤ (k : Int) := by omega
          have x0 := keep_cell HBL.out (HCO.out k hko)
          have y0 := keep_cell HBL.out (HCO.out K hKl)
          have z0 := keep_cell HBL.out (HC1.out k hlt)
          have HEX : Hid (ow.getD k 0 = ow[k]) := getD_at hko
          have HEY : Hid (ow.getD K 0 = ow[K]) := getD_at hKl
          have HEL : Hid (l.getD k 0 = l[k]) := getD_at hlt
          have hks : k + 1 < m.length := by have := HT1.out; have := HT3.out; omega
          have hks1 : ((k : Int) + 1) < (m.length : Int) := by omega
          have hks2 : (k : Int) < (m.length : Int) := by omega
          have hks3 : (0 : Int) ≤ (k : Int) + 1 := by omega
          have hkw : IntKind.i64.wrap ((k : Int) + 1) = (k : Int) + 1 := IntWalk.i64_in _ (by omega)
          obtain ⟨xk, hx⟩ : ∃ x, ow[k] = x := ⟨_, rfl⟩
          obtain ⟨xK, hy⟩ : ∃ x, ow[K] = x := ⟨_, rfl⟩
          obtain ⟨t, ht⟩ : ∃ x, l[k] = x := ⟨_, rfl⟩
          rw [hx] at x0 HEX
          rw [hy] at y0 HEY
          rw [ht] at z0 HEL
          clear hx hy ht
          by_cases hgt : K < k
          · have dg : decide ((K : Int) < (k : Int)) = true := decide_eq_true (by omega)
            by_cases hxy : xk = xK
            · subst hxy
              clear z0
              go_wp2_with fail
              go_quiet (fail)
              obtain ⟨w9, hw9⟩ : ∃ W, wr.drewN nq = W := ⟨_, rfl⟩
              have HB9 := hide (bStepL HBL.out (drw_below (B := wr.heap.size) hw9))
              rw [hw9]
              clear hw9 x0 y0
              go_wp2_with fail
              go_roundw
              case rel => exact ⟨k + 1, by omega, by go_num, HB9.out⟩
              case measure => (simp [intOf]; omega)
            · have d4 : (xk != xK) = true := by rw [bne_iff_ne]; exact hxy
              have d5 : (xk == xK) = false := by rw [beq_eq_false_iff_ne]; exact hxy
              have hs := HS9.out k hko (by rw [HEX.out, HEY.out]; exact hxy)
              unfold sft at hs
              rw [if_pos hgt, HEL.out, getD_at hks] at hs
              have m0 := keep_cell HBL.out (HC2.out (k + 1) hks)
              rw [hs] at m0
              clear hs
              go_wp2_with fail
              go_quiet (fail)
              obtain ⟨w9, hw9⟩ : ∃ W, wr.drewN nq = W := ⟨_, rfl⟩
              have HB9 := hide (bStepL HBL.out (drw_below (B := wr.heap.size) hw9))
              rw [hw9]
              clear hw9 x0 y0 z0 m0
              go_wp2_with fail
              go_roundw
              case rel => exact ⟨k + 1, by omega, by go_num, HB9.out⟩
              case measure => (simp [intOf]; omega)
          · have dg : decide ((K : Int) < (k : Int)) = false := decide_eq_false (by omega)
            by_cases hxy : xk = xK
            · subst hxy
              clear z0
              go_wp2_with fail
              go_quiet (fail)
              obtain ⟨w9, hw9⟩ : ∃ W, wr.drewN nq = W := ⟨_, rfl⟩
              have HB9 := hide (bStepL HBL.out (drw_below (B := wr.heap.size) hw9))
              rw [hw9]
              clear hw9 x0 y0
              go_wp2_with fail
              go_roundw
              case rel => exact ⟨k + 1, by omega, by go_num, HB9.out⟩
              case measure => (simp [intOf]; omega)
            · have d4 : (xk != xK) = true := by rw [bne_iff_ne]; exact hxy
              have d5 : (xk == xK) = false := by rw [beq_eq_false_iff_ne]; exact hxy
              have hs := HS9.out k hko (by rw [HEX.out, HEY.out]; exact hxy)
              unfold sft at hs
              rw [if_neg hgt, HEL.out, getD_at (by omega)] at hs
              have m0 := keep_cell HBL.out (HC2.out k (by omega))
              rw [hs] at m0
              clear hs
              go_wp2_with fail
              go_quiet (fail)
              obtain ⟨w9, hw9⟩ : ∃ W, wr.drewN nq = W := ⟨_, rfl⟩
              have HB9 := hide (bStepL HBL.out (drw_below (B := wr.heap.size) hw9))
              rw [hw9]
              clear hw9 x0 y0 z0 m0
              go_wp2_with fail
              go_roundw
              case rel => exact ⟨k + 1, by omega, by go_num, HB9.out⟩
              case measure => (simp [intOf]; omega)
        · have hk' : k = l.length := by omega
          subst hk'
          have HBZ := hide (bStepL HB8.out HBL.out)
          go_wp2_with fail
          go_ret
          exact ⟨rfl, HBZ.out⟩
end Go.Proofs.YtcgplokdklomlaaGreatDoor
