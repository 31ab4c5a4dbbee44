/- The laws of layer 6: FieldValues. -/
import Derived.Test.YtahlhiiekgnmpabFldT
namespace Go.Proofs.Ytahlhiiekgnmpab
open Go.RowKit

theorem Try.infoInt : (Try.prog.info? 3).map (fun i => (i.zero, i.size, i.bytes)) = some (some (.int .i64 0), 1, 8) := by kernel_rfl
theorem vF_len (x : FP) : (vF x).length = 1 := rfl

theorem vF_one (x : FP) : ∀ u ∈ vF x, u.oneCell' = true := by
  intro u hu
  simp [vF] at hu
  rw [hu]; rfl
theorem evalP_zero : ∀ cs : List FP, evalP cs 0 = cs.getD 0 0
  | [] => rfl
  | c :: cs => by show c + 0 * evalP cs 0 = c; grind
theorem fld_eval_ok0 (cs : List FP) (v : Value) (w : World) (h : SliceOf vI 1 w v (cs.map va)) (hl : cs.length ≤ 16) :
    Calls Try.prog 20 #[v, .int .i64 0] w fun e w' => e = .returned (.tuple #[.int .i64 (va (cs.getD 0 0)), .int .i64 0]) ∧ w = w' := by
  have h1 := fld_eval_ok cs 0 v w h hl
  rw [va_zero, evalP_zero] at h1
  exact h1
/-- A slice that the call has made of a list and a 0. -/
theorem snoc_slice {w : World} {B : Nat} {v : Value} {n : Nat} {cs : List FP} (hn : cs.length = n) (h : OwnS w B 1 v (n + 1) (flatV vF cs ++ (#[Value.int .i64 0] : Array Value).toList)) : SliceOf vI 1 w v ((cs ++ [0]).map va) := by
  refine slice_av (OwnS.slice vF_len (B := B) ?_)
  have e : flatV vF (cs ++ [0]) = flatV vF cs ++ (#[Value.int .i64 0] : Array Value).toList := by
    rw [flatV_append, flatV_one]
    show flatV vF cs ++ [Value.int .i64 (va 0)] = _
    rw [va_zero]
  have e2 : (cs ++ [0]).length = n + 1 := by rw [List.length_append, hn]; rfl
  rw [e, e2]
  exact h

set_option maxHeartbeats 4000000 in
set_option maxRecDepth 100000 in
theorem fieldValues_yes (al bs : List FP) (x f : FP) (va_ vb : Value) (w : World) (ha : SliceOf vI 1 w va_ (al.map va)) (hb : SliceOf vI 1 w vb (bs.map va)) (hlen : al.length = bs.length) (hl : al.length ≤ 15) :
    Calls Try.prog 5 #[va_, vb, .int .i64 (va x), .int .i64 (va f)] w fun e w' => e = .returned (.bool true) ∧ Below w.heap.size w w' := by
  obtain ⟨i0, hi, hz0, hz1, hz2⟩ := info_parts Try.infoInt
  obtain ⟨ao, cp, rfl⟩ := (slice_va ha).shape
  obtain ⟨bo, cq, rfl⟩ := (slice_va hb).shape
  obtain ⟨n, hn⟩ : ∃ n, al.length = n := ⟨_, rfl⟩
  have hn2 : bs.length = n := by omega
  have HA := hide ha
  have HB := hide hb
  have HCA := hide (slice_va ha).at_
  have HCB := hide (slice_va hb).at_
  have HN := hide (⟨hn, hn2⟩ : _ ∧ _)
  rw [hn] at HA
  rw [hn2] at HB
  rw [hn, hn2]
  rw [hn] at hl
  have HCX : Hid (0 < n → ∃ b off b' off', ao = some ⟨b, off, none⟩ ∧ bo = some ⟨b', off', none⟩ ∧ (cp : Int) ≤ 9223372036854775807 ∧ n ≤ cp ∧ (cq : Int) ≤ 9223372036854775807 ∧ n ≤ cq ∧
      ∀ k, k < n → w.cell? ⟨b, off + k, none⟩ = some (.int .i64 (va (al.getD k 0))) ∧ w.cell? ⟨b', off' + k, none⟩ = some (.int .i64 (va (bs.getD k 0)))) := by
    intro h0
    obtain ⟨b, off, h1, _, h2, h3, h4⟩ := HCA.out (by omega)
    obtain ⟨b', off', h1', _, h2', h3', h4'⟩ := HCB.out (by omega)
    unfold maxLen at h3 h3'
    refine ⟨b, off, b', off', h1, h1', by omega, by omega, by omega, by omega, fun k hk => ⟨?_, ?_⟩⟩
    · have := f_cell h4 (k := k) (by omega)
      rw [this, List.getD_eq_getElem?_getD, List.getElem?_eq_getElem (by omega)]; rfl
    · have := f_cell h4' (k := k) (by omega)
      rw [this, List.getD_eq_getElem?_getD, List.getElem?_eq_getElem (by omega)]; rfl
  obtain ⟨S, hS⟩ : ∃ S, List.zipWith (· + ·) al bs = S := ⟨_, rfl⟩
  obtain ⟨T, hT⟩ : ∃ T, al.map (f * ·) = T := ⟨_, rfl⟩
  have HSL : Hid (S.length = n) := by show S.length = n; rw [← hS, List.length_zipWith]; omega
  have HTL : Hid (T.length = n) := by show T.length = n; rw [← hT, List.length_map]; omega
  have HSG : Hid (∀ k (hk : k < S.length), S[k] = al.getD k 0 + bs.getD k 0) := fun k hk => by
    subst hS
    have h1 : k < al.length := by have := HSL.out; omega
    have h2 : k < bs.length := by have := HSL.out; omega
    rw [List.getElem_zipWith, List.getD_eq_getElem?_getD, List.getD_eq_getElem?_getD, List.getElem?_eq_getElem h1, List.getElem?_eq_getElem h2]; rfl
  have HTG : Hid (∀ k (hk : k < T.length), T[k] = f * al.getD k 0) := fun k hk => by
    subst hT
    have h1 : k < al.length := by have := HTL.out; omega
    rw [List.getElem_map, List.getD_eq_getElem?_getD, List.getElem?_eq_getElem h1]; rfl
  have HE1 : Hid (evalP S x = evalP al x + evalP bs x) := by show evalP S x = _; rw [← hS]; exact evalP_add x al bs hlen
  have HE2 : Hid (evalP T x = f * evalP al x) := by show evalP T x = _; rw [← hT]; exact evalP_mul x f al
  have HE3 : Hid (evalP (al ++ [0]) x = evalP al x) := evalP_pad al x
  clear ha hb hn hn2 hS hT hlen HCA HCB
  have hnl : (n : Int) ≤ 15 := by omega
  go_enter Try.func5, Try.ntmps5
  go_wp2_with fail
  refine (law06_head _).mono ?_
  rintro e w1 ⟨rfl, hb1⟩
  replace HA := hide (HA.out.below hb1)
  replace HB := hide (HB.out.below hb1)
  have B := hide hb1
  clear hb1
  have hnn : ((n : Int) == (n : Int)) = true := by simp
  go_wp2_with fail
  refine (law06_in_at _ true _ _ HA.out (allF_va _)).mono ?_
  rintro e w' ⟨rfl, rfl⟩
  go_wp2_with fail
  refine (law06_in_at _ true _ _ HB.out (allF_va _)).mono ?_
  rintro e w' ⟨rfl, rfl⟩
  go_wp2_with fail
  have hs : SliceOf vI 1 (w1.alloc (.cells #[.int .i64 (va x), .int .i64 (va f)] 3)) (.slice (some ⟨w1.heap.size, 0, none⟩) 2 2) ([x, f].map va) := slice_lit vI_len w1 ([x, f].map va) 3 (by simp [maxLen])
  refine (law06_in_at _ true _ _ hs (allF_va _)).mono ?_
  rintro e w' ⟨rfl, rfl⟩
  have hb := bAlloc (Below.refl _ w1) (.cells #[.int .i64 (va x), .int .i64 (va f)] 3)
  obtain ⟨w2, hw2⟩ : ∃ w2, w1.alloc (.cells #[.int .i64 (va x), .int .i64 (va f)] 3) = w2 := ⟨_, rfl⟩
  rw [hw2] at hb ⊢
  replace HA := hide (HA.out.below hb)
  replace HB := hide (HB.out.below hb)
  replace B := hide (bstep B.out hb)
  clear hs hw2 hb
  go_wp2_with fail
  go_loopw [10, 11, 12] (fun u v i wr => ∃ k : Nat, k ≤ n ∧ i = .int .i64 k ∧ Bld2 vF 1 vF 1 w2 wr S T u v k k) (fun _ _ i _ => n - (intOf i).toNat)
  case atStart => exact ⟨0, Nat.zero_le _, rfl, Bld2.nil_at _ _ _ _ _ _ (Below.refl _ _)⟩
  case round =>
    obtain ⟨k, hk, rfl, hst⟩ := hrel
    have HST := hide hst
    clear hst
    by_cases hlt : k < n
    · obtain ⟨b, off, b', off', rfl, rfl, g1, g2, g3, g4, hc⟩ := HCX.out (by omega)
      obtain ⟨z0, z1⟩ := hc k hlt
      have HCC := hide hc
      have y0 := keep_cell HST.out.left.below (keep_cell B.out z0)
      have y1 := keep_cell HST.out.left.below (keep_cell B.out z1)
      have hki : (k : Int) < (n : Int) := by omega
      have hk0 : (0 : Int) ≤ (k : Int) := by omega
      have hkS : k < S.length := by rw [HSL.out]; exact hlt
      have hkT : k < T.length := by rw [HTL.out]; exact hlt
      have HGS := hide (HSG.out k hkS)
      have HGT := hide (HTG.out k hkT)
      have HK : Hid (∀ W, Below w2.heap.size w2 W → W.cell? ⟨b, off + k, none⟩ = some (.int .i64 (va (al.getD k 0))) ∧ W.cell? ⟨b', off' + k, none⟩ = some (.int .i64 (va (bs.getD k 0)))) := fun W hW => ⟨keep_cell hW (keep_cell B.out z0), keep_cell hW (keep_cell B.out z1)⟩
      clear hc z0 z1
      obtain ⟨p, hp⟩ : ∃ p, al.getD k 0 = p := ⟨_, rfl⟩
      obtain ⟨q, hq⟩ : ∃ q, bs.getD k 0 = q := ⟨_, rfl⟩
      rw [hp] at y0 HGS HGT HK
      rw [hq] at y1 HGS HK
      clear hp hq
      have hbytes : (k + 1) * 8 ≤ 140737488355328 := by omega
      go_wp2_with fail
      have hone : ∀ z : FP, ∀ u ∈ (#[Value.int .i64 (va z)] : Array Value).toList, u.oneCell' = true := by
        intro z u hu
        simp at hu
        rw [hu]; rfl
      have H1 := hide (hone (p + q))
      have H2 := hide (hone (f * p))
      clear hone
      go_region_held3 (fun w' => w'.cell? ⟨b, off + k, none⟩ = some (.int .i64 (va p)) ∧ w'.cell? ⟨b', off' + k, none⟩ = some (.int .i64 (va q)))
        (first | exact HK.out _ HNN.out.left.below | exact HK.out _ HBA.out | exact HK.out _ HST2.out.left.below | go_keep)
        ((first
          | (refine step_appendS rfl _ _ 30 rfl w2.heap.size 3 i0 (.int .i64 0) 1 8 Try.underlying30 hi hz0 hz1 hz2 rfl (by decide) _ k (flatV vF (S.take k)) rfl HOW.out wc.heap.size #[.int .i64 (va (p + q))] 3 1 rfl HX.out rfl H1.out hbytes (by decide) HSZ.out ?_; intro g off2 cap2 w4 hown4 hg4 hat4; have HNN := hide (HST2.out.step (bAlloc (Below.refl _ wc) _) hkS HGS.out rfl hown4 hg4 hat4); clear hown4 hg4 hat4)
          | (go_at_call 17; refine (law06_add p q _).mono ?_; rintro e wc ⟨rfl, hbc⟩; have HST2 := hide ((HST.out.keep (bDraw (Below.refl _ wr))).keep hbc); have HBA := hide (HST2.out.left.below.alloc HST2.out.left.below.size (.cells #[.int .i64 (va (p + q))] 3)); have HOW := hide (HST2.out.left.own.alloc (.cells #[.int .i64 (va (p + q))] 3)); have HSZ := hide HBA.out.size; have HX := hide (new_block wc (.cells #[.int .i64 (va (p + q))] 3)); clear hbc)))
      obtain ⟨y0', _⟩ := HK.out _ HNN.out.left.below
      clear y0 y1
      go_wp2_with fail
      refine (law06_mul f p _).mono ?_
      rintro e w5 ⟨rfl, hb5⟩
      have HST5 := hide (HNN.out.keep hb5)
      have HOW5 := hide HST5.out.right.own
      have HSZ5 := hide HST5.out.right.below.size
      clear hb5 y0' HST2 HBA HOW HSZ HX HNN HST
      go_wp2_with (at_builtin; refine wpList_appendS rfl _ _ 30 rfl w2.heap.size 3 i0 (.int .i64 0) 1 8 Try.underlying30 hi hz0 hz1 hz2 rfl (by decide) _ k (flatV vF (T.take k)) rfl HOW5.out #[.int .i64 (va (f * p))] 3 1 rfl rfl H2.out hbytes (by decide) HSZ5.out ?_)
      intro g6 off6 cap6 w6 hown6 hg6 hb6 hat6
      have HN6 := hide (HST5.out.swap.step (Below.refl _ w5) hkT HGT.out rfl hown6 hg6 hat6).swap
      clear hown6 hg6 hb6 hat6
      go_wp2_with fail
      go_roundw
      case rel => exact ⟨k + 1, by omega, by go_num, HN6.out⟩
      case measure => simp [intOf]; omega
    · have hk' : k = n := by omega
      subst hk'
      have HSs : Hid (SliceOf vI 1 wr u10 (S.map va)) := by
        have h1 := HST.out.left
        have e : k = S.length := HSL.out.symm
        rw [e] at h1
        exact slice_av (h1.to_slice vF_len)
      have HTs : Hid (SliceOf vI 1 wr u11 (T.map va)) := by
        have h1 := HST.out.right
        have e : k = T.length := HTL.out.symm
        rw [e] at h1
        exact slice_av (h1.to_slice vF_len)
      obtain ⟨so, sc, hss⟩ := (slice_va HSs.out).shape
      obtain ⟨to_, tc, hts⟩ := (slice_va HTs.out).shape
      rw [hss] at HSs ⊢
      rw [hts] at HTs ⊢
      have hb := HST.out.left.below
      replace HA := hide (HA.out.below hb)
      replace HB := hide (HB.out.below hb)
      replace B := hide (bstep B.out hb)
      clear hb HST hss hts hlt hk
      have HAL := HN.out.1
      have q1 : (va (evalP S x) == va (evalP al x + evalP bs x)) = true := beq_va HE1.out
      have q2 : (va (evalP T x) == va (f * evalP al x)) = true := beq_va HE2.out
      have q3 : (va (evalP (al ++ [0]) x) == va (evalP al x)) = true := beq_va HE3.out
      have Q1 := hide q1
      have Q2 := hide q2
      have Q3 := hide q3
      have HSL' : S.length ≤ 16 := by rw [HSL.out]; omega
      have HTL' : T.length ≤ 16 := by rw [HTL.out]; omega
      have HAL' : al.length ≤ 16 := by omega
      have HBL' : bs.length ≤ 16 := by have := HN.out.2; omega
      have HL5 := hide (And.intro HSL' (And.intro HTL' (And.intro HAL' HBL')))
      have HALh := hide HAL
      clear q1 q2 q3 HSL' HTL' HAL' HBL' HAL
      go_wp2_with fail
      refine (fld_eval_ok al x _ _ HA.out HL5.out.2.2.1).mono ?_
      rintro e w' ⟨rfl, rfl⟩
      go_wp2_with fail
      refine (fld_eval_ok bs x _ _ HB.out HL5.out.2.2.2).mono ?_
      rintro e w' ⟨rfl, rfl⟩
      go_wp2_with fail
      refine (fld_eval_ok S x _ _ HSs.out HL5.out.1).mono ?_
      rintro e w' ⟨rfl, rfl⟩
      go_wp2_with fail
      refine (fld_eval_ok T x _ _ HTs.out HL5.out.2.1).mono ?_
      rintro e w' ⟨rfl, rfl⟩
      have HO0 := hide (OwnS.lit_nil wr 1 3)
      have HA0 := hide (slice_va (HA.out.below (bAlloc (Below.refl _ wr) (.cells #[] 3))))
      have hbs : (0 + al.length) * 8 ≤ 140737488355328 := by have := HL5.out.2.2.1; omega
      have hmx : 0 + al.length ≤ maxLen := by have := HL5.out.2.2.1; unfold maxLen; omega
      have HBS := hide hbs
      have HMX := hide hmx
      have HSZ0 : Hid (wr.heap.size ≤ (wr.alloc (.cells #[] 3)).heap.size) := by show _ ≤ _; simp
      clear hbs hmx
      go_wp2_with (at_builtin; refine wpList_append_slice (by rfl) _ _ 30 rfl wr.heap.size 3 i0 (.int .i64 0) 1 8 Try.underlying30 hi hz0 hz1 hz2 rfl (by decide) vF_len vF_one _ 0 [] rfl HO0.out _ al rfl HA0.out HMX.out HBS.out HSZ0.out ?_)
      intro ao3 cap3 w3 hown3 hg3 hb3
      rw [HALh.out] at hown3 ⊢
      have HO3 := hide hown3
      have HB3 := hide hb3
      have hbs : (k + 1) * 8 ≤ 140737488355328 := by omega
      have HSZ3 : Hid (wr.heap.size ≤ w3.heap.size) := by
        show _ ≤ _
        have := HB3.out.size
        simp at this
        omega
      have H0c : Hid (∀ u ∈ (#[Value.int .i64 0] : Array Value).toList, u.oneCell' = true) := by
        intro u hu
        simp at hu
        rw [hu]; rfl
      clear hown3 hb3 hg3
      go_wp2_with (at_builtin; refine wpList_appendS rfl _ _ 30 rfl wr.heap.size 3 i0 (.int .i64 0) 1 8 Try.underlying30 hi hz0 hz1 hz2 rfl (by decide) _ k (flatV vF al) rfl HO3.out #[.int .i64 0] 3 1 rfl rfl H0c.out hbs (by decide) HSZ3.out ?_)
      intro g4 off4 cap4 w4 hown4 hg4 hb4 hat4
      have HV := hide (snoc_slice HALh.out hown4)
      have hb2 : Below wr.heap.size wr w4 := ((bAlloc (Below.refl _ wr) (.cells #[] 3)).trans HB3.out).trans hb4
      replace HA := hide (HA.out.below hb2)
      replace B := hide (bstep B.out hb2)
      clear hown4 hg4 hb4 hat4 hb2
      go_wp2_with fail
      refine (fld_eval_ok (al ++ [0]) x _ _ HV.out (by rw [List.length_append, HALh.out]; simp; omega)).mono ?_
      rintro e w' ⟨rfl, rfl⟩
      go_wp2_with fail
      refine (fld_eval_ok0 al _ _ HA.out HL5.out.2.2.1).mono ?_
      rintro e w' ⟨rfl, rfl⟩
      have q1 := Q1.out
      have q2 := Q2.out
      have q3 := Q3.out
      by_cases h0 : 0 < k
      · obtain ⟨b, off, b', off', rfl, rfl, g1, g2, g3, g4, hc⟩ := HCX.out h0
        have z0 := keep_cell B.out (hc 0 h0).1
        simp only [Nat.add_zero] at z0
        have hk0 : (0 : Int) < (k : Int) := by omega
        clear hc HCX
        go_wp2_with fail
        refine (law06_add (evalP al x) (evalP bs x) _).mono ?_
        rintro e w5 ⟨rfl, hb5⟩
        replace B := hide (bstep B.out hb5)
        clear hb5 z0
        go_wp2_with fail
        refine (law06_mul f (evalP al x) _).mono ?_
        rintro e w6 ⟨rfl, hb6⟩
        replace B := hide (bstep B.out hb6)
        clear hb6
        go_wp2_with fail
        go_ret
        exact ⟨rfl, B.out⟩
      · have hk0 : k = 0 := by omega
        have hz : va (al.getD 0 0) = 0 := by
          have : al = [] := List.eq_nil_of_length_eq_zero (by rw [HALh.out, hk0])
          rw [this]; exact va_zero
        rw [hz]
        subst hk0
        clear hz h0
        go_wp2_with fail
        refine (law06_add (evalP al x) (evalP bs x) _).mono ?_
        rintro e w5 ⟨rfl, hb5⟩
        replace B := hide (bstep B.out hb5)
        clear hb5
        go_wp2_with fail
        refine (law06_mul f (evalP al x) _).mono ?_
        rintro e w6 ⟨rfl, hb6⟩
        replace B := hide (bstep B.out hb6)
        clear hb6
        go_wp2_with fail
        go_ret
        exact ⟨rfl, B.out⟩

set_option maxHeartbeats 2000000 in
set_option maxRecDepth 100000 in
theorem fieldValues_no (as_ bs : List Int) (x f : Int) (va_ vb : Value) (w : World) (ha : SliceOf vI 1 w va_ as_) (hb : SliceOf vI 1 w vb bs) (p1 p2 p3 : Bool) (q1 : allF as_ = p1) (q2 : allF bs = p2) (q3 : allF [x, f] = p3)
    (g1 : (as_.length : Int) = (bs.length : Int)) (g2 : (as_.length : Int) ≤ 15) (h : p1 = false ∨ (p1 = true ∧ p2 = false) ∨ (p1 = true ∧ p2 = true ∧ p3 = false)) :
    Calls Try.prog 5 #[va_, vb, .int .i64 x, .int .i64 f] w fun e w' => e = .returned (.bool true) ∧ Below w.heap.size w w' := by
  obtain ⟨ao, cp, rfl⟩ := ha.shape
  obtain ⟨bo, cq, rfl⟩ := hb.shape
  have hne : ((as_.length : Int) == (bs.length : Int)) = true := by rw [g1]; simp
  have hne2 : ((as_.length : Int) != (bs.length : Int)) = false := by rw [g1]; simp
  have HA := hide ha
  have HB := hide hb
  have Q1 := hide q1
  have Q2 := hide q2
  have Q3 := hide q3
  clear ha hb q1 q2 q3 g1
  rcases h with rfl | ⟨rfl, rfl⟩ | ⟨rfl, rfl, rfl⟩
  · go_enter Try.func5, Try.ntmps5
    go_wp2_with fail
    refine (law06_head _).mono ?_
    rintro e w1 ⟨rfl, hb⟩
    replace HA := hide (HA.out.below hb)
    have B := hide hb
    clear hb
    go_wp2_with fail
    refine (law06_in_at _ _ _ _ HA.out Q1.out).mono ?_
    rintro e w' ⟨rfl, rfl⟩
    go_wp2_with fail
    go_ret
    exact ⟨rfl, B.out⟩
  · go_enter Try.func5, Try.ntmps5
    go_wp2_with fail
    refine (law06_head _).mono ?_
    rintro e w1 ⟨rfl, hb⟩
    replace HA := hide (HA.out.below hb)
    replace HB := hide (HB.out.below hb)
    have B := hide hb
    clear hb
    go_wp2_with fail
    refine (law06_in_at _ _ _ _ HA.out Q1.out).mono ?_
    rintro e w' ⟨rfl, rfl⟩
    go_wp2_with fail
    refine (law06_in_at _ _ _ _ HB.out Q2.out).mono ?_
    rintro e w' ⟨rfl, rfl⟩
    go_wp2_with fail
    go_ret
    exact ⟨rfl, B.out⟩
  · go_enter Try.func5, Try.ntmps5
    go_wp2_with fail
    refine (law06_head _).mono ?_
    rintro e w1 ⟨rfl, hb⟩
    replace HA := hide (HA.out.below hb)
    replace HB := hide (HB.out.below hb)
    have B := hide hb
    clear hb
    go_wp2_with fail
    refine (law06_in_at _ _ _ _ HA.out Q1.out).mono ?_
    rintro e w' ⟨rfl, rfl⟩
    go_wp2_with fail
    refine (law06_in_at _ _ _ _ HB.out Q2.out).mono ?_
    rintro e w' ⟨rfl, rfl⟩
    go_wp2_with fail
    refine (law06_in_at _ _ _ _ (slice_lit vI_len w1 [x, f] 3 (by simp [maxLen])) Q3.out).mono ?_
    rintro e w' ⟨rfl, rfl⟩
    go_wp2_with fail
    go_ret
    exact ⟨rfl, bAlloc B.out _⟩
set_option maxHeartbeats 2000000 in
set_option maxRecDepth 100000 in
theorem fieldValues_len (as_ bs : List Int) (x f : Int) (va_ vb : Value) (w : World) (ha : SliceOf vI 1 w va_ as_) (hb : SliceOf vI 1 w vb bs)
    (h : (as_.length : Int) ≠ (bs.length : Int) ∨ ((as_.length : Int) = (bs.length : Int) ∧ (15 : Int) < (as_.length : Int))) :
    Calls Try.prog 5 #[va_, vb, .int .i64 x, .int .i64 f] w fun e w' => e = .returned (.bool true) ∧ Below w.heap.size w w' := by
  obtain ⟨ao, cp, rfl⟩ := ha.shape
  obtain ⟨bo, cq, rfl⟩ := hb.shape
  clear ha hb
  rcases h with h | ⟨h0, h1⟩
  · have hne : ((as_.length : Int) == (bs.length : Int)) = false := beq_eq_false_iff_ne.2 h
    have hne2 : ((as_.length : Int) != (bs.length : Int)) = true := by rw [bne, hne]; rfl
    clear h
    go_enter Try.func5, Try.ntmps5
    go_wp2_with fail
    refine (law06_head _).mono ?_
    rintro e w1 ⟨rfl, hb⟩
    go_wp2_with fail
    go_ret
    exact ⟨rfl, hb⟩
  · have hne : ((as_.length : Int) == (bs.length : Int)) = true := by rw [h0]; simp
    have hne2 : ((as_.length : Int) != (bs.length : Int)) = false := by rw [h0]; simp
    clear h0
    go_enter Try.func5, Try.ntmps5
    go_wp2_with fail
    refine (law06_head _).mono ?_
    rintro e w1 ⟨rfl, hb⟩
    go_wp2_with fail
    go_ret
    exact ⟨rfl, hb⟩
theorem fieldValues_walk (as_ bs : List Int) (x f : Int) (va_ vb : Value) (w : World) (ha : SliceOf vI 1 w va_ as_) (hb : SliceOf vI 1 w vb bs) :
    Calls Try.prog 5 #[va_, vb, .int .i64 x, .int .i64 f] w fun e w' => e = .returned (.bool true) ∧ Below w.heap.size w w' := by
  by_cases g1 : (as_.length : Int) = (bs.length : Int)
  · by_cases g2 : (as_.length : Int) ≤ 15
    · rcases Bool.eq_false_or_eq_true (allF as_) with q1 | q1
      · rcases Bool.eq_false_or_eq_true (allF bs) with q2 | q2
        · rcases Bool.eq_false_or_eq_true (allF [x, f]) with q3 | q3
          · obtain ⟨af, rfl⟩ := allF_el q1
            obtain ⟨bf, rfl⟩ := allF_el q2
            have h' : inF x = true ∧ inF f = true := by simpa [allF] using q3
            obtain ⟨xf, rfl⟩ := inF_el h'.1
            obtain ⟨ff, rfl⟩ := inF_el h'.2
            rw [List.length_map] at g1 g2
            rw [List.length_map] at g1
            exact fieldValues_yes af bf xf ff va_ vb w ha hb (by omega) (by omega)
          · exact fieldValues_no as_ bs x f va_ vb w ha hb _ _ _ q1 q2 q3 g1 g2 (.inr (.inr ⟨rfl, rfl, rfl⟩))
        · exact fieldValues_no as_ bs x f va_ vb w ha hb _ _ _ q1 q2 rfl g1 g2 (.inr (.inl ⟨rfl, rfl⟩))
      · exact fieldValues_no as_ bs x f va_ vb w ha hb _ _ _ q1 rfl rfl g1 g2 (.inl rfl)
    · exact fieldValues_len as_ bs x f va_ vb w ha hb (.inr ⟨g1, by omega⟩)
  · exact fieldValues_len as_ bs x f va_ vb w ha hb (.inl g1)
end Go.Proofs.Ytahlhiiekgnmpab
