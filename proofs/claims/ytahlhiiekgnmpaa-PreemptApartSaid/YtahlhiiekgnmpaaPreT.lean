/- The statement PreemptApart. -/
import Derived.Test.YtahlhiiekgnmpaaPreR
namespace Go.Proofs.Ytahlhiiekgnmpaa
open Go.RowKit

/-- 'append(s, x...)' of a slice that is not empty, in a plain region. -/
theorem wpList_appendM {P : Program} {w0 : World} {ops : Array Oper} {rest : List Oper} {o : Oper} {a : Act} {Q : Exit → Act → World → Prop} (hw : Region.wanted o (yielded ops a.tmps) = true) (s x : Operand) (t : TypeId)
    (ho : o.op = .call { callee := .builtin .append, args := #[s, x], argTypes := #[t, t] })
    (B : Nat) (e : TypeId) (i : TypeInfo) (z : Value) (size bytes : Nat) (ht : P.underlying t = some (.slice e)) (hi : P.info? e = some i) (hz : i.zero = some z)
    (hsize : i.size = size) (hby : i.bytes = bytes) (hzs : z.cells.size = size) (hsz : 0 < size)
    (v : Value) (n : Nat) (xs : List Value) (hs : a.eval s = v) (hown : OwnS w0 B size v n xs)
    (ad : Addr) (m c : Nat) (news : List Value) (hx : a.eval x = .slice (some ad) m c) (hl : news.length = m * size) (hnews : ∀ j u, news[j]? = some u → w0.cell? (ad.add j) = some u) (h1 : ∀ u ∈ news, u.oneCell' = true)
    (hm : 0 < m) (hbytes : (n + m) * bytes ≤ 140737488355328) (hb0 : 0 < bytes) (hbase : B ≤ w0.heap.size)
    (h : ∀ g off cap w', OwnS w' B size (.slice (some ⟨g, off, none⟩) (n + m) cap) (n + m) (xs ++ news) → w0.grownBy w' v.ownBlock → Below B w0 w' → (v.ownBlock = some g ∨ w0.heap.size ≤ g) → wpList P ops Q rest (a.put o.dst (.slice (some ⟨g, off, none⟩) (n + m) cap)) w') : wpList P ops Q (o :: rest) a w0 := by
  have hmx : n + m ≤ maxLen := by
    have h2 : (n + m) * 1 ≤ (n + m) * bytes := Nat.mul_le_mul_left _ hb0
    unfold maxLen; omega
  obtain ⟨g, off, cap, w', hrun, h2, hg, hat⟩ := run_append_S (P := P) w0 t o.type B e i z size bytes ht hi hz hsize hby hzs hsz v n xs hown ad m c news hl hnews h1 hm hmx hbytes hbase
  refine wpList_step fun K hK => ?_
  rw [if_pos hw]
  unfold Oper.wp execOp
  simp only [ho, resolve, invoke, builtin, Sem.run_bind, Sem.run_pure, Result.andThen_ok, List.map_toArray, List.map_cons, List.map_nil, hs, hx, hrun]
  exact hK _ _ (h g off cap w' h2 hg ((Below.refl B w0).grown hg hbase fun k hk => (hown.lt k hk).1) hat)
/-- What a slice that is not empty brings to an append. -/
theorem SliceOf.news {α : Type} {f : α → List Value} {size : Nat} (hf : ∀ a, (f a).length = size) (hs : 0 < size) {w : World} {v : Value} {l : List α} (h : SliceOf f size w v l) (hl : 0 < l.length) :
    ∃ b off c, v = .slice (some ⟨b, off, none⟩) l.length c ∧ (flatV f l).length = l.length * size ∧ ∀ j u, (flatV f l)[j]? = some u → w.cell? ((⟨b, off, none⟩ : Addr).add j) = some u := by
  obtain ⟨b, off, c, h1, _, _, _, hc⟩ := h.some_of_pos hl
  refine ⟨b, off, c, h1, flatV_length hf l, fun j u hu => ?_⟩
  have hj := (List.getElem?_eq_some_iff.1 hu).1
  rw [flatV_length hf] at hj
  have e : j = j / size * size + j % size := by rw [Nat.mul_comm]; exact (Nat.div_add_mod j size).symm
  have hi : j / size < l.length := (Nat.div_lt_iff_lt_mul hs).2 hj
  have hm : j % size < size := Nat.mod_lt _ hs
  rw [e, flatV_get hf l _ hi _ hm] at hu
  have := hc _ hi _ u hu
  rw [addr_add, e, ← Nat.add_assoc]
  exact this
theorem flat_one_b (l : List Bool) : ∀ u ∈ flatV vB l, u.oneCell' = true := by
  intro u hu
  obtain ⟨b, _, hb⟩ := List.mem_flatMap.1 hu
  simp [vB] at hb
  rw [hb]; rfl
theorem flat_one_ip (l : List IP) : ∀ u ∈ flatV vIP l, u.oneCell' = true := by
  intro u hu
  obtain ⟨b, _, hb⟩ := List.mem_flatMap.1 hu
  simp [vIP] at hb
  rcases hb with rfl | rfl <;> rfl
/-- An empty slice literal. -/
theorem OwnS.lit0 (w : World) (size : Nat) (T : TypeId) : OwnS (w.alloc (.cells #[] T)) w.heap.size size (.slice (some ⟨w.heap.size, 0, none⟩) 0 0) 0 [] :=
  ⟨by simp, .inl ⟨some ⟨w.heap.size, 0, none⟩, rfl, rfl, fun a ha => by
    obtain rfl : (⟨w.heap.size, 0, none⟩ : Addr) = a := by simpa using ha
    exact ⟨Nat.le_refl _, by simp⟩⟩⟩

def gapD (win : Int) (a b : List IP) : Int := imx 0 (lastAt a + win - (b.getD 0 (0, 0)).1)
theorem apart_facts {win bud : Int} {a b : List IP} (ha : runB win bud a = true) (hb : runB win bud b = true) (hb0 : 0 < b.length) (hl : a.length + b.length ≤ 200) :
    0 ≤ gapD win a b ∧ lastAt (a ++ b.map (shf (gapD win a b))) = lastAt b + gapD win a b ∧
    runB win bud (a ++ b.map (shf (gapD win a b))) = decide (lastAt b + gapD win a b ≤ 38399) ∧
    (lastAt b + gapD win a b ≤ 38399 → runV win bud (a ++ b.map (shf (gapD win a b))) = runV win bud a ++ runV win bud b) := by
  obtain ⟨hva, hlim⟩ := runB_iff.1 ha
  obtain ⟨hvb, _⟩ := runB_iff.1 hb
  obtain ⟨w0, w1, _, _⟩ := limB_bd hlim
  have h0 : 0 ≤ gapD win a b := by unfold gapD imx; omega
  have hgap := apart_gap (win := win) hva hvb hb0 (d := gapD win a b) (by unfold gapD imx; omega)
  have hval := apart_valid hva hvb hb0 h0 w0 hl hgap
  have hrun : runB win bud (a ++ b.map (shf (gapD win a b))) = decide (lastAt b + gapD win a b ≤ 38399) := by
    unfold runB
    rw [hval, hlim, Bool.and_true]
  refine ⟨h0, lastAt_append hb0, hrun, fun hle => ?_⟩
  rw [decide_eq_true hle] at hrun
  rw [runV_yes ha, runV_yes hb, runV_yes hrun]
  exact apart_out hva hvb (runB_iff.1 hrun).1 w0 w1 hgap

set_option maxHeartbeats 4000000 in
set_option maxRecDepth 100000 in
theorem apart_stop (a b : List IP) (va vb : Value) (win bud q1 q2 : Int) (w : World) (ha : SliceOf vIP 2 w va a) (hb : SliceOf vIP 2 w vb b) (la : (a.length : Int) ≤ 60) (lb : (b.length : Int) ≤ 60)
    (e1 : errC (runB win bud a) = q1) (e2 : errC (runB win bud b) = q2) (h : q1 = 1 ∨ (q1 = 0 ∧ q2 = 1) ∨ (q1 = 0 ∧ q2 = 0 ∧ a.length = 0) ∨ (q1 = 0 ∧ q2 = 0 ∧ a.length ≠ 0 ∧ b.length = 0)) :
    Calls Try.prog 11 #[va, vb, .int .i64 win, .int .i64 bud] w fun e w' => e = .returned (.bool true) ∧ Below w.heap.size w w' := by
  obtain ⟨ao, cp, rfl⟩ := ha.shape
  obtain ⟨bo, cq, rfl⟩ := hb.shape
  have HA := hide ha
  have HB := hide hb
  have E1 := hide e1
  have E2 := hide e2
  clear ha hb e1 e2
  rcases h with rfl | ⟨rfl, rfl⟩ | ⟨rfl, rfl, h0⟩ | ⟨rfl, rfl, h1, h0⟩
  all_goals
    try have h0' : ((0 : Nat) : Int) == 0 := rfl
    try have h1' : ((a.length : Int) == 0) = false := beq_eq_false_iff_ne.2 (by omega)
    go_enter Try.func11, Try.ntmps11
    try rw [h0]
    go_wp2_with fail
    refine (law40_head _).mono ?_
    rintro e w1 ⟨rfl, hb⟩
    replace HA := hide (HA.out.below hb)
    replace HB := hide (HB.out.below hb)
    have B1 := hide hb
    clear hb
    go_wp2_with fail
    refine (pre_run_at win bud a _ _ _ _ (by first | exact HA.out | (have t := HA.out; rw [h0] at t; exact t)) rfl E1.out).mono ?_
    rintro e w2 ⟨u, rfl, hu, hb⟩
    replace HB := hide (HB.out.below hb)
    replace B1 := hide (btrans B1.out B1.out.size hb)
    clear hb hu
    go_wp2_with fail
    refine (pre_run_at win bud b _ _ _ _ (by first | exact HB.out | (have t := HB.out; rw [h0] at t; exact t)) rfl E2.out).mono ?_
    rintro e w3 ⟨u', rfl, hu', hb⟩
    replace B1 := hide (btrans B1.out B1.out.size hb)
    clear hb hu'
    go_wp2_with fail
    go_ret
    exact ⟨rfl, B1.out⟩

set_option maxHeartbeats 4000000 in
set_option maxRecDepth 100000 in
theorem apart_main (a b : List IP) (va vb : Value) (win bud : Int) (w : World) (ha : SliceOf vIP 2 w va a) (hb : SliceOf vIP 2 w vb b) (la : (a.length : Int) ≤ 60) (lb : (b.length : Int) ≤ 60)
    (h1 : runB win bud a = true) (h2 : runB win bud b = true) (pa : 0 < a.length) (pb : 0 < b.length) :
    Calls Try.prog 11 #[va, vb, .int .i64 win, .int .i64 bud] w fun e w' => e = .returned (.bool true) ∧ Below w.heap.size w w' := by
  obtain ⟨j0, ji, jz0, jz1, jz2⟩ := info_parts Try.infoIP
  obtain ⟨i0, hi, hz0, hz1, hz2⟩ := info_parts Try.info4
  obtain ⟨hd0, hla, hrm, hout⟩ := apart_facts h1 h2 pb (by omega)
  obtain ⟨d, hd⟩ : ∃ d, gapD win a b = d := ⟨_, rfl⟩
  have hd' : imx 0 (lastAt a + win - (b.getD 0 (0, 0)).1) = d := hd
  rw [hd] at hd0 hla hrm hout
  clear hd
  have hbda := vldL_bdIP (runB_iff.1 h1).1
  have hbdb := vldL_bdIP (runB_iff.1 h2).1
  obtain ⟨w0, wx, _, _⟩ := limB_bd (runB_iff.1 h1).2
  have hzb : bdIP (a.getD (a.length - 1) (0, 0)) := hbda _ (getD_mem (by omega))
  have hyb : bdIP (b.getD 0 (0, 0)) := hbdb _ (getD_mem pb)
  obtain ⟨ba, oa, ca, rfl, hba, _, _, hca⟩ := ha.some_of_pos pa
  obtain ⟨bb, ob, cb, rfl, hbb, _, _, hcb⟩ := hb.some_of_pos pb
  have x0 := (ip_cells hca (show a.length - 1 < a.length by omega)).1
  have x1 := (ip_cells hcb pb).1
  simp only [Nat.zero_mul, Nat.add_zero] at x1
  unfold lastAt at hd'
  rw [getD_at (show a.length - 1 < a.length by omega)] at hd' hzb
  rw [getD_at pb] at hd' hyb
  unfold bdIP at hzb hyb
  obtain ⟨za, hza⟩ : ∃ x, (a[a.length - 1]'(by omega)).1 = x := ⟨_, rfl⟩
  obtain ⟨yb, hyb1⟩ : ∃ x, (b[0]'pb).1 = x := ⟨_, rfl⟩
  rw [hza] at x0 hd' hzb
  rw [hyb1] at x1 hd' hyb
  have hif : (if yb < za + win then za + win - yb else 0) = d := by rw [← hd']; unfold imx; split <;> omega
  have hd1 : d ≤ 200000 := by rw [← hd']; unfold imx; omega
  have Hbdb := hide hbdb
  have HC : Hid (∀ k (hk : k < b.length), w.cell? ⟨bb, ob + k * 2, none⟩ = some (.int .i64 b[k].1) ∧ w.cell? ⟨bb, ob + k * 2 + 1, none⟩ = some (.int .i64 b[k].2)) := fun k hk => ip_cells hcb hk
  have HA := hide ha
  have HB := hide hb
  have H1 := hide h1
  have H2 := hide h2
  have Hla := hide hla
  have Hrm := hide hrm
  have Hout := hide hout
  have hlb2 : (0 : Int) < (b.length : Int) := by omega
  have hws : IntKind.i64.wrap (za + win) = za + win := IntWalk.i64_in _ (by omega)
  have hwd : IntKind.i64.wrap (za + win - yb) = za + win - yb := IntWalk.i64_in _ (by omega)
  obtain ⟨n, hn⟩ : ∃ n, a.length = n + 1 := ⟨a.length - 1, by omega⟩
  have HN := hide hn
  rw [hn] at x0 HA
  simp only [Nat.add_sub_cancel] at x0
  rw [hn]
  have hn60 : (n : Int) < 60 := by omega
  have n11 : (n : Int) + 1 - 1 = (n : Int) := by omega
  have n12 : (n : Int) < (n : Int) + 1 := by omega
  have n13 : (0 : Int) ≤ (n : Int) := by omega
  have n14 : IntKind.i64.wrap (n : Int) = (n : Int) := IntWalk.i64_in _ (by omega)
  have hna : ¬ ((n : Int) + 1) = 0 := by omega
  have hnb : ¬ (b.length : Int) = 0 := by omega
  have hna' : (((n : Int) + 1) == 0) = false := beq_eq_false_iff_ne.2 (by omega)
  clear hn
  have hnb' : ((b.length : Int) == 0) = false := beq_eq_false_iff_ne.2 (by omega)
  clear hza hyb1 hca hcb hbda hbdb ha hb h1 h2 hla hrm hout
  go_enter Try.func11, Try.ntmps11
  go_wp2_with fail
  refine (law40_head _).mono ?_
  rintro e w1 ⟨rfl, hb⟩
  replace HA := hide (HA.out.below hb)
  replace HB := hide (HB.out.below hb)
  have B1 := hide hb
  clear hb
  go_wp2_with fail
  refine (pre_run_at win bud a _ 0 _ _ HA.out rfl (errC_yes H1.out)).mono ?_
  rintro e w2 ⟨u, rfl, hu, hb⟩
  replace HA := hide (HA.out.below hb)
  replace HB := hide (HB.out.below hb)
  have HU := hide hu
  replace B1 := hide (btrans B1.out B1.out.size hb)
  clear hb hu
  go_wp2_with fail
  refine (pre_run_at win bud b _ 0 _ _ HB.out rfl (errC_yes H2.out)).mono ?_
  rintro e w3 ⟨u', rfl, hu', hb⟩
  replace HA := hide (HA.out.below hb)
  replace HU := hide (HU.out.below hb)
  have HU' := hide hu'
  replace B1 := hide (btrans B1.out B1.out.size hb)
  have z0 := keep_cell B1.out x0
  have z1 := keep_cell B1.out x1
  clear hb hu' x0 x1 HB
  go_wp2_with fail
  go_quiet (fail)
  clear hif hd'
  have HB0 := hide (bAlloc (below_drewN (Below.refl w3.heap.size w3) nq) (.cells #[] 54))
  obtain ⟨ba', oa', ca', ea, hnl, hnc⟩ := (HA.out.below HB0.out).news vIP_len (by decide) (by rw [HN.out]; omega)
  simp only [Value.slice.injEq, Option.some.injEq, Addr.mk.injEq, and_true] at ea
  obtain ⟨⟨rfl, rfl⟩, ej, rfl⟩ := ea
  clear ej
  rw [HN.out] at hnl
  have HNL := hide hnl
  have HNC := hide hnc
  have HO0 := hide (OwnS.lit0 (w3.drewN nq) 2 54)
  have hone := hide (flat_one_ip a)
  have hsz0 : (w3.drewN nq).heap.size ≤ ((w3.drewN nq).alloc (.cells #[] 54)).heap.size := by simp
  have HSZ := hide hsz0
  clear hnl hnc hsz0 z0 z1
  go_wp2_with (at_builtin; refine wpList_appendM (by rfl) _ _ 43 rfl (w3.drewN nq).heap.size 54 j0 (.agg #[.int .i64 0, .int .i64 0]) 2 16 Try.underlying43 ji jz0 jz1 jz2 rfl (by decide) _ 0 [] rfl HO0.out ⟨ba, oa, none⟩ (n + 1) ca (flatV vIP a) rfl HNL.out HNC.out hone.out (by omega) (by omega) (by decide) HSZ.out ?_)
  intro g off' cap' w4 hown4 hg4 hb4 hat4
  obtain ⟨M, hM⟩ : ∃ M, a ++ b.map (shf d) = M := ⟨_, rfl⟩
  have hMt : M.take (n + 1) = a := by
    have h3 : (a ++ b.map (shf d)).take (n + 1) = a := by rw [← HN.out]; exact List.take_left
    rw [hM] at h3; exact h3
  have hMl : M.length = n + 1 + b.length := by
    have h3 : (a ++ b.map (shf d)).length = n + 1 + b.length := by rw [List.length_append, List.length_map, HN.out]
    rw [hM] at h3; exact h3
  have HMg : Hid (∀ k (hk : k < b.length) (hk' : n + 1 + k < M.length), M[n + 1 + k] = (b[k].1 + d, b[k].2)) := by
    intro k hk hk'
    have h3 := HN.out
    have h4 : n + 1 + k < (a ++ b.map (shf d)).length := by rw [hM]; exact hk'
    have h5 : (a ++ b.map (shf d))[n + 1 + k] = (b[k].1 + d, b[k].2) := by
      rw [List.getElem_append_right (by omega), List.getElem_map]
      simp only [h3, Nat.add_sub_cancel_left]
      rfl
    simp only [hM] at h5
    exact h5
  rw [hM] at Hla Hrm Hout
  have Hml := hide hMl
  have HN0 : Hid (MkSt w3 w4 M (.slice (some ⟨g, off', none⟩) (n + 1) cap') (n + 1)) := by
    refine ⟨?_, HB0.out.trans hb4⟩
    rw [hMt]
    have h3 := hown4
    first
      | exact h3
      | (rw [Nat.zero_add] at h3; exact h3)
  clear hM hMt hMl hown4 hg4 hb4 hat4 HNL HNC HO0 hone HSZ HB0
  go_wp2_with fail
  go_loopw [15, 16] (fun u i wr => ∃ k : Nat, k ≤ b.length ∧ i = .int .i64 k ∧ MkSt w3 wr M u (n + 1 + k)) (fun _ i _ => b.length - (intOf i).toNat)
  case atStart => exact ⟨0, Nat.zero_le _, rfl, HN0.out⟩
  case round =>
    obtain ⟨k, hk, rfl, hst⟩ := hrel
    have HST := hide hst
    clear hst
    by_cases hlt : k < b.length
    · obtain ⟨x0, x1⟩ := HC.out k hlt
      have hki : (k : Int) < (b.length : Int) := by omega
      have y0 := keep_cell HST.out.2 (keep_cell B1.out x0)
      have y1 := keep_cell HST.out.2 (keep_cell B1.out x1)
      have hkm : n + 1 + k < M.length := by rw [Hml.out]; omega
      have HG := hide (HMg.out k hlt hkm)
      have hbk := Hbdb.out b[k] (List.getElem_mem hlt)
      obtain ⟨xa, hxa⟩ : ∃ x, b[k].1 = x := ⟨_, rfl⟩
      obtain ⟨xc, hxc⟩ : ∃ x, b[k].2 = x := ⟨_, rfl⟩
      unfold bdIP at hbk
      rw [hxa] at y0 HG hbk
      rw [hxc] at y1 HG hbk
      have HKS : Hid (∀ W, Below w3.heap.size w3 W → W.cell? ⟨bb, ob + k * 2, none⟩ = some (.int .i64 xa) ∧ W.cell? ⟨bb, ob + k * 2 + 1, none⟩ = some (.int .i64 xc)) := by
        intro W hW
        rw [hxa] at x0
        rw [hxc] at x1
        exact ⟨keep_cell hW (keep_cell B1.out x0), keep_cell hW (keep_cell B1.out x1)⟩
      clear hxa hxc x0 x1
      have hw2 : IntKind.i64.wrap (xa + d) = xa + d := IntWalk.i64_in _ (by omega)
      have hsz := HST.out.2.size
      have hone : ∀ u ∈ (#[Value.int .i64 (xa + d), Value.int .i64 xc] : Array Value).toList, u.oneCell' = true := by
        intro u hu
        simp at hu
        rcases hu with rfl | rfl <;> rfl
      have H1 := hide hone
      clear hone
      have hbytes : (n + 1 + k + 1) * 16 ≤ 140737488355328 := by omega
      have hX : ((wr.alloc (.cells #[.int .i64 (xa + d), .int .i64 xc] 54)).drew).heap[wr.heap.size]? = some (.cells #[.int .i64 (xa + d), .int .i64 xc] 54 (0, 0)) := by
        show (wr.heap.push _)[wr.heap.size]? = _
        rw [Array.getElem?_push, if_pos rfl]
      have HX := hide hX
      have HOW := hide (HST.out.1.alloc (.cells #[.int .i64 (xa + d), .int .i64 xc] 54)).drew
      have hsz2 : w3.heap.size ≤ ((wr.alloc (.cells #[.int .i64 (xa + d), .int .i64 xc] 54)).drew).heap.size := by simp; omega
      have HSZ := hide hsz2
      clear hX hsz2
      go_wp2_with fail
      go_region_held3 (fun w' => w'.cell? ⟨bb, ob + k * 2, none⟩ = some (.int .i64 xa) ∧ w'.cell? ⟨bb, ob + k * 2 + 1, none⟩ = some (.int .i64 xc))
        (first | exact HKS.out _ HNN.out.2 | go_keep)
        ((refine step_appendS rfl _ _ 43 rfl w3.heap.size 54 j0 (.agg #[.int .i64 0, .int .i64 0]) 2 16 Try.underlying43 ji jz0 jz1 jz2 rfl (by decide) _ (n + 1 + k) (flatV vIP (M.take (n + 1 + k))) rfl HOW.out wr.heap.size #[.int .i64 (xa + d), .int .i64 xc] 54 1 rfl HX.out rfl H1.out hbytes (by decide) HSZ.out ?_; intro g off' cap' w4 hown4 hg4 hat4; have HNN := hide (HST.out.step (bDr (bAlloc (Below.refl _ wr) _)) hkm HG.out hown4 hg4); clear hown4 hg4 hat4))
      go_wp2_with fail
      go_roundw
      case rel => exact ⟨k + 1, by omega, by go_num, HNN.out⟩
      case measure => simp [intOf]; omega
    · have hk' : k = b.length := by omega
      subst hk'
      go_wp2_with fail
      have hM : SliceOf vIP 2 wr u15 M := by
        have h1 := HST.out
        rw [← Hml.out] at h1
        exact h1.slice
      have hMp : 0 < M.length := by rw [Hml.out]; omega
      obtain ⟨bm, om, cm, rfl, _, _, _, hcm⟩ := hM.some_of_pos hMp
      have x0 := (ip_cells hcm (show M.length - 1 < M.length by omega)).1
      have hlm := Hla.out
      unfold lastAt at hlm
      rw [getD_at (show M.length - 1 < M.length by omega)] at hlm
      obtain ⟨zm, hzm⟩ : ∃ x, (M[M.length - 1]'(by omega)).1 = x := ⟨_, rfl⟩
      rw [hzm] at x0 hlm
      have HM := hide hM
      have HU2 := hide (HU.out.below HST.out.2)
      have HU2' := hide (HU'.out.below HST.out.2)
      replace B1 := hide (btrans B1.out B1.out.size HST.out.2)
      have hln : (M.length : Int) - 1 = ((M.length - 1 : Nat) : Int) := by omega
      have hln3 : ((M.length - 1 : Nat) : Int) < (M.length : Int) := by omega
      have hmM : (M.length : Int) ≤ 121 := by rw [Hml.out]; omega
      have Hlm : Hid (zm = lastAt b + d) := hlm
      clear hM HST HC HMg HU HU' hcm hzm hlm HA HN0
      have hz1b : (60 : Int) < 61 := by omega
      rw [← Hlm.out] at Hrm Hout
      by_cases hgt : 38399 < zm
      · have hrf : runB win bud M = false := by rw [Hrm.out]; exact decide_eq_false (by omega)
        go_wp2_with fail
        refine (pre_run_at win bud M _ 1 _ _ HM.out rfl (errC_no hrf)).mono ?_
        rintro e w5 ⟨t, rfl, ht, hb⟩
        have y0 := keep_cell hb x0
        replace B1 := hide (btrans B1.out B1.out.size hb)
        clear ht hb HM HU2 HU2' Hrm Hout Hlm
        go_wp2_with fail
        go_ret
        exact ⟨rfl, B1.out⟩
      · have hrt : runB win bud M = true := by rw [Hrm.out]; exact decide_eq_true (by omega)
        have HO2 := hide (Hout.out (by omega))
        go_wp2_with fail
        refine (pre_run_at win bud M _ 0 _ _ HM.out HO2.out (errC_yes hrt)).mono ?_
        rintro e w5 ⟨t, rfl, ht, hb⟩
        have y0 := keep_cell hb x0
        have HT := hide ht
        replace HU2 := hide (HU2.out.below hb)
        replace HU2' := hide (HU2'.out.below hb)
        replace B1 := hide (btrans B1.out B1.out.size hb)
        clear ht hb HM Hrm Hout Hlm hrt HO2
        have HB0 := hide (bAlloc (Below.refl w5.heap.size w5) (.cells #[] 4))
        have hax : (runV win bud a).length = n + 1 := by rw [runV_yes H1.out, outK_length, HN.out]
        have hbx : (runV win bud b).length = b.length := by rw [runV_yes H2.out, outK_length]
        obtain ⟨bu, ou, cu, rfl, hnl, hnc⟩ := (HU2.out.below HB0.out).news vB_len (by decide) (by omega)
        obtain ⟨X, hX⟩ : ∃ X, runV win bud a = X := ⟨_, rfl⟩
        obtain ⟨Y, hY⟩ : ∃ Y, runV win bud b = Y := ⟨_, rfl⟩
        rw [hX] at hax hnl hnc HT HU2
        rw [hY] at hbx HT HU2'
        rw [hX]
        have HNL := hide hnl
        have HNC := hide hnc
        have HO0 := hide (OwnS.lit0 w5 1 4)
        have hone := hide (flat_one_b X)
        have honeY := hide (flat_one_b Y)
        have hsz0 : w5.heap.size ≤ (w5.alloc (.cells #[] 4)).heap.size := by simp
        have HSZ := hide hsz0
        rw [hax] at HNL
        clear hnl hnc hsz0 hX hY
        rw [hax]
        go_wp2_with (at_builtin; refine wpList_appendM (by rfl) _ _ 44 rfl w5.heap.size 4 i0 (.bool false) 1 1 Try.underlying44 hi hz0 hz1 hz2 rfl (by decide) _ 0 [] rfl HO0.out ⟨bu, ou, none⟩ (n + 1) cu (flatV vB X) rfl HNL.out HNC.out hone.out (by omega) (by omega) (by decide) HSZ.out ?_)
        intro g off' cap' w6 hown6 hg6 hb6 hat6
        have HB6 := hide (HB0.out.trans hb6)
        obtain ⟨bu', ou', cu', rfl, hnl, hnc⟩ := (HU2'.out.below HB6.out).news vB_len (by decide) (by omega)
        have HO6 := hide hown6
        have HNL2 := hide hnl
        have HNC2 := hide hnc
        rw [hbx] at HNL2
        rw [hbx]
        have HSZ6 := hide HB6.out.size
        clear hnl hnc hown6 hg6 hb6 hat6 HU2 HU2' HNC HNL HO0
        go_wp2_with (at_builtin; refine wpList_appendM (by rfl) _ _ 44 rfl w5.heap.size 4 i0 (.bool false) 1 1 Try.underlying44 hi hz0 hz1 hz2 rfl (by decide) _ (n + 1) (flatV vB X) rfl HO6.out ⟨bu', ou', none⟩ b.length cu' (flatV vB Y) rfl HNL2.out HNC2.out honeY.out (by omega) (by omega) (by decide) HSZ6.out ?_)
        intro g2 off2 cap2 w7 hown7 hg7 hb7 hat7
        have hXY : SliceOf vB 1 w7 (.slice (some ⟨g2, off2, none⟩) (n + 1 + b.length) cap2) (X ++ Y) := by
          refine OwnS.slice vB_len (B := w5.heap.size) ?_
          rw [flatV_append, List.length_append, hax, hbx]
          exact hown7
        have HXY := hide hXY
        have HB7 := hide (HB6.out.trans hb7)
        replace HT := hide (HT.out.below HB7.out)
        replace B1 := hide (btrans B1.out B1.out.size HB7.out)
        clear hown7 hg7 hb7 hat7 hXY
        go_wp2_with fail
        refine (ref40_bools (X ++ Y) (X ++ Y) _ _ _ HT.out HXY.out).mono ?_
        rintro e w8 ⟨rfl, m, rfl⟩
        have e1 : decide (X ++ Y = X ++ Y) = true := by simp
        rw [e1]
        go_wp2_with fail
        go_ret
        exact ⟨rfl, below_drewN B1.out m⟩
theorem preApart_walk (a b : List IP) (va vb : Value) (win bud : Int) (w : World) (ha : SliceOf vIP 2 w va a) (hb : SliceOf vIP 2 w vb b) :
    Calls Try.prog 11 #[va, vb, .int .i64 win, .int .i64 bud] w fun e w' => e = .returned (.bool true) ∧ Below w.heap.size w w' := by
  by_cases la : (a.length : Int) ≤ 60
  · by_cases lb : (b.length : Int) ≤ 60
    · rcases Bool.eq_false_or_eq_true (runB win bud a) with h1 | h1
      · rcases Bool.eq_false_or_eq_true (runB win bud b) with h2 | h2
        · by_cases pa : 0 < a.length
          · by_cases pb : 0 < b.length
            · exact apart_main a b va vb win bud w ha hb la lb h1 h2 pa pb
            · exact apart_stop a b va vb win bud 0 0 w ha hb la lb (errC_yes h1) (errC_yes h2) (.inr (.inr (.inr ⟨rfl, rfl, by omega, by omega⟩)))
          · exact apart_stop a b va vb win bud 0 0 w ha hb la lb (errC_yes h1) (errC_yes h2) (.inr (.inr (.inl ⟨rfl, rfl, by omega⟩)))
        · exact apart_stop a b va vb win bud 0 1 w ha hb la lb (errC_yes h1) (errC_no h2) (.inr (.inl ⟨rfl, rfl⟩))
      · exact apart_stop a b va vb win bud 1 _ w ha hb la lb (errC_no h1) rfl (.inl rfl)
    · obtain ⟨ao, cp, rfl⟩ := ha.shape
      obtain ⟨bo, cq, rfl⟩ := hb.shape
      go_enter Try.func11, Try.ntmps11
      go_wp2_with fail
      refine (law40_head _).mono ?_
      rintro e w1 ⟨rfl, hb⟩
      go_wp2_with fail
      go_ret
      exact ⟨rfl, hb⟩
  · obtain ⟨ao, cp, rfl⟩ := ha.shape
    obtain ⟨bo, cq, rfl⟩ := hb.shape
    go_enter Try.func11, Try.ntmps11
    go_wp2_with fail
    refine (law40_head _).mono ?_
    rintro e w1 ⟨rfl, hb⟩
    go_wp2_with fail
    go_ret
    exact ⟨rfl, hb⟩
end Go.Proofs.Ytahlhiiekgnmpaa
