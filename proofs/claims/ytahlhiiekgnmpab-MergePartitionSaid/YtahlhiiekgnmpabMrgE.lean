/- Package merge: the groups of a set. -/
import Derived.Test.YtahlhiiekgnmpabMrgD
import Derived.Test.YtahlhiiekgnmpabMrgG
import Derived.Test.YtahlhiiekgnmpabNest
set_option linter.unusedVariables false
set_option linter.unusedSimpArgs false
namespace Go.Proofs.Ytahlhiiekgnmpab
open Go.RowKit

theorem Try.zero3 (w : World) : (zeroValue 3).run Try.prog w = .ok (.int .i64 0) w := by kernel_rfl
theorem Try.infoI : (Try.prog.info? 3).map (fun i => (i.zero, i.size, i.bytes)) = some (some (.int .i64 0), 1, 8) := by kernel_rfl
theorem Try.infoS : (Try.prog.info? 30).map (fun i => (i.zero, i.size, i.bytes)) = some (some (.slice none 0 0), 1, 24) := by kernel_rfl
theorem grown_new {w wr W : World} {R : Nat} {row : Option Nat} (h : w.grownBy wr (some R)) (k : wr.grownBy W row) (hr : ∀ b, row = some b → w.heap.size ≤ b) : w.grownBy W (some R) :=
  ⟨k.os.trans h.os, k.tape.trans h.tape, k.output.trans h.output, Nat.le_trans h.size k.size, fun j hj hne => (k.block j (Nat.lt_of_lt_of_le hj h.size) (fun e => by have := hr j e.symm; omega)).trans (h.block j hj hne)⟩

/-- What the loop of Groups knows. -/
structure GSt (w wr : World) (R : Nat) (v : Value) (win : Int) (n : Nat) (rt dep : Nat → Nat) (u : Value) (k : Nat) : Prop where
  set_ : ∃ pa sz, SetC wr R win v pa sz ∧ UF n pa rt dep ∧ SzOk n rt sz
  map : ∃ g : Int → Option Value, VMap wr 3 w.heap.size k kI g ∧ ∀ r : Nat, g (r : Int) = (idxK rt k r).map fun q => Value.int .i64 (q : Int)
  nest : ∃ vs, Nest vI 1 wr (w.heap.size + 1) u vs (gK rt k)
  G : w.grownBy wr (some R)
  Rw : R < w.heap.size

def GrpPost (w : World) (R B : Nat) (v : Value) (win : Int) (l : List Al) (rt : Nat → Nat) (e : Ending) (w' : World) : Prop :=
  ∃ u, e = .returned u ∧ SliceSS vI 1 w' u (gK rt l.length) ∧ SetI w' R B v win l rt ∧ w.grownBy w' (some R)

/-- The row that is appended to, once the group has a row. -/
theorem gK_app {rt : Nat → Nat} {k : Nat} (h : firstB rt k = true) : ((gK rt k ++ [[]]).set (gK rt k).length ([] ++ [(k : Int)])) = gK rt (k + 1) := by
  rw [gK_yes rt h]
  apply List.ext_getElem?
  intro j
  by_cases e : j = (gK rt k).length
  · subst e
    rw [List.getElem?_set_self (by simp), List.getElem?_append_right (Nat.le_refl _)]
    simp
  · rw [List.getElem?_set_ne (fun e' => e e'.symm)]
    by_cases hj : j < (gK rt k).length
    · rw [List.getElem?_append_left hj, List.getElem?_append_left hj]
    · rw [List.getElem?_eq_none (by simp; omega), List.getElem?_eq_none (by simp; omega)]

theorem nest_spot_at {w : World} {B g off n cap q : Nat} {vs : List Value} {M : List (List Int)} {v : Value} (h : Nest vI 1 w B (.slice (some ⟨g, off, none⟩) n cap) vs M) (hq : q < M.length) (hv : vs[q]? = some v) : w.cell? ⟨g, off + q, none⟩ = some v := by
  obtain ⟨gu, offu, capu, v', hu, h1, h2, _⟩ := h.spot hq
  simp only [Value.slice.injEq, Option.some.injEq, Addr.mk.injEq, and_true, true_and] at hu
  obtain ⟨⟨rfl, rfl⟩, _, rfl⟩ := hu
  rw [hv] at h1
  rw [h2, ← h1]

theorem GSt.next {w w4 : World} {R : Nat} {v : Value} {win : Int} {n : Nat} {rt dep : Nat → Nat} {u : Value} {k : Nat} {pa sz : Nat → Nat} {vs : List Value} {gu o : Nat} {x : Value} {g : Int → Option Value} (hC : SetC w4 R win v pa sz) (hU : UF n pa rt dep) (hZ : SzOk n rt sz)
    (hm : VMap w4 3 w.heap.size (k + 1) kI g) (hg : ∀ r : Nat, g (r : Int) = (idxK rt (k + 1) r).map fun q => Value.int .i64 (q : Int))
    (hN : Nest vI 1 (w4.setCell ⟨gu, o, none⟩ x) (w.heap.size + 1) u vs (gK rt (k + 1))) (hG : w.grownBy w4 (some R)) (hgu : w.heap.size + 1 ≤ gu) (hRw : R < w.heap.size) : GSt w (w4.setCell ⟨gu, o, none⟩ x) R v win n rt dep u (k + 1) := by
  have hs : w4.grownBy (w4.setCell ⟨gu, o, none⟩ x) (some gu) := ⟨rfl, rfl, rfl, by simp, fun j _ hj => Below.heap_setCell _ _ _ _ fun e => hj (by rw [e])⟩
  exact ⟨⟨pa, sz, hC.grown hs (by intro e; injection e; omega), hU, hZ⟩, ⟨g, hm.kept hs (by intro e; injection e; omega), hg⟩, ⟨vs, hN⟩, grown_new hG hs (fun b hb => by injection hb; omega), hRw⟩
theorem upd_idx {rt : Nat → Nat} {k len : Nat} {g : Int → Option Value} (hg : ∀ r : Nat, g (r : Int) = (idxK rt k r).map fun q => Value.int .i64 (q : Int)) (hs : ∀ r, idxK rt (k + 1) r = if r = rt k then some (firsts rt k).length else idxK rt k r) (hl : (firsts rt k).length = len) :
    ∀ r : Nat, updL g (rt k : Int) (.int .i64 (len : Int)) (r : Int) = (idxK rt (k + 1) r).map fun q => Value.int .i64 (q : Int) := by
  intro r
  unfold updL
  rw [hs r]
  by_cases e : r = rt k
  · rw [if_pos (by rw [e]), if_pos e, hl]; rfl
  · rw [if_neg (by omega), if_neg e]; exact hg r

set_option maxHeartbeats 4000000 in
set_option maxRecDepth 100000 in
theorem mrg_setGroups (R B : Nat) (v : Value) (win : Int) (l : List Al) (rt : Nat → Nat) (w : World) (hI : SetI w R B v win l rt) :
    Calls Try.prog 33 #[.pointer (some ⟨R, 0, none⟩)] w (GrpPost w R B v win l rt) := by
  obtain ⟨i0, hi, hz0, hz1, hz2⟩ := info_parts Try.infoI
  obtain ⟨j0, ji, jz0, jz1, jz2⟩ := info_parts Try.infoS
  obtain ⟨pa, sz, dep, hC, hU, hZ⟩ := hI.cells
  have HI := hide hI
  have hln : l.length ≤ 200 := hI.len
  have hlnI : (l.length : Int) ≤ 200 := by omega
  obtain ⟨ao, cp, rfl⟩ : ∃ ao cp, v = .slice ao l.length cp := by
    rcases hI.own.2 with ⟨ao, h1, h2, _⟩ | ⟨g, off, cap, h1, _⟩
    · exact ⟨ao, 0, by rw [h1, h2]⟩
    · exact ⟨_, _, h1⟩
  have hRw : R < w.heap.size := hC.lt
  have HS0 : Hid (GSt w (w.alloc (.map #[] 0)) R (.slice ao l.length cp) win l.length rt dep (.slice none 0 0) 0) :=
    ⟨⟨pa, sz, hC.alloc _, hU, hZ⟩, ⟨fun _ => none, VMap.made w 3 kI, fun r => rfl⟩, ⟨[], Nest.nil _ _ _ _⟩, grown_below (bAlloc (Below.refl _ w) _), hRw⟩
  have k0 := (hC.alloc (.map #[] 0)).al
  clear hI hC hU hZ
  have hmm := @run_makeMap Try.prog
  go_enter Try.func33, Try.ntmps33
  go_wp2_with fail
  clear k0 hmm
  go_loopw [3, 17] (fun u i wr => ∃ k : Nat, k ≤ l.length ∧ i = .int .i64 k ∧ GSt w wr R (.slice ao l.length cp) win l.length rt dep u k) (fun _ i _ => l.length - (intOf i).toNat)
  case atStart => exact ⟨0, Nat.zero_le _, rfl, HS0.out⟩
  case round =>
    obtain ⟨k, hk, rfl, hst⟩ := hrel
    have HST := hide hst
    clear hst
    by_cases hlt : k < l.length
    · obtain ⟨pa', sz', hC, hU, hZ⟩ := HST.out.set_
      have HC := hide hC
      have HU := hide hU
      have HZ := hide hZ
      clear hC hU hZ
      have hki : (k : Int) < (l.length : Int) := by omega
      have hk0 : (0 : Int) ≤ (k : Int) := by omega
      obtain ⟨uo, uc, rfl⟩ : ∃ uo uc, u3 = .slice uo (gK rt k).length uc := by
        obtain ⟨vs, hN⟩ := HST.out.nest
        rcases hN.outer.2 with ⟨ao, h1, h2, _⟩ | ⟨g, off, cap, h1, _⟩
        · exact ⟨ao, 0, by rw [h1, h2]⟩
        · exact ⟨_, _, h1⟩
      go_wp2_with fail
      refine (mrg_root R win _ pa' sz' l.length rt dep k _ HC.out HU.out hlt hln).mono ?_
      rintro e w1 ⟨pa1, rfl, hC1, hU1, hG1⟩
      have HC1 := hide hC1
      have HU1 := hide hU1
      have HG1 := hide hG1
      have HGG := hide (grown_trans HST.out.G hG1)
      clear hC1 hU1 hG1
      obtain ⟨g, hmap, hg⟩ := HST.out.map
      have HM1 := hide (hmap.kept HG1.out (by intro e; injection e with e; omega))
      obtain ⟨vs, hN⟩ := HST.out.nest
      have HN1 := hide (hN.kept HG1.out (fun b hb => by injection hb with hb; omega))
      have HG := hide hg
      have hrlt := HU1.out.rlt hlt
      have hlen := firsts_le rt k
      rw [← gK_len rt k] at hlen
      clear hmap hg hN HC HU
      have hkey := hide (keyI (x := (rt k : Int)) ⟨by omega, by omega⟩)
      have hkm : k < maxLen := by unfold maxLen; omega
      have HKM := hide hkm
      clear hkm
      rcases Bool.eq_false_or_eq_true (firstB rt k) with hf | hf
      · have e1 : (g (rt k : Int)).getD (.int .i64 0) = .int .i64 0 := by rw [HG.out, idx_yes rt hf]; rfl
        have e2 : (g (rt k : Int)).isSome = false := by rw [HG.out, idx_yes rt hf]; rfl
        have E1 := hide e1
        have E2 := hide e2
        have HGA := hide (gK_app hf)
        have HIS := hide (idx_step_yes rt hf)
        have hfl : (firsts rt k).length = (gK rt k).length := (gK_len rt k).symm
        have HFL := hide hfl
        clear e1 e2 hf hfl
        have H1 : Hid (∀ u ∈ (#[Value.int .i64 (k : Int)] : Array Value).toList, u.oneCell' = true) := by
          intro u hu
          simp at hu
          rw [hu]; rfl
        have H2 : Hid (∀ u ∈ (#[Value.slice none 0 0] : Array Value).toList, u.oneCell' = true) := by
          intro u hu
          simp at hu
          rw [hu]; rfl
        have hbytes : ((gK rt k).length + 1) * 24 ≤ 140737488355328 := by omega
        have hq0 : (0 : Int) ≤ ((gK rt k).length : Int) := by omega
        have hq1 : ((gK rt k).length : Int) < ((gK rt k).length : Int) + 1 := by omega
        go_wp2_with (first
          | (at_lookup; refine wpList_look_ok_at _ rfl _ _ 79 rfl 3 3 Try.keyed3 Try.underlying79 (Try.zero3 _) w.heap.size k kI g rfl HM1.out _ (rt k : Int) rfl hkey.out (.int .i64 0) false E1.out E2.out ?_)
          | (at_mapUpdate; refine wpList_mapStore _ rfl _ _ _ 79 rfl 3 3 Try.keyed3 Try.underlying79 w.heap.size k kI g rfl HM1.out HKM.out _ _ (rt k : Int) rfl rfl hkey.out (keyI_lit _) kI_inj ?_; intro w2 hm2 hr2; have HM2 := hide hm2; have HG2 := hide (grown_new HGG.out hr2 (fun b hb => by injection hb with hb; omega)); have HN2 := hide (HN1.out.kept hr2 (fun b hb => by injection hb with hb; omega)); have HC2 := hide (HC1.out.grown hr2 (by intro e; injection e with e; omega)); have HO2 := hide HN2.out.outer; have HSZ2 : Hid (w.heap.size + 1 ≤ w2.heap.size) := hm2.lt; clear hm2 hr2)
          | (at_builtin; refine wpList_appendS rfl (.tmp 44) (.tmp 46) 30 rfl (w.heap.size + 1) 3 i0 (.int .i64 0) 1 8 Try.underlying30 hi hz0 hz1 hz2 rfl (by decide) (.slice none 0 0) 0 [] rfl HON.out #[.int .i64 (k : Int)] 3 1 rfl rfl H1.out (by decide) (by decide) HSZ3.out ?_; intro g4 off4 cap4 w4 hown4 hg4 hb4 hat4; have HA4 := hide (HN3.out.app (Below.refl _ w3) (x := (k : Int)) (m := []) HU3.out HQL.out HVQ.out HMQ.out rfl hown4 hg4 hat4); obtain ⟨⟨v0, c4⟩, f4, _⟩ := HA4.out; have HG4 := hide (grown_new HG3.out hg4 (fun b hb => by simp [Value.ownBlock] at hb)); have HM4 := hide (HM3.out.kept hg4 (by simp [Value.ownBlock])); have HC4 := hide (HC3.out.grown hg4 (by simp [Value.ownBlock])); clear hown4 hg4 hb4 hat4 c3)
          | (at_builtin; refine wpList_appendS rfl (.tmp 36) (.tmp 37) 44 rfl (w.heap.size + 1) 30 j0 (.slice none 0 0) 1 24 Try.underlying44 ji jz0 jz1 jz2 rfl (by decide) (.slice uo (gK rt k).length uc) (gK rt k).length vs rfl HO2.out #[.slice none 0 0] 30 1 rfl rfl H2.out hbytes (by decide) HSZ2.out ?_; intro g3 off3 cap3 w3 hown3 hg3 hb3 hat3; have HN3 := hide (HN2.out.push_nil (Below.refl _ w2) hown3 hg3 hat3); have HQL : Hid ((gK rt k).length < (gK rt k ++ [[]]).length) := (by show _ < _; simp); have HVQ : Hid ((vs ++ [Value.slice none 0 0])[(gK rt k).length]? = some (.slice none 0 0)) := (by show _ = _; rw [← HN2.out.len, List.getElem?_append_right (Nat.le_refl _)]; simp); have HMQ : Hid ((gK rt k ++ [[]])[(gK rt k).length]? = some []) := (by show _ = _; rw [List.getElem?_append_right (Nat.le_refl _)]; simp); have c3 : w3.cell? ⟨g3, off3 + (gK rt k).length, none⟩ = some (.slice none 0 0) := (nest_spot_at HN3.out HQL.out HVQ.out); have HG3 := hide (grown_new HG2.out hg3 (fun b hb => by have := (HO2.out.lt b hb).1; omega)); have HM3 := hide (HM2.out.kept hg3 (by intro e; have := (HO2.out.lt _ e.symm).1; omega)); have HC3 := hide (HC2.out.grown hg3 (by intro e; have := (HO2.out.lt _ e.symm).1; omega)); have HU3 : Hid (Value.slice (some ⟨g3, off3, none⟩) ((gK rt k).length + 1) cap3 = .slice (some ⟨g3, off3, none⟩) (gK rt k ++ [[]]).length cap3) := (by show _ = _; rw [List.length_append]; rfl); have HON : Hid (OwnS w3 (w.heap.size + 1) 1 (.slice none 0 0) 0 []) := OwnS.nil _ _ _; have HSZ3 : Hid (w.heap.size + 1 ≤ w3.heap.size) := Nat.le_trans HSZ2.out hb3.size; clear hown3 hg3 hb3 hat3))
        have HNX := HA4.out.2.2
        rw [HGA.out] at HNX
        have hgu := (HN3.out.outer.lt g3 rfl).1
        have HNEW := hide (GSt.next HC4.out HU1.out HZ.out HM4.out (upd_idx HG.out HIS.out HFL.out) HNX HG4.out hgu hRw)
        go_roundw
        case rel => exact ⟨k + 1, by omega, by go_num, HNEW.out⟩
        case measure => simp [intOf]; omega
      · obtain ⟨q, hq⟩ := idx_no rt hf
        obtain ⟨n1, n2, n3⟩ := gK_no rt hf hq
        have e1 : (g (rt k : Int)).getD (.int .i64 0) = .int .i64 (q : Int) := by rw [HG.out, hq]; rfl
        have e2 : (g (rt k : Int)).isSome = true := by rw [HG.out, hq]; rfl
        have E1 := hide e1
        have E2 := hide e2
        have HIS := hide (idx_step_no rt hf)
        have N1 := hide n1
        have N2 := hide n2
        have N3 := hide n3
        obtain ⟨gu, offu, capu, vq, hu, hvq, c3, _, hcu, hcm, hgu⟩ := HN1.out.spot n3
        simp only [Value.slice.injEq] at hu
        obtain ⟨rfl, _, rfl⟩ := hu
        have HVQ := hide hvq
        have HOQ := hide (HN1.out.inner q vq _ hvq n2)
        have hml : (asI (grpOf rt k (rt k))).length ≤ 200 := by
          have h1 : (grpOf rt k (rt k)).length ≤ k := by
            have := List.length_filter_le (fun x => rt x == rt k) (List.range k)
            rw [List.length_range] at this
            exact this
          unfold asI
          rw [List.length_map]; omega
        have hcuI : (uc : Int) ≤ 9223372036854775807 := by unfold maxLen at hcm; omega
        clear e1 e2 hf hq n1 n2 hvq hcm
        obtain ⟨m, hm⟩ : ∃ m, asI (grpOf rt k (rt k)) = m := ⟨_, rfl⟩
        rw [hm] at N1 N2 HOQ hml
        clear hm
        have H1 : Hid (∀ u ∈ (#[Value.int .i64 (k : Int)] : Array Value).toList, u.oneCell' = true) := by
          intro u hu
          simp at hu
          rw [hu]; rfl
        have hbytes : (m.length + 1) * 8 ≤ 140737488355328 := by omega
        have hq0 : (0 : Int) ≤ (q : Int) := by omega
        have hq1 : (q : Int) < ((gK rt k).length : Int) := by omega
        have HSZ1 : Hid (w.heap.size + 1 ≤ w1.heap.size) := HM1.out.lt
        go_wp2_with (first
          | (at_lookup; refine wpList_look_ok_at _ rfl _ _ 79 rfl 3 3 Try.keyed3 Try.underlying79 (Try.zero3 _) w.heap.size k kI g rfl HM1.out _ (rt k : Int) rfl hkey.out (.int .i64 (q : Int)) true E1.out E2.out ?_)
          | (at_builtin; refine wpList_appendS rfl (.tmp 44) (.tmp 46) 30 rfl (w.heap.size + 1) 3 i0 (.int .i64 0) 1 8 Try.underlying30 hi hz0 hz1 hz2 rfl (by decide) vq m.length (flatV vI m) rfl HOQ.out #[.int .i64 (k : Int)] 3 1 rfl rfl H1.out hbytes (by decide) HSZ1.out ?_; intro g4 off4 cap4 w4 hown4 hg4 hb4 hat4; have HA4 := hide (HN1.out.app (Below.refl _ w1) (x := (k : Int)) (m := m) rfl N3.out HVQ.out N2.out rfl hown4 hg4 hat4); obtain ⟨⟨v0, c4⟩, f4, _⟩ := HA4.out; have HG4 := hide (grown_new HGG.out hg4 (fun b hb => by have := (HOQ.out.lt b hb).1; omega)); have HM4 := hide (HM1.out.kept hg4 (by intro e; have := (HOQ.out.lt _ e.symm).1; omega)); have HC4 := hide (HC1.out.grown hg4 (by intro e; have := (HOQ.out.lt _ e.symm).1; omega)); clear hown4 hg4 hb4 hat4 c3))
        have HNX := HA4.out.2.2
        rw [← N1.out] at HNX
        have HNEW := hide (GSt.next HC4.out HU1.out HZ.out (HM4.out.mono (Nat.le_succ k)) (fun r => by rw [HIS.out]; exact HG.out r) HNX HG4.out hgu hRw)
        go_roundw
        case rel => exact ⟨k + 1, by omega, by go_num, HNEW.out⟩
        case measure => simp [intOf]; omega
    · have hk' : k = l.length := by omega
      subst hk'
      obtain ⟨vs, hN⟩ := HST.out.nest
      have HN := hide (hN.slice vI_len)
      obtain ⟨pa', sz', hC, hU, hZ⟩ := HST.out.set_
      have HF : Hid (SetI wr R B (.slice ao l.length cp) win l rt) :=
        ⟨⟨pa', sz', dep, hC, hU, hZ⟩, HI.out.own.kept HST.out.G (fun j hj e => by injection hj with hj; subst hj; have h1 := (HI.out.own.lt _ e).1; have h2 := HI.out.lt; omega), HI.out.lt, Nat.le_trans HI.out.base HST.out.G.size, HI.out.conn, HI.out.val, HI.out.len, HI.out.win⟩
      clear hN hC hU hZ
      go_wp2_with fail
      go_ret
      exact ⟨_, rfl, HN.out, HF.out, HST.out.G⟩
theorem mrg_setGroups_nil (w : World) : Calls Try.prog 33 #[.pointer none] w fun e w' => e = .returned (.slice none 0 0) ∧ w = w' := by
  go_enter Try.func33, Try.ntmps33
  go_wp2_with fail
  go_ret
  exact ⟨rfl, rfl⟩
end Go.Proofs.Ytahlhiiekgnmpab
