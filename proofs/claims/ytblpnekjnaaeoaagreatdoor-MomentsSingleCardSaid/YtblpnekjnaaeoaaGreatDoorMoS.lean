/- moments: weights, slices.Values, total. -/
import Derived.Test.YtblpnekjnaaeoaaGreatDoorMoO
import Derived.RangeFuncNested
import Derived.RangeFuncBound
import Derived.RangeFuncCalls
import Derived.RangeFuncBox
import Derived.RangeFuncLeaves
import Derived.Shelf.Abstract
import Derived.Shelf.RegionOpen
import Derived.WalkKit
import Derived.OwnWalkIn
import Derived.TacticsInMore
import Derived.LoopNIn
import Derived.LoopIn
set_option linter.unusedVariables false
set_option linter.unusedSimpArgs false
namespace Go.Proofs.YtblpnekjnaaeoaaGreatDoor
open Go.RowKit Go.Shelf
attribute [local go_sem] Oper.semAt_some

theorem abidesC {β : Type} {B : Nat} {J : β → World → Prop} (hJ : AbidesFrom B J) {x : β} {W W' : World} (h : J x W) (hb : Below W.heap.size W W') : J x W' :=
  hJ x W W' none h ⟨hb.os, hb.tape, hb.output, hb.size, fun k hk _ => hb.block k hk⟩ (fun r e => by cases e)
/-- A number at a place. -/
def R3 (w : World) (b o : Nat) (x : T3) : Prop := w.cell? ⟨b, o, none⟩ = some (.bool x.1) ∧ w.cell? ⟨b, o + 1, none⟩ = some (.string x.2.1) ∧ w.cell? ⟨b, o + 2, none⟩ = some (.string x.2.2)
theorem SliceOf.rqAt {w W : World} {ao : Option Addr} {cp : Nat} {l : List T3} {i : Nat} (h : SliceOf vQ 3 w (.slice ao l.length cp) l) (hb : Below w.heap.size w W) (hi : i < l.length) : ∃ b o, ao = some ⟨b, o, none⟩ ∧ (l.length : Int) ≤ (cp : Int) ∧ (cp : Int) ≤ 9223372036854775807 ∧ R3 W b (o + i * 3) l[i] := by
  obtain ⟨b, o, e, _, h1, h2, hc⟩ := SliceOf.at_ (h.below hb) (by omega)
  refine ⟨b, o, e, by omega, by unfold maxLen at h2; omega, ?_⟩
  exact ⟨by have := hc i hi 0 _ rfl; simpa using this, hc i hi 1 _ rfl, hc i hi 2 _ rfl⟩
abbrev FQ := { q : Rat // FitQ q }
abbrev agT (x : T3) : Value := .agg #[.bool x.1, .string x.2.1, .string x.2.2]
set_option maxHeartbeats 4000000 in
set_option maxRecDepth 100000 in
theorem mo_weightsIt (n l Bl : Nat) (hn : 1 ≤ n) (L : List PQ) (zs : List FQ) (hz : zs.map (fun z => z.1) = (L.map fun p => p.2)) (hla : L.length ≤ 1000000) (va : Value) (w0 W : World) (hsa : SliceOf vPr 6 w0 va (L.map encP)) (J Jx : List FQ → World → Prop) (hJ : AbidesFrom W.heap.size J)
    (hY : ∀ pre x X, J pre X → pre.length < zs.length → YieldAt Fence.wide (n - 1) Tryz.prog l #[agT (rqM x.1)] X fun e Y => (e = .returned (.bool true) ∧ J (pre ++ [x]) Y ∧ Below w0.heap.size X Y) ∨ (e = .returned (.bool false) ∧ Jx (pre ++ [x]) Y))
    (hB : Below w0.heap.size w0 W) (hc : w0.cell? ⟨Bl, 0, none⟩ = some va) (hj : J [] W) :
    CallsIn Fence.wide n Tryz.prog 80 #[.func (.yield l) #[] #[], .pointer (some ⟨Bl, 0, none⟩)] W fun e W' => (∃ v, e = .returned v) ∧ ((∃ xs, xs = zs ∧ J xs W') ∨ (∃ pre, True ∧ Jx pre W')) := by
  have HJ := hide hJ
  have HY := hide hY
  have HB := hide hB
  have HS := hide hsa
  have hlz : zs.length = L.length := by have := congrArg List.length hz; simpa using this
  have HLZ := hide hlz
  have HZ := hide hz
  have hml : (L.map encP).length = L.length := List.length_map ..
  have HML := hide hml
  have hnA : (L.length : Int) ≤ 1000000 := by omega
  obtain ⟨ao, ca, rfl⟩ := hsa.shape
  rw [hml] at hc
  have x0 := keep_cell HB.out hc
  have H0 : Hid (J (zs.take 0) W) := by rw [List.take_zero]; exact hj
  clear hJ hY hB hsa hml hj hc hlz hz
  refine callsIn_of_wp Tryz.func80 rfl trivial ?_ rfl
  simp only [Tryz.ntmps80, List.size_toArray, List.length_cons, List.length_nil, Nat.reduceAdd, Nat.reduceSub, Array.replicate_succ, Array.replicate_zero, List.push_toArray, List.append_toArray, List.nil_append, List.cons_append]
  gi_wp2
  clear x0
  gi_loopw [7] (fun i wr => ∃ k : Nat, k ≤ L.length ∧ i = .int .i64 (k : Int) ∧ J (zs.take k) wr ∧ Below w0.heap.size w0 wr) (fun i _ => L.length - (intOf i).toNat)
  case atStart => exact ⟨0, Nat.zero_le _, rfl, H0.out, HB.out⟩
  case round =>
    obtain ⟨k, hk, rfl, hj, hb⟩ := hrel
    have HJk := hide hj
    have HBk := hide hb
    clear hj hb H0 HB
    by_cases hlt : k < L.length
    · have hkI : (k : Int) < (L.length : Int) := by omega
      have hk0 : (0 : Int) ≤ (k : Int) := by omega
      have hlt' : k < (L.map encP).length := by rw [HML.out]; exact hlt
      have hlz' : k < zs.length := by rw [HLZ.out]; exact hlt
      obtain ⟨bp, of, rfl, g1, g2, hp⟩ := HS.out.ptAt HBk.out hlt'
      rw [List.getElem_map] at hp
      rw [HML.out] at g1
      have HTK : Hid (zs.take (k + 1) = zs.take k ++ [zs[k]]) := List.take_succ_eq_append_getElem hlz'
      have HLN : Hid ((zs.take k).length < zs.length) := by
        show (zs.take k).length < zs.length
        rw [List.length_take]; omega
      have hzk : zs[k].1 = L[k].2 := by
        have := HZ.out
        have h1 := List.getElem_map (f := fun z : FQ => z.1) (l := zs) (i := k) (h := by simpa using hlz')
        rw [← h1]
        simp only [this]
        try simp
      obtain ⟨q, hq⟩ : ∃ q, zs[k] = q := ⟨_, rfl⟩
      obtain ⟨p, hpe⟩ : ∃ p, encP L[k] = p := ⟨_, rfl⟩
      have HQ : Hid (rqM q.1 = p.2) := by
        show rqM q.1 = _
        rw [← hpe, ← hq, hzk]
        try rfl
      rw [hpe] at hp
      rw [hq] at HTK
      obtain ⟨y0, y1, y2, y3, y4, y5⟩ := hp
      have hba := bAlloc (Below.refl _ wr) (.cells #[.bool p.1.1, .string p.1.2.1, .string p.1.2.2, .bool p.2.1, .string p.2.2.1, .string p.2.2.2] 41)
      have HJn := hide (abidesC HJ.out HJk.out hba)
      have HBn := hide (HBk.out.trans (hba.mono (HBk.out.size)))
      clear hba hpe hq hlt' HJk hlz' hzk
      obtain ⟨fn, tmps, assign, body, hy, hR⟩ := HY.out _ q _ HJn.out HLN.out
      rw [HQ.out] at hy
      gi_wp2
      refine hR.mono ?_
      rintro e W3 (⟨rfl, hJ3, hk3⟩ | ⟨rfl, hJx3⟩)
      · have HB3 := hide (HBn.out.trans hk3)
        rw [← HTK.out] at hJ3
        have HJ3 := hide hJ3
        clear hJ3 hk3 hy
        gi_wp2
        refine ⟨?_, ?measure⟩
        case measure => (simp [intOf]; try omega)
        first
          | exact ⟨k + 1, by omega, by go_num, HJ3.out, HB3.out⟩
          | ((repeat apply Exists.intro); refine ⟨?rel, rfl⟩; case rel => exact ⟨k + 1, by omega, by go_num, HJ3.out, HB3.out⟩)
      · clear hy
        gi_wp2
        refine bodyPost_ret (results_none rfl _ _ _) rfl ?_
        exact ⟨⟨_, rfl⟩, .inr ⟨_, trivial, hJx3⟩⟩
    · have hkn : k = L.length := by omega
      subst hkn
      gi_wp2
      go_end0
      refine ⟨⟨_, rfl⟩, .inl ⟨_, rfl, ?_⟩⟩
      have := HJk.out
      rwa [List.take_of_length_le (by rw [HLZ.out]; exact Nat.le_refl _)] at this
set_option maxHeartbeats 4000000 in
set_option maxRecDepth 100000 in
theorem mo_valuesIt (n l Bl : Nat) (hn : 1 ≤ n) (L : List Rat) (zs : List FQ) (hz : zs.map (fun z => z.1) = L) (hla : L.length ≤ 1000000) (va : Value) (w0 W : World) (hsa : SliceOf vQ 3 w0 va (L.map rqM)) (J Jx : List FQ → World → Prop) (hJ : AbidesFrom W.heap.size J)
    (hY : ∀ pre x X, J pre X → pre.length < zs.length → YieldAt Fence.wide (n - 1) Tryz.prog l #[agT (rqM x.1)] X fun e Y => (e = .returned (.bool true) ∧ J (pre ++ [x]) Y ∧ Below w0.heap.size X Y) ∨ (e = .returned (.bool false) ∧ Jx (pre ++ [x]) Y))
    (hB : Below w0.heap.size w0 W) (hc : w0.cell? ⟨Bl, 0, none⟩ = some va) (hj : J [] W) :
    CallsIn Fence.wide n Tryz.prog 77 #[.func (.yield l) #[] #[], .pointer (some ⟨Bl, 0, none⟩)] W fun e W' => (∃ v, e = .returned v) ∧ ((∃ xs, xs = zs ∧ J xs W') ∨ (∃ pre, True ∧ Jx pre W')) := by
  have HJ := hide hJ
  have HY := hide hY
  have HB := hide hB
  have HS := hide hsa
  have hlz : zs.length = L.length := by have := congrArg List.length hz; simpa using this
  have HLZ := hide hlz
  have HZ := hide hz
  have hml : (L.map rqM).length = L.length := List.length_map ..
  have HML := hide hml
  have hnA : (L.length : Int) ≤ 1000000 := by omega
  obtain ⟨ao, ca, rfl⟩ := hsa.shape
  rw [hml] at hc
  have x0 := keep_cell HB.out hc
  have H0 : Hid (J (zs.take 0) W) := by rw [List.take_zero]; exact hj
  clear hJ hY hB hsa hml hj hc hlz hz
  refine callsIn_of_wp Tryz.func77 rfl trivial ?_ rfl
  simp only [Tryz.ntmps77, List.size_toArray, List.length_cons, List.length_nil, Nat.reduceAdd, Nat.reduceSub, Array.replicate_succ, Array.replicate_zero, List.push_toArray, List.append_toArray, List.nil_append, List.cons_append]
  gi_wp2
  clear x0
  gi_loopw [7] (fun i wr => ∃ k : Nat, k ≤ L.length ∧ i = .int .i64 (k : Int) ∧ J (zs.take k) wr ∧ Below w0.heap.size w0 wr) (fun i _ => L.length - (intOf i).toNat)
  case atStart => exact ⟨0, Nat.zero_le _, rfl, H0.out, HB.out⟩
  case round =>
    obtain ⟨k, hk, rfl, hj, hb⟩ := hrel
    have HJk := hide hj
    have HBk := hide hb
    clear hj hb H0 HB
    by_cases hlt : k < L.length
    · have hkI : (k : Int) < (L.length : Int) := by omega
      have hk0 : (0 : Int) ≤ (k : Int) := by omega
      have hlt' : k < (L.map rqM).length := by rw [HML.out]; exact hlt
      have hlz' : k < zs.length := by rw [HLZ.out]; exact hlt
      obtain ⟨bp, of, rfl, g1, g2, hp⟩ := HS.out.rqAt HBk.out hlt'
      rw [List.getElem_map] at hp
      rw [HML.out] at g1
      have HTK : Hid (zs.take (k + 1) = zs.take k ++ [zs[k]]) := List.take_succ_eq_append_getElem hlz'
      have HLN : Hid ((zs.take k).length < zs.length) := by
        show (zs.take k).length < zs.length
        rw [List.length_take]; omega
      have hzk : zs[k].1 = L[k] := by
        have := HZ.out
        have h1 := List.getElem_map (f := fun z : FQ => z.1) (l := zs) (i := k) (h := by simpa using hlz')
        rw [← h1]
        simp only [this]
        try simp
      obtain ⟨q, hq⟩ : ∃ q, zs[k] = q := ⟨_, rfl⟩
      obtain ⟨p, hpe⟩ : ∃ p, rqM L[k] = p := ⟨_, rfl⟩
      have HQ : Hid (rqM q.1 = p) := by
        show rqM q.1 = _
        rw [← hpe, ← hq, hzk]
        try rfl
      rw [hpe] at hp
      rw [hq] at HTK
      obtain ⟨y0, y1, y2⟩ := hp
      have hba := bAlloc (Below.refl _ wr) (.cells #[.bool p.1, .string p.2.1, .string p.2.2] 29)
      have HJn := hide (abidesC HJ.out HJk.out hba)
      have HBn := hide (HBk.out.trans (hba.mono (HBk.out.size)))
      clear hba hpe hq hlt' HJk hlz' hzk
      obtain ⟨fn, tmps, assign, body, hy, hR⟩ := HY.out _ q _ HJn.out HLN.out
      rw [HQ.out] at hy
      gi_wp2
      refine hR.mono ?_
      rintro e W3 (⟨rfl, hJ3, hk3⟩ | ⟨rfl, hJx3⟩)
      · have HB3 := hide (HBn.out.trans hk3)
        rw [← HTK.out] at hJ3
        have HJ3 := hide hJ3
        clear hJ3 hk3 hy
        gi_wp2
        refine ⟨?_, ?measure⟩
        case measure => (simp [intOf]; try omega)
        first
          | exact ⟨k + 1, by omega, by go_num, HJ3.out, HB3.out⟩
          | ((repeat apply Exists.intro); refine ⟨?rel, rfl⟩; case rel => exact ⟨k + 1, by omega, by go_num, HJ3.out, HB3.out⟩)
      · clear hy
        gi_wp2
        refine bodyPost_ret (results_none rfl _ _ _) rfl ?_
        exact ⟨⟨_, rfl⟩, .inr ⟨_, trivial, hJx3⟩⟩
    · have hkn : k = L.length := by omega
      subst hkn
      gi_wp2
      go_end0
      refine ⟨⟨_, rfl⟩, .inl ⟨_, rfl, ?_⟩⟩
      have := HJk.out
      rwa [List.take_of_length_le (by rw [HLZ.out]; exact Nat.le_refl _)] at this
set_option maxRecDepth 100000 in
theorem mo_weights (ao : Option Addr) (k c : Nat) (w : World) : Calls Tryz.prog 53 #[.slice ao k c] w fun e w' => e = .returned (.func (.func 80) #[] #[.pointer (some ⟨w.heap.size, 0, none⟩)]) ∧ w' = w.alloc (.cells #[.slice ao k c] 22) := by
  go_enter Tryz.func53, Tryz.ntmps53
  go_wp2_with fail
  go_ret
  exact ⟨rfl, rfl⟩
set_option maxRecDepth 100000 in
theorem mo_values (ao : Option Addr) (k c : Nat) (w : World) : Calls Tryz.prog 49 #[.slice ao k c] w fun e w' => e = .returned (.func (.func 77) #[] #[.pointer (some ⟨w.heap.size, 0, none⟩)]) ∧ w' = w.alloc (.cells #[.slice ao k c] 23) := by
  go_enter Tryz.func49, Tryz.ntmps49
  go_wp2_with fail
  go_ret
  exact ⟨rfl, rfl⟩
end Go.Proofs.YtblpnekjnaaeoaaGreatDoor
