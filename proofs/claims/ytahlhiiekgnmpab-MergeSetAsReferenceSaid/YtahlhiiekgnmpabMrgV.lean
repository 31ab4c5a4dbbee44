/- MergeSetAsReference: the walk. -/
import Derived.Test.YtahlhiiekgnmpabMrgT
namespace Go.Proofs.Ytahlhiiekgnmpab
open Go.RowKit

theorem OwnS.apart {w w' : World} {B size R : Nat} {v : Value} {n : Nat} {xs : List Value} {row : Option Nat} (h : OwnS w B size v n xs) (hb : Only2 w w' R row) (h3 : ∀ k, v.ownBlock = some k → k ≠ R ∧ some k ≠ row) : OwnS w' B size v n xs := by
  refine ⟨h.1, ?_⟩
  rcases h.2 with ⟨ao, a, b, c⟩ | ⟨g, off, cap, hv, hB, hlt, hn, hm, hc, hx⟩
  · exact .inl ⟨ao, a, b, fun x hx => ⟨(c x hx).1, Nat.lt_of_lt_of_le (c x hx).2 hb.size⟩⟩
  · have hg := h3 g (by rw [hv]; rfl)
    have e2 := hb.block g hlt hg.1 hg.2
    refine .inr ⟨g, off, cap, hv, hB, Nat.lt_of_lt_of_le hlt hb.size, hn, hm, fun j hj => ?_, fun j u hu => ?_⟩
    · rw [World.cell?_of_block (w := w) (a := ⟨g, off + j, none⟩) e2, World.frozen?_of_block (w := w) (a := ⟨g, off + j, none⟩) e2]
      exact hc j hj
    · rw [World.cell?_of_block (w := w) (a := ⟨g, off + j, none⟩) e2]
      exact hx j u hu
theorem SetI.kept {w w' : World} {R B R' : Nat} {v : Value} {row : Option Nat} {win : Int} {l : List Al} {rt : Nat → Nat} (h : SetI w R B v win l rt) (hb : Only2 w w' R' row) (h1 : R ≠ R') (h2 : some R ≠ row) (h3 : ∀ k, v.ownBlock = some k → k ≠ R' ∧ some k ≠ row) : SetI w' R B v win l rt := by
  obtain ⟨pa, sz, dep, hC, hU, hZ⟩ := h.cells
  exact ⟨⟨pa, sz, dep, hC.of_block (hb.block R hC.lt h1 h2), hU, hZ⟩, h.own.apart hb h3, h.lt, Nat.le_trans h.base hb.size, h.conn, h.val, h.len, h.win⟩
theorem Only2.of_row {w w' : World} {R : Nat} (h : w.grownBy w' (some R)) : Only2 w w' R none := ⟨h.os, h.tape, h.output, h.size, fun k hk h1 _ => h.block k hk (by intro e; injection e with e; exact h1 e)⟩

/-- The two sets, side by side, in what was added since world w0. -/
structure Pair (w0 wr : World) (win : Int) (m : List Al) (R R2 : Nat) (v v2 : Value) (rt : Nat → Nat) : Prop where
  a : SetI wr R (R + 1) v win m rt
  b : RSet wr R2 (R2 + 1) v2 win m
  lt : R < R2
  ge : w0.heap.size ≤ R
  sep : ∀ k, v.ownBlock = some k → k ≠ R2 ∧ v2.ownBlock ≠ some k
  below : Below w0.heap.size w0 wr
section
variable {w0 wr W : World} {win : Int} {m : List Al} {R R2 : Nat} {v v2 : Value} {rt : Nat → Nat} {a : Al}
theorem Pair.keep (h : Pair w0 wr win m R R2 v v2 rt) (hb : Below wr.heap.size wr W) : Pair w0 W win m R R2 v v2 rt :=
  ⟨h.a.keep hb, h.b.below hb, h.lt, h.ge, h.sep, h.below.trans (hb.mono h.below.size)⟩
theorem Pair.grp (h : Pair w0 wr win m R R2 v v2 rt) (hI : SetI W R (R + 1) v win m rt) (hg : wr.grownBy W (some R)) : Pair w0 W win m R R2 v v2 rt := by
  refine ⟨hI, h.b.kept (Only2.of_row hg) (by have := h.lt; omega) (by simp) (fun k hk => ⟨?_, by simp⟩), h.lt, h.ge, h.sep, h.below.grown hg h.below.size (fun k hk => by injection hk with hk; have := h.ge; omega)⟩
  have := (h.b.own.lt k hk).1
  have := h.lt
  omega
/-- After both have got one more. -/
theorem Pair.added {w1 w2 : World} {v' v2' : Value} {rt' : Nat → Nat} (h : Pair w0 wr win m R R2 v v2 rt) (h1 : SetI w1 R (R + 1) v' win (m ++ [a]) rt') (h2 : Only2 wr w1 R v.ownBlock) (h3 : ∀ k, v'.ownBlock = some k → v.ownBlock = some k ∨ wr.heap.size ≤ k) :
    RSet w1 R2 (R2 + 1) v2 win m ∧ (∀ k, v'.ownBlock = some k → k ≠ R2 ∧ v2.ownBlock ≠ some k) ∧ Below w0.heap.size w0 w1 := by
  refine ⟨h.b.kept h2 (by have := h.lt; omega) (fun e => (h.sep R2 e.symm).1 rfl) (fun k hk => ⟨?_, fun e => (h.sep k e.symm).2 hk⟩), fun k hk => ?_, h.below.trans (h2.below h.ge (fun k hk => ?_) h.below.size)⟩
  · have := (h.b.own.lt k hk).1
    have := h.lt
    omega
  · rcases h3 k hk with e | e
    · exact h.sep k e
    · have a1 := h.b.lt
      exact ⟨by omega, fun e2 => by have := (h.b.own.lt k e2).2; omega⟩
  · have := (h.a.own.lt k hk).1
    have := h.ge
    omega
theorem Pair.both {w1 w2 : World} {v' v2' : Value} {rt' : Nat → Nat} (h1 : SetI w1 R (R + 1) v' win (m ++ [a]) rt') (hR : RSet w1 R2 (R2 + 1) v2 win m) (hs : ∀ k, v'.ownBlock = some k → k ≠ R2 ∧ v2.ownBlock ≠ some k) (hb : Below w0.heap.size w0 w1) (hlt : R < R2) (hge : w0.heap.size ≤ R)
    (k1 : RSet w2 R2 (R2 + 1) v2' win (m ++ [a])) (k2 : Only2 w1 w2 R2 v2.ownBlock) (k3 : ∀ k, v2'.ownBlock = some k → v2.ownBlock = some k ∨ w1.heap.size ≤ k) : Pair w0 w2 win (m ++ [a]) R R2 v' v2' rt' := by
  refine ⟨h1.kept k2 (by omega) (fun e => ?_) (fun k hk => ⟨(hs k hk).1, fun e => (hs k hk).2 e.symm⟩), k1, hlt, hge, fun k hk => ⟨(hs k hk).1, fun e => ?_⟩, hb.trans (k2.below (by omega) (fun k hk => ?_) hb.size)⟩
  · have := (hR.own.lt R e.symm).1
    omega
  · rcases k3 k e with e2 | e2
    · exact (hs k hk).2 e2
    · have := (h1.own.lt k hk).2
      omega
  · have := (hR.own.lt k hk).1
    omega
end

set_option maxHeartbeats 4000000 in
set_option maxRecDepth 100000 in
theorem mergeSet_walk (l : List Al) (win : Int) (v : Value) (w : World) (h : SliceOf vAl 5 w v l) :
    Calls Try.prog 10 #[v, .int .i64 win] w fun e w' => e = .returned (.bool true) ∧ Below w.heap.size w w' := by
  have HS := hide h
  obtain ⟨ao, cp, rfl⟩ := h.shape
  clear h
  go_enter Try.func10, Try.ntmps10
  go_wp2_with fail
  refine (law38_head _).mono ?_
  rintro e w1 ⟨rfl, hb1⟩
  have HB1 := hide hb1
  have HC : Hid (CellsOf w1 ao cp l) := cells_of (HS.out.below hb1)
  clear hb1 HS
  by_cases hl : 24 < l.length
  · have hl2 : (24 : Int) < (l.length : Int) := by omega
    go_wp2_with fail
    go_ret
    exact ⟨rfl, HB1.out⟩
  have hlI : (l.length : Int) ≤ 24 := by omega
  rcases Bool.eq_false_or_eq_true (momB win) with hw | hw
  · have HW := hide hw
    clear hw
    go_wp2_with fail
    refine (mrg_new_ok win _ HW.out).mono ?_
    rintro e w2 ⟨rfl, hI, hb2, hsz⟩
    have HI := hide hI
    have HB2 := hide hb2
    have HSZ := hide hsz
    clear hI hb2 hsz
    go_wp2_with fail
    refine (ref38_new_ok win _ HW.out).mono ?_
    rintro e w3 ⟨rfl, hI, hb3⟩
    have HP : Hid (Pair w1 w3 win [] w1.heap.size w2.heap.size (.slice none 0 0) (.slice none 0 0) (fun x => x)) :=
      ⟨HI.out.keep hb3, hI, by have := HSZ.out; omega, Nat.le_refl _, fun k hk => by simp [Value.ownBlock] at hk, HB2.out.trans (hb3.mono HB2.out.size)⟩
    clear hI hb3 HI HB2 HSZ
    go_wp2_with fail
    go_loopw [10] (fun i wx => ∃ (k : Nat) (m : List Al) (v v2 : Value) (rt : Nat → Nat), k ≤ l.length ∧ i = .int .i64 k ∧ m.length ≤ k ∧ allVB m = true ∧ Pair w1 wx win m w1.heap.size w2.heap.size v v2 rt) (fun i _ => l.length - (intOf i).toNat)
    case atStart => exact ⟨0, [], _, _, _, Nat.zero_le _, rfl, Nat.le_refl _, rfl, HP.out⟩
    case round =>
      obtain ⟨k, m, v, v2, rt, hk, rfl, hmk, hvm, hp⟩ := hrel
      have HPR := hide hp
      have HVM := hide hvm
      clear hp hvm HP
      by_cases hlt : k < l.length
      · obtain ⟨b, off, rfl, hcpI, hcap, hc⟩ := HC.out (by omega)
        obtain ⟨y0, y1, y2, y3, y4⟩ := cells_in HPR.out.below (hc k hlt)
        have hcs := hide (hc k hlt)
        have hki : (k : Int) < (l.length : Int) := by omega
        have hk0 : (0 : Int) ≤ (k : Int) := by omega
        have hm200 : m.length < 200 := by omega
        clear hc
        obtain ⟨a, ha⟩ : ∃ a, l[k] = a := ⟨_, rfl⟩
        rw [ha] at y0 y1 y2 y3 y4 hcs
        clear ha
        rcases Bool.eq_false_or_eq_true (valB a) with hv | hv
        · have HV := hide hv
          clear hv
          go_wp2_with fail
          refine (mrg_add_ok _ _ _ win m rt a _ HPR.out.a HV.out hm200).mono ?_
          rintro e w4 ⟨v', rt', rfl, hI4, hO4, hK4⟩
          obtain ⟨hR4, hS4, hB4⟩ := HPR.out.added (w2 := w4) (v2' := v2) hI4 hO4 hK4
          have HI4 := hide hI4
          have HR4 := hide hR4
          have HS4 := hide hS4
          have HB4 := hide hB4
          clear hI4 hO4 hK4 hR4 hS4 hB4 y0 y1 y2 y3 y4
          obtain ⟨y0, y1, y2, y3, y4⟩ := cells_in HB4.out hcs.out
          go_wp2_with fail
          refine (ref38_add_ok _ _ _ win m a _ HR4.out HVM.out HV.out hm200 HI4.out.win).mono ?_
          rintro e w5 ⟨v2', rt2, rfl, hcn, hI5, hO5, hK5⟩
          have HP5 := hide (Pair.both HI4.out HR4.out HS4.out HB4.out HPR.out.lt HPR.out.ge hI5 hO5 hK5)
          have hlen : (m ++ [a]).length = m.length + 1 := by simp
          have hcc : cnt (m.length + 1) rt' (rt' m.length) = cnt (m.length + 1) rt2 (rt2 m.length) := cnt_congr (fun x y hx hy => (HI4.out.conn x y (by omega) (by omega)).trans (hcn x y (by omega) (by omega)).symm) (by omega)
          rw [hcc]
          obtain ⟨z, hz⟩ : ∃ z : Int, (cnt (m.length + 1) rt2 (rt2 m.length) : Int) = z := ⟨_, rfl⟩
          rw [hz]
          have hzz : (z != z) = false := by simp
          have hze : (z == z) = true := by simp
          have HVN : Hid (allVB (m ++ [a]) = true) := by
            have h9 := HVM.out
            show allVB _ = true
            unfold allVB at h9 ⊢
            rw [List.all_append, h9]; simp [HV.out]
          clear hcn hI5 hO5 hK5 hcc hz HI4 HR4 HS4 HB4 HPR y0 y1 y2 y3 y4
          go_wp2_with fail
          refine (mrg_setGroups _ _ _ win (m ++ [a]) rt' _ HP5.out.a).mono ?_
          rintro e w6 ⟨u, rfl, hss, hI6, hg6⟩
          have HP6 := hide (HP5.out.grp hI6 hg6)
          have HA6 := hide hss
          clear hss hI6 hg6
          go_wp2_with fail
          refine (ref38_setGroups _ _ _ win (m ++ [a]) _ HP6.out.b HVN.out (by omega) HP6.out.a.win).mono ?_
          rintro e w7 ⟨u', M', rfl, hss, hb7, hok⟩
          have HP7 := hide (HP6.out.keep hb7)
          have HA7 := hide (HA6.out.below hb7)
          have HC7 := hide hss
          obtain rfl : gK rt' (m ++ [a]).length = M' := gok_uniq (gok_ok (gErr_ok (by omega) HP6.out.a.win (allVB_iff.1 HVN.out)) HP6.out.a.conn) hok
          clear hss hb7 hok
          go_wp2_with fail
          refine (ref38_same_eq _ _ _ _ HA7.out HC7.out).mono ?_
          rintro e w8 ⟨rfl, n8, rfl⟩
          have HP8 := hide (HP7.out.keep (bdraw (Below.refl _ _) n8))
          go_wp2_with fail
          go_roundw
          case rel => exact ⟨k + 1, m ++ [a], _, _, _, by omega, by go_num, by omega, HVN.out, HP8.out⟩
          case measure => simp [intOf]; omega
        · have HV := hide hv
          clear hv
          go_wp2_with fail
          refine (mrg_add_inv a w1.heap.size _ HV.out).mono ?_
          rintro e w4 ⟨rfl, hb4⟩
          have HP4 := hide (HPR.out.keep hb4)
          clear hb4 y0 y1 y2 y3 y4
          obtain ⟨y0, y1, y2, y3, y4⟩ := cells_in HP4.out.below hcs.out
          go_wp2_with fail
          refine (ref38_add_inv a w2.heap.size _ HV.out).mono ?_
          rintro e w5 ⟨rfl, hb5⟩
          have HP5 := hide (HP4.out.keep hb5)
          clear hb5 y0 y1 y2 y3 y4
          go_wp2_with fail
          refine (mrg_setGroups _ _ _ win m rt _ HP5.out.a).mono ?_
          rintro e w6 ⟨u, rfl, hss, hI6, hg6⟩
          have HP6 := hide (HP5.out.grp hI6 hg6)
          have HA6 := hide hss
          clear hss hI6 hg6
          go_wp2_with fail
          refine (ref38_setGroups _ _ _ win m _ HP6.out.b HVM.out (by omega) HP6.out.a.win).mono ?_
          rintro e w7 ⟨u', M', rfl, hss, hb7, hok⟩
          have HP7 := hide (HP6.out.keep hb7)
          have HA7 := hide (HA6.out.below hb7)
          have HC7 := hide hss
          obtain rfl : gK rt m.length = M' := gok_uniq (gok_ok (gErr_ok (by omega) HP6.out.a.win (allVB_iff.1 HVM.out)) HP6.out.a.conn) hok
          clear hss hb7 hok
          go_wp2_with fail
          refine (ref38_same_eq _ _ _ _ HA7.out HC7.out).mono ?_
          rintro e w8 ⟨rfl, n8, rfl⟩
          have HP8 := hide (HP7.out.keep (bdraw (Below.refl _ _) n8))
          go_wp2_with fail
          go_roundw
          case rel => exact ⟨k + 1, m, _, _, _, by omega, by go_num, by omega, HVM.out, HP8.out⟩
          case measure => simp [intOf]; omega
      · have hk' : k = l.length := by omega
        subst hk'
        have HBZ := hide (HB1.out.trans (HPR.out.below.mono HB1.out.size))
        go_wp2_with fail
        go_ret
        exact ⟨rfl, HBZ.out⟩
  · have HW := hide hw
    clear hw
    go_wp2_with fail
    refine (mrg_new_bad win _ HW.out).mono ?_
    rintro e w2 ⟨rfl, rfl⟩
    go_wp2_with fail
    refine (ref38_new_bad win _ HW.out).mono ?_
    rintro e w2 ⟨rfl, rfl⟩
    go_wp2_with fail
    go_loopw [10] (fun i wx => ∃ (k : Nat), k ≤ l.length ∧ i = .int .i64 k ∧ Below w1.heap.size w1 wx) (fun i _ => l.length - (intOf i).toNat)
    case atStart => exact ⟨0, Nat.zero_le _, rfl, Below.refl _ _⟩
    case round =>
      obtain ⟨k, hk, rfl, hb⟩ := hrel
      have HB2 := hide hb
      clear hb
      by_cases hlt : k < l.length
      · obtain ⟨b, off, rfl, hcpI, hcap, hc⟩ := HC.out (by omega)
        obtain ⟨y0, y1, y2, y3, y4⟩ := cells_in HB2.out (hc k hlt)
        have hcs := hide (hc k hlt)
        have hki : (k : Int) < (l.length : Int) := by omega
        have hk0 : (0 : Int) ≤ (k : Int) := by omega
        clear hc
        obtain ⟨a, ha⟩ : ∃ a, l[k] = a := ⟨_, rfl⟩
        rw [ha] at y0 y1 y2 y3 y4 hcs
        clear ha
        go_wp2_with fail
        refine (mrg_add_nil a _).mono ?_
        rintro e w4 ⟨rfl, hb4⟩
        have HB4 := hide (bstep' HB2.out hb4)
        clear hb4 y0 y1 y2 y3 y4
        obtain ⟨y0, y1, y2, y3, y4⟩ := cells_in HB4.out hcs.out
        go_wp2_with fail
        refine (ref38_add_nil a _).mono ?_
        rintro e w5 ⟨rfl, hb5⟩
        have HB5 := hide (bstep' HB4.out hb5)
        clear hb5 y0 y1 y2 y3 y4
        go_wp2_with fail
        refine (mrg_setGroups_nil _).mono ?_
        rintro e w6 ⟨rfl, rfl⟩
        go_wp2_with fail
        refine (ref38_setGroups_nil _).mono ?_
        rintro e w6 ⟨rfl, rfl⟩
        go_wp2_with fail
        refine (ref38_same_eq [] _ _ _ (SliceSS.nil _ _ _) (SliceSS.nil _ _ _)).mono ?_
        rintro e w8 ⟨rfl, n8, rfl⟩
        have HB8 := hide (bdraw HB5.out n8)
        go_wp2_with fail
        go_roundw
        case rel => exact ⟨k + 1, by omega, by go_num, HB8.out⟩
        case measure => simp [intOf]; omega
      · have hk' : k = l.length := by omega
        subst hk'
        have HBZ := hide (HB1.out.trans (HB2.out.mono HB1.out.size))
        go_wp2_with fail
        go_ret
        exact ⟨rfl, HBZ.out⟩
end Go.Proofs.Ytahlhiiekgnmpab
