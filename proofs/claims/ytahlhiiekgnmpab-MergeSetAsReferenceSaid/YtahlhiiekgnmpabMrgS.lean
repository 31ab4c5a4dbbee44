/- Reference 38: sets. -/
import Derived.Test.YtahlhiiekgnmpabMrgN
namespace Go.Proofs.Ytahlhiiekgnmpab
open Go.RowKit

/-- A set of the reference: block R. -/
structure RSet (w : World) (R B : Nat) (v : Value) (win : Int) (l : List Al) : Prop where
  win_ : w.cell? ⟨R, 0, none⟩ = some (.int .i64 win)
  al : w.cell? ⟨R, 1, none⟩ = some v
  fr : ∀ o, o < 2 → w.frozen? ⟨R, o, none⟩ = false
  own : OwnS w B 5 v l.length (flatV vAl l)
  RB : R < B
  base : B ≤ w.heap.size
theorem RSet.lt {w : World} {R B : Nat} {v : Value} {win : Int} {l : List Al} (h : RSet w R B v win l) : R < w.heap.size := World.block_lt_of_cell? _ _ h.win_
theorem RSet.below {w w' : World} {R B : Nat} {v : Value} {win : Int} {l : List Al} (h : RSet w R B v win l) (hb : Below w.heap.size w w') : RSet w' R B v win l :=
  ⟨keep_cell hb h.win_, keep_cell hb h.al, fun o ho => (hb.frozen (p := ⟨R, o, none⟩) h.lt).trans (h.fr o ho), h.own.below hb, h.RB, Nat.le_trans h.base hb.size⟩
theorem RSet.kept {w w' : World} {R B R' : Nat} {v : Value} {row : Option Nat} {win : Int} {l : List Al} (h : RSet w R B v win l) (hb : Only2 w w' R' row) (h1 : R ≠ R') (h2 : some R ≠ row) (h3 : ∀ k, v.ownBlock = some k → k ≠ R' ∧ some k ≠ row) : RSet w' R B v win l := by
  have e := hb.block R h.lt h1 h2
  refine ⟨(World.cell?_of_block (w := w) (a := ⟨R, 0, none⟩) e).trans h.win_, (World.cell?_of_block (w := w) (a := ⟨R, 1, none⟩) e).trans h.al, fun o ho => (World.frozen?_of_block (w := w) (a := ⟨R, o, none⟩) e).trans (h.fr o ho), ?_, h.RB, Nat.le_trans h.base hb.size⟩
  refine ⟨h.own.1, ?_⟩
  rcases h.own.2 with ⟨ao, a, b, c⟩ | ⟨g, off, cap, hv, hB, hlt, hn, hm, hc, hx⟩
  · exact .inl ⟨ao, a, b, fun x hx => ⟨(c x hx).1, Nat.lt_of_lt_of_le (c x hx).2 hb.size⟩⟩
  · have hg := h3 g (by rw [hv]; rfl)
    have e2 := hb.block g hlt hg.1 hg.2
    refine .inr ⟨g, off, cap, hv, hB, Nat.lt_of_lt_of_le hlt hb.size, hn, hm, fun j hj => ?_, fun j u hu => ?_⟩
    · rw [World.cell?_of_block (w := w) (a := ⟨g, off + j, none⟩) e2, World.frozen?_of_block (w := w) (a := ⟨g, off + j, none⟩) e2]
      exact hc j hj
    · rw [World.cell?_of_block (w := w) (a := ⟨g, off + j, none⟩) e2]
      exact hx j u hu

set_option maxHeartbeats 1000000 in
theorem ref38_new_ok (win : Int) (w : World) (hw : momB win = true) : Calls Try.prog 30 #[.int .i64 win] w fun e w' =>
    e = .returned (.tuple #[.pointer (some ⟨w.heap.size, 0, none⟩), .int .i64 0]) ∧ RSet w' w.heap.size (w.heap.size + 1) (.slice none 0 0) win [] ∧ Below w.heap.size w w' := by
  have HW := hide hw
  clear hw
  go_enter Try.func30, Try.ntmps30
  go_wp2_with fail
  refine (ref38_moment win true _ HW.out).mono ?_
  rintro e w' ⟨rfl, rfl⟩
  go_wp2_with fail
  go_ret2
  refine ⟨rfl, ⟨by simp [go_sem], by simp [go_sem], fun o ho => by simp [go_sem], OwnS.nil _ _ _, by omega, by simp⟩, ba _ _⟩
theorem ref38_new_bad (win : Int) (w : World) (hw : momB win = false) : Calls Try.prog 30 #[.int .i64 win] w fun e w' => e = .returned (.tuple #[.pointer none, .int .i64 1]) ∧ w = w' := by
  have HW := hide hw
  clear hw
  go_enter Try.func30, Try.ntmps30
  go_wp2_with fail
  refine (ref38_moment win false _ HW.out).mono ?_
  rintro e w' ⟨rfl, rfl⟩
  go_wp2_with fail
  go_ret2
  exact ⟨rfl, rfl⟩
theorem ref38_add_nil (a : Al) (w : World) : Calls Try.prog 32 #[.pointer none, .agg #[.int .i64 a.tile, .int .i64 a.cell, .int .i64 a.flt, .int .i64 a.val, .int .i64 a.at_]] w
    fun e w' => e = .returned (.tuple #[.int .i64 0, .int .i64 1]) ∧ Below w.heap.size w w' := by
  have hb := hide (ba w (.cells #[.int .i64 a.tile, .int .i64 a.cell, .int .i64 a.flt, .int .i64 a.val, .int .i64 a.at_] 57))
  go_enter Try.func32, Try.ntmps32
  go_wp2_with fail
  go_ret2
  exact ⟨rfl, hb.out⟩
theorem ref38_setGroups_nil (w : World) : Calls Try.prog 34 #[.pointer none] w fun e w' => e = .returned (.slice none 0 0) ∧ w = w' := by
  go_enter Try.func34, Try.ntmps34
  go_wp2_with fail
  go_ret
  exact ⟨rfl, rfl⟩
set_option maxHeartbeats 1000000 in
set_option maxRecDepth 100000 in
theorem ref38_add_inv (a : Al) (R : Nat) (w : World) (ha : valB a = false) : Calls Try.prog 32 #[.pointer (some ⟨R, 0, none⟩), .agg #[.int .i64 a.tile, .int .i64 a.cell, .int .i64 a.flt, .int .i64 a.val, .int .i64 a.at_]] w
    fun e w' => e = .returned (.tuple #[.int .i64 0, .int .i64 1]) ∧ Below w.heap.size w w' := by
  have hb := hide (ba w (.cells #[.int .i64 a.tile, .int .i64 a.cell, .int .i64 a.flt, .int .i64 a.val, .int .i64 a.at_] 57))
  have HA := hide ha
  clear ha
  go_enter Try.func32, Try.ntmps32
  go_wp2_with fail
  refine (ref38_valid a false _ HA.out).mono ?_
  rintro e w1 ⟨rfl, hb1⟩
  have HB := hide (bstep' hb.out hb1)
  clear hb1
  go_wp2_with fail
  go_ret2
  exact ⟨rfl, HB.out⟩
set_option maxHeartbeats 2000000 in
set_option maxRecDepth 100000 in
theorem ref38_setGroups (R B : Nat) (v : Value) (win : Int) (l : List Al) (w : World) (h : RSet w R B v win l) (hv : allVB l = true) (hl : l.length ≤ 200) (hw : momB win = true) :
    Calls Try.prog 34 #[.pointer (some ⟨R, 0, none⟩)] w fun e w' => ∃ u M, e = .returned u ∧ SliceSS vI 1 w' u M ∧ Below w.heap.size w w' ∧ GOk win l M := by
  have HS : Hid (SliceOf vAl 5 w v l) := OwnS.slice vAl_len h.own
  have HE := hide (gErr_ok hl hw (allVB_iff.1 hv))
  have c0 := h.win_
  have c1 := h.al
  clear h hv
  go_enter Try.func34, Try.ntmps34
  go_wp2_with fail
  have HSD : Hid (SliceOf vAl 5 w.drew v l) := HS.out.below (bDraw (Below.refl _ _))
  go_region_with (go_at_call 27; refine (ref38_groups_at l win 0 v _ HSD.out HE.out).mono ?_; rintro e w1 ⟨u, M, rfl, hss, hb, hok⟩)
  all_goals
    have HA := hide hss
    have HB := hide (bstep' (bDraw (Below.refl _ _)) hb)
    have HK := hide hok
    clear hss hb hok
    go_wp2_with fail
    go_ret
    exact ⟨u, M, rfl, HA.out, HB.out, HK.out⟩
end Go.Proofs.Ytahlhiiekgnmpab
