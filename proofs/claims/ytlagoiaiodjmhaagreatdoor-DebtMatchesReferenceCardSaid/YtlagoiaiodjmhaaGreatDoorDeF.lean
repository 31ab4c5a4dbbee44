/- debt: Owe. -/
import Derived.Test.YtlagoiaiodjmhaaGreatDoorDeE
set_option linter.unusedVariables false
set_option linter.unusedSimpArgs false
namespace Go.Proofs.YtlagoiaiodjmhaaGreatDoor
open Go.RowKit Go.Maps

structure Fr where
  mo : Int
  tl : Int
  pr : Int
  ti : Int
  fl : Int
  r0 : Int
  r1 : Int
  r2 : Int
  r3 : Int
def vFr (f : Fr) : Value := .agg #[.int .i64 f.mo, .int .i64 f.tl, .int .i64 f.pr, .int .i64 f.ti, .int .i64 f.fl, .int .i64 f.r0, .int .i64 f.r1, .int .i64 f.r2, .int .i64 f.r3]
def oweB (f : Fr) : Bool := (decide (0 ≤ f.mo) && decide (f.mo ≤ 38399)) && (decide (0 ≤ f.pr) && decide (f.pr ≤ 63)) && clsB 2 f.tl f.fl
def oweL (f : Fr) : List Db := [⟨1, f.tl, -1, f.mo - 96, f.mo + 96, f.pr⟩, ⟨2, f.tl, f.fl, f.mo - 288, f.mo + 288, f.pr⟩, ⟨3, f.tl, f.fl, f.mo, f.mo + 48, f.pr⟩]
def oweE (b : Bool) : Int := cond b 0 1
def oweR (f : Fr) (b : Bool) : List Db := cond b (oweL f) []
set_option maxHeartbeats 4000000 in
set_option maxRecDepth 100000 in
theorem de_owe1 (k fl x y : Int) (A : Nat) (mo tl pr : Int) (w : World) (c0 : w.cell? ⟨A, 0, none⟩ = some (.int .i64 mo)) (c1 : w.cell? ⟨A, 1, none⟩ = some (.int .i64 tl)) (c2 : w.cell? ⟨A, 2, none⟩ = some (.int .i64 pr)) (h0 : 0 ≤ mo) (h1 : mo ≤ 38399) (hx : 0 ≤ x ∧ x ≤ 1000) (hy : 0 ≤ y ∧ y ≤ 1000) :
    Calls Tryz.prog 29 #[.int .i64 k, .int .i64 fl, .int .i64 x, .int .i64 y, .pointer (some ⟨A, 0, none⟩)] w fun e w' => e = .returned (.agg #[.int .i64 k, .int .i64 tl, .int .i64 fl, .int .i64 (mo - x), .int .i64 (mo + y), .int .i64 pr]) ∧ Below w.heap.size w w' := by
  have hb := bAlloc (Below.refl w.heap.size w) (.cells #[.int .i64 0, .int .i64 0, .int .i64 0, .int .i64 0, .int .i64 0, .int .i64 0] 47)
  have k0 := keep_cell hb c0
  have k1 := keep_cell hb c1
  have k2 := keep_cell hb c2
  have HB := hide hb
  have e1 : IntKind.i64.wrap (mo - x) = mo - x := IntWalk.i64_in _ (by omega)
  have e2 : IntKind.i64.wrap (mo + y) = mo + y := IntWalk.i64_in _ (by omega)
  clear hb c0 c1 c2
  go_enter Tryz.func29, Tryz.ntmps29
  go_wp2_with fail
  exact bodyPost_ret (v := .agg #[.int .i64 k, .int .i64 tl, .int .i64 fl, .int .i64 (mo - x), .int .i64 (mo + y), .int .i64 pr]) (by simp [results, Tryz.results29, go_sem]) rfl ⟨rfl, bAlloc (Below.refl _ _) _⟩
set_option maxHeartbeats 8000000 in
set_option maxRecDepth 100000 in
theorem de_owe (f : Fr) (w : World) (b : Bool) (hb : oweB f = b) : Calls Tryz.prog 11 #[vFr f] w fun e w' =>
    ∃ u, e = .returned (.tuple #[u, .int .i64 (oweE b)]) ∧ SliceOf vDb 6 w' u (oweR f b) ∧ Below w.heap.size w w' := by
  have HW := hide (fun n lo hi W => de_within n lo hi W)
  have HCL := hide (fun k t f W => de_cls k t f W)
  have HBA := hide (bAlloc (Below.refl w.heap.size w) (.cells #[.int .i64 f.mo, .int .i64 f.tl, .int .i64 f.pr, .int .i64 f.ti, .int .i64 f.fl, .int .i64 f.r0, .int .i64 f.r1, .int .i64 f.r2, .int .i64 f.r3] 25))
  have c0 : (w.alloc (.cells #[.int .i64 f.mo, .int .i64 f.tl, .int .i64 f.pr, .int .i64 f.ti, .int .i64 f.fl, .int .i64 f.r0, .int .i64 f.r1, .int .i64 f.r2, .int .i64 f.r3] 25)).cell? ⟨w.heap.size, 0, none⟩ = some (.int .i64 f.mo) := by simp [go_sem]
  have c1 : (w.alloc (.cells #[.int .i64 f.mo, .int .i64 f.tl, .int .i64 f.pr, .int .i64 f.ti, .int .i64 f.fl, .int .i64 f.r0, .int .i64 f.r1, .int .i64 f.r2, .int .i64 f.r3] 25)).cell? ⟨w.heap.size, 1, none⟩ = some (.int .i64 f.tl) := by simp [go_sem]
  have c2 : (w.alloc (.cells #[.int .i64 f.mo, .int .i64 f.tl, .int .i64 f.pr, .int .i64 f.ti, .int .i64 f.fl, .int .i64 f.r0, .int .i64 f.r1, .int .i64 f.r2, .int .i64 f.r3] 25)).cell? ⟨w.heap.size, 2, none⟩ = some (.int .i64 f.pr) := by simp [go_sem]
  have c4 : (w.alloc (.cells #[.int .i64 f.mo, .int .i64 f.tl, .int .i64 f.pr, .int .i64 f.ti, .int .i64 f.fl, .int .i64 f.r0, .int .i64 f.r1, .int .i64 f.r2, .int .i64 f.r3] 25)).cell? ⟨w.heap.size, 4, none⟩ = some (.int .i64 f.fl) := by simp [go_sem]
  have HCC := hide (And.intro c0 (And.intro c1 (And.intro c2 c4)))
  obtain ⟨p1, hp1⟩ : ∃ p, (decide ((0 : Int) ≤ f.mo) && decide (f.mo ≤ 38399)) = p := ⟨_, rfl⟩
  obtain ⟨p2, hp2⟩ : ∃ p, (decide ((0 : Int) ≤ f.pr) && decide (f.pr ≤ 63)) = p := ⟨_, rfl⟩
  obtain ⟨p3, hp3⟩ : ∃ p, clsB 2 f.tl f.fl = p := ⟨_, rfl⟩
  have HB : Hid ((p1 && p2 && p3) = b) := by show _ = _; rw [← hb]; unfold oweB; rw [hp1, hp2, hp3]
  have HP1 := hide hp1
  have HP2 := hide hp2
  have HP3 := hide hp3
  clear hp1 hp2 hp3 hb
  unfold vFr
  cases p1 with
  | false =>
    obtain rfl : b = false := by rw [← HB.out]; rfl
    clear HB
    go_enter Tryz.func11, Tryz.ntmps11
    go_wp2_with fail
    refine (HW.out _ _ _ _).mono ?_
    rintro e w1 ⟨rfl, rfl⟩
    have hp := HP1.out
    rw [hp]
    clear hp
    go_wp2_with fail
    go_ret2
    exact ⟨_, rfl, .inl ⟨none, rfl, rfl⟩, HBA.out⟩
  | true =>
    cases p2 with
    | false =>
      obtain rfl : b = false := by rw [← HB.out]; rfl
      clear HB
      go_enter Tryz.func11, Tryz.ntmps11
      go_wp2_with fail
      refine (HW.out _ _ _ _).mono ?_
      rintro e w1 ⟨rfl, rfl⟩
      have hp := HP1.out
      rw [hp]
      clear hp
      go_wp2_with fail
      refine (HW.out _ _ _ _).mono ?_
      rintro e w1 ⟨rfl, rfl⟩
      have hp := HP2.out
      rw [hp]
      clear hp
      go_wp2_with fail
      go_ret2
      exact ⟨_, rfl, .inl ⟨none, rfl, rfl⟩, HBA.out⟩
    | true =>
      cases p3 with
      | false =>
        obtain rfl : b = false := by rw [← HB.out]; rfl
        clear HB
        go_enter Tryz.func11, Tryz.ntmps11
        go_wp2_with fail
        refine (HW.out _ _ _ _).mono ?_
        rintro e w1 ⟨rfl, rfl⟩
        have hp := HP1.out
        rw [hp]
        clear hp
        go_wp2_with fail
        refine (HW.out _ _ _ _).mono ?_
        rintro e w1 ⟨rfl, rfl⟩
        have hp := HP2.out
        rw [hp]
        clear hp
        go_wp2_with fail
        refine (HCL.out _ _ _ _).mono ?_
        rintro e w1 ⟨rfl, hb⟩
        have hp := HP3.out
        rw [hp]
        have HB2 := hide (bStepD HBA.out hb)
        clear hp hb
        go_wp2_with fail
        go_ret2
        exact ⟨_, rfl, .inl ⟨none, rfl, rfl⟩, HB2.out⟩
      | true =>
        obtain rfl : b = true := by rw [← HB.out]; rfl
        have HMO : Hid (0 ≤ f.mo ∧ f.mo ≤ 38399) := by show 0 ≤ f.mo ∧ f.mo ≤ 38399; have := HP1.out; simpa using this
        clear HB
        go_enter Tryz.func11, Tryz.ntmps11
        go_wp2_with fail
        refine (HW.out _ _ _ _).mono ?_
        rintro e w1 ⟨rfl, rfl⟩
        have hp := HP1.out
        rw [hp]
        clear hp
        go_wp2_with fail
        refine (HW.out _ _ _ _).mono ?_
        rintro e w1 ⟨rfl, rfl⟩
        have hp := HP2.out
        rw [hp]
        clear hp
        go_wp2_with fail
        refine (HCL.out _ _ _ _).mono ?_
        rintro e w1 ⟨rfl, hb⟩
        have hp := HP3.out
        rw [hp]
        have HB2 := hide (bStepD HBA.out hb)
        obtain ⟨c0, c1, c2, c4⟩ := HCC.out
        replace c0 := keep_cell hb c0
        replace c1 := keep_cell hb c1
        replace c2 := keep_cell hb c2
        replace c4 := keep_cell hb c4
        obtain ⟨A, hA⟩ : ∃ A, w.heap.size = A := ⟨_, rfl⟩
        rw [hA] at c0 c1 c2 c4 ⊢
        have HQ : Hid (∀ W, Below w1.heap.size w1 W → W.cell? ⟨A, 0, none⟩ = some (.int .i64 f.mo) ∧ W.cell? ⟨A, 1, none⟩ = some (.int .i64 f.tl) ∧ W.cell? ⟨A, 2, none⟩ = some (.int .i64 f.pr) ∧ W.cell? ⟨A, 4, none⟩ = some (.int .i64 f.fl)) := fun W hW => ⟨keep_cell hW c0, keep_cell hW c1, keep_cell hW c2, keep_cell hW c4⟩
        have HCA := hide (fun k fl x y W (hW : Below w1.heap.size w1 W) (hx : 0 ≤ x ∧ x ≤ 1000) (hy : 0 ≤ y ∧ y ≤ 1000) => de_owe1 k fl x y A f.mo f.tl f.pr W (HQ.out W hW).1 (HQ.out W hW).2.1 (HQ.out W hW).2.2.1 HMO.out.1 HMO.out.2 hx hy)
        have HZ : Hid (Below w1.heap.size w1 w1) := Below.refl _ _
        rw [← hA] at HQ HCA
        rw [← hA]
        clear hp hb HBA c0 c1 c2 c4 HCC hA
        go_wp2_with fail
        go_region_held3 (fun w' => w'.cell? ⟨w.heap.size, 4, none⟩ = some (.int .i64 f.fl))
          (first | exact (HQ.out _ HB5.out).2.2.2 | exact (HQ.out _ HB4.out).2.2.2 | exact (HQ.out _ HB3.out).2.2.2 | exact (HQ.out _ (bDraw HZ.out)).2.2.2 | exact (HQ.out _ (bAlloc HB5.out _)).2.2.2)
          (first
            | (go_at_call 29; refine (HCA.out 3 f.fl 0 48 _ HB4.out (by omega) (by omega)).mono ?_; rintro e w5 ⟨rfl, hb⟩; have HB5 := hide (bStepD HB4.out hb); clear hb)
            | (go_at_call 29; refine (HCA.out 2 f.fl 288 288 _ HB3.out (by omega) (by omega)).mono ?_; rintro e w4 ⟨rfl, hb⟩; have HB4 := hide (bStepD HB3.out hb); clear hb)
            | (go_at_call 29; refine (HCA.out 1 (-1) 96 96 _ (bDraw HZ.out) (by omega) (by omega)).mono ?_; rintro e w3 ⟨rfl, hb⟩; have HB3 := hide (bStepD (bDraw HZ.out) hb); clear hb))
        have HSL := hide (slice_lit vDb_len w5 (oweL f) 47 (by show 3 ≤ maxLen; decide))
        have HBE := hide (bStepD HB2.out (bAlloc HB5.out (.cells (flatV vDb (oweL f)).toArray 47)))
        go_wp2_with fail
        go_ret2
        exact ⟨_, rfl, HSL.out, HBE.out⟩
end Go.Proofs.YtlagoiaiodjmhaaGreatDoor
