/- moments: total. -/
import Derived.Test.YtblpnekjnaaeoaaGreatDoorMoS
import Derived.RangeFuncNested
import Derived.RangeFuncBound
import Derived.RangeFuncCalls
import Derived.RangeFuncBox
import Derived.RangeFuncLeaves
import Derived.Shelf.Abstract
import Derived.Shelf.RegionOpen
import Derived.WalkKit
import Derived.OwnWalkIn
import Derived.TacticsInMore
import Derived.LoopNIn
import Derived.LoopIn
set_option linter.unusedVariables false
set_option linter.unusedSimpArgs false
namespace Go.Proofs.YtblpnekjnaaeoaaGreatDoor
open Go.RowKit Go.Shelf
attribute [local go_sem] Oper.semAt_some

/-- The sum of weights, as it is computed. -/
def totS (o : Option Rat) (w : Rat) : Option Rat := o.bind fun s => addR s w
def totO (l : List Rat) : Option Rat := l.foldl totS (some 0)
theorem totO_snoc (l : List Rat) (w : Rat) : totO (l ++ [w]) = totS (totO l) w := by unfold totO; rw [List.foldl_append]; rfl
def o3 : T3 := (false, ⟨#[49]⟩, ⟨#[49]⟩)
theorem isT_one : IsT 1 o3 := by
  show rqV 1 = _
  unfold rqV
  rw [show ngQ 1 = false by decide, show nmQ 1 = 1 by decide, show (1 : Rat).den = 1 by decide, natS_one]
  rfl
theorem is1_of {q : Rat} {x : T3} (h : IsT q x) : decide (x = o3) = decide ((some q : Option Rat) = some 1) := by
  by_cases e : q = 1
  · subst e
    rw [h.eq, ← isT_one.eq]
    simp
  · rw [decide_eq_false (fun hx => e ?_), decide_eq_false (fun hs => e (by injection hs))]
    subst hx
    exact IsQ.inj h isT_one
def B3 (W : World) (b : Nat) (x : T3) : Prop := W.cell? ⟨b, 0, none⟩ = some (.bool x.1) ∧ W.cell? ⟨b, 1, none⟩ = some (.string x.2.1) ∧ W.cell? ⟨b, 2, none⟩ = some (.string x.2.2)
theorem turn_cellC {W W' : World} {row : Option Nat} (hg : W.grownBy W' row) (hr : ∀ r, row = some r → ∃ o : Obj, W.heap[r]? = some o ∧ o.isCells = false) {p : Addr} {u : Value} (h : W.cell? p = some u) : W'.cell? p = some u ∧ W'.frozen? p = W.frozen? p := by
  have hlt := World.block_lt_of_cell? _ _ h
  have hne : some p.block ≠ row := fun e => by
    obtain ⟨o, ho, hc⟩ := hr p.block e.symm
    unfold World.cell? at h
    rw [ho] at h
    cases o <;> simp_all [Obj.isCells]
  have e := hg.block p.block hlt hne
  exact ⟨(World.cell?_of_block (w := W) (a := p) e).trans h, World.frozen?_of_block (w := W) (a := p) e⟩
theorem B3.turn {W W' : World} {b : Nat} {x : T3} {row : Option Nat} (h : B3 W b x) (hg : W.grownBy W' row) (hr : ∀ r, row = some r → ∃ o : Obj, W.heap[r]? = some o ∧ o.isCells = false) : B3 W' b x :=
  ⟨(turn_cellC hg hr h.1).1, (turn_cellC hg hr h.2.1).1, (turn_cellC hg hr h.2.2).1⟩
theorem B3.new (w : World) (x : T3) (T : TypeId) : B3 (w.alloc (.cells #[.bool x.1, .string x.2.1, .string x.2.2] T)) w.heap.size x := by
  refine ⟨?_, ?_, ?_⟩ <;> simp [go_sem]
theorem tot_eO (om : Option Rat) (q : Rat) : (om.bind fun s => some (s, q)).bind (fun z => addR z.1 z.2) = totS om q := by cases om <;> rfl
theorem eO_pair (om : Option Rat) (q : Rat) : eO (om.bind fun s => some (s, q)) = eO om := by cases om <;> rfl
/-- The variables of total between two rounds. -/
structure TI (n₀ C S : Nat) (w0 W : World) (om : Option Rat) (x : T3) : Prop where
  bel : Below n₀ w0 W
  ce : CE W C (eO om)
  rc : RC W S x.1 x.2.1 x.2.2
  tx : ∀ q, om = some q → IsT q x ∧ FitQ q
theorem RC.turn {W W' : World} {b : Nat} {g : Bool} {s t : ByteArray} {row : Option Nat} (h : RC W b g s t) (hg : W.grownBy W' row) (hr : ∀ r, row = some r → ∃ o : Obj, W.heap[r]? = some o ∧ o.isCells = false) : RC W' b g s t :=
  h.keptM hg (fun e => by
    obtain ⟨o, ho, hc⟩ := hr b e.symm
    have := h.c0
    unfold World.cell? at this
    rw [ho] at this
    cases o <;> simp_all [Obj.isCells])
theorem CE.turn {W W' : World} {C : Nat} {e : Int} {row : Option Nat} (h : CE W C e) (hg : W.grownBy W' row) (hr : ∀ r, row = some r → ∃ o : Obj, W.heap[r]? = some o ∧ o.isCells = false) : CE W' C e :=
  h.keptM hg (fun e => by
    obtain ⟨o, ho, hc⟩ := hr C e.symm
    exact ce_ne h ho hc rfl)
theorem TI.turn {n₀ C S B : Nat} {w0 W W' : World} {om : Option Rat} {x : T3} {row : Option Nat} (h : TI n₀ C S w0 W om x) (hn : n₀ ≤ B) (hs : n₀ ≤ w0.heap.size) (hg : W.grownBy W' row) (hr : ∀ r, row = some r → B ≤ r ∧ ∃ o : Obj, W.heap[r]? = some o ∧ o.isCells = false) : TI n₀ C S w0 W' om x :=
  ⟨h.bel.grown hg (Nat.le_trans hs h.bel.size) (fun k e => Nat.le_trans hn (hr k e).1), h.ce.turn hg (fun r e => (hr r e).2), h.rc.turn hg (fun r e => (hr r e).2), h.tx⟩
theorem TI.below {n₀ C S : Nat} {w0 W W' : World} {om : Option Rat} {x : T3} (h : TI n₀ C S w0 W om x) (hs : n₀ ≤ w0.heap.size) (hb : Below W.heap.size W W') : TI n₀ C S w0 W' om x :=
  ⟨h.bel.trans (hb.mono (Nat.le_trans hs h.bel.size)), h.ce.below hb, h.rc.below hb, h.tx⟩
set_option maxHeartbeats 8000000 in
set_option maxRecDepth 100000 in
theorem mo_total (g : Nat) (lb : Array Value) (eg : ∀ args w, (callFunc g args).run Tryz.prog w = .ok (.enter g args) w) (zs : List FQ) (w : World) (hL : LawM w)
    (hseq : ∀ w1, Below w.heap.size w w1 → SeqStopsK Fence.wide 5 Tryz.prog g lb (fun q : FQ => #[agT (rqM q.1)]) (Below w.heap.size) (fun xs => xs = zs) (fun _ => True) zs.length w1) :
    Calls Tryz.prog 48 #[.func (.func g) #[] lb] w fun e w' => e = .returned (.bool (decide (totO (zs.map fun z => z.1) = some 1))) ∧ Below w.heap.size w w' := by
  have HL := hide hL
  have HSEQ := hide hseq
  obtain ⟨z0, z1, z2⟩ := (hL.below (bAlloc (Below.refl w.heap.size w) (.cells #[.int .i64 0] 57))).2.1
  clear hL hseq
  refine (callsIn_wide (n := 6)).1 ?_
  refine callsIn_of_wp_marks Tryz.func48 rfl trivial ?_ rfl
  simp only [Tryz.ntmps48, List.size_toArray, List.length_cons, List.length_nil, Nat.reduceAdd, Nat.reduceSub, Array.replicate_succ, Array.replicate_zero, List.push_toArray, List.append_toArray, List.nil_append, List.cons_append]
  gi_wp2
  obtain ⟨wl, hwl⟩ : ∃ x, (w.alloc (.cells #[.int .i64 0] 57)).alloc (.cells #[.bool false, .string ⟨#[48]⟩, .string ⟨#[49]⟩] 29) = x := ⟨_, rfl⟩
  have HS0 : Hid (wl.heap.size = w.heap.size + 2) := by show wl.heap.size = _; rw [← hwl]; simp
  have HB0 : Hid (Below w.heap.size w wl) := by show Below _ _ _; rw [← hwl]; exact bAlloc (bAlloc (Below.refl _ _) _) _
  have HT0 : Hid (TI w.heap.size w.heap.size (w.heap.size + 1) w wl (totO []) (false, ⟨#[48]⟩, ⟨#[49]⟩)) := by
    have h1 := CE.new w 57
    have h2 := RC.new_at (w.alloc (.cells #[.int .i64 0] 57)) false ⟨#[48]⟩ ⟨#[49]⟩ 29 (b := w.heap.size + 1) (by simp)
    have h3 := h1.below (bAlloc (Below.refl _ _) (.cells #[.bool false, .string ⟨#[48]⟩, .string ⟨#[49]⟩] 29))
    show TI _ _ _ _ _ _ _
    rw [← hwl]
    exact ⟨bAlloc (bAlloc (Below.refl _ _) _) _, h3, h2, fun q h => by injection h with h; subst h; exact ⟨isT_zero, fit_zero⟩⟩
  clear z0 z1 z2
  rw [hwl]
  clear hwl
  refine wpIn_rangeFunc_ownH rfl (show 1 ≤ 6 by decide) (gf := g) (lb := lb) rfl trivial eg
    (encs := fun q : FQ => #[agT (rqM q.1)]) (Kp := Below w.heap.size) (S := fun xs => xs = zs) (Sp := fun _ => True) (N := zs.length) (w0 := wl)
    (HSEQ.out wl HB0.out)
    (fun h k => h.trans k) (belowK_b (by have := HS0.out; omega)) (Below.refl _ _) (fun _ => rfl)
    (fun pre W => ∃ x, TI w.heap.size w.heap.size (w.heap.size + 1) w W (totO (pre.map fun z => z.1)) x)
    (fun _ _ _ => False)
    (fun pre X Y row hs hg hr => by obtain ⟨x, hx⟩ := hs; exact ⟨x, hx.turn (by have := HS0.out; omega) (Nat.le_refl _) hg hr⟩)
    (fun _ _ _ _ _ hs _ _ => hs)
    ⟨_, HT0.out⟩
    (fun q a' W => ∃ Bx, B3 W Bx (rqM q.1) ∧ a' = { tmps := #[.func (.func g) #[] lb, undef, .bool false, .pointer (some ⟨w.heap.size, 0, none⟩), .pointer (some ⟨w.heap.size + 1, 0, none⟩), .pointer (some ⟨Bx, 0, none⟩), .agg #[.bool false, .string ⟨#[48]⟩, .string ⟨#[49]⟩], .func (.func g) #[] lb, agT (rqM q.1), undef, undef, undef, undef, undef, undef, undef, undef, undef, undef, undef], defers := [] })
    (fun q a' _ X Y row hs hg hr => by obtain ⟨Bx, h2, h3⟩ := hs; exact ⟨Bx, h2.turn hg (fun r e => (hr r e).2), h3⟩)
    ?assign ?body ?done ?stop
  case assign =>
    rintro l pre x W K ⟨v, hm⟩ hK
    gi_wp2
    have hba := bAlloc (Below.refl _ W) (.cells #[.bool (rqM x.1).1, .string (rqM x.1).2.1, .string (rqM x.1).2.2] 29)
    exact hK _ _ ((KeepsOthers.alloc _ _).from _) (hba.mono hm.bel.size) ⟨v, hm.below (Nat.le_refl _) hba⟩ ⟨W.heap.size, B3.new W _ _, rfl⟩
  case body =>
    rintro l pre q a' W hl ⟨r, hr⟩ ⟨x, hx⟩ ⟨Bx, hbx, rfl⟩ hlt
    obtain ⟨d0, d1, d2, f0, f1, f2⟩ := (id hx.rc : RC _ _ _ _ _)
    have HQ : Hid (IsT q.1 (rqM q.1)) := IsT.self _
    have HFQ : Hid (FitQ q.1) := q.2
    have HX := hide hx
    have HT : Hid (totO ((pre ++ [q]).map fun z => z.1) = totS (totO (pre.map fun z => z.1)) q.1) := by
      show totO _ = _
      rw [List.map_append, List.map_singleton, totO_snoc]
    obtain ⟨om, hom⟩ : ∃ om, totO (pre.map fun z => z.1) = om := ⟨_, rfl⟩
    rw [hom] at HX HT
    obtain ⟨q1, hq1⟩ : ∃ q1, q.1 = q1 := ⟨_, rfl⟩
    rw [hq1] at HQ HFQ hbx HT ⊢
    obtain ⟨y, hy⟩ : ∃ y, rqM q1 = y := ⟨_, rfl⟩
    rw [hy] at HQ hbx ⊢
    obtain ⟨x0, x1, x2⟩ := hbx
    have HLX := hide (HL.out.below HX.out.bel)
    have HD := hide (mo_dE_Add w.heap.size (om.bind fun s => some (s, q1)) x y W HLX.out (by rw [eO_pair]; exact HX.out.ce) (fun a b h => by
      cases om with
      | none => cases h
      | some s =>
        injection h with h; injection h with h1 h2; subst h1 h2
        exact ⟨(HX.out.tx _ rfl).1, HQ.out, (HX.out.tx _ rfl).2, HFQ.out⟩))
    rw [tot_eO] at HD
    have hS0 := HS0.out
    clear hx hom hq1 hy hr HS0
    gi_wp2_with (refine ⟨trivial, ?_⟩; gi_at_call 35; refine (CallsIn.inRound l (callsIn_wide.2 HD.out)).mono ?_; rintro e w1 ⟨r1, rfl, hc1, ht1, hg1⟩; have HR1 := hide (HX.out.rc.keptM hg1 (by intro h; injection h with h; omega)); have HC1 := hide hc1; have HT1 := hide ht1; have HG1 := hide hg1; obtain ⟨e0, e1, e2, g0, g1, g2⟩ := (id HR1.out : RC _ _ _ _ _); clear hc1 ht1 hg1 HD d0 d1 d2 f0 f1 f2 x0 x1 x2)
    have hR2 := HR1.out.set3 r1.1 r1.2.1 r1.2.2
    have hC2 := HC1.out.keptM (grown_setM3 _ (w.heap.size + 1) 0 1 2 (.bool r1.1) (.string r1.2.1) (.string r1.2.2)) (by intro h; injection h with h; omega)
    have hg2 := grown_setM3 w1 (w.heap.size + 1) 0 1 2 (.bool r1.1) (.string r1.2.1) (.string r1.2.2)
    have hk : Below w.heap.size W _ := ((Below.refl w.heap.size W).grown HG1.out HX.out.bel.size (fun k e => by injection e with e; omega)).grown hg2 (Nat.le_trans HX.out.bel.size HG1.out.size) (fun k e => by injection e with e; omega)
    exact ⟨(KeepsFrom.of_grownBy HG1.out (fun j e => by injection e with e; omega)).trans (KeepsFrom.of_grownBy hg2 (fun j e => by injection e with e; omega)), hk, ⟨r1, by rw [HT.out]; exact ⟨HX.out.bel.trans hk, hC2, hR2, HT1.out⟩⟩⟩
  case done =>
    rintro D xs W hD rfl ⟨x, hx⟩ hK
    obtain ⟨om, hom⟩ : ∃ om, totO (xs.map fun z => z.1) = om := ⟨_, rfl⟩
    rw [hom] at hx
    have HX := hide hx
    have HOM := hide hom
    have hDn : w.heap.size ≤ D := by have := HS0.out; omega
    have HBE := hide (HX.out.bel.trans (belowK_b (w := w) (Nat.le_refl _) W D _ (.deferred none) hDn hK rfl rfl))
    obtain ⟨z0, z1, z2⟩ := (HL.out.below HX.out.bel).2.2
    obtain ⟨d0, d1, d2, f0, f1, f2⟩ := (id HX.out.rc : RC _ _ _ _ _)
    clear hx hom hD hDn f0 f1 f2
    cases om with
    | none =>
      have c0 : W.cell? ⟨w.heap.size, 0, none⟩ = some (.int .i64 2) := HX.out.ce.c
      have HF : Hid (decide (totO (xs.map fun z => z.1) = some 1) = false) := by
        show decide _ = false
        rw [HOM.out]; rfl
      gi_wp2
      all_goals (refine ⟨by simp, .inl ⟨_, _, rfl, run_takeDeferred hK, ?_⟩⟩)
      all_goals exact ⟨_, results_tmp rfl _ _ _, by first | (rw [HF.out]; done) | (rw [HF.out]; rfl) | (rw [HF.out]; simp; done), HBE.out⟩
    | some q =>
      have c0 : W.cell? ⟨w.heap.size, 0, none⟩ = some (.int .i64 0) := HX.out.ce.c
      have HI := hide (is1_of (HX.out.tx q rfl).1)
      obtain ⟨g, s, t⟩ := x
      simp only at d0 d1 d2
      cases g with
      | true =>
        have HZ : Hid (decide ((true, s, t) = o3) = false) := decide_eq_false (fun h => by cases h)
        have HF : Hid (decide (totO (xs.map fun z => z.1) = some 1) = false) := by
          show decide _ = _
          rw [HOM.out, ← HI.out]; exact HZ.out
        gi_wp2
        all_goals (refine ⟨by simp, .inl ⟨_, _, rfl, run_takeDeferred hK, ?_⟩⟩)
        all_goals exact ⟨_, results_tmp rfl _ _ _, by first | (rw [HF.out]; done) | (rw [HF.out]; rfl) | (rw [HF.out]; simp; done), HBE.out⟩
      | false =>
        by_cases h2 : s = ⟨#[49]⟩
        · subst h2
          by_cases h3 : t = ⟨#[49]⟩
          · subst h3
            have HZ : Hid (decide ((false, (⟨#[49]⟩ : ByteArray), (⟨#[49]⟩ : ByteArray)) = o3) = true) := decide_eq_true rfl
            have HF : Hid (decide (totO (xs.map fun z => z.1) = some 1) = true) := by
              show decide _ = _
              rw [HOM.out, ← HI.out]; exact HZ.out
            gi_wp2
            all_goals (refine ⟨by simp, .inl ⟨_, _, rfl, run_takeDeferred hK, ?_⟩⟩)
            all_goals exact ⟨_, results_tmp rfl _ _ _, by first | (rw [HF.out]; done) | (rw [HF.out]; rfl) | (rw [HF.out]; simp; done), HBE.out⟩
          · have HZ : Hid (decide ((false, (⟨#[49]⟩ : ByteArray), t) = o3) = false) := decide_eq_false (fun h => h3 (by injection h with _ h; injection h))
            have HF : Hid (decide (totO (xs.map fun z => z.1) = some 1) = false) := by
              show decide _ = _
              rw [HOM.out, ← HI.out]; exact HZ.out
            have e3 : (t.toList == [49]) = false := str_ne h3 rfl
            have e3' : ¬ t.toList = [49] := fun h => by simp [h] at e3
            clear h3
            gi_wp2
            all_goals (refine ⟨by simp, .inl ⟨_, _, rfl, run_takeDeferred hK, ?_⟩⟩)
            all_goals exact ⟨_, results_tmp rfl _ _ _, by first | (rw [HF.out]; done) | (rw [HF.out]; rfl) | (rw [HF.out]; simp; done), HBE.out⟩
        · have HZ : Hid (decide ((false, s, t) = o3) = false) := decide_eq_false (fun h => h2 (by injection h with _ h; injection h))
          have HF : Hid (decide (totO (xs.map fun z => z.1) = some 1) = false) := by
            show decide _ = _
            rw [HOM.out, ← HI.out]; exact HZ.out
          have e3 : (s.toList == [49]) = false := str_ne h2 rfl
          have e3' : ¬ s.toList = [49] := fun h => by simp [h] at e3
          clear h2
          gi_wp2
          all_goals (refine ⟨by simp, .inl ⟨_, _, rfl, run_takeDeferred hK, ?_⟩⟩)
          all_goals exact ⟨_, results_tmp rfl _ _ _, by first | (rw [HF.out]; done) | (rw [HF.out]; rfl) | (rw [HF.out]; simp; done), HBE.out⟩
  case stop =>
    rintro D c pre W _ _ h _
    exact h.elim
end Go.Proofs.YtblpnekjnaaeoaaGreatDoor
