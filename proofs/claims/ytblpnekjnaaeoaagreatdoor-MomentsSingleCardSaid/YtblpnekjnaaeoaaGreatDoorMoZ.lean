/- moments: Variance. -/
import Derived.Test.YtblpnekjnaaeoaaGreatDoorMoU
set_option linter.unusedVariables false
set_option linter.unusedSimpArgs false
namespace Go.Proofs.YtblpnekjnaaeoaaGreatDoor
open Go.RowKit

/-- The variance as it is computed. -/
def varS (m : Rat) (o : Option Rat) (p : PQ) : Option Rat := o.bind fun s => (subR p.1 m).bind fun d => (mulR d d).bind fun e => (mulR p.2 e).bind fun t => addR s t
def varK (L : List PQ) (k : Nat) : Option Rat := (meanO L L.length).bind fun m => (L.take k).foldl (varS m) (some 0)
def varO (L : List PQ) : Option Rat := varK L L.length
theorem varK_succ {L : List PQ} {k : Nat} (h : k < L.length) : varK L (k + 1) = (meanO L L.length).bind fun m => varS m (varK L k) L[k] := by
  unfold varK
  cases meanO L L.length with
  | none => rfl
  | some m =>
    show (L.take (k + 1)).foldl (varS m) (some 0) = varS m ((L.take k).foldl (varS m) (some 0)) L[k]
    rw [List.take_succ_eq_append_getElem h, List.foldl_append]; rfl
/-- The sum so far, and the mean. -/
def varZ (om : Option Rat) (L : List PQ) (k : Nat) : Option (Rat × Rat) := om.bind fun m => ((L.take k).foldl (varS m) (some 0)).bind fun s => some (s, m)
theorem varK_Z (L : List PQ) (k : Nat) : varK L k = (varZ (meanO L L.length) L k).bind fun z => some z.1 := by
  unfold varK varZ
  cases meanO L L.length with
  | none => rfl
  | some m =>
    show (L.take k).foldl (varS m) (some 0) = ((((L.take k).foldl (varS m) (some 0)).bind fun s => some (s, m)).bind fun z => some z.1)
    cases (L.take k).foldl (varS m) (some 0) <;> rfl
theorem eO_z0 (om : Option Rat) : eO (om.bind fun m => some ((0 : Rat), m)) = eO om := by cases om <;> rfl
theorem eO_z1 (zk : Option (Rat × Rat)) : eO (zk.bind fun z => some z.1) = eO zk := by cases zk <;> rfl
theorem eO_zz {α : Type} (zk : Option α) (f : α → Rat × Rat) : eO (zk.bind fun z => some (f z)) = eO zk := by cases zk <;> rfl
/-- One step, its four operations one by one. -/
def vR1 (zk : Option (Rat × Rat)) (p : PQ) : Option Rat := (zk.bind fun z => some (p.1, z.2)).bind fun z => subR z.1 z.2
def vR2 (zk : Option (Rat × Rat)) (p : PQ) : Option Rat := ((vR1 zk p).bind fun d => some (d, d)).bind fun z => mulR z.1 z.2
def vR3 (zk : Option (Rat × Rat)) (p : PQ) : Option Rat := ((vR2 zk p).bind fun e => some (p.2, e)).bind fun z => mulR z.1 z.2
def vO4 (zk : Option (Rat × Rat)) (p : PQ) : Option (Rat × Rat) := (vR3 zk p).bind fun t => zk.bind fun z => some (z.1, t)
def vR4 (zk : Option (Rat × Rat)) (p : PQ) : Option Rat := (vO4 zk p).bind fun z => addR z.1 z.2
theorem o4_g (zk : Option (Rat × Rat)) (R : Option Rat) (h : zk = none → R = none) : eO (R.bind fun t => zk.bind fun z => some (z.1, t)) = eO R := by
  cases zk with
  | none => rw [h rfl]; rfl
  | some z => cases R <;> rfl
theorem vO4_eO (zk : Option (Rat × Rat)) (p : PQ) : eO (vO4 zk p) = eO (vR3 zk p) := o4_g zk (vR3 zk p) (fun h => by
  subst h
  simp only [vR3, vR2, vR1, Option.bind_none])
theorem vstep_g (f g a : Rat → Rat → Option Rat) (zo : Option (Rat × Rat)) (x y : Rat) : (zo.bind fun z => (f x z.2).bind fun d => (g d d).bind fun e => (g y e).bind fun t => a z.1 t) = (((((((zo.bind fun z => some (x, z.2)).bind fun z => f z.1 z.2).bind fun d => some (d, d)).bind fun z => g z.1 z.2).bind fun e => some (y, e)).bind fun z => g z.1 z.2).bind fun t => zo.bind fun z => some (z.1, t)).bind fun z => a z.1 z.2 := by
  cases zo with
  | none => rfl
  | some z =>
    simp only [Option.bind_some]
    cases f x z.2 with
    | none => rfl
    | some d =>
      simp only [Option.bind_some]
      cases g d d with
      | none => rfl
      | some e =>
        simp only [Option.bind_some]
        cases g y e with
        | none => rfl
        | some t => simp only [Option.bind_some]
theorem varZ_succ {om : Option Rat} {L : List PQ} {k : Nat} (h : k < L.length) : varZ om L (k + 1) = (vR4 (varZ om L k) L[k]).bind fun s => om.bind fun m => some (s, m) := by
  unfold varZ
  cases om with
  | none => rfl
  | some m =>
    show (((L.take (k + 1)).foldl (varS m) (some 0)).bind fun s => some (s, m)) = (vR4 (((L.take k).foldl (varS m) (some 0)).bind fun s => some (s, m)) L[k]).bind fun s => some (s, m)
    rw [List.take_succ_eq_append_getElem h, List.foldl_append]
    show ((varS m ((L.take k).foldl (varS m) (some 0)) L[k]).bind fun s => some (s, m)) = (vR4 (((L.take k).foldl (varS m) (some 0)).bind fun s => some (s, m)) L[k]).bind fun s => some (s, m)
    generalize (L.take k).foldl (varS m) (some 0) = so
    cases so with
    | none => rfl
    | some s => exact congrArg (fun o : Option Rat => o.bind fun s => some (s, m)) (vstep_g subR mulR addR (some (s, m)) L[k].1 L[k].2)
/-- The variables of Variance. -/
structure VI (w W : World) (R2 C X5 X6 : Nat) (m s : T3) (e : Int) : Prop where
  bel : Below w.heap.size w W
  ce : CE W C e
  r2 : RC W R2 false ⟨#[]⟩ ⟨#[]⟩
  r5 : RC W X5 m.1 m.2.1 m.2.2
  r6 : RC W X6 s.1 s.2.1 s.2.2
theorem VI.below {w W W' : World} {R2 C X5 X6 : Nat} {m s : T3} {e : Int} (h : VI w W R2 C X5 X6 m s e) (hb : Below W.heap.size W W') : VI w W' R2 C X5 X6 m s e :=
  ⟨h.bel.trans (hb.mono h.bel.size), h.ce.below hb, h.r2.below hb, h.r5.below hb, h.r6.below hb⟩
theorem VI.grownC {w W W' : World} {R2 C X5 X6 : Nat} {m s : T3} {e e' : Int} (h : VI w W R2 C X5 X6 m s e) (hg : W.grownBy W' (some C)) (hc : CE W' C e') (hC : w.heap.size ≤ C) (h2 : R2 ≠ C) (h5 : X5 ≠ C) (h6 : X6 ≠ C) : VI w W' R2 C X5 X6 m s e' :=
  ⟨h.bel.grown hg h.bel.size (fun k e => by injection e with e; omega), hc, h.r2.keptM hg (fun e => h2 (by injection e)), h.r5.keptM hg (fun e => h5 (by injection e)), h.r6.keptM hg (fun e => h6 (by injection e))⟩
set_option maxHeartbeats 16000000 in
set_option maxRecDepth 100000 in
theorem mo_Variance (L : List PQ) (hf : FitL L) (hn : L.length ≤ 1000000) (v : Value) (w : World) (hL : LawM w) (hs : SliceOf vPr 6 w v (L.map encP)) (hv : ∀ W, Below w.heap.size w W → Calls Tryz.prog 20 #[v] W fun e w' => e = .returned (.bool true) ∧ Below W.heap.size W w') :
    Calls Tryz.prog 14 #[v] w fun x w' => x = .returned (.tuple #[.agg #[.bool (rO (varO L)).1, .string (rO (varO L)).2.1, .string (rO (varO L)).2.2], .int .i64 (eO (varO L))]) ∧ Below w.heap.size w w' := by
  have hba := bAlloc (Below.refl w.heap.size w) (.cells #[.bool false, .string ⟨#[]⟩, .string ⟨#[]⟩] 29)
  have HB := hide hba
  have HR := hide (RC.new w false ⟨#[]⟩ ⟨#[]⟩ 29)
  have HV := hide hv
  have HL := hide hL
  have HS := hide hs
  have HF : Hid (∀ i (h : i < L.length), FitQ L[i].1 ∧ FitQ L[i].2) := fun i h => hf _ (List.getElem_mem h)
  obtain ⟨ao, c, rfl⟩ := hs.shape
  have hml : (L.map encP).length = L.length := List.length_map ..
  have HML := hide hml
  have hnI : (L.length : Int) ≤ 1000000 := by omega
  rw [hml] at HV ⊢
  obtain ⟨n, hn0⟩ : ∃ n, L.length = n := ⟨_, rfl⟩
  have HN := hide hn0
  rw [hn0] at HV hnI ⊢
  clear hba hv hL hs hf hml hn0
  go_enter Tryz.func14, Tryz.ntmps14
  go_wp2_with fail
  refine (HV.out _ HB.out).mono ?_
  rintro x w1 ⟨rfl, hb⟩
  have HB1 := hide (bStepM HB.out hb)
  have HR1 := hide (HR.out.below hb)
  clear hb HR HB
  obtain ⟨R2, hR2⟩ : ∃ A, w.heap.size = A := ⟨_, rfl⟩
  rw [hR2] at HR1
  have HR2w := hide hR2
  rw [hR2]
  clear hR2
  have hb2 := bAlloc (Below.refl w1.heap.size w1) (.cells #[.int .i64 0] 57)
  have HC2 := hide (CE.new w1 57)
  have HR2 := hide (HR1.out.below hb2)
  have HB2 := hide (HB1.out.trans (hb2.mono HB1.out.size))
  have HRC : Hid (R2 < w1.heap.size) := HR1.out.lt
  clear hb2 HR1
  go_upto_region 4 with fail
  obtain ⟨w2, hw2⟩ : ∃ W, w1.alloc (.cells #[.int .i64 0] 57) = W := ⟨_, rfl⟩
  obtain ⟨C, hC⟩ : ∃ A, w1.heap.size = A := ⟨_, rfl⟩
  have HCw : Hid (w.heap.size ≤ C) := by show _ ≤ C; rw [← hC]; exact HB1.out.size
  have HC2w : Hid (C < w2.heap.size) := by show C < _; rw [← hw2, ← hC]; simp
  rw [hw2, hC] at HC2
  rw [hw2] at HR2 HB2
  rw [hC] at HRC
  rw [hw2, hC]
  clear hw2 hC
  have mixed : Tryz.prog.follows .mixedOrders = true := by kernel_rfl
  obtain ⟨om, hom⟩ : ∃ om, meanO L L.length = om := ⟨_, rfl⟩
  have HOM := hide hom
  clear hom
  refine Code.wp_mono (Q := fun e a' W => e = .normal ∧ ∃ (X5 X6 : Nat) (r : T3), a' = { tmps := #[.slice ao n c, undef, .pointer (some ⟨R2, 0, none⟩), .int .i64 0, .pointer (some ⟨C, 0, none⟩), .pointer (some ⟨X5, 0, none⟩), .pointer (some ⟨X6, 0, none⟩), undef, undef, undef, .slice ao n c, .bool true, .bool false, undef, .slice ao n c, .agg #[.bool r.1, .string r.2.1, .string r.2.2], .agg #[.bool false, .string ⟨#[48]⟩, .string ⟨#[49]⟩], undef, undef, undef, undef, undef, undef, undef, undef, undef, undef, undef, undef, undef, undef, undef, undef, undef, undef, undef, undef, undef, undef, undef], defers := [] } ∧ VI w W R2 C X5 X6 r (false, ⟨#[48]⟩, ⟨#[49]⟩) (eO om) ∧ (∀ q, om = some q → IsT q r ∧ FitQ q) ∧ R2 ≠ C ∧ X5 ≠ C ∧ X6 ≠ C ∧ X5 ≠ R2 ∧ X6 ≠ R2 ∧ X5 ≠ X6 ∧ w.heap.size ≤ X6 ∧ w.heap.size ≤ C) ?later ?region
  case region =>
    obtain ⟨wd, hwd⟩ : ∃ W, w2.drew = W := ⟨_, rfl⟩
    have hbd : Below w2.heap.size w2 w2.drew := bDraw (Below.refl _ w2)
    rw [hwd] at hbd
    have F0B : Hid (Below w.heap.size w wd) := HB2.out.trans (hbd.mono HB2.out.size)
    have F0C : Hid (CE wd C 0) := HC2.out.below hbd
    have F0R : Hid (RC wd R2 false ⟨#[]⟩ ⟨#[]⟩) := HR2.out.below hbd
    have F0S : Hid (C < wd.heap.size) := Nat.lt_of_lt_of_le HC2w.out hbd.size
    have hRC := HRC.out
    have HSS : Hid (∀ W, Below w.heap.size w W → W.cell? ⟨0, 0, none⟩ = some (.bool false) ∧ W.cell? ⟨0, 1, none⟩ = some (.string ⟨#[48]⟩) ∧ W.cell? ⟨0, 2, none⟩ = some (.string ⟨#[49]⟩)) := fun W hb => (HL.out.below hb).2.1
    have HMEAN : Hid (∀ W, Below w.heap.size w W → CE W C 0 → Calls Tryz.prog 32 #[.pointer (some ⟨C, 0, none⟩), .slice ao n c] W fun x w' => ∃ r : T3, x = .returned (.agg #[.bool r.1, .string r.2.1, .string r.2.2]) ∧ CE w' C (eO om) ∧ (∀ q, om = some q → IsT q r ∧ FitQ q) ∧ W.grownBy w' (some C)) := fun W hb hc => by
      have h := mo_mean C L HF.out (by have := HN.out; omega) (.slice ao (L.map encP).length c) w W HL.out hb HCw.out HS.out hc
      rw [HML.out, HN.out] at h
      have e := HOM.out
      rw [HN.out] at e
      rw [e] at h
      exact h
    clear hbd
    refine wp_region_noPanic ?_
    refine wp_region_held_drew (S := fun w' => w'.cell? ⟨0, 0, none⟩ = some (.bool false) ∧ w'.cell? ⟨0, 1, none⟩ = some (.string ⟨#[48]⟩) ∧ w'.cell? ⟨0, 2, none⟩ = some (.string ⟨#[49]⟩)) (by kernel_rfl) (by rw [hwd]; exact HSS.out _ F0B.out) (fun hHeld => ?_)
    rw [hwd] at hHeld ⊢
    clear hwd HR2 HB2 HC2 HB1
    change wpAnyH _ _ _ _ _ 7 #[false, false, false, false, false, false, false] _ _
    refine wpAnyH_take (i := 0) (oi := _) (v := ?_) rfl (by kernel_rfl) (by kernel_rfl) (by kernel_rfl) (fun _ _ _ h => h) (Or.inl ⟨by rfl, ?_⟩) (by assumption) ?_
    rotate_left
    · intro w hSw
      (try dsimp only at hSw)
      go_simp
      try with_reducible rfl
    try simp only [List.getElem_toArray, List.getElem_cons_zero, List.getElem_cons_succ, List.get, Act.put, List.setIfInBounds_toArray, List.set_cons_zero, List.set_cons_succ]
    refine wpAnyH_take (i := 2) (oi := _) (v := ?_) rfl (by kernel_rfl) (by kernel_rfl) (by kernel_rfl) (fun _ _ _ h => h) (Or.inl ⟨by rfl, ?_⟩) (by assumption) ?_
    rotate_left
    · intro w hSw
      (try dsimp only at hSw)
      go_simp
      try with_reducible rfl
    try simp only [List.getElem_toArray, List.getElem_cons_zero, List.getElem_cons_succ, List.get, Act.put, List.setIfInBounds_toArray, List.set_cons_zero, List.set_cons_succ]
    refine wpAnyH_ready (rs := [1, 3, 4]) (by kernel_rfl) (by simp) ?_
    refine AllReadyH.cons (o := _) rfl (fun K hK => ?_) (AllReadyH.cons (o := _) rfl (fun K hK => ?_) (AllReadyH.cons (o := _) rfl (fun K hK => ?_) AllReadyH.nil))
    · skip
      go_simp
      refine (HMEAN.out wd F0B.out F0C.out).mono ?_
      rintro x w1_ ⟨r, rfl, hc, hq, hg⟩
      have HQ := hide hq
      have F1B := hide (F0B.out.grown hg F0B.out.size (fun k e => by injection e with e; have := HCw.out; omega))
      have F1C := hide hc
      have F1R := hide (F0R.out.keptM hg (fun e => by injection e with e; omega))
      have F1S : Hid (C < w1_.heap.size) := Nat.lt_of_lt_of_le F0S.out hg.size
      clear hc hq hg
      refine hK.out _ _ (HSS.out _ F1B.out) (fun hHeld => ?_)
      clear hK K
      try simp only [List.getElem_toArray, List.getElem_cons_zero, List.getElem_cons_succ, List.get, Act.put, List.setIfInBounds_toArray, List.set_cons_zero, List.set_cons_succ]
      refine wpAnyH_ready (rs := [3, 4]) (by kernel_rfl) (by simp) ?_
      refine AllReadyH.cons (o := _) rfl (fun K hK => ?_) (AllReadyH.cons (o := _) rfl (fun K hK => ?_) AllReadyH.nil)
      · skip
        have hlow5 := F1B.out.size
        have hba := bAlloc (Below.refl _ w1_) (.cells #[.bool false, .string ⟨#[]⟩, .string ⟨#[]⟩] 29)
        have F2B := hide (F1B.out.trans (hba.mono F1B.out.size))
        have F2C := hide (F1C.out.below hba)
        have F2R := hide (F1R.out.below hba)
        have F2S : Hid (C < (w1_.alloc (.cells #[.bool false, .string ⟨#[]⟩, .string ⟨#[]⟩] 29)).heap.size) := Nat.lt_of_lt_of_le F1S.out hba.size
        have hN := RC.new w1_ false ⟨#[]⟩ ⟨#[]⟩ 29
        go_simp
        refine hK.out _ _ (HSS.out _ F2B.out) (fun hHeld => ?_)
        clear hK K hba
        try simp only [List.getElem_toArray, List.getElem_cons_zero, List.getElem_cons_succ, List.get, Act.put, List.setIfInBounds_toArray, List.set_cons_zero, List.set_cons_succ]
        obtain ⟨w2_, hwj⟩ : ∃ W, w1_.alloc (.cells #[.bool false, .string ⟨#[]⟩, .string ⟨#[]⟩] 29) = W := ⟨_, rfl⟩
        have hsC := F1S.out
        obtain ⟨X5, hX⟩ : ∃ A, w1_.heap.size = A := ⟨_, rfl⟩
        rw [hX] at hN hsC hlow5
        rw [hwj] at hN F2B F2C F2R F2S hHeld ⊢
        rw [hX]
        have F2_5 := hide hN
        have nC5 : X5 ≠ C := by omega
        have nR5 : X5 ≠ R2 := by omega
        clear hwj hX hN hsC
        have HL5_ : Hid (w.heap.size ≤ X5) := by show _ ≤ X5; omega
        refine wpAnyH_ready (rs := [4]) (by kernel_rfl) (by simp) ?_
        refine AllReadyH.cons (o := _) rfl (fun K hK => ?_) AllReadyH.nil
        · skip
          have hlow6 := F2B.out.size
          have hba := bAlloc (Below.refl _ w2_) (.cells #[.bool false, .string ⟨#[]⟩, .string ⟨#[]⟩] 29)
          have F3B := hide (F2B.out.trans (hba.mono F2B.out.size))
          have F3C := hide (F2C.out.below hba)
          have F3R := hide (F2R.out.below hba)
          have F3S : Hid (C < (w2_.alloc (.cells #[.bool false, .string ⟨#[]⟩, .string ⟨#[]⟩] 29)).heap.size) := Nat.lt_of_lt_of_le F2S.out hba.size
          have hN := RC.new w2_ false ⟨#[]⟩ ⟨#[]⟩ 29
          have F3_5 := hide (F2_5.out.below hba)
          have hlt5 := F2_5.out.lt
          go_simp
          refine hK.out _ _ (HSS.out _ F3B.out) (fun hHeld => ?_)
          clear hK K hba
          try simp only [List.getElem_toArray, List.getElem_cons_zero, List.getElem_cons_succ, List.get, Act.put, List.setIfInBounds_toArray, List.set_cons_zero, List.set_cons_succ]
          obtain ⟨w3_, hwj⟩ : ∃ W, w2_.alloc (.cells #[.bool false, .string ⟨#[]⟩, .string ⟨#[]⟩] 29) = W := ⟨_, rfl⟩
          have hsC := F2S.out
          obtain ⟨X6, hX⟩ : ∃ A, w2_.heap.size = A := ⟨_, rfl⟩
          rw [hX] at hN hsC hlow6
          rw [hwj] at hN F3B F3C F3R F3S hHeld ⊢
          rw [hX]
          have F3_6 := hide hN
          have nC6 : X6 ≠ C := by omega
          have nR6 : X6 ≠ R2 := by omega
          rw [hwj] at F3_5
          rw [hX] at hlt5
          have n56 : X5 ≠ X6 := by omega
          clear hwj hX hN hsC
          have HL6_ : Hid (w.heap.size ≤ X6) := by show _ ≤ X6; omega
          have hwX5 := F3_5.out.lt
          have hwX6 := F3_6.out.lt
          obtain ⟨c0, c1, c2, f0, f1, f2⟩ := (id F3_5.out : RC _ _ _ _ _)
          have hN56 : X5 ≠ X6 := n56
          have hN65 : X6 ≠ X5 := fun e => hN56 e.symm
          have hg5 := grown_setM3 w3_ X5 0 1 2 (.bool r.1) (.string r.2.1) (.string r.2.2)
          have G1 := hide (F3_5.out.set3 r.1 r.2.1 r.2.2)
          have G6 := hide (F3_6.out.keptM hg5 (fun e => by injection e with e; exact hN65 e))
          have GR := hide (F3R.out.keptM hg5 (fun e => by injection e with e; exact nR5 e.symm))
          have GC := hide (F3C.out.keptM hg5 (fun e => by injection e with e; exact nC5 e.symm))
          have GB := hide (F3B.out.grown hg5 F3B.out.size (fun k e => by injection e with e; subst e; exact HL5_.out))
          clear hg5
          refine wpAnyH_ready (rs := [5]) (by kernel_rfl) (by simp) ?_
          refine AllReadyH.cons (o := _) rfl (fun K hK => ?_) AllReadyH.nil
          go_simp
          refine hK.out _ _ (HSS.out _ GB.out) (fun hHeld => ?_)
          clear hK K c0 c1 c2 f0 f1 f2
          try simp only [List.getElem_toArray, List.getElem_cons_zero, List.getElem_cons_succ, List.get, Act.put, List.setIfInBounds_toArray, List.set_cons_zero, List.set_cons_succ]
          obtain ⟨w4_, hw4⟩ : ∃ W, ((w3_.setCell ⟨X5, 0, none⟩ (.bool r.1)).setCell ⟨X5, 1, none⟩ (.string r.2.1)).setCell ⟨X5, 2, none⟩ (.string r.2.2) = W := ⟨_, rfl⟩
          rw [hw4] at G1 G6 GR GC GB hHeld ⊢
          clear hw4
          obtain ⟨c0, c1, c2, f0, f1, f2⟩ := (id G6.out : RC _ _ _ _ _)
          have hg6 := grown_setM3 w4_ X6 0 1 2 (.bool false) (.string ⟨#[48]⟩) (.string ⟨#[49]⟩)
          have H6 := hide (G6.out.set3 false ⟨#[48]⟩ ⟨#[49]⟩)
          have H5 := hide (G1.out.keptM hg6 (fun e => by injection e with e; exact hN56 e))
          have HR' := hide (GR.out.keptM hg6 (fun e => by injection e with e; exact nR6 e.symm))
          have HC' := hide (GC.out.keptM hg6 (fun e => by injection e with e; exact nC6 e.symm))
          have HB' := hide (GB.out.grown hg6 GB.out.size (fun k e => by injection e with e; subst e; exact HL6_.out))
          clear hg6
          refine wpAnyH_ready (rs := [6]) (by kernel_rfl) (by simp) ?_
          refine AllReadyH.cons (o := _) rfl (fun K hK => ?_) AllReadyH.nil
          go_simp
          refine hK.out _ _ (HSS.out _ HB'.out) (fun hHeld => ?_)
          clear hK K c0 c1 c2 f0 f1 f2
          try simp only [List.getElem_toArray, List.getElem_cons_zero, List.getElem_cons_succ, List.get, Act.put, List.setIfInBounds_toArray, List.set_cons_zero, List.set_cons_succ]
          refine wpAnyH_done (by kernel_rfl) ?_ _
          refine NoPanic.normal ?_
          exact ⟨rfl, X5, X6, r, rfl, ⟨HB'.out, HC'.out, HR'.out, H5.out, H6.out⟩, HQ.out, by omega, nC5, nC6, nR5, nR6, hN56, HL6_.out, HCw.out⟩
      · skip
        have hlow6 := F1B.out.size
        have hba := bAlloc (Below.refl _ w1_) (.cells #[.bool false, .string ⟨#[]⟩, .string ⟨#[]⟩] 29)
        have F2B := hide (F1B.out.trans (hba.mono F1B.out.size))
        have F2C := hide (F1C.out.below hba)
        have F2R := hide (F1R.out.below hba)
        have F2S : Hid (C < (w1_.alloc (.cells #[.bool false, .string ⟨#[]⟩, .string ⟨#[]⟩] 29)).heap.size) := Nat.lt_of_lt_of_le F1S.out hba.size
        have hN := RC.new w1_ false ⟨#[]⟩ ⟨#[]⟩ 29
        go_simp
        refine hK.out _ _ (HSS.out _ F2B.out) (fun hHeld => ?_)
        clear hK K hba
        try simp only [List.getElem_toArray, List.getElem_cons_zero, List.getElem_cons_succ, List.get, Act.put, List.setIfInBounds_toArray, List.set_cons_zero, List.set_cons_succ]
        obtain ⟨w2_, hwj⟩ : ∃ W, w1_.alloc (.cells #[.bool false, .string ⟨#[]⟩, .string ⟨#[]⟩] 29) = W := ⟨_, rfl⟩
        have hsC := F1S.out
        obtain ⟨X6, hX⟩ : ∃ A, w1_.heap.size = A := ⟨_, rfl⟩
        rw [hX] at hN hsC hlow6
        rw [hwj] at hN F2B F2C F2R F2S hHeld ⊢
        rw [hX]
        have F2_6 := hide hN
        have nC6 : X6 ≠ C := by omega
        have nR6 : X6 ≠ R2 := by omega
        clear hwj hX hN hsC
        have HL6_ : Hid (w.heap.size ≤ X6) := by show _ ≤ X6; omega
        refine wpAnyH_ready (rs := [3]) (by kernel_rfl) (by simp) ?_
        refine AllReadyH.cons (o := _) rfl (fun K hK => ?_) AllReadyH.nil
        · skip
          have hlow5 := F2B.out.size
          have hba := bAlloc (Below.refl _ w2_) (.cells #[.bool false, .string ⟨#[]⟩, .string ⟨#[]⟩] 29)
          have F3B := hide (F2B.out.trans (hba.mono F2B.out.size))
          have F3C := hide (F2C.out.below hba)
          have F3R := hide (F2R.out.below hba)
          have F3S : Hid (C < (w2_.alloc (.cells #[.bool false, .string ⟨#[]⟩, .string ⟨#[]⟩] 29)).heap.size) := Nat.lt_of_lt_of_le F2S.out hba.size
          have hN := RC.new w2_ false ⟨#[]⟩ ⟨#[]⟩ 29
          have F3_6 := hide (F2_6.out.below hba)
          have hlt6 := F2_6.out.lt
          go_simp
          refine hK.out _ _ (HSS.out _ F3B.out) (fun hHeld => ?_)
          clear hK K hba
          try simp only [List.getElem_toArray, List.getElem_cons_zero, List.getElem_cons_succ, List.get, Act.put, List.setIfInBounds_toArray, List.set_cons_zero, List.set_cons_succ]
          obtain ⟨w3_, hwj⟩ : ∃ W, w2_.alloc (.cells #[.bool false, .string ⟨#[]⟩, .string ⟨#[]⟩] 29) = W := ⟨_, rfl⟩
          have hsC := F2S.out
          obtain ⟨X5, hX⟩ : ∃ A, w2_.heap.size = A := ⟨_, rfl⟩
          rw [hX] at hN hsC hlow5
          rw [hwj] at hN F3B F3C F3R F3S hHeld ⊢
          rw [hX]
          have F3_5 := hide hN
          have nC5 : X5 ≠ C := by omega
          have nR5 : X5 ≠ R2 := by omega
          rw [hwj] at F3_6
          rw [hX] at hlt6
          have n65 : X6 ≠ X5 := by omega
          clear hwj hX hN hsC
          have HL5_ : Hid (w.heap.size ≤ X5) := by show _ ≤ X5; omega
          have hwX5 := F3_5.out.lt
          have hwX6 := F3_6.out.lt
          obtain ⟨c0, c1, c2, f0, f1, f2⟩ := (id F3_5.out : RC _ _ _ _ _)
          have hN56 : X5 ≠ X6 := n65.symm
          have hN65 : X6 ≠ X5 := fun e => hN56 e.symm
          have hg5 := grown_setM3 w3_ X5 0 1 2 (.bool r.1) (.string r.2.1) (.string r.2.2)
          have G1 := hide (F3_5.out.set3 r.1 r.2.1 r.2.2)
          have G6 := hide (F3_6.out.keptM hg5 (fun e => by injection e with e; exact hN65 e))
          have GR := hide (F3R.out.keptM hg5 (fun e => by injection e with e; exact nR5 e.symm))
          have GC := hide (F3C.out.keptM hg5 (fun e => by injection e with e; exact nC5 e.symm))
          have GB := hide (F3B.out.grown hg5 F3B.out.size (fun k e => by injection e with e; subst e; exact HL5_.out))
          clear hg5
          refine wpAnyH_ready (rs := [5]) (by kernel_rfl) (by simp) ?_
          refine AllReadyH.cons (o := _) rfl (fun K hK => ?_) AllReadyH.nil
          go_simp
          refine hK.out _ _ (HSS.out _ GB.out) (fun hHeld => ?_)
          clear hK K c0 c1 c2 f0 f1 f2
          try simp only [List.getElem_toArray, List.getElem_cons_zero, List.getElem_cons_succ, List.get, Act.put, List.setIfInBounds_toArray, List.set_cons_zero, List.set_cons_succ]
          obtain ⟨w4_, hw4⟩ : ∃ W, ((w3_.setCell ⟨X5, 0, none⟩ (.bool r.1)).setCell ⟨X5, 1, none⟩ (.string r.2.1)).setCell ⟨X5, 2, none⟩ (.string r.2.2) = W := ⟨_, rfl⟩
          rw [hw4] at G1 G6 GR GC GB hHeld ⊢
          clear hw4
          obtain ⟨c0, c1, c2, f0, f1, f2⟩ := (id G6.out : RC _ _ _ _ _)
          have hg6 := grown_setM3 w4_ X6 0 1 2 (.bool false) (.string ⟨#[48]⟩) (.string ⟨#[49]⟩)
          have H6 := hide (G6.out.set3 false ⟨#[48]⟩ ⟨#[49]⟩)
          have H5 := hide (G1.out.keptM hg6 (fun e => by injection e with e; exact hN56 e))
          have HR' := hide (GR.out.keptM hg6 (fun e => by injection e with e; exact nR6 e.symm))
          have HC' := hide (GC.out.keptM hg6 (fun e => by injection e with e; exact nC6 e.symm))
          have HB' := hide (GB.out.grown hg6 GB.out.size (fun k e => by injection e with e; subst e; exact HL6_.out))
          clear hg6
          refine wpAnyH_ready (rs := [6]) (by kernel_rfl) (by simp) ?_
          refine AllReadyH.cons (o := _) rfl (fun K hK => ?_) AllReadyH.nil
          go_simp
          refine hK.out _ _ (HSS.out _ HB'.out) (fun hHeld => ?_)
          clear hK K c0 c1 c2 f0 f1 f2
          try simp only [List.getElem_toArray, List.getElem_cons_zero, List.getElem_cons_succ, List.get, Act.put, List.setIfInBounds_toArray, List.set_cons_zero, List.set_cons_succ]
          refine wpAnyH_done (by kernel_rfl) ?_ _
          refine NoPanic.normal ?_
          exact ⟨rfl, X5, X6, r, rfl, ⟨HB'.out, HC'.out, HR'.out, H5.out, H6.out⟩, HQ.out, by omega, nC5, nC6, nR5, nR6, hN56, HL6_.out, HCw.out⟩
    · skip
      have hlow5 := F0B.out.size
      have hba := bAlloc (Below.refl _ wd) (.cells #[.bool false, .string ⟨#[]⟩, .string ⟨#[]⟩] 29)
      have F1B := hide (F0B.out.trans (hba.mono F0B.out.size))
      have F1C := hide (F0C.out.below hba)
      have F1R := hide (F0R.out.below hba)
      have F1S : Hid (C < (wd.alloc (.cells #[.bool false, .string ⟨#[]⟩, .string ⟨#[]⟩] 29)).heap.size) := Nat.lt_of_lt_of_le F0S.out hba.size
      have hN := RC.new wd false ⟨#[]⟩ ⟨#[]⟩ 29
      go_simp
      refine hK.out _ _ (HSS.out _ F1B.out) (fun hHeld => ?_)
      clear hK K hba
      try simp only [List.getElem_toArray, List.getElem_cons_zero, List.getElem_cons_succ, List.get, Act.put, List.setIfInBounds_toArray, List.set_cons_zero, List.set_cons_succ]
      obtain ⟨w1_, hwj⟩ : ∃ W, wd.alloc (.cells #[.bool false, .string ⟨#[]⟩, .string ⟨#[]⟩] 29) = W := ⟨_, rfl⟩
      have hsC := F0S.out
      obtain ⟨X5, hX⟩ : ∃ A, wd.heap.size = A := ⟨_, rfl⟩
      rw [hX] at hN hsC hlow5
      rw [hwj] at hN F1B F1C F1R F1S hHeld ⊢
      rw [hX]
      have F1_5 := hide hN
      have nC5 : X5 ≠ C := by omega
      have nR5 : X5 ≠ R2 := by omega
      clear hwj hX hN hsC
      have HL5_ : Hid (w.heap.size ≤ X5) := by show _ ≤ X5; omega
      refine wpAnyH_ready (rs := [1, 4]) (by kernel_rfl) (by simp) ?_
      refine AllReadyH.cons (o := _) rfl (fun K hK => ?_) (AllReadyH.cons (o := _) rfl (fun K hK => ?_) AllReadyH.nil)
      · skip
        go_simp
        refine (HMEAN.out w1_ F1B.out F1C.out).mono ?_
        rintro x w2_ ⟨r, rfl, hc, hq, hg⟩
        have HQ := hide hq
        have F2B := hide (F1B.out.grown hg F1B.out.size (fun k e => by injection e with e; have := HCw.out; omega))
        have F2C := hide hc
        have F2R := hide (F1R.out.keptM hg (fun e => by injection e with e; omega))
        have F2S : Hid (C < w2_.heap.size) := Nat.lt_of_lt_of_le F1S.out hg.size
        have F2_5 := hide (F1_5.out.keptM hg (fun e => by injection e with e; exact nC5 e))
        clear hc hq hg
        refine hK.out _ _ (HSS.out _ F2B.out) (fun hHeld => ?_)
        clear hK K
        try simp only [List.getElem_toArray, List.getElem_cons_zero, List.getElem_cons_succ, List.get, Act.put, List.setIfInBounds_toArray, List.set_cons_zero, List.set_cons_succ]
        refine wpAnyH_ready (rs := [4]) (by kernel_rfl) (by simp) ?_
        refine AllReadyH.cons (o := _) rfl (fun K hK => ?_) AllReadyH.nil
        · skip
          have hlow6 := F2B.out.size
          have hba := bAlloc (Below.refl _ w2_) (.cells #[.bool false, .string ⟨#[]⟩, .string ⟨#[]⟩] 29)
          have F3B := hide (F2B.out.trans (hba.mono F2B.out.size))
          have F3C := hide (F2C.out.below hba)
          have F3R := hide (F2R.out.below hba)
          have F3S : Hid (C < (w2_.alloc (.cells #[.bool false, .string ⟨#[]⟩, .string ⟨#[]⟩] 29)).heap.size) := Nat.lt_of_lt_of_le F2S.out hba.size
          have hN := RC.new w2_ false ⟨#[]⟩ ⟨#[]⟩ 29
          have F3_5 := hide (F2_5.out.below hba)
          have hlt5 := F2_5.out.lt
          go_simp
          refine hK.out _ _ (HSS.out _ F3B.out) (fun hHeld => ?_)
          clear hK K hba
          try simp only [List.getElem_toArray, List.getElem_cons_zero, List.getElem_cons_succ, List.get, Act.put, List.setIfInBounds_toArray, List.set_cons_zero, List.set_cons_succ]
          obtain ⟨w3_, hwj⟩ : ∃ W, w2_.alloc (.cells #[.bool false, .string ⟨#[]⟩, .string ⟨#[]⟩] 29) = W := ⟨_, rfl⟩
          have hsC := F2S.out
          obtain ⟨X6, hX⟩ : ∃ A, w2_.heap.size = A := ⟨_, rfl⟩
          rw [hX] at hN hsC hlow6
          rw [hwj] at hN F3B F3C F3R F3S hHeld ⊢
          rw [hX]
          have F3_6 := hide hN
          have nC6 : X6 ≠ C := by omega
          have nR6 : X6 ≠ R2 := by omega
          rw [hwj] at F3_5
          rw [hX] at hlt5
          have n56 : X5 ≠ X6 := by omega
          clear hwj hX hN hsC
          have HL6_ : Hid (w.heap.size ≤ X6) := by show _ ≤ X6; omega
          have hwX5 := F3_5.out.lt
          have hwX6 := F3_6.out.lt
          obtain ⟨c0, c1, c2, f0, f1, f2⟩ := (id F3_5.out : RC _ _ _ _ _)
          have hN56 : X5 ≠ X6 := n56
          have hN65 : X6 ≠ X5 := fun e => hN56 e.symm
          have hg5 := grown_setM3 w3_ X5 0 1 2 (.bool r.1) (.string r.2.1) (.string r.2.2)
          have G1 := hide (F3_5.out.set3 r.1 r.2.1 r.2.2)
          have G6 := hide (F3_6.out.keptM hg5 (fun e => by injection e with e; exact hN65 e))
          have GR := hide (F3R.out.keptM hg5 (fun e => by injection e with e; exact nR5 e.symm))
          have GC := hide (F3C.out.keptM hg5 (fun e => by injection e with e; exact nC5 e.symm))
          have GB := hide (F3B.out.grown hg5 F3B.out.size (fun k e => by injection e with e; subst e; exact HL5_.out))
          clear hg5
          refine wpAnyH_ready (rs := [5]) (by kernel_rfl) (by simp) ?_
          refine AllReadyH.cons (o := _) rfl (fun K hK => ?_) AllReadyH.nil
          go_simp
          refine hK.out _ _ (HSS.out _ GB.out) (fun hHeld => ?_)
          clear hK K c0 c1 c2 f0 f1 f2
          try simp only [List.getElem_toArray, List.getElem_cons_zero, List.getElem_cons_succ, List.get, Act.put, List.setIfInBounds_toArray, List.set_cons_zero, List.set_cons_succ]
          obtain ⟨w4_, hw4⟩ : ∃ W, ((w3_.setCell ⟨X5, 0, none⟩ (.bool r.1)).setCell ⟨X5, 1, none⟩ (.string r.2.1)).setCell ⟨X5, 2, none⟩ (.string r.2.2) = W := ⟨_, rfl⟩
          rw [hw4] at G1 G6 GR GC GB hHeld ⊢
          clear hw4
          obtain ⟨c0, c1, c2, f0, f1, f2⟩ := (id G6.out : RC _ _ _ _ _)
          have hg6 := grown_setM3 w4_ X6 0 1 2 (.bool false) (.string ⟨#[48]⟩) (.string ⟨#[49]⟩)
          have H6 := hide (G6.out.set3 false ⟨#[48]⟩ ⟨#[49]⟩)
          have H5 := hide (G1.out.keptM hg6 (fun e => by injection e with e; exact hN56 e))
          have HR' := hide (GR.out.keptM hg6 (fun e => by injection e with e; exact nR6 e.symm))
          have HC' := hide (GC.out.keptM hg6 (fun e => by injection e with e; exact nC6 e.symm))
          have HB' := hide (GB.out.grown hg6 GB.out.size (fun k e => by injection e with e; subst e; exact HL6_.out))
          clear hg6
          refine wpAnyH_ready (rs := [6]) (by kernel_rfl) (by simp) ?_
          refine AllReadyH.cons (o := _) rfl (fun K hK => ?_) AllReadyH.nil
          go_simp
          refine hK.out _ _ (HSS.out _ HB'.out) (fun hHeld => ?_)
          clear hK K c0 c1 c2 f0 f1 f2
          try simp only [List.getElem_toArray, List.getElem_cons_zero, List.getElem_cons_succ, List.get, Act.put, List.setIfInBounds_toArray, List.set_cons_zero, List.set_cons_succ]
          refine wpAnyH_done (by kernel_rfl) ?_ _
          refine NoPanic.normal ?_
          exact ⟨rfl, X5, X6, r, rfl, ⟨HB'.out, HC'.out, HR'.out, H5.out, H6.out⟩, HQ.out, by omega, nC5, nC6, nR5, nR6, hN56, HL6_.out, HCw.out⟩
      · skip
        have hlow6 := F1B.out.size
        have hba := bAlloc (Below.refl _ w1_) (.cells #[.bool false, .string ⟨#[]⟩, .string ⟨#[]⟩] 29)
        have F2B := hide (F1B.out.trans (hba.mono F1B.out.size))
        have F2C := hide (F1C.out.below hba)
        have F2R := hide (F1R.out.below hba)
        have F2S : Hid (C < (w1_.alloc (.cells #[.bool false, .string ⟨#[]⟩, .string ⟨#[]⟩] 29)).heap.size) := Nat.lt_of_lt_of_le F1S.out hba.size
        have hN := RC.new w1_ false ⟨#[]⟩ ⟨#[]⟩ 29
        have F2_5 := hide (F1_5.out.below hba)
        have hlt5 := F1_5.out.lt
        go_simp
        refine hK.out _ _ (HSS.out _ F2B.out) (fun hHeld => ?_)
        clear hK K hba
        try simp only [List.getElem_toArray, List.getElem_cons_zero, List.getElem_cons_succ, List.get, Act.put, List.setIfInBounds_toArray, List.set_cons_zero, List.set_cons_succ]
        obtain ⟨w2_, hwj⟩ : ∃ W, w1_.alloc (.cells #[.bool false, .string ⟨#[]⟩, .string ⟨#[]⟩] 29) = W := ⟨_, rfl⟩
        have hsC := F1S.out
        obtain ⟨X6, hX⟩ : ∃ A, w1_.heap.size = A := ⟨_, rfl⟩
        rw [hX] at hN hsC hlow6
        rw [hwj] at hN F2B F2C F2R F2S hHeld ⊢
        rw [hX]
        have F2_6 := hide hN
        have nC6 : X6 ≠ C := by omega
        have nR6 : X6 ≠ R2 := by omega
        rw [hwj] at F2_5
        rw [hX] at hlt5
        have n56 : X5 ≠ X6 := by omega
        clear hwj hX hN hsC
        have HL6_ : Hid (w.heap.size ≤ X6) := by show _ ≤ X6; omega
        refine wpAnyH_ready (rs := [1]) (by kernel_rfl) (by simp) ?_
        refine AllReadyH.cons (o := _) rfl (fun K hK => ?_) AllReadyH.nil
        · skip
          go_simp
          refine (HMEAN.out w2_ F2B.out F2C.out).mono ?_
          rintro x w3_ ⟨r, rfl, hc, hq, hg⟩
          have HQ := hide hq
          have F3B := hide (F2B.out.grown hg F2B.out.size (fun k e => by injection e with e; have := HCw.out; omega))
          have F3C := hide hc
          have F3R := hide (F2R.out.keptM hg (fun e => by injection e with e; omega))
          have F3S : Hid (C < w3_.heap.size) := Nat.lt_of_lt_of_le F2S.out hg.size
          have F3_5 := hide (F2_5.out.keptM hg (fun e => by injection e with e; exact nC5 e))
          have F3_6 := hide (F2_6.out.keptM hg (fun e => by injection e with e; exact nC6 e))
          clear hc hq hg
          refine hK.out _ _ (HSS.out _ F3B.out) (fun hHeld => ?_)
          clear hK K
          try simp only [List.getElem_toArray, List.getElem_cons_zero, List.getElem_cons_succ, List.get, Act.put, List.setIfInBounds_toArray, List.set_cons_zero, List.set_cons_succ]
          have hwX5 := F3_5.out.lt
          have hwX6 := F3_6.out.lt
          obtain ⟨c0, c1, c2, f0, f1, f2⟩ := (id F3_5.out : RC _ _ _ _ _)
          have hN56 : X5 ≠ X6 := n56
          have hN65 : X6 ≠ X5 := fun e => hN56 e.symm
          have hg5 := grown_setM3 w3_ X5 0 1 2 (.bool r.1) (.string r.2.1) (.string r.2.2)
          have G1 := hide (F3_5.out.set3 r.1 r.2.1 r.2.2)
          have G6 := hide (F3_6.out.keptM hg5 (fun e => by injection e with e; exact hN65 e))
          have GR := hide (F3R.out.keptM hg5 (fun e => by injection e with e; exact nR5 e.symm))
          have GC := hide (F3C.out.keptM hg5 (fun e => by injection e with e; exact nC5 e.symm))
          have GB := hide (F3B.out.grown hg5 F3B.out.size (fun k e => by injection e with e; subst e; exact HL5_.out))
          clear hg5
          refine wpAnyH_ready (rs := [5]) (by kernel_rfl) (by simp) ?_
          refine AllReadyH.cons (o := _) rfl (fun K hK => ?_) AllReadyH.nil
          go_simp
          refine hK.out _ _ (HSS.out _ GB.out) (fun hHeld => ?_)
          clear hK K c0 c1 c2 f0 f1 f2
          try simp only [List.getElem_toArray, List.getElem_cons_zero, List.getElem_cons_succ, List.get, Act.put, List.setIfInBounds_toArray, List.set_cons_zero, List.set_cons_succ]
          obtain ⟨w4_, hw4⟩ : ∃ W, ((w3_.setCell ⟨X5, 0, none⟩ (.bool r.1)).setCell ⟨X5, 1, none⟩ (.string r.2.1)).setCell ⟨X5, 2, none⟩ (.string r.2.2) = W := ⟨_, rfl⟩
          rw [hw4] at G1 G6 GR GC GB hHeld ⊢
          clear hw4
          obtain ⟨c0, c1, c2, f0, f1, f2⟩ := (id G6.out : RC _ _ _ _ _)
          have hg6 := grown_setM3 w4_ X6 0 1 2 (.bool false) (.string ⟨#[48]⟩) (.string ⟨#[49]⟩)
          have H6 := hide (G6.out.set3 false ⟨#[48]⟩ ⟨#[49]⟩)
          have H5 := hide (G1.out.keptM hg6 (fun e => by injection e with e; exact hN56 e))
          have HR' := hide (GR.out.keptM hg6 (fun e => by injection e with e; exact nR6 e.symm))
          have HC' := hide (GC.out.keptM hg6 (fun e => by injection e with e; exact nC6 e.symm))
          have HB' := hide (GB.out.grown hg6 GB.out.size (fun k e => by injection e with e; subst e; exact HL6_.out))
          clear hg6
          refine wpAnyH_ready (rs := [6]) (by kernel_rfl) (by simp) ?_
          refine AllReadyH.cons (o := _) rfl (fun K hK => ?_) AllReadyH.nil
          go_simp
          refine hK.out _ _ (HSS.out _ HB'.out) (fun hHeld => ?_)
          clear hK K c0 c1 c2 f0 f1 f2
          try simp only [List.getElem_toArray, List.getElem_cons_zero, List.getElem_cons_succ, List.get, Act.put, List.setIfInBounds_toArray, List.set_cons_zero, List.set_cons_succ]
          refine wpAnyH_done (by kernel_rfl) ?_ _
          refine NoPanic.normal ?_
          exact ⟨rfl, X5, X6, r, rfl, ⟨HB'.out, HC'.out, HR'.out, H5.out, H6.out⟩, HQ.out, by omega, nC5, nC6, nR5, nR6, hN56, HL6_.out, HCw.out⟩
    · skip
      have hlow6 := F0B.out.size
      have hba := bAlloc (Below.refl _ wd) (.cells #[.bool false, .string ⟨#[]⟩, .string ⟨#[]⟩] 29)
      have F1B := hide (F0B.out.trans (hba.mono F0B.out.size))
      have F1C := hide (F0C.out.below hba)
      have F1R := hide (F0R.out.below hba)
      have F1S : Hid (C < (wd.alloc (.cells #[.bool false, .string ⟨#[]⟩, .string ⟨#[]⟩] 29)).heap.size) := Nat.lt_of_lt_of_le F0S.out hba.size
      have hN := RC.new wd false ⟨#[]⟩ ⟨#[]⟩ 29
      go_simp
      refine hK.out _ _ (HSS.out _ F1B.out) (fun hHeld => ?_)
      clear hK K hba
      try simp only [List.getElem_toArray, List.getElem_cons_zero, List.getElem_cons_succ, List.get, Act.put, List.setIfInBounds_toArray, List.set_cons_zero, List.set_cons_succ]
      obtain ⟨w1_, hwj⟩ : ∃ W, wd.alloc (.cells #[.bool false, .string ⟨#[]⟩, .string ⟨#[]⟩] 29) = W := ⟨_, rfl⟩
      have hsC := F0S.out
      obtain ⟨X6, hX⟩ : ∃ A, wd.heap.size = A := ⟨_, rfl⟩
      rw [hX] at hN hsC hlow6
      rw [hwj] at hN F1B F1C F1R F1S hHeld ⊢
      rw [hX]
      have F1_6 := hide hN
      have nC6 : X6 ≠ C := by omega
      have nR6 : X6 ≠ R2 := by omega
      clear hwj hX hN hsC
      have HL6_ : Hid (w.heap.size ≤ X6) := by show _ ≤ X6; omega
      refine wpAnyH_ready (rs := [1, 3]) (by kernel_rfl) (by simp) ?_
      refine AllReadyH.cons (o := _) rfl (fun K hK => ?_) (AllReadyH.cons (o := _) rfl (fun K hK => ?_) AllReadyH.nil)
      · skip
        go_simp
        refine (HMEAN.out w1_ F1B.out F1C.out).mono ?_
        rintro x w2_ ⟨r, rfl, hc, hq, hg⟩
        have HQ := hide hq
        have F2B := hide (F1B.out.grown hg F1B.out.size (fun k e => by injection e with e; have := HCw.out; omega))
        have F2C := hide hc
        have F2R := hide (F1R.out.keptM hg (fun e => by injection e with e; omega))
        have F2S : Hid (C < w2_.heap.size) := Nat.lt_of_lt_of_le F1S.out hg.size
        have F2_6 := hide (F1_6.out.keptM hg (fun e => by injection e with e; exact nC6 e))
        clear hc hq hg
        refine hK.out _ _ (HSS.out _ F2B.out) (fun hHeld => ?_)
        clear hK K
        try simp only [List.getElem_toArray, List.getElem_cons_zero, List.getElem_cons_succ, List.get, Act.put, List.setIfInBounds_toArray, List.set_cons_zero, List.set_cons_succ]
        refine wpAnyH_ready (rs := [3]) (by kernel_rfl) (by simp) ?_
        refine AllReadyH.cons (o := _) rfl (fun K hK => ?_) AllReadyH.nil
        · skip
          have hlow5 := F2B.out.size
          have hba := bAlloc (Below.refl _ w2_) (.cells #[.bool false, .string ⟨#[]⟩, .string ⟨#[]⟩] 29)
          have F3B := hide (F2B.out.trans (hba.mono F2B.out.size))
          have F3C := hide (F2C.out.below hba)
          have F3R := hide (F2R.out.below hba)
          have F3S : Hid (C < (w2_.alloc (.cells #[.bool false, .string ⟨#[]⟩, .string ⟨#[]⟩] 29)).heap.size) := Nat.lt_of_lt_of_le F2S.out hba.size
          have hN := RC.new w2_ false ⟨#[]⟩ ⟨#[]⟩ 29
          have F3_6 := hide (F2_6.out.below hba)
          have hlt6 := F2_6.out.lt
          go_simp
          refine hK.out _ _ (HSS.out _ F3B.out) (fun hHeld => ?_)
          clear hK K hba
          try simp only [List.getElem_toArray, List.getElem_cons_zero, List.getElem_cons_succ, List.get, Act.put, List.setIfInBounds_toArray, List.set_cons_zero, List.set_cons_succ]
          obtain ⟨w3_, hwj⟩ : ∃ W, w2_.alloc (.cells #[.bool false, .string ⟨#[]⟩, .string ⟨#[]⟩] 29) = W := ⟨_, rfl⟩
          have hsC := F2S.out
          obtain ⟨X5, hX⟩ : ∃ A, w2_.heap.size = A := ⟨_, rfl⟩
          rw [hX] at hN hsC hlow5
          rw [hwj] at hN F3B F3C F3R F3S hHeld ⊢
          rw [hX]
          have F3_5 := hide hN
          have nC5 : X5 ≠ C := by omega
          have nR5 : X5 ≠ R2 := by omega
          rw [hwj] at F3_6
          rw [hX] at hlt6
          have n65 : X6 ≠ X5 := by omega
          clear hwj hX hN hsC
          have HL5_ : Hid (w.heap.size ≤ X5) := by show _ ≤ X5; omega
          have hwX5 := F3_5.out.lt
          have hwX6 := F3_6.out.lt
          obtain ⟨c0, c1, c2, f0, f1, f2⟩ := (id F3_5.out : RC _ _ _ _ _)
          have hN56 : X5 ≠ X6 := n65.symm
          have hN65 : X6 ≠ X5 := fun e => hN56 e.symm
          have hg5 := grown_setM3 w3_ X5 0 1 2 (.bool r.1) (.string r.2.1) (.string r.2.2)
          have G1 := hide (F3_5.out.set3 r.1 r.2.1 r.2.2)
          have G6 := hide (F3_6.out.keptM hg5 (fun e => by injection e with e; exact hN65 e))
          have GR := hide (F3R.out.keptM hg5 (fun e => by injection e with e; exact nR5 e.symm))
          have GC := hide (F3C.out.keptM hg5 (fun e => by injection e with e; exact nC5 e.symm))
          have GB := hide (F3B.out.grown hg5 F3B.out.size (fun k e => by injection e with e; subst e; exact HL5_.out))
          clear hg5
          refine wpAnyH_ready (rs := [5]) (by kernel_rfl) (by simp) ?_
          refine AllReadyH.cons (o := _) rfl (fun K hK => ?_) AllReadyH.nil
          go_simp
          refine hK.out _ _ (HSS.out _ GB.out) (fun hHeld => ?_)
          clear hK K c0 c1 c2 f0 f1 f2
          try simp only [List.getElem_toArray, List.getElem_cons_zero, List.getElem_cons_succ, List.get, Act.put, List.setIfInBounds_toArray, List.set_cons_zero, List.set_cons_succ]
          obtain ⟨w4_, hw4⟩ : ∃ W, ((w3_.setCell ⟨X5, 0, none⟩ (.bool r.1)).setCell ⟨X5, 1, none⟩ (.string r.2.1)).setCell ⟨X5, 2, none⟩ (.string r.2.2) = W := ⟨_, rfl⟩
          rw [hw4] at G1 G6 GR GC GB hHeld ⊢
          clear hw4
          obtain ⟨c0, c1, c2, f0, f1, f2⟩ := (id G6.out : RC _ _ _ _ _)
          have hg6 := grown_setM3 w4_ X6 0 1 2 (.bool false) (.string ⟨#[48]⟩) (.string ⟨#[49]⟩)
          have H6 := hide (G6.out.set3 false ⟨#[48]⟩ ⟨#[49]⟩)
          have H5 := hide (G1.out.keptM hg6 (fun e => by injection e with e; exact hN56 e))
          have HR' := hide (GR.out.keptM hg6 (fun e => by injection e with e; exact nR6 e.symm))
          have HC' := hide (GC.out.keptM hg6 (fun e => by injection e with e; exact nC6 e.symm))
          have HB' := hide (GB.out.grown hg6 GB.out.size (fun k e => by injection e with e; subst e; exact HL6_.out))
          clear hg6
          refine wpAnyH_ready (rs := [6]) (by kernel_rfl) (by simp) ?_
          refine AllReadyH.cons (o := _) rfl (fun K hK => ?_) AllReadyH.nil
          go_simp
          refine hK.out _ _ (HSS.out _ HB'.out) (fun hHeld => ?_)
          clear hK K c0 c1 c2 f0 f1 f2
          try simp only [List.getElem_toArray, List.getElem_cons_zero, List.getElem_cons_succ, List.get, Act.put, List.setIfInBounds_toArray, List.set_cons_zero, List.set_cons_succ]
          refine wpAnyH_done (by kernel_rfl) ?_ _
          refine NoPanic.normal ?_
          exact ⟨rfl, X5, X6, r, rfl, ⟨HB'.out, HC'.out, HR'.out, H5.out, H6.out⟩, HQ.out, by omega, nC5, nC6, nR5, nR6, hN56, HL6_.out, HCw.out⟩
      · skip
        have hlow5 := F1B.out.size
        have hba := bAlloc (Below.refl _ w1_) (.cells #[.bool false, .string ⟨#[]⟩, .string ⟨#[]⟩] 29)
        have F2B := hide (F1B.out.trans (hba.mono F1B.out.size))
        have F2C := hide (F1C.out.below hba)
        have F2R := hide (F1R.out.below hba)
        have F2S : Hid (C < (w1_.alloc (.cells #[.bool false, .string ⟨#[]⟩, .string ⟨#[]⟩] 29)).heap.size) := Nat.lt_of_lt_of_le F1S.out hba.size
        have hN := RC.new w1_ false ⟨#[]⟩ ⟨#[]⟩ 29
        have F2_6 := hide (F1_6.out.below hba)
        have hlt6 := F1_6.out.lt
        go_simp
        refine hK.out _ _ (HSS.out _ F2B.out) (fun hHeld => ?_)
        clear hK K hba
        try simp only [List.getElem_toArray, List.getElem_cons_zero, List.getElem_cons_succ, List.get, Act.put, List.setIfInBounds_toArray, List.set_cons_zero, List.set_cons_succ]
        obtain ⟨w2_, hwj⟩ : ∃ W, w1_.alloc (.cells #[.bool false, .string ⟨#[]⟩, .string ⟨#[]⟩] 29) = W := ⟨_, rfl⟩
        have hsC := F1S.out
        obtain ⟨X5, hX⟩ : ∃ A, w1_.heap.size = A := ⟨_, rfl⟩
        rw [hX] at hN hsC hlow5
        rw [hwj] at hN F2B F2C F2R F2S hHeld ⊢
        rw [hX]
        have F2_5 := hide hN
        have nC5 : X5 ≠ C := by omega
        have nR5 : X5 ≠ R2 := by omega
        rw [hwj] at F2_6
        rw [hX] at hlt6
        have n65 : X6 ≠ X5 := by omega
        clear hwj hX hN hsC
        have HL5_ : Hid (w.heap.size ≤ X5) := by show _ ≤ X5; omega
        refine wpAnyH_ready (rs := [1]) (by kernel_rfl) (by simp) ?_
        refine AllReadyH.cons (o := _) rfl (fun K hK => ?_) AllReadyH.nil
        · skip
          go_simp
          refine (HMEAN.out w2_ F2B.out F2C.out).mono ?_
          rintro x w3_ ⟨r, rfl, hc, hq, hg⟩
          have HQ := hide hq
          have F3B := hide (F2B.out.grown hg F2B.out.size (fun k e => by injection e with e; have := HCw.out; omega))
          have F3C := hide hc
          have F3R := hide (F2R.out.keptM hg (fun e => by injection e with e; omega))
          have F3S : Hid (C < w3_.heap.size) := Nat.lt_of_lt_of_le F2S.out hg.size
          have F3_6 := hide (F2_6.out.keptM hg (fun e => by injection e with e; exact nC6 e))
          have F3_5 := hide (F2_5.out.keptM hg (fun e => by injection e with e; exact nC5 e))
          clear hc hq hg
          refine hK.out _ _ (HSS.out _ F3B.out) (fun hHeld => ?_)
          clear hK K
          try simp only [List.getElem_toArray, List.getElem_cons_zero, List.getElem_cons_succ, List.get, Act.put, List.setIfInBounds_toArray, List.set_cons_zero, List.set_cons_succ]
          have hwX5 := F3_5.out.lt
          have hwX6 := F3_6.out.lt
          obtain ⟨c0, c1, c2, f0, f1, f2⟩ := (id F3_5.out : RC _ _ _ _ _)
          have hN56 : X5 ≠ X6 := n65.symm
          have hN65 : X6 ≠ X5 := fun e => hN56 e.symm
          have hg5 := grown_setM3 w3_ X5 0 1 2 (.bool r.1) (.string r.2.1) (.string r.2.2)
          have G1 := hide (F3_5.out.set3 r.1 r.2.1 r.2.2)
          have G6 := hide (F3_6.out.keptM hg5 (fun e => by injection e with e; exact hN65 e))
          have GR := hide (F3R.out.keptM hg5 (fun e => by injection e with e; exact nR5 e.symm))
          have GC := hide (F3C.out.keptM hg5 (fun e => by injection e with e; exact nC5 e.symm))
          have GB := hide (F3B.out.grown hg5 F3B.out.size (fun k e => by injection e with e; subst e; exact HL5_.out))
          clear hg5
          refine wpAnyH_ready (rs := [5]) (by kernel_rfl) (by simp) ?_
          refine AllReadyH.cons (o := _) rfl (fun K hK => ?_) AllReadyH.nil
          go_simp
          refine hK.out _ _ (HSS.out _ GB.out) (fun hHeld => ?_)
          clear hK K c0 c1 c2 f0 f1 f2
          try simp only [List.getElem_toArray, List.getElem_cons_zero, List.getElem_cons_succ, List.get, Act.put, List.setIfInBounds_toArray, List.set_cons_zero, List.set_cons_succ]
          obtain ⟨w4_, hw4⟩ : ∃ W, ((w3_.setCell ⟨X5, 0, none⟩ (.bool r.1)).setCell ⟨X5, 1, none⟩ (.string r.2.1)).setCell ⟨X5, 2, none⟩ (.string r.2.2) = W := ⟨_, rfl⟩
          rw [hw4] at G1 G6 GR GC GB hHeld ⊢
          clear hw4
          obtain ⟨c0, c1, c2, f0, f1, f2⟩ := (id G6.out : RC _ _ _ _ _)
          have hg6 := grown_setM3 w4_ X6 0 1 2 (.bool false) (.string ⟨#[48]⟩) (.string ⟨#[49]⟩)
          have H6 := hide (G6.out.set3 false ⟨#[48]⟩ ⟨#[49]⟩)
          have H5 := hide (G1.out.keptM hg6 (fun e => by injection e with e; exact hN56 e))
          have HR' := hide (GR.out.keptM hg6 (fun e => by injection e with e; exact nR6 e.symm))
          have HC' := hide (GC.out.keptM hg6 (fun e => by injection e with e; exact nC6 e.symm))
          have HB' := hide (GB.out.grown hg6 GB.out.size (fun k e => by injection e with e; subst e; exact HL6_.out))
          clear hg6
          refine wpAnyH_ready (rs := [6]) (by kernel_rfl) (by simp) ?_
          refine AllReadyH.cons (o := _) rfl (fun K hK => ?_) AllReadyH.nil
          go_simp
          refine hK.out _ _ (HSS.out _ HB'.out) (fun hHeld => ?_)
          clear hK K c0 c1 c2 f0 f1 f2
          try simp only [List.getElem_toArray, List.getElem_cons_zero, List.getElem_cons_succ, List.get, Act.put, List.setIfInBounds_toArray, List.set_cons_zero, List.set_cons_succ]
          refine wpAnyH_done (by kernel_rfl) ?_ _
          refine NoPanic.normal ?_
          exact ⟨rfl, X5, X6, r, rfl, ⟨HB'.out, HC'.out, HR'.out, H5.out, H6.out⟩, HQ.out, by omega, nC5, nC6, nR5, nR6, hN56, HL6_.out, HCw.out⟩
  case later =>
    rintro e a' W ⟨rfl, X5, X6, r, rfl, hvi, hq, n1, n2, n3, n4, n5, n6, hl6, hlC⟩
    have HVI := hide hvi
    have HQ := hide hq
    have HZ0 : Hid (varZ om L 0 = om.bind fun m => some (0, m)) := rfl
    have HV0 : Hid (VI w W R2 C X5 X6 r (false, ⟨#[48]⟩, ⟨#[49]⟩) (eO (varZ om L 0))) := by
      show VI _ _ _ _ _ _ _ _ _
      rw [HZ0.out, eO_z0]
      exact hvi
    have HT0 : Hid (∀ z, varZ om L 0 = some z → IsT z.1 (false, ⟨#[48]⟩, ⟨#[49]⟩) ∧ FitQ z.1 ∧ om = some z.2) := fun z h => by
      rw [HZ0.out] at h
      obtain ⟨m, hm, h⟩ := Option.bind_eq_some_iff.1 h
      have h := Option.some.inj h
      subst h
      exact ⟨isT_zero, fit_zero, hm⟩
    clear hvi hq
    go_wp2_with fail
    go_loopw [19] (fun i wx => ∃ (k : Nat) (s : T3), k ≤ n ∧ i = .int .i64 (k : Int) ∧ VI w wx R2 C X5 X6 r s (eO (varZ om L k)) ∧ (∀ z, varZ om L k = some z → IsT z.1 s ∧ FitQ z.1 ∧ om = some z.2)) (fun i _ => n - (intOf i).toNat)
    case atStart => exact ⟨0, _, Nat.zero_le _, rfl, HV0.out, HT0.out⟩
    case round =>
      obtain ⟨k, s, hk, rfl, hvi, hts⟩ := hrel
      have HVI := hide hvi
      have HTS := hide hts
      clear hvi hts HV0 HT0 HZ0
      by_cases hlt : k < n
      · have hkI : (k : Int) < (n : Int) := by omega
        have hk0 : (0 : Int) ≤ (k : Int) := by omega
        have hkL : k < L.length := by rw [HN.out]; exact hlt
        have hlt' : k < (L.map encP).length := by rw [HML.out]; exact hkL
        have HS' : Hid (SliceOf vPr 6 w (.slice ao (L.map encP).length c) (L.map encP)) := HS.out
        obtain ⟨bp, of, rfl, g1, g2, hp⟩ := HS'.out.ptAt HVI.out.bel hlt'
        rw [List.getElem_map] at hp
        rw [HML.out, HN.out] at g1
        have HFK := hide (HF.out k hkL)
        have HSTEP := hide (varZ_succ (om := om) hkL)
        obtain ⟨pq, hpq⟩ : ∃ pq, L[k] = pq := ⟨_, rfl⟩
        rw [hpq] at hp HFK HSTEP
        obtain ⟨p, hpe⟩ : ∃ p, encP pq = p := ⟨_, rfl⟩
        have HI1 : Hid (IsT pq.1 p.1) := by rw [← hpe]; exact IsT.self _
        have HI2 : Hid (IsT pq.2 p.2) := by rw [← hpe]; exact IsT.self _
        rw [hpe] at hp
        obtain ⟨y0, y1, y2, y3, y4, y5⟩ := hp
        obtain ⟨zk, hzk⟩ : ∃ zk, varZ om L k = zk := ⟨_, rfl⟩
        rw [hzk] at HVI HTS HSTEP
        have hba := bAlloc (Below.refl wr.heap.size wr) (.cells #[.bool p.1.1, .string p.1.2.1, .string p.1.2.2, .bool p.2.1, .string p.2.2.1, .string p.2.2.2] 41)
        have HP8 := hide (P6.new wr p 41)
        have HVa := hide (HVI.out.below hba)
        have HX8 : Hid (C < wr.heap.size ∧ R2 < wr.heap.size ∧ X5 < wr.heap.size ∧ X6 < wr.heap.size) := ⟨HVI.out.ce.lt, HVI.out.r2.lt, HVI.out.r5.lt, HVI.out.r6.lt⟩
        clear hpq hpe hlt' hzk hba HVI
        go_upto_region 8 with fail
        obtain ⟨wa, hwa⟩ : ∃ W, wr.alloc (.cells #[.bool p.1.1, .string p.1.2.1, .string p.1.2.2, .bool p.2.1, .string p.2.2.1, .string p.2.2.2] 41) = W := ⟨_, rfl⟩
        obtain ⟨X8, hX8⟩ : ∃ A, wr.heap.size = A := ⟨_, rfl⟩
        rw [hX8] at HX8
        rw [hwa] at HVa
        rw [hwa, hX8] at HP8
        rw [hwa, hX8]
        clear hwa hX8 y0 y1 y2 y3 y4 y5
        obtain ⟨y0, y1, y2, y3, y4, y5⟩ := HP8.out.n0
        obtain ⟨m0, m1, m2, _, _, _⟩ := (id HVa.out.r5 : RC _ _ _ _ _)
        have HD := hide (mo_dE_Sub C (zk.bind fun z => some (pq.1, z.2)) p.1 r wa (HL.out.below HVa.out.bel) (by rw [eO_zz]; exact HVa.out.ce) (fun a b h => by
          obtain ⟨z, hz, h⟩ := Option.bind_eq_some_iff.1 h
          injection h with h; injection h with h1 h2; subst h1 h2
          have h3 := HQ.out _ (HTS.out z hz).2.2
          exact ⟨HI1.out, h3.1, HFK.out.1, h3.2⟩))
        go_wp2_with fail
        refine HD.out.mono ?_
        rintro x wb ⟨d, rfl, hc, ht, hg⟩
        have hx8 := HX8.out
        have HVb := hide (HVa.out.grownC hg hc hlC n1 n2 n3)
        have HP8b := hide (HP8.out.kept hg (fun e => by injection e with e; omega))
        have HTD := hide ht
        have hba := bAlloc (Below.refl wb.heap.size wb) (.cells #[.bool d.1, .string d.2.1, .string d.2.2] 29)
        have HVc := hide (HVb.out.below hba)
        have HP8c := hide (HP8b.out.keep hba)
        have HP9 := hide (RC.new wb d.1 d.2.1 d.2.2 29)
        have HX9 : Hid (C < wb.heap.size ∧ R2 < wb.heap.size ∧ X5 < wb.heap.size ∧ X6 < wb.heap.size ∧ X8 < wb.heap.size) := ⟨HVb.out.ce.lt, HVb.out.r2.lt, HVb.out.r5.lt, HVb.out.r6.lt, HP8b.out.lt⟩
        clear hc ht hg HD hba y0 y1 y2 y3 y4 y5 m0 m1 m2
        go_upto_region 9 with fail
        obtain ⟨wc, hwc⟩ : ∃ W, wb.alloc (.cells #[.bool d.1, .string d.2.1, .string d.2.2] 29) = W := ⟨_, rfl⟩
        obtain ⟨X9, hX9⟩ : ∃ A, wb.heap.size = A := ⟨_, rfl⟩
        rw [hX9] at HX9
        rw [hwc] at HVc HP8c
        rw [hwc, hX9] at HP9
        rw [hwc, hX9]
        clear hwc hX9
        refine Code.wp_mono (Q := fun e a' W => e = .normal ∧ ∃ (s' : T3) (v1 v2 v3 v4 v5 v6 v7 v8 : Value), a' = { tmps := #[.slice (some ⟨bp, of, none⟩) n c, undef, .pointer (some ⟨R2, 0, none⟩), .int .i64 0, .pointer (some ⟨C, 0, none⟩), .pointer (some ⟨X5, 0, none⟩), .pointer (some ⟨X6, 0, none⟩), undef, .pointer (some ⟨X8, 0, none⟩), .pointer (some ⟨X9, 0, none⟩), .slice (some ⟨bp, of, none⟩) n c, .bool true, .bool false, undef, .slice (some ⟨bp, of, none⟩) n c, .agg #[.bool r.1, .string r.2.1, .string r.2.2], .agg #[.bool false, .string ⟨#[48]⟩, .string ⟨#[49]⟩], .slice (some ⟨bp, of, none⟩) n c, .int .i64 (n : Int), .int .i64 (k : Int), .bool true, .pointer (some ⟨bp, of + k * 6, none⟩), .agg #[.bool p.1.1, .string p.1.2.1, .string p.1.2.2, .bool p.2.1, .string p.2.2.1, .string p.2.2.2], .pointer (some ⟨X8, 0, none⟩), .agg #[.bool p.1.1, .string p.1.2.1, .string p.1.2.2], .agg #[.bool r.1, .string r.2.1, .string r.2.2], .agg #[.bool d.1, .string d.2.1, .string d.2.2], v1, v2, v3, v4, v5, v6, v7, v8, u35, undef, undef, undef, undef], defers := [] } ∧ VI w W R2 C X5 X6 r s' (eO (vR4 zk pq)) ∧ (∀ q, vR4 zk pq = some q → IsT q s' ∧ FitQ q)) ?later9 ?region9
        case region9 =>
          obtain ⟨wd, hwd⟩ : ∃ W, wc.drew = W := ⟨_, rfl⟩
          have hbd : Below wc.heap.size wc wc.drew := bDraw (Below.refl _ wc)
          rw [hwd] at hbd
          have E0V := hide (HVc.out.below hbd)
          have E0P := hide (HP8c.out.keep hbd)
          have E0D := hide (HP9.out.below hbd)
          have hx9 := HX9.out
          have HSS : Hid (∀ W, P6 W X8 0 p → RC W X9 d.1 d.2.1 d.2.2 → (W.cell? ⟨X8, 3, none⟩ = some (.bool p.2.1) ∧ W.cell? ⟨X8, 4, none⟩ = some (.string p.2.2.1) ∧ W.cell? ⟨X8, 5, none⟩ = some (.string p.2.2.2)) ∧ (W.cell? ⟨X9, 0, none⟩ = some (.bool d.1) ∧ W.cell? ⟨X9, 1, none⟩ = some (.string d.2.1) ∧ W.cell? ⟨X9, 2, none⟩ = some (.string d.2.2))) := fun W h h9 => ⟨h.n0.2.2.2, h9.c0, h9.c1, h9.c2⟩
          have hE0 := HSS.out _ E0P.out E0D.out
          clear hbd HVc HP8c HP9 HVa HP8 HVb HP8b
          refine wp_region_noPanic ?_
          refine wp_region_held_drew (S := fun w' => (w'.cell? ⟨X8, 3, none⟩ = some (.bool p.2.1) ∧ w'.cell? ⟨X8, 4, none⟩ = some (.string p.2.2.1) ∧ w'.cell? ⟨X8, 5, none⟩ = some (.string p.2.2.2)) ∧ (w'.cell? ⟨X9, 0, none⟩ = some (.bool d.1) ∧ w'.cell? ⟨X9, 1, none⟩ = some (.string d.2.1) ∧ w'.cell? ⟨X9, 2, none⟩ = some (.string d.2.2))) (by kernel_rfl) (by rw [hwd]; exact hE0) (fun hHeld => ?_)
          rw [hwd] at hHeld ⊢
          clear hwd hE0
          change wpAnyH _ _ _ _ _ 9 #[false, false, false, false, false, false, false, false, false] _ _
          refine wpAnyH_take (i := 1) (oi := _) (v := ?_) rfl (by kernel_rfl) (by kernel_rfl) (by kernel_rfl) (fun _ _ _ h => h) (Or.inl ⟨by rfl, ?_⟩) (by assumption) ?_
          rotate_left
          · intro w hSw
            (try dsimp only at hSw)
            go_simp
            try with_reducible rfl
          try simp only [List.getElem_toArray, List.getElem_cons_zero, List.getElem_cons_succ, List.get, Act.put, List.setIfInBounds_toArray, List.set_cons_zero, List.set_cons_succ]
          refine wpAnyH_take (i := 2) (oi := _) (v := ?_) rfl (by kernel_rfl) (by kernel_rfl) (by kernel_rfl) (fun _ _ _ h => h) (Or.inl ⟨by rfl, ?_⟩) (by assumption) ?_
          rotate_left
          · intro w hSw
            (try dsimp only at hSw)
            go_simp
            try with_reducible rfl
          try simp only [List.getElem_toArray, List.getElem_cons_zero, List.getElem_cons_succ, List.get, Act.put, List.setIfInBounds_toArray, List.set_cons_zero, List.set_cons_succ]
          refine wpAnyH_take (i := 3) (oi := _) (v := ?_) rfl (by kernel_rfl) (by kernel_rfl) (by kernel_rfl) (fun _ _ _ h => h) (Or.inl ⟨by rfl, ?_⟩) (by assumption) ?_
          rotate_left
          · intro w hSw
            (try dsimp only at hSw)
            go_simp
            try with_reducible rfl
          try simp only [List.getElem_toArray, List.getElem_cons_zero, List.getElem_cons_succ, List.get, Act.put, List.setIfInBounds_toArray, List.set_cons_zero, List.set_cons_succ]
          refine wpAnyH_take (i := 4) (oi := _) (v := ?_) rfl (by kernel_rfl) (by kernel_rfl) (by kernel_rfl) (fun _ _ _ h => h) (Or.inl ⟨by rfl, ?_⟩) (by assumption) ?_
          rotate_left
          · intro w hSw
            (try dsimp only at hSw)
            go_simp
            try with_reducible rfl
          try simp only [List.getElem_toArray, List.getElem_cons_zero, List.getElem_cons_succ, List.get, Act.put, List.setIfInBounds_toArray, List.set_cons_zero, List.set_cons_succ]
          refine wpAnyH_ready (rs := [0, 5]) (by kernel_rfl) (by simp) ?_
          refine AllReadyH.cons (o := _) rfl (fun K hK => ?_) (AllReadyH.cons (o := _) rfl (fun K hK => ?_) AllReadyH.nil)
          · skip
            obtain ⟨l0, l1, l2, _, _, _⟩ := (id E0V.out.r6 : RC _ _ _ _ _)
            go_simp
            refine hK.out _ _ (HSS.out _ E0P.out E0D.out) (fun hHeld => ?_)
            clear hK K l0 l1 l2
            try simp only [List.getElem_toArray, List.getElem_cons_zero, List.getElem_cons_succ, List.get, Act.put, List.setIfInBounds_toArray, List.set_cons_zero, List.set_cons_succ]
            refine wpAnyH_ready (rs := [5]) (by kernel_rfl) (by simp) ?_
            refine AllReadyH.cons (o := _) rfl (fun K hK => ?_) AllReadyH.nil
            go_simp
            refine (mo_dE_Mul C ((vR1 zk pq).bind fun q => some (q, q)) d d wd (HL.out.below E0V.out.bel) (by rw [eO_zz]; exact E0V.out.ce) (fun a b h => by obtain ⟨q, hq, h⟩ := Option.bind_eq_some_iff.1 h; have h := Option.some.inj h; injection h with h1 h2; subst h1 h2; exact ⟨(HTD.out q hq).1, (HTD.out q hq).1, (HTD.out q hq).2, (HTD.out q hq).2⟩)).mono ?_
            rintro x v1_ ⟨e1, rfl, hc, ht, hg⟩
            have T1 := hide ht
            have E1V := hide (E0V.out.grownC hg hc hlC n1 n2 n3)
            have E1P := hide (E0P.out.kept hg (fun e => by injection e with e; omega))
            have E1D := hide (E0D.out.keptM hg (fun e => by injection e with e; omega))
            clear hc ht hg
            refine hK.out _ _ (HSS.out _ E1P.out E1D.out) (fun hHeld => ?_)
            clear hK K
            try simp only [List.getElem_toArray, List.getElem_cons_zero, List.getElem_cons_succ, List.get, Act.put, List.setIfInBounds_toArray, List.set_cons_zero, List.set_cons_succ]
            refine wpAnyH_ready (rs := [6]) (by kernel_rfl) (by simp) ?_
            refine AllReadyH.cons (o := _) rfl (fun K hK => ?_) AllReadyH.nil
            go_simp
            refine (mo_dE_Mul C ((vR2 zk pq).bind fun q => some (pq.2, q)) p.2 e1 v1_ (HL.out.below E1V.out.bel) (by rw [eO_zz]; exact E1V.out.ce) (fun a b h => by obtain ⟨q, hq, h⟩ := Option.bind_eq_some_iff.1 h; have h := Option.some.inj h; injection h with h1 h2; subst h1 h2; exact ⟨HI2.out, (T1.out q hq).1, HFK.out.2, (T1.out q hq).2⟩)).mono ?_
            rintro x v2_ ⟨e2, rfl, hc, ht, hg⟩
            have T2 := hide ht
            have E2V := hide (E1V.out.grownC hg hc hlC n1 n2 n3)
            have E2P := hide (E1P.out.kept hg (fun e => by injection e with e; omega))
            have E2D := hide (E1D.out.keptM hg (fun e => by injection e with e; omega))
            clear hc ht hg
            refine hK.out _ _ (HSS.out _ E2P.out E2D.out) (fun hHeld => ?_)
            clear hK K
            try simp only [List.getElem_toArray, List.getElem_cons_zero, List.getElem_cons_succ, List.get, Act.put, List.setIfInBounds_toArray, List.set_cons_zero, List.set_cons_succ]
            refine wpAnyH_ready (rs := [7]) (by kernel_rfl) (by simp) ?_
            refine AllReadyH.cons (o := _) rfl (fun K hK => ?_) AllReadyH.nil
            go_simp
            refine (mo_dE_Add C (vO4 zk pq) s e2 v2_ (HL.out.below E2V.out.bel) (by rw [vO4_eO]; exact E2V.out.ce) (fun a b h => by unfold vO4 at h; obtain ⟨q, hq, h⟩ := Option.bind_eq_some_iff.1 h; obtain ⟨z, hz, h⟩ := Option.bind_eq_some_iff.1 h; have h := Option.some.inj h; injection h with h1 h2; subst h1 h2; exact ⟨(HTS.out z hz).1, (T2.out q hq).1, (HTS.out z hz).2.1, (T2.out q hq).2⟩)).mono ?_
            rintro x v3_ ⟨e3, rfl, hc, ht, hg⟩
            have T3 := hide ht
            have E3V := hide (E2V.out.grownC hg hc hlC n1 n2 n3)
            have E3P := hide (E2P.out.kept hg (fun e => by injection e with e; omega))
            have E3D := hide (E2D.out.keptM hg (fun e => by injection e with e; omega))
            clear hc ht hg
            refine hK.out _ _ (HSS.out _ E3P.out E3D.out) (fun hHeld => ?_)
            clear hK K
            try simp only [List.getElem_toArray, List.getElem_cons_zero, List.getElem_cons_succ, List.get, Act.put, List.setIfInBounds_toArray, List.set_cons_zero, List.set_cons_succ]
            obtain ⟨l0, l1, l2, f0, f1, f2⟩ := (id E3V.out.r6 : RC _ _ _ _ _)
            have hg6 := grown_setM3 v3_ X6 0 1 2 (.bool e3.1) (.string e3.2.1) (.string e3.2.2)
            have HV6 : Hid (VI w (((v3_.setCell ⟨X6, 0, none⟩ (.bool e3.1)).setCell ⟨X6, 1, none⟩ (.string e3.2.1)).setCell ⟨X6, 2, none⟩ (.string e3.2.2)) R2 C X5 X6 r e3 (eO (vR4 zk pq))) := ⟨E3V.out.bel.grown hg6 E3V.out.bel.size (fun k e => by injection e with e; omega), E3V.out.ce.keptM hg6 (fun e => by injection e with e; exact n3 e.symm), E3V.out.r2.keptM hg6 (fun e => by injection e with e; exact n5 e.symm), E3V.out.r5.keptM hg6 (fun e => by injection e with e; exact n6 e), E3V.out.r6.set3 e3.1 e3.2.1 e3.2.2⟩
            have P6' := hide (E3P.out.kept hg6 (fun e => by injection e with e; omega))
            have D6' := hide (E3D.out.keptM hg6 (fun e => by injection e with e; omega))
            clear hg6
            refine wpAnyH_ready (rs := [8]) (by kernel_rfl) (by simp) ?_
            refine AllReadyH.cons (o := _) rfl (fun K hK => ?_) AllReadyH.nil
            go_simp
            refine hK.out _ _ (HSS.out _ P6'.out D6'.out) (fun hHeld => ?_)
            clear hK K l0 l1 l2 f0 f1 f2
            try simp only [List.getElem_toArray, List.getElem_cons_zero, List.getElem_cons_succ, List.get, Act.put, List.setIfInBounds_toArray, List.set_cons_zero, List.set_cons_succ]
            refine wpAnyH_done (by kernel_rfl) ?_ _
            refine NoPanic.normal ?_
            exact ⟨rfl, e3, _, _, _, _, _, _, _, _, rfl, HV6.out, T3.out⟩
          · skip
            go_simp
            refine (mo_dE_Mul C ((vR1 zk pq).bind fun q => some (q, q)) d d wd (HL.out.below E0V.out.bel) (by rw [eO_zz]; exact E0V.out.ce) (fun a b h => by obtain ⟨q, hq, h⟩ := Option.bind_eq_some_iff.1 h; have h := Option.some.inj h; injection h with h1 h2; subst h1 h2; exact ⟨(HTD.out q hq).1, (HTD.out q hq).1, (HTD.out q hq).2, (HTD.out q hq).2⟩)).mono ?_
            rintro x v1_ ⟨e1, rfl, hc, ht, hg⟩
            have T1 := hide ht
            have E1V := hide (E0V.out.grownC hg hc hlC n1 n2 n3)
            have E1P := hide (E0P.out.kept hg (fun e => by injection e with e; omega))
            have E1D := hide (E0D.out.keptM hg (fun e => by injection e with e; omega))
            clear hc ht hg
            refine hK.out _ _ (HSS.out _ E1P.out E1D.out) (fun hHeld => ?_)
            clear hK K
            try simp only [List.getElem_toArray, List.getElem_cons_zero, List.getElem_cons_succ, List.get, Act.put, List.setIfInBounds_toArray, List.set_cons_zero, List.set_cons_succ]
            refine wpAnyH_ready (rs := [0, 6]) (by kernel_rfl) (by simp) ?_
            refine AllReadyH.cons (o := _) rfl (fun K hK => ?_) (AllReadyH.cons (o := _) rfl (fun K hK => ?_) AllReadyH.nil)
            · skip
              obtain ⟨l0, l1, l2, _, _, _⟩ := (id E1V.out.r6 : RC _ _ _ _ _)
              go_simp
              refine hK.out _ _ (HSS.out _ E1P.out E1D.out) (fun hHeld => ?_)
              clear hK K l0 l1 l2
              try simp only [List.getElem_toArray, List.getElem_cons_zero, List.getElem_cons_succ, List.get, Act.put, List.setIfInBounds_toArray, List.set_cons_zero, List.set_cons_succ]
              refine wpAnyH_ready (rs := [6]) (by kernel_rfl) (by simp) ?_
              refine AllReadyH.cons (o := _) rfl (fun K hK => ?_) AllReadyH.nil
              go_simp
              refine (mo_dE_Mul C ((vR2 zk pq).bind fun q => some (pq.2, q)) p.2 e1 v1_ (HL.out.below E1V.out.bel) (by rw [eO_zz]; exact E1V.out.ce) (fun a b h => by obtain ⟨q, hq, h⟩ := Option.bind_eq_some_iff.1 h; have h := Option.some.inj h; injection h with h1 h2; subst h1 h2; exact ⟨HI2.out, (T1.out q hq).1, HFK.out.2, (T1.out q hq).2⟩)).mono ?_
              rintro x v2_ ⟨e2, rfl, hc, ht, hg⟩
              have T2 := hide ht
              have E2V := hide (E1V.out.grownC hg hc hlC n1 n2 n3)
              have E2P := hide (E1P.out.kept hg (fun e => by injection e with e; omega))
              have E2D := hide (E1D.out.keptM hg (fun e => by injection e with e; omega))
              clear hc ht hg
              refine hK.out _ _ (HSS.out _ E2P.out E2D.out) (fun hHeld => ?_)
              clear hK K
              try simp only [List.getElem_toArray, List.getElem_cons_zero, List.getElem_cons_succ, List.get, Act.put, List.setIfInBounds_toArray, List.set_cons_zero, List.set_cons_succ]
              refine wpAnyH_ready (rs := [7]) (by kernel_rfl) (by simp) ?_
              refine AllReadyH.cons (o := _) rfl (fun K hK => ?_) AllReadyH.nil
              go_simp
              refine (mo_dE_Add C (vO4 zk pq) s e2 v2_ (HL.out.below E2V.out.bel) (by rw [vO4_eO]; exact E2V.out.ce) (fun a b h => by unfold vO4 at h; obtain ⟨q, hq, h⟩ := Option.bind_eq_some_iff.1 h; obtain ⟨z, hz, h⟩ := Option.bind_eq_some_iff.1 h; have h := Option.some.inj h; injection h with h1 h2; subst h1 h2; exact ⟨(HTS.out z hz).1, (T2.out q hq).1, (HTS.out z hz).2.1, (T2.out q hq).2⟩)).mono ?_
              rintro x v3_ ⟨e3, rfl, hc, ht, hg⟩
              have T3 := hide ht
              have E3V := hide (E2V.out.grownC hg hc hlC n1 n2 n3)
              have E3P := hide (E2P.out.kept hg (fun e => by injection e with e; omega))
              have E3D := hide (E2D.out.keptM hg (fun e => by injection e with e; omega))
              clear hc ht hg
              refine hK.out _ _ (HSS.out _ E3P.out E3D.out) (fun hHeld => ?_)
              clear hK K
              try simp only [List.getElem_toArray, List.getElem_cons_zero, List.getElem_cons_succ, List.get, Act.put, List.setIfInBounds_toArray, List.set_cons_zero, List.set_cons_succ]
              obtain ⟨l0, l1, l2, f0, f1, f2⟩ := (id E3V.out.r6 : RC _ _ _ _ _)
              have hg6 := grown_setM3 v3_ X6 0 1 2 (.bool e3.1) (.string e3.2.1) (.string e3.2.2)
              have HV6 : Hid (VI w (((v3_.setCell ⟨X6, 0, none⟩ (.bool e3.1)).setCell ⟨X6, 1, none⟩ (.string e3.2.1)).setCell ⟨X6, 2, none⟩ (.string e3.2.2)) R2 C X5 X6 r e3 (eO (vR4 zk pq))) := ⟨E3V.out.bel.grown hg6 E3V.out.bel.size (fun k e => by injection e with e; omega), E3V.out.ce.keptM hg6 (fun e => by injection e with e; exact n3 e.symm), E3V.out.r2.keptM hg6 (fun e => by injection e with e; exact n5 e.symm), E3V.out.r5.keptM hg6 (fun e => by injection e with e; exact n6 e), E3V.out.r6.set3 e3.1 e3.2.1 e3.2.2⟩
              have P6' := hide (E3P.out.kept hg6 (fun e => by injection e with e; omega))
              have D6' := hide (E3D.out.keptM hg6 (fun e => by injection e with e; omega))
              clear hg6
              refine wpAnyH_ready (rs := [8]) (by kernel_rfl) (by simp) ?_
              refine AllReadyH.cons (o := _) rfl (fun K hK => ?_) AllReadyH.nil
              go_simp
              refine hK.out _ _ (HSS.out _ P6'.out D6'.out) (fun hHeld => ?_)
              clear hK K l0 l1 l2 f0 f1 f2
              try simp only [List.getElem_toArray, List.getElem_cons_zero, List.getElem_cons_succ, List.get, Act.put, List.setIfInBounds_toArray, List.set_cons_zero, List.set_cons_succ]
              refine wpAnyH_done (by kernel_rfl) ?_ _
              refine NoPanic.normal ?_
              exact ⟨rfl, e3, _, _, _, _, _, _, _, _, rfl, HV6.out, T3.out⟩
            · skip
              go_simp
              refine (mo_dE_Mul C ((vR2 zk pq).bind fun q => some (pq.2, q)) p.2 e1 v1_ (HL.out.below E1V.out.bel) (by rw [eO_zz]; exact E1V.out.ce) (fun a b h => by obtain ⟨q, hq, h⟩ := Option.bind_eq_some_iff.1 h; have h := Option.some.inj h; injection h with h1 h2; subst h1 h2; exact ⟨HI2.out, (T1.out q hq).1, HFK.out.2, (T1.out q hq).2⟩)).mono ?_
              rintro x v2_ ⟨e2, rfl, hc, ht, hg⟩
              have T2 := hide ht
              have E2V := hide (E1V.out.grownC hg hc hlC n1 n2 n3)
              have E2P := hide (E1P.out.kept hg (fun e => by injection e with e; omega))
              have E2D := hide (E1D.out.keptM hg (fun e => by injection e with e; omega))
              clear hc ht hg
              refine hK.out _ _ (HSS.out _ E2P.out E2D.out) (fun hHeld => ?_)
              clear hK K
              try simp only [List.getElem_toArray, List.getElem_cons_zero, List.getElem_cons_succ, List.get, Act.put, List.setIfInBounds_toArray, List.set_cons_zero, List.set_cons_succ]
              refine wpAnyH_ready (rs := [0]) (by kernel_rfl) (by simp) ?_
              refine AllReadyH.cons (o := _) rfl (fun K hK => ?_) AllReadyH.nil
              obtain ⟨l0, l1, l2, _, _, _⟩ := (id E2V.out.r6 : RC _ _ _ _ _)
              go_simp
              refine hK.out _ _ (HSS.out _ E2P.out E2D.out) (fun hHeld => ?_)
              clear hK K l0 l1 l2
              try simp only [List.getElem_toArray, List.getElem_cons_zero, List.getElem_cons_succ, List.get, Act.put, List.setIfInBounds_toArray, List.set_cons_zero, List.set_cons_succ]
              refine wpAnyH_ready (rs := [7]) (by kernel_rfl) (by simp) ?_
              refine AllReadyH.cons (o := _) rfl (fun K hK => ?_) AllReadyH.nil
              go_simp
              refine (mo_dE_Add C (vO4 zk pq) s e2 v2_ (HL.out.below E2V.out.bel) (by rw [vO4_eO]; exact E2V.out.ce) (fun a b h => by unfold vO4 at h; obtain ⟨q, hq, h⟩ := Option.bind_eq_some_iff.1 h; obtain ⟨z, hz, h⟩ := Option.bind_eq_some_iff.1 h; have h := Option.some.inj h; injection h with h1 h2; subst h1 h2; exact ⟨(HTS.out z hz).1, (T2.out q hq).1, (HTS.out z hz).2.1, (T2.out q hq).2⟩)).mono ?_
              rintro x v3_ ⟨e3, rfl, hc, ht, hg⟩
              have T3 := hide ht
              have E3V := hide (E2V.out.grownC hg hc hlC n1 n2 n3)
              have E3P := hide (E2P.out.kept hg (fun e => by injection e with e; omega))
              have E3D := hide (E2D.out.keptM hg (fun e => by injection e with e; omega))
              clear hc ht hg
              refine hK.out _ _ (HSS.out _ E3P.out E3D.out) (fun hHeld => ?_)
              clear hK K
              try simp only [List.getElem_toArray, List.getElem_cons_zero, List.getElem_cons_succ, List.get, Act.put, List.setIfInBounds_toArray, List.set_cons_zero, List.set_cons_succ]
              obtain ⟨l0, l1, l2, f0, f1, f2⟩ := (id E3V.out.r6 : RC _ _ _ _ _)
              have hg6 := grown_setM3 v3_ X6 0 1 2 (.bool e3.1) (.string e3.2.1) (.string e3.2.2)
              have HV6 : Hid (VI w (((v3_.setCell ⟨X6, 0, none⟩ (.bool e3.1)).setCell ⟨X6, 1, none⟩ (.string e3.2.1)).setCell ⟨X6, 2, none⟩ (.string e3.2.2)) R2 C X5 X6 r e3 (eO (vR4 zk pq))) := ⟨E3V.out.bel.grown hg6 E3V.out.bel.size (fun k e => by injection e with e; omega), E3V.out.ce.keptM hg6 (fun e => by injection e with e; exact n3 e.symm), E3V.out.r2.keptM hg6 (fun e => by injection e with e; exact n5 e.symm), E3V.out.r5.keptM hg6 (fun e => by injection e with e; exact n6 e), E3V.out.r6.set3 e3.1 e3.2.1 e3.2.2⟩
              have P6' := hide (E3P.out.kept hg6 (fun e => by injection e with e; omega))
              have D6' := hide (E3D.out.keptM hg6 (fun e => by injection e with e; omega))
              clear hg6
              refine wpAnyH_ready (rs := [8]) (by kernel_rfl) (by simp) ?_
              refine AllReadyH.cons (o := _) rfl (fun K hK => ?_) AllReadyH.nil
              go_simp
              refine hK.out _ _ (HSS.out _ P6'.out D6'.out) (fun hHeld => ?_)
              clear hK K l0 l1 l2 f0 f1 f2
              try simp only [List.getElem_toArray, List.getElem_cons_zero, List.getElem_cons_succ, List.get, Act.put, List.setIfInBounds_toArray, List.set_cons_zero, List.set_cons_succ]
              refine wpAnyH_done (by kernel_rfl) ?_ _
              refine NoPanic.normal ?_
              exact ⟨rfl, e3, _, _, _, _, _, _, _, _, rfl, HV6.out, T3.out⟩
        case later9 =>
          rintro e a' W' ⟨rfl, s', v1, v2, v3, v4, v5, v6, v7, v8, rfl, hvi, hts⟩
          have HVn : Hid (VI w W' R2 C X5 X6 r s' (eO (varZ om L (k + 1)))) := by
            show VI _ _ _ _ _ _ _ _ _
            rw [HSTEP.out]
            have e1 : eO ((vR4 zk pq).bind fun s => om.bind fun m => some (s, m)) = eO (vR4 zk pq) := by
              cases hz : zk with
              | none => rfl
              | some z =>
                rw [(HTS.out z hz).2.2]
                exact eO_zz (vR4 (some z) pq) (fun s => (s, z.2))
            rw [e1]
            exact hvi
          have HTn : Hid (∀ z, varZ om L (k + 1) = some z → IsT z.1 s' ∧ FitQ z.1 ∧ om = some z.2) := fun z hz => by
            rw [HSTEP.out] at hz
            obtain ⟨s1, h1, hz⟩ := Option.bind_eq_some_iff.1 hz
            obtain ⟨m, h2, hz⟩ := Option.bind_eq_some_iff.1 hz
            have hz := Option.some.inj hz
            subst hz
            exact ⟨(hts s1 h1).1, (hts s1 h1).2, h2⟩
          clear hvi hts
          go_wp2_with fail
          refine ⟨?_, ?measure⟩
          case measure => (simp [intOf]; try omega)
          first
            | exact ⟨k + 1, ⟨_, by omega, by go_num, HVn.out, HTn.out⟩⟩
            | exact ⟨k + 1, by omega, by go_num, ⟨_, HVn.out, HTn.out⟩⟩
            | ((repeat apply Exists.intro); refine ⟨?rel, rfl⟩; case rel => exact ⟨k + 1, _, by omega, by go_num, HVn.out, HTn.out⟩)
      · have hkn : k = n := by omega
        subst hkn
        have HR6 := hide HVI.out.r6
        obtain ⟨c0, c1, c2, _, _, _⟩ := (id HR6.out : RC _ _ _ _ _)
        have HVE : Hid (eO (varZ om L k) = eO (varO L)) := by
          show eO _ = eO _
          unfold varO
          rw [varK_Z, HOM.out, HN.out, eO_z1]
        have HQE : Hid (∀ q, varO L = some q → IsT q s) := fun q hq => by
          unfold varO at hq
          rw [varK_Z, HOM.out, HN.out] at hq
          obtain ⟨z, hz, hq⟩ := Option.bind_eq_some_iff.1 hq
          have hq := Option.some.inj hq
          subst hq
          exact (HTS.out z hz).1
        have HRES := hide (mo_result C (varO L) s wr (by rw [← HVE.out]; exact HVI.out.ce) HQE.out)
        go_wp2_with fail
        refine HRES.out.mono ?_
        rintro x wz ⟨rfl, hb⟩
        have HVz := hide (HVI.out.below hb)
        obtain ⟨om2, hom2⟩ : ∃ om2, varO L = om2 := ⟨_, rfl⟩
        have HO2 := hide hom2
        rw [hom2]
        obtain ⟨r0, r1, r2, f0, f1, f2⟩ := (id HVz.out.r2 : RC _ _ _ _ _)
        clear hb hom2 c0 c1 c2
        go_wp2_with fail
        have hR := HVz.out.r2.set3 (rO om2).1 (rO om2).2.1 (rO om2).2.2
        obtain ⟨d0, d1, d2, _, _, _⟩ := (id hR : RC _ _ _ _ _)
        have hbe := HVz.out.bel.trans (bSetM3 (x := 0) (y := 1) (z := 2) (u := .bool (rO om2).1) (v := .string (rO om2).2.1) (t := .string (rO om2).2.2) (show w.heap.size ≤ R2 by have := HR2w.out; omega) HVz.out.r2.lt)
        exact bodyPost_ret (v := .tuple #[.agg #[.bool (rO om2).1, .string (rO om2).2.1, .string (rO om2).2.2], .int .i64 (eO om2)]) (by simp [results, Tryz.results14, go_sem, d0, d1, d2]) rfl ⟨by rw [HO2.out], hbe⟩
  
  end Go.Proofs.YtblpnekjnaaeoaaGreatDoor
