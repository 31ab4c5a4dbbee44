/- law 18: DebtSplits. -/
import Derived.Test.YtlagoiaiodjmhaaGreatDoorDeT
import Derived.Test.YtlagoiaiodjmhaaGreatDoorDeU
set_option linter.unusedVariables false
set_option linter.unusedSimpArgs false
namespace Go.Proofs.YtlagoiaiodjmhaaGreatDoor
open Go.RowKit

/-- A block of bools. -/
structure BD (w : World) (b n : Nat) (f : Nat → Bool) : Prop where
  c : ∀ i, i < n → w.cell? ⟨b, i, none⟩ = some (.bool (f i))
  f : ∀ i, i < n → w.frozen? ⟨b, i, none⟩ = false
  lt : b < w.heap.size
theorem BD.set {w : World} {b n : Nat} {f g : Nat → Bool} (h : BD w b n f) {i : Nat} (hi : i < n) {x : Bool} (e : ∀ j, g j = if j = i then x else f j) : BD (w.setCell ⟨b, i, none⟩ (.bool x)) b n g := by
  refine ⟨fun j hj => ?_, fun j hj => by rw [World.frozen?_setCell]; exact h.f j hj, by simpa using h.lt⟩
  rw [e j]
  by_cases e' : j = i
  · subst e'; rw [if_pos rfl]; exact World.cell?_setCell_same _ _ _ (h.c j hj)
  · rw [if_neg e', World.cell?_setCell_other _ _ _ _ (by intro e''; injection e''; omega)]; exact h.c j hj
theorem BD.made (w : World) (n : Nat) (T : TypeId) : BD (w.alloc (.cells (madeCells #[.bool false] n) T)) w.heap.size n (fun _ => false) :=
  ⟨fun i hi => by rw [World.cell?_alloc_at _ _ _ _ rfl]; simp [madeCells, hi, Nat.mod_one], fun i hi => by simp [go_sem], by simp⟩
theorem Tryz.infoB4D : (Tryz.prog.info? 4).map (fun i => (i.zero, i.size, i.bytes)) = some (some (.bool false), 1, 1) := by kernel_rfl
theorem grown_set1 (w : World) (b x : Nat) (u : Value) : w.grownBy (w.setCell ⟨b, x, none⟩ u) (some b) :=
  ⟨rfl, rfl, rfl, by simp, fun k _ hne => Below.heap_setCell _ _ _ _ fun e => hne (by rw [e])⟩
theorem bSet1 {B b x : Nat} {w0 w : World} {u : Value} (h : Below B w0 w) (hB : B ≤ b) (hb : b < w.heap.size) : Below B w0 (w.setCell ⟨b, x, none⟩ u) :=
  h.grown (grown_set1 w b x u) (by omega) (fun k hk => by injection hk with hk; omega)
theorem bSet3 {B b x y z : Nat} {w0 w : World} {u v t : Value} (h : Below B w0 w) (hB : B ≤ b) (hb : b < w.heap.size) : Below B w0 (((w.setCell ⟨b, x, none⟩ u).setCell ⟨b, y, none⟩ v).setCell ⟨b, z, none⟩ t) :=
  h.grown (grown_set3 w b x y z u v t) (by omega) (fun k hk => by injection hk with hk; omega)
theorem RC.far3 {w : World} {b b' x y z : Nat} {g : Bool} {s t : ByteArray} {u v q : Value} (h : RC w b g s t) (hne : b ≠ b') : RC (((w.setCell ⟨b', x, none⟩ u).setCell ⟨b', y, none⟩ v).setCell ⟨b', z, none⟩ q) b g s t :=
  h.kept (grown_set3 w b' x y z u v q) (by simpa using hne)
theorem split_parts {l : List Db} {ps : List Py} {m P : Int} (h : splB l ps m P = true) : vlD l ps m = true ∧ (∃ p : Nat, P = (p : Int) ∧ 1 ≤ p ∧ p ≤ 64 ∧ (∀ i, i < l.length → ∃ q : Nat, (dbN l i).pr = (q : Int) ∧ q < p)) := by
  unfold splB at h
  simp only [Bool.and_eq_true, decide_eq_true_eq] at h
  obtain ⟨h1, ⟨h2, h3⟩, h4⟩ := h
  refine ⟨h1, P.toNat, by omega, by omega, by omega, fun i hi => ?_⟩
  have h5 := (vlD_iff.1 h1).2.2.2.1 i hi
  unfold prB at h4
  have h6 := List.all_eq_true.1 h4 l[i] (List.getElem_mem hi)
  unfold dbB at h5
  simp only [Bool.and_eq_true, decide_eq_true_eq] at h5 h6
  rw [dbN_at hi]
  exact ⟨l[i].pr.toNat, by omega, by omega⟩
theorem cst_le12 {l : List Db} {S : List Int} {N k : Nat} (hN : N ≤ 12) (hk : k ≤ 64) : sumN k (cstN l S N) ≤ 1001 * LL := by
  have h := sum_le_mul (f := cstN l S N) (c := 12 * LL) (fun i => Nat.le_trans (cst_le l S N i) (Nat.mul_le_mul_right _ hN)) k
  refine Nat.le_trans h ?_
  rw [← Nat.mul_assoc]
  exact Nat.mul_le_mul_right _ (by omega)

set_option maxHeartbeats 16000000 in
set_option maxRecDepth 100000 in
theorem debtSplits (l : List Db) (ps : List Py) (m P : Int) (v1 v2 : Value) (w : World) (h1 : SliceOf vDb 6 w v1 l) (h2 : SliceOf vPy 4 w v2 ps) (hW : LawW w) :
    Calls Tryz.prog 8 #[v1, v2, .int .i64 m, .int .i64 P] w fun e w' => e = .returned (.bool true) ∧ Below w.heap.size w w' := by
  have HH := hide (law18_head w hW)
  have H1 := hide h1
  have H2 := hide h2
  have HW := hide hW
  obtain ⟨a1, c1, rfl⟩ := h1.shape
  obtain ⟨a2, c2, rfl⟩ := h2.shape
  clear h1 h2 hW
  go_enter Tryz.func8, Tryz.ntmps8
  go_wp2_with fail
  refine HH.out.mono ?_
  rintro e w1 ⟨rfl, hb⟩
  have HB1 := hide hb
  clear hb
  by_cases s1 : 12 < l.length
  · have d1 : decide ((12 : Int) < (l.length : Int)) = true := decide_eq_true (by omega)
    go_wp2_with fail
    go_ret
    exact ⟨rfl, HB1.out⟩
  have d1 : decide ((12 : Int) < (l.length : Int)) = false := decide_eq_false (by omega)
  by_cases s2 : 12 < ps.length
  · have d2 : decide ((12 : Int) < (ps.length : Int)) = true := decide_eq_true (by omega)
    go_wp2_with fail
    go_ret
    exact ⟨rfl, HB1.out⟩
  have d2 : decide ((12 : Int) < (ps.length : Int)) = false := decide_eq_false (by omega)
  have HSP := hide (fun W (hb : Below w.heap.size w W) => de_split l ps m P _ _ W (H1.out.below hb) (H2.out.below hb) (HW.out.below hb))
  have HST := hide (fun W (hb : Below w.heap.size w W) => de_settle l ps m _ _ W (H1.out.below hb) (H2.out.below hb))
  rcases Bool.eq_false_or_eq_true (splB l ps m P) with hv | hv
  case inr =>
    have HE1 : Hid (splL l ps m P = []) := by show _ = _; unfold splL; rw [hv]; rfl
    have HE2 : Hid (splE l ps m P = 1) := by show _ = _; unfold splE; rw [hv]; rfl
    rw [HE1.out, HE2.out] at HSP
    clear hv HE1 HE2
    go_wp2_with fail
    refine (HSP.out _ HB1.out).mono ?_
    rintro e w2 ⟨u, rfl, hs, hb⟩
    obtain ⟨ao, cp, rfl⟩ := hs.shape
    have HB2 := hide (bStepD HB1.out hb)
    clear hs hb
    go_wp2_with fail
    go_ret
    exact ⟨rfl, HB2.out⟩
  obtain ⟨hvl, p, rfl, hp1, hp2, hpr⟩ := split_parts hv
  have HPR := hide hpr
  obtain ⟨s, t, hT⟩ : ∃ s t : Nat → ByteArray, ∀ a, rqT (cosQ a) = (false, s a, t a) := ⟨fun a => (rqT (cosQ a)).2.1, fun a => (rqT (cosQ a)).2.2, fun a => by
    show rqT (cosQ a) = (false, (rqT (cosQ a)).2.1, (rqT (cosQ a)).2.2)
    rw [show false = (rqT (cosQ a)).1 from (cos_ng a).symm]⟩
  obtain ⟨S, hS⟩ : ∃ S, setL l ps m = S := ⟨_, rfl⟩
  have HE1 : Hid (splL l ps m p = (List.range p).map fun k => (false, s (cstN l S ps.length k), t (cstN l S ps.length k))) := by
    show _ = _
    unfold splL
    rw [if_pos hv, Int.toNat_natCast]
    refine List.map_congr_left fun k _ => ?_
    unfold cosT
    rw [hT, hS]
  have HE2 : Hid (splE l ps m p = 0) := by show _ = _; unfold splE; rw [hv]; rfl
  have HE3 : Hid (stL l ps m = S) := by show _ = _; unfold stL; rw [hvl, ← hS]; rfl
  have HE4 : Hid (stE l ps m = 0) := by show _ = _; unfold stE; rw [hvl]; rfl
  have HSL : Hid (S.length = l.length) := by show _ = _; rw [← hS, setL_len]
  have HCS : Hid (∀ k, k < l.length → (∃ q : Nat, S.getD k 0 = (q : Int) ∧ q < ps.length) ∨ S.getD k 0 < 0) := fun k hk => by
    rw [← hS, setL_getD hk]
    have := bst_bd l[k] ps m ps.length
    by_cases h : 0 ≤ bstN l[k] ps m ps.length
    · exact .inl ⟨(bstN l[k] ps m ps.length).toNat, by omega, by omega⟩
    · exact .inr (by omega)
  have HTI : Hid (∀ a, IsQ (cosQ a) false (s a) (t a)) := fun a => by
    have h := rqT_is (cosQ a)
    rw [hT] at h; exact h
  have HTZ : Hid (∀ a, s a = s 0 → t a = t 0 → a = 0) := fun a h1 h2 => by
    have h : rqT (cosQ a) = rqT (cosQ 0) := by rw [hT, hT, h1, h2]
    have h := rqT_inj h
    rw [cos_zero] at h
    exact cos_eq0 h
  obtain ⟨X, hX⟩ : ∃ X, (List.range p).map (fun k => (false, s (cstN l S ps.length k), t (cstN l S ps.length k))) = X := ⟨_, rfl⟩
  have HXL : Hid (X.length = p) := by show _ = _; rw [← hX, List.length_map, List.length_range]
  have HXE : Hid (∀ k (h : k < X.length), X[k] = (false, s (cstN l S ps.length k), t (cstN l S ps.length k))) := fun k h => by
    subst hX
    rw [List.getElem_map, List.getElem_range]
  rw [HE1.out, HE2.out, hX] at HSP
  rw [HE3.out, HE4.out] at HST
  clear hv hvl hpr hT hS hX HE1 HE2 HE3 HE4
  go_wp2_with fail
  refine (HSP.out _ HB1.out).mono ?_
  rintro e w2 ⟨u, rfl, hs, hb⟩
  have HX := hide hs
  have HB2 := hide (bStepD HB1.out hb)
  obtain ⟨ax, cx, rfl⟩ := hs.shape
  rw [HXL.out]
  rw [HXL.out] at HX
  clear hs hb HSP HB1
  go_wp2_with fail
  refine (HST.out _ HB2.out).mono ?_
  rintro e w3 ⟨u, rfl, hs, hb⟩
  have HX := hide (HX.out.below hb)
  have HA := hide hs
  have HB3 := hide (bStepD HB2.out hb)
  obtain ⟨aa, ca, rfl⟩ := hs.shape
  rw [HSL.out]
  rw [HSL.out] at HA
  clear hs hb HST HB2
  have hlI : (l.length : Int) ≤ 12 := by omega
  have hpI : (ps.length : Int) ≤ 12 := by omega
  have hmk := run_make_row' (P := Tryz.prog) 54 4 (.bool false) 1 Tryz.underlying54 Tryz.infoB4D rfl .i64 .i64 ps.length (by omega) (by omega)
  have HBM := hide (BD.made w3 ps.length 4)
  have HB0 := hide (bAlloc (Below.refl w3.heap.size w3) (.cells (madeCells #[.bool false] ps.length) 4))
  have HC0 : Hid ((0 : Int) = ((cntN ps.length (usI S 0) : Nat) : Int)) := by
    show _ = _
    rw [show usI S 0 = fun _ => false from rfl, cntN_zero]; rfl
  go_wp2_with fail
  clear hmk
  go_loopw [15, 16] (fun c i wx => ∃ k : Nat, k ≤ l.length ∧ c = .int .i64 ((cntN ps.length (usI S k) : Nat) : Int) ∧ i = .int .i64 (k : Int) ∧ BD wx w3.heap.size ps.length (usI S k) ∧ Below w3.heap.size w3 wx) (fun _ i _ => l.length - (intOf i).toNat)
  case atStart => exact ⟨0, Nat.zero_le _, congrArg (Value.int .i64) HC0.out, rfl, HBM.out, HB0.out⟩
  case round =>
    obtain ⟨k, hk, rfl, rfl, hbd, hbl⟩ := hrel
    have HBD := hide hbd
    have HBL := hide hbl
    clear hbd hbl HBM HB0 HC0
    by_cases hlt : k < l.length
    · have hkI : (k : Int) < (l.length : Int) := by omega
      have hk0 : (0 : Int) ≤ (k : Int) := by omega
      obtain ⟨ba, oa, rfl, g1, g2, ha⟩ := HA.out.inAt HSL.out HBL.out hlt
      have hcn : ((cntN ps.length (usI S k) : Nat) : Int) ≤ 12 := by have := cntN_le (usI S k) ps.length; omega
      have hcn0 : (0 : Int) ≤ ((cntN ps.length (usI S k) : Nat) : Int) := by omega
      rcases HCS.out k hlt with ⟨q, hq, hqn⟩ | hneg
      · rw [hq] at ha
        have hqI : (q : Int) < (ps.length : Int) := by omega
        have hq0 : (0 : Int) ≤ (q : Int) := by omega
        have e1 : decide ((q : Int) < (ps.length : Int)) = true := decide_eq_true hqI
        have e1n : decide (q < ps.length) = true := decide_eq_true hqn
        have e0 : decide ((0 : Int) ≤ (q : Int)) = true := decide_eq_true hq0
        have hu := HBD.out.c q hqn
        have huf := HBD.out.f q hqn
        have HQ := hide hq
        obtain ⟨cn, hcc⟩ : ∃ cn, cntN ps.length (usI S k) = cn := ⟨_, rfl⟩
        rw [hcc] at hcn hcn0
        rw [hcc]
        have HCC := hide hcc
        clear hcc hq
        rcases Bool.eq_false_or_eq_true (usI S k q) with hb | hb
        · have HU : Hid (usI S (k + 1) = usI S k) := usI_old HQ.out hb
          rw [hb] at hu
          clear hb
          go_wp2_with fail
          first
            | (go_roundw
               case rel => exact ⟨k + 1, by omega, by rw [HU.out, HCC.out], by go_num, by rw [HU.out]; exact HBD.out, HBL.out⟩
               case measure => (simp [intOf]; omega))
            | (refine ⟨⟨k + 1, by omega, by rw [HU.out, HCC.out], by go_num, by rw [HU.out]; exact HBD.out, HBL.out⟩, ?_⟩
               simp [intOf]; omega)
        · have HU := hide (usI_new (m := ps.length) HQ.out hqn hb)
          rw [hb] at hu
          clear hb
          have HS1 := hide (HBD.out.set (g := usI S (k + 1)) hqn HU.out.1)
          have HS2 : Hid (Below w3.heap.size w3 (wr.setCell ⟨w3.heap.size, q, none⟩ (.bool true))) := bSet1 HBL.out (Nat.le_refl _) HBD.out.lt
          go_wp2_with fail
          first
            | (go_roundw
               case rel => exact ⟨k + 1, by omega, congrArg (Value.int .i64) (by rw [HU.out.2, HCC.out]; omega), by go_num, HS1.out, HS2.out⟩
               case measure => (simp [intOf]; omega))
            | (refine ⟨⟨k + 1, by omega, congrArg (Value.int .i64) (by rw [HU.out.2, HCC.out]; omega), by go_num, HS1.out, HS2.out⟩, ?_⟩
               simp [intOf]; omega)
      · obtain ⟨x, hx⟩ : ∃ x, S.getD k 0 = x := ⟨_, rfl⟩
        have HU := hide (usI_skip hneg)
        rw [hx] at ha hneg
        have e0 : decide ((0 : Int) ≤ x) = false := decide_eq_false (by omega)
        clear hx
        go_wp2_with fail
        first
          | (go_roundw
             case rel => exact ⟨k + 1, by omega, by rw [HU.out], by go_num, by rw [HU.out]; exact HBD.out, HBL.out⟩
             case measure => (simp [intOf]; omega))
          | (refine ⟨⟨k + 1, by omega, by rw [HU.out], by go_num, by rw [HU.out]; exact HBD.out, HBL.out⟩, ?_⟩
             simp [intOf]; omega)
    · obtain rfl : k = l.length := by omega
      have HCN : Hid (cntN ps.length (usI S l.length) ≤ 12) := by have := cntN_le (usI S l.length) ps.length; show _ ≤ _; omega
      have HSUM : Hid (sumN p (cstN l S ps.length) = cntN ps.length (usI S l.length) * LL) := cst_sum hp2 HPR.out ps.length
      obtain ⟨n, hn⟩ : ∃ n, cntN ps.length (usI S l.length) = n := ⟨_, rfl⟩
      rw [hn] at HCN HSUM
      rw [hn]
      clear hn HBD
      have HBW := hide (bStepD HB3.out HBL.out)
      have HX := hide (HX.out.below HBL.out)
      have HA := hide (HA.out.below HBL.out)
      clear HB3 HBL
      have HOF0 := hide (fun W hX => of_ok (n := 0) (d := 1) (q := cosQ 0) (by unfold inI64; omega) (by unfold inI64; omega) (by omega) (by rw [← Nat.zero_mul LL, cos_whole]; rfl) (HTI.out 0) W hX)
      have HOFN := hide (fun W hX => of_ok (n := (n : Int)) (d := 1) (q := cosQ (n * LL)) (by have := HCN.out; unfold inI64; omega) (by unfold inI64; omega) (by omega) (cos_whole n).symm (HTI.out (n * LL)) W hX)
      go_wp2_with fail
      refine (HOF0.out _ (HW.out.below HBW.out)).mono ?_
      rintro e w4 ⟨rfl, hb⟩
      have HBW := hide (bStepD HBW.out hb)
      have HBW4 := hide HBW.out
      have HX := hide (HX.out.below hb)
      have HA := hide (HA.out.below hb)
      clear hb
      have hb := bAlloc (Below.refl w4.heap.size w4) (.cells #[.bool false, .string (s 0), .string (t 0)] 57)
      have HBW := hide (bStepD HBW.out hb)
      have HB4 := hide hb
      have HR1 : Hid (RC (w4.alloc (.cells #[.bool false, .string (s 0), .string (t 0)] 57)) w4.heap.size _ _ _) := RC.new _ _ _ _ _
      clear hb
      go_wp2_with fail
      refine (HOF0.out _ (HW.out.below HBW.out)).mono ?_
      rintro e w5 ⟨rfl, hb⟩
      have HBW := hide (bStepD HBW.out hb)
      have HB4 := hide (bStepD HB4.out hb)
      have HR1 := hide (HR1.out.below hb)
      have HN12 : Hid (w4.heap.size < w5.heap.size) := HR1.out.lt
      clear hb
      have hb := bAlloc (Below.refl w5.heap.size w5) (.cells #[.bool false, .string (s 0), .string (t 0)] 57)
      have HBW := hide (bStepD HBW.out hb)
      have HB4 := hide (bStepD HB4.out hb)
      have HR1 := hide (HR1.out.below hb)
      have HR2 : Hid (RC (w5.alloc (.cells #[.bool false, .string (s 0), .string (t 0)] 57)) w5.heap.size _ _ _) := RC.new _ _ _ _ _
      clear hb
      go_wp2_with fail
      refine (HOFN.out _ (HW.out.below HBW.out)).mono ?_
      rintro e w6 ⟨rfl, hb⟩
      have HBW := hide (bStepD HBW.out hb)
      have HB4 := hide (bStepD HB4.out hb)
      have HR1 := hide (HR1.out.below hb)
      have HR2 := hide (HR2.out.below hb)
      have HN13 : Hid (w4.heap.size < w6.heap.size) := HR1.out.lt
      clear hb
      have hb := bAlloc (Below.refl w6.heap.size w6) (.cells #[.bool false, .string (s (n * LL)), .string (t (n * LL))] 57)
      have HB4 := hide (bStepD HB4.out hb)
      have HR1 := hide (HR1.out.below hb)
      have HR2 := hide (HR2.out.below hb)
      have HR3 : Hid (RC (w6.alloc (.cells #[.bool false, .string (s (n * LL)), .string (t (n * LL))] 57)) w6.heap.size _ _ _) := RC.new _ _ _ _ _
      clear hb HOF0 HOFN HBW
      obtain ⟨w7, hw7⟩ : ∃ W, w6.alloc (.cells #[.bool false, .string (s (n * LL)), .string (t (n * LL))] 57) = W := ⟨_, rfl⟩
      rw [hw7] at HB4 HR1 HR2 HR3
      have HPI : Hid (p ≤ 64) := hp2
      have hpI : (p : Int) ≤ 64 := by omega
      have HLN : Hid (l.length ≤ 12) := by show _ ≤ _; omega
      have HNN : Hid (ps.length ≤ 12) := by show _ ≤ _; omega
      clear hlt hk d1 d2 s1 s2
      have HW7 := hide hw7
      clear hw7
      go_wp2_with fail
      rw [HW7.out]
      go_loopw [23] (fun i wx => ∃ k : Nat, k ≤ p ∧ i = .int .i64 (k : Int) ∧ RC wx w4.heap.size false (s (sumN k (cstN l S ps.length))) (t (sumN k (cstN l S ps.length))) ∧ RC wx w5.heap.size false (s 0) (t 0) ∧ RC wx w6.heap.size false (s (n * LL)) (t (n * LL)) ∧ Below w4.heap.size w4 wx) (fun i _ => p - (intOf i).toNat)
      case atStart => exact ⟨0, Nat.zero_le _, rfl, HR1.out, HR2.out, HR3.out, HB4.out⟩
      case round =>
        obtain ⟨k, hk, rfl, hr1, hr2, hr3, hbl⟩ := hrel
        have HR1 := hide hr1
        have HR2 := hide hr2
        have HR3 := hide hr3
        have HBL := hide hbl
        have HBK := hide (bStepD HBW4.out hbl)
        clear hr1 hr2 hr3 hbl HB4
        by_cases hlt : k < p
        · have hkI : (k : Int) < (p : Int) := by omega
          have hk0 : (0 : Int) ≤ (k : Int) := by omega
          go_wp2_with fail
          go_loopw [24, 25] (fun b i wx => ∃ j : Nat, j ≤ l.length ∧ b = .bool (berI l S j k) ∧ i = .int .i64 (j : Int) ∧ Below wr.heap.size wr wx) (fun _ i _ => l.length - (intOf i).toNat)
          case atStart => exact ⟨0, Nat.zero_le _, rfl, rfl, Below.refl _ _⟩
          case round =>
            obtain ⟨j, hj, rfl, rfl, hbl⟩ := hrel
            have HBJ := hide hbl
            clear hbl
            by_cases hjl : j < l.length
            · have hjI : (j : Int) < (l.length : Int) := by omega
              have hj0 : (0 : Int) ≤ (j : Int) := by omega
              have HSU := hide (berI_succ l S j k)
              rcases Bool.eq_false_or_eq_true (berI l S j k) with hb | hb
              · have HU : Hid (berI l S (j + 1) k = true) := by show _ = _; rw [HSU.out, hb, Bool.true_or]
                rw [hb]
                clear hb
                go_wp2_with fail
                go_roundw
                case rel => exact ⟨j + 1, by omega, by rw [HU.out], by go_num, HBJ.out⟩
                case measure => (simp [intOf]; omega)
              · rw [hb]
                obtain ⟨ba, oa, rfl, g1, g2, ha⟩ := HA.out.inAt HSL.out (bStepD HBL.out HBJ.out) hjl
                obtain ⟨bd, od, rfl, g3, g4, hd⟩ := H1.out.dbAt (bStepD HBK.out HBJ.out) hjl
                have x5 := hd.2.2.2.2.2
                rw [hb, Bool.false_or, dbN_at hjl] at HSU
                obtain ⟨x, hx⟩ : ∃ x, S.getD j 0 = x := ⟨_, rfl⟩
                obtain ⟨y, hy⟩ : ∃ y, l[j].pr = y := ⟨_, rfl⟩
                rw [hx] at ha HSU
                rw [hy] at x5 HSU
                clear hx hy hd hb
                by_cases hyk : y = (k : Int)
                · have e1 : (y == (k : Int)) = true := by rw [hyk]; simp
                  by_cases hx0 : 0 ≤ x
                  · have e2 : decide (0 ≤ x) = true := decide_eq_true hx0
                    have HU : Hid (berI l S (j + 1) k = true) := by show _ = _; rw [HSU.out, decide_eq_true hyk, e2]; rfl
                    clear hyk
                    go_wp2_with fail
                    go_roundw
                    case rel => exact ⟨j + 1, by omega, by rw [HU.out], by go_num, HBJ.out⟩
                    case measure => (simp [intOf]; omega)
                  · have e2 : decide (0 ≤ x) = false := decide_eq_false hx0
                    have HU : Hid (berI l S (j + 1) k = false) := by show _ = _; rw [HSU.out, e2, Bool.and_false]
                    clear hyk
                    go_wp2_with fail
                    go_roundw
                    case rel => exact ⟨j + 1, by omega, by rw [HU.out], by go_num, HBJ.out⟩
                    case measure => (simp [intOf]; omega)
                · have e1 : (y == (k : Int)) = false := by simpa using hyk
                  have HU : Hid (berI l S (j + 1) k = false) := by show _ = _; rw [HSU.out, decide_eq_false hyk, Bool.false_and]
                  clear hyk
                  go_wp2_with fail
                  go_roundw
                  case rel => exact ⟨j + 1, by omega, by rw [HU.out], by go_num, HBJ.out⟩
                  case measure => (simp [intOf]; omega)
            · obtain rfl : j = l.length := by omega
              have HBER : Hid (decide (cosQ (cstN l S ps.length k) ≠ 0) = berI l S l.length k) := cst_ber (by have := HPI.out; omega) (fun i hi => by rcases HCS.out i hi with ⟨q, h, _⟩ | h <;> omega)
              have HCL : Hid (cstN l S ps.length k ≤ n * LL) := by show _ ≤ _; rw [← HSUM.out]; exact sumN_mem hlt
              have HS1 : Hid (sumN (k + 1) (cstN l S ps.length) = sumN k (cstN l S ps.length) + cstN l S ps.length k) := rfl
              have HZ1 : Hid (sumN (k + 1) (cstN l S ps.length) ≤ 1001 * LL) := cst_le12 HNN.out (by have := HPI.out; omega)
              have hxk : SliceOf vRt 3 wr (.slice ax X.length cx) X := by rw [HXL.out]; exact (HX.out.below HBL.out).below HBJ.out
              obtain ⟨bx, ox, ex, _, gx1, gx2, hxc⟩ := SliceOf.at_ hxk (by rw [HXL.out]; omega)
              obtain ⟨x0, x1, x2⟩ := rt_cells hxc (show k < X.length by rw [HXL.out]; exact hlt)
              rw [HXE.out k (by rw [HXL.out]; exact hlt)] at x0 x1 x2
              have HR1 := hide (HR1.out.below HBJ.out)
              have HR2 := hide (HR2.out.below HBJ.out)
              have HR3 := hide (HR3.out.below HBJ.out)
              have HBL := hide (bStepD HBL.out HBJ.out)
              have HBK := hide (bStepD HBK.out HBJ.out)
              subst ex
              obtain ⟨c, hc⟩ : ∃ c, cstN l S ps.length k = c := ⟨_, rfl⟩
              obtain ⟨bb, hbb⟩ : ∃ b, berI l S l.length k = b := ⟨_, rfl⟩
              obtain ⟨u, hu⟩ : ∃ u, sumN k (cstN l S ps.length) = u := ⟨_, rfl⟩
              obtain ⟨u1, hu1⟩ : ∃ u, sumN (k + 1) (cstN l S ps.length) = u := ⟨_, rfl⟩
              rw [hu1, hu, hc] at HS1
              rw [hu1] at HZ1
              rw [hc, hbb] at HBER
              rw [hc] at HCL x1 x2
              rw [hu] at HR1
              rw [hbb]
              have HU1 := hide hu1
              have hsc : c ≤ 1001 * LL := by have := HS1.out; have := HZ1.out; omega
              have hsu : u ≤ 1001 * LL := by have := HS1.out; have := HZ1.out; omega
              have hsn : n * LL ≤ 1001 * LL := Nat.mul_le_mul_right _ (by have := HCN.out; omega)
              have HADD := hide (fun W hX => add_okq (cos_sz hsu) (cos_sz hsc) (by omega) (show cosQ u + cosQ c = cosQ u1 by rw [cos_add, HS1.out]) (HTI.out u) (HTI.out c) (HTI.out u1) W hX)
              have HCMP := hide (fun W hX => cmp_okq (cos_sz hsc) (cos_sz hsn) (by omega) (by omega) (HTI.out c) (HTI.out (n * LL)) W hX)
              have hcmp : cmpQ (cosQ c) (cosQ (n * LL)) ≤ 0 := cmpQ_le.2 (cos_le HCL.out)
              obtain ⟨z, hz⟩ : ∃ z, cmpQ (cosQ c) (cosQ (n * LL)) = z := ⟨_, rfl⟩
              rw [hz] at HCMP hcmp
              have f1 : decide (0 < z) = false := decide_eq_false (by omega)
              have HLW := hide (HW.out.below HBK.out)
              have HXC := hide (And.intro x0 (And.intro x1 x2))
              have gx3 : (p : Int) ≤ (cx : Int) := by rw [HXL.out] at gx1; omega
              have gx4 : (cx : Int) ≤ 9223372036854775807 := by unfold maxLen at gx2; omega
              clear hxk hxc gx1 gx2 hu hu1 hc hbb hsc hsu hsn hz hcmp HBJ x0 x1 x2 hj hjl
              have HS9 : Hid (∀ W, Below wr.heap.size wr W → W.cell? ⟨bx, ox + k * 3, none⟩ = some (.bool false) ∧ W.cell? ⟨bx, ox + k * 3 + 1, none⟩ = some (.string (s c)) ∧ W.cell? ⟨bx, ox + k * 3 + 2, none⟩ = some (.string (t c)) ∧ W.cell? ⟨w4.heap.size, 0, none⟩ = some (.bool false) ∧ W.cell? ⟨w4.heap.size, 1, none⟩ = some (.string (s u)) ∧ W.cell? ⟨w4.heap.size, 2, none⟩ = some (.string (t u)) ∧ W.cell? ⟨w5.heap.size, 0, none⟩ = some (.bool false) ∧ W.cell? ⟨w5.heap.size, 1, none⟩ = some (.string (s 0)) ∧ W.cell? ⟨w5.heap.size, 2, none⟩ = some (.string (t 0)) ∧ W.cell? ⟨w6.heap.size, 0, none⟩ = some (.bool false) ∧ W.cell? ⟨w6.heap.size, 1, none⟩ = some (.string (s (n * LL))) ∧ W.cell? ⟨w6.heap.size, 2, none⟩ = some (.string (t (n * LL)))) := fun W hW => by
                obtain ⟨q0, q1, q2, _, _, _⟩ := HR1.out.below hW
                obtain ⟨r0, r1, r2, _, _, _⟩ := HR2.out.below hW
                obtain ⟨t0, t1, t2, _, _, _⟩ := HR3.out.below hW
                exact ⟨keep_cell hW HXC.out.1, keep_cell hW HXC.out.2.1, keep_cell hW HXC.out.2.2, q0, q1, q2, r0, r1, r2, t0, t1, t2⟩
              go_wp2_with fail
              go_region_held3 (fun w' => w'.cell? ⟨bx, ox + k * 3, none⟩ = some (.bool false) ∧ w'.cell? ⟨bx, ox + k * 3 + 1, none⟩ = some (.string (s c)) ∧ w'.cell? ⟨bx, ox + k * 3 + 2, none⟩ = some (.string (t c)) ∧ w'.cell? ⟨w4.heap.size, 0, none⟩ = some (.bool false) ∧ w'.cell? ⟨w4.heap.size, 1, none⟩ = some (.string (s u)) ∧ w'.cell? ⟨w4.heap.size, 2, none⟩ = some (.string (t u)) ∧ w'.cell? ⟨w5.heap.size, 0, none⟩ = some (.bool false) ∧ w'.cell? ⟨w5.heap.size, 1, none⟩ = some (.string (s 0)) ∧ w'.cell? ⟨w5.heap.size, 2, none⟩ = some (.string (t 0)) ∧ w'.cell? ⟨w6.heap.size, 0, none⟩ = some (.bool false) ∧ w'.cell? ⟨w6.heap.size, 1, none⟩ = some (.string (s (n * LL))) ∧ w'.cell? ⟨w6.heap.size, 2, none⟩ = some (.string (t (n * LL))))
                (first | exact HS9.out _ (bSet3 HB26.out (Nat.le_refl _) hzl) | exact HS9.out _ (bAlloc HB26.out _) | exact HS9.out _ HB26.out | exact HS9.out _ (bAlloc (bDraw (Below.refl _ wr)) _) | exact HS9.out _ (bDraw (Below.refl _ wr)) | go_keep)
                (first
                  | (go_at_call 24; refine (HADD.out _ (by first | exact HLW.out.below (bDraw (Below.refl _ _)) | exact HLW.out.below (bAlloc (bDraw (Below.refl _ _)) _))).mono ?_; rintro e w26 ⟨rfl, hb26⟩; have HB26 : Hid (Below wr.heap.size wr w26) := (by first | exact bStepD (bDraw (Below.refl _ wr)) hb26 | exact bStepD (bAlloc (bDraw (Below.refl _ wr)) _) hb26); first | (have hz : RC w26 wr.heap.size false ⟨#[]⟩ ⟨#[]⟩ := (RC.new wr.drew false ⟨#[]⟩ ⟨#[]⟩ 57).below hb26; have hzl : wr.heap.size < w26.heap.size := hz.lt; obtain ⟨z0, z1, z2, z3, z4, z5⟩ := hz) | skip))
              · have HN : Hid (RC (w26.alloc (.cells #[.bool false, .string (s u1), .string (t u1)] 57)) w26.heap.size _ _ _) := RC.new _ _ _ _ _
                have HBN : Hid (Below wr.heap.size wr (w26.alloc (.cells #[.bool false, .string (s u1), .string (t u1)] 57))) := bAlloc HB26.out _
                have HNE : Hid (w26.heap.size ≠ w4.heap.size) := fun e => by have h1 := HB26.out.size; have h2 := HR1.out.lt; omega
                obtain ⟨W, hW⟩ : ∃ W, w26.alloc (.cells #[.bool false, .string (s u1), .string (t u1)] 57) = W := ⟨_, rfl⟩
                obtain ⟨A, hA⟩ : ∃ A, w26.heap.size = A := ⟨_, rfl⟩
                rw [hW] at HN HBN
                rw [hA] at HN HNE
                rw [hW, hA]
                clear hW hA HB26
                have HR1 := hide (HR1.out.below HBN.out)
                have HR2 := hide (HR2.out.below HBN.out)
                have HR3 := hide (HR3.out.below HBN.out)
                have HBL := hide (bStepD HBL.out HBN.out)
                have HBK := hide (bStepD HBK.out HBN.out)
                have HLW := hide (HLW.out.below HBN.out)
                have HXC := hide (And.intro (keep_cell HBN.out HXC.out.1) (And.intro (keep_cell HBN.out HXC.out.2.1) (keep_cell HBN.out HXC.out.2.2)))
                clear HS9 HBN HADD
                cases bb with
                | false =>
                  obtain rfl : c = 0 := by
                    have h := HBER.out
                    rw [decide_eq_false_iff_not, Classical.not_not] at h
                    exact cos_eq0 h
                  clear HBER
                  have HS9 : Hid (∀ V, Below W.heap.size W V → V.cell? ⟨bx, ox + k * 3, none⟩ = some (.bool false) ∧ V.cell? ⟨bx, ox + k * 3 + 1, none⟩ = some (.string (s 0)) ∧ V.cell? ⟨bx, ox + k * 3 + 2, none⟩ = some (.string (t 0)) ∧ V.cell? ⟨w4.heap.size, 0, none⟩ = some (.bool false) ∧ V.cell? ⟨w4.heap.size, 1, none⟩ = some (.string (s u)) ∧ V.cell? ⟨w4.heap.size, 2, none⟩ = some (.string (t u)) ∧ V.cell? ⟨w5.heap.size, 0, none⟩ = some (.bool false) ∧ V.cell? ⟨w5.heap.size, 1, none⟩ = some (.string (s 0)) ∧ V.cell? ⟨w5.heap.size, 2, none⟩ = some (.string (t 0)) ∧ V.cell? ⟨w6.heap.size, 0, none⟩ = some (.bool false) ∧ V.cell? ⟨w6.heap.size, 1, none⟩ = some (.string (s (n * LL))) ∧ V.cell? ⟨w6.heap.size, 2, none⟩ = some (.string (t (n * LL)))) := fun V hW => by
                    obtain ⟨q0, q1, q2, _, _, _⟩ := HR1.out.below hW
                    obtain ⟨r0, r1, r2, _, _, _⟩ := HR2.out.below hW
                    obtain ⟨t0, t1, t2, _, _, _⟩ := HR3.out.below hW
                    exact ⟨keep_cell hW HXC.out.1, keep_cell hW HXC.out.2.1, keep_cell hW HXC.out.2.2, q0, q1, q2, r0, r1, r2, t0, t1, t2⟩
                  go_wp2_with fail
                  go_region_held3 (fun w' => w'.cell? ⟨bx, ox + k * 3, none⟩ = some (.bool false) ∧ w'.cell? ⟨bx, ox + k * 3 + 1, none⟩ = some (.string (s 0)) ∧ w'.cell? ⟨bx, ox + k * 3 + 2, none⟩ = some (.string (t 0)) ∧ w'.cell? ⟨w4.heap.size, 0, none⟩ = some (.bool false) ∧ w'.cell? ⟨w4.heap.size, 1, none⟩ = some (.string (s u)) ∧ w'.cell? ⟨w4.heap.size, 2, none⟩ = some (.string (t u)) ∧ w'.cell? ⟨w5.heap.size, 0, none⟩ = some (.bool false) ∧ w'.cell? ⟨w5.heap.size, 1, none⟩ = some (.string (s 0)) ∧ w'.cell? ⟨w5.heap.size, 2, none⟩ = some (.string (t 0)) ∧ w'.cell? ⟨w6.heap.size, 0, none⟩ = some (.bool false) ∧ w'.cell? ⟨w6.heap.size, 1, none⟩ = some (.string (s (n * LL))) ∧ w'.cell? ⟨w6.heap.size, 2, none⟩ = some (.string (t (n * LL))))
                    (first | exact HS9.out _ HB30.out | exact HS9.out _ (bDraw (Below.refl _ W)) | go_keep)
                    (first
                      | (go_at_call 25; refine (HCMP.out _ (HLW.out.below (bDraw (Below.refl _ _)))).mono ?_; rintro e w30 ⟨rfl, hb30⟩; have HB30 : Hid (Below W.heap.size W w30) := bStepD (bDraw (Below.refl _ W)) hb30))
                  have HR1 := hide (HR1.out.below HB30.out)
                  have HR2 := hide (HR2.out.below HB30.out)
                  have HR3 := hide (HR3.out.below HB30.out)
                  have HN := hide (HN.out.below HB30.out)
                  have HBL := hide (bStepD HBL.out HB30.out)
                  obtain ⟨q0, q1, q2, f0, f1, f2⟩ := (id HR1.out : RC _ _ _ _ _)
                  obtain ⟨n0, n1, n2, _, _, _⟩ := (id HN.out : RC _ _ _ _ _)
                  have HNR1 := hide (HR1.out.set3 false (s u1) (t u1))
                  have HNR2 := hide (HR2.out.far3 (x := 0) (y := 1) (z := 2) (u := .bool false) (v := .string (s u1)) (q := .string (t u1)) (show w5.heap.size ≠ w4.heap.size by have := HN12.out; omega))
                  have HNR3 := hide (HR3.out.far3 (x := 0) (y := 1) (z := 2) (u := .bool false) (v := .string (s u1)) (q := .string (t u1)) (show w6.heap.size ≠ w4.heap.size by have := HN13.out; omega))
                  have HNB := hide (bSet3 (x := 0) (y := 1) (z := 2) (u := .bool false) (v := .string (s u1)) (t := .string (t u1)) HBL.out (Nat.le_refl _) HR1.out.lt)
                  go_wp2_with fail
                  first
                    | (go_roundw
                       case rel => exact ⟨k + 1, by omega, by go_num, (by rw [HU1.out]; exact HNR1.out), HNR2.out, HNR3.out, HNB.out⟩
                       case measure => (simp [intOf]; omega))
                    | (refine ⟨⟨k + 1, by omega, by go_num, (by rw [HU1.out]; exact HNR1.out), HNR2.out, HNR3.out, HNB.out⟩, ?_⟩
                       simp [intOf]; omega)
                | true =>
                  have hne : ¬ (s c = s 0 ∧ t c = t 0) := fun h => by
                    have h1 := HTZ.out c h.1 h.2
                    have h2 := of_decide_eq_true HBER.out
                    exact h2 (by rw [h1]; exact cos_zero)
                  clear HBER
                  by_cases hsc : s c = s 0
                  · have htc : ¬ t c = t 0 := fun h => hne ⟨hsc, h⟩
                    rw [hsc] at HXC HCMP
                    have k1 : ((t c).toList == (t 0).toList) = false := str_ne htc (ByteArray.toList_eq _).symm
                    have k2 : decide (t c = t 0) = false := decide_eq_false htc
                    clear hne hsc
                    have HS9 : Hid (∀ V, Below W.heap.size W V → V.cell? ⟨bx, ox + k * 3, none⟩ = some (.bool false) ∧ V.cell? ⟨bx, ox + k * 3 + 1, none⟩ = some (.string (s 0)) ∧ V.cell? ⟨bx, ox + k * 3 + 2, none⟩ = some (.string (t c)) ∧ V.cell? ⟨w4.heap.size, 0, none⟩ = some (.bool false) ∧ V.cell? ⟨w4.heap.size, 1, none⟩ = some (.string (s u)) ∧ V.cell? ⟨w4.heap.size, 2, none⟩ = some (.string (t u)) ∧ V.cell? ⟨w5.heap.size, 0, none⟩ = some (.bool false) ∧ V.cell? ⟨w5.heap.size, 1, none⟩ = some (.string (s 0)) ∧ V.cell? ⟨w5.heap.size, 2, none⟩ = some (.string (t 0)) ∧ V.cell? ⟨w6.heap.size, 0, none⟩ = some (.bool false) ∧ V.cell? ⟨w6.heap.size, 1, none⟩ = some (.string (s (n * LL))) ∧ V.cell? ⟨w6.heap.size, 2, none⟩ = some (.string (t (n * LL)))) := fun V hW => by
                      obtain ⟨q0, q1, q2, _, _, _⟩ := HR1.out.below hW
                      obtain ⟨r0, r1, r2, _, _, _⟩ := HR2.out.below hW
                      obtain ⟨t0, t1, t2, _, _, _⟩ := HR3.out.below hW
                      exact ⟨keep_cell hW HXC.out.1, keep_cell hW HXC.out.2.1, keep_cell hW HXC.out.2.2, q0, q1, q2, r0, r1, r2, t0, t1, t2⟩
                    go_wp2_with fail
                    go_region_held3 (fun w' => w'.cell? ⟨bx, ox + k * 3, none⟩ = some (.bool false) ∧ w'.cell? ⟨bx, ox + k * 3 + 1, none⟩ = some (.string (s 0)) ∧ w'.cell? ⟨bx, ox + k * 3 + 2, none⟩ = some (.string (t c)) ∧ w'.cell? ⟨w4.heap.size, 0, none⟩ = some (.bool false) ∧ w'.cell? ⟨w4.heap.size, 1, none⟩ = some (.string (s u)) ∧ w'.cell? ⟨w4.heap.size, 2, none⟩ = some (.string (t u)) ∧ w'.cell? ⟨w5.heap.size, 0, none⟩ = some (.bool false) ∧ w'.cell? ⟨w5.heap.size, 1, none⟩ = some (.string (s 0)) ∧ w'.cell? ⟨w5.heap.size, 2, none⟩ = some (.string (t 0)) ∧ w'.cell? ⟨w6.heap.size, 0, none⟩ = some (.bool false) ∧ w'.cell? ⟨w6.heap.size, 1, none⟩ = some (.string (s (n * LL))) ∧ w'.cell? ⟨w6.heap.size, 2, none⟩ = some (.string (t (n * LL))))
                      (first | exact HS9.out _ HB30.out | exact HS9.out _ (bDraw (Below.refl _ W)) | go_keep)
                      (first
                        | (go_at_call 25; refine (HCMP.out _ (HLW.out.below (bDraw (Below.refl _ _)))).mono ?_; rintro e w30 ⟨rfl, hb30⟩; have HB30 : Hid (Below W.heap.size W w30) := bStepD (bDraw (Below.refl _ W)) hb30))
                    have HR1 := hide (HR1.out.below HB30.out)
                    have HR2 := hide (HR2.out.below HB30.out)
                    have HR3 := hide (HR3.out.below HB30.out)
                    have HN := hide (HN.out.below HB30.out)
                    have HBL := hide (bStepD HBL.out HB30.out)
                    obtain ⟨q0, q1, q2, f0, f1, f2⟩ := (id HR1.out : RC _ _ _ _ _)
                    obtain ⟨n0, n1, n2, _, _, _⟩ := (id HN.out : RC _ _ _ _ _)
                    have HNR1 := hide (HR1.out.set3 false (s u1) (t u1))
                    have HNR2 := hide (HR2.out.far3 (x := 0) (y := 1) (z := 2) (u := .bool false) (v := .string (s u1)) (q := .string (t u1)) (show w5.heap.size ≠ w4.heap.size by have := HN12.out; omega))
                    have HNR3 := hide (HR3.out.far3 (x := 0) (y := 1) (z := 2) (u := .bool false) (v := .string (s u1)) (q := .string (t u1)) (show w6.heap.size ≠ w4.heap.size by have := HN13.out; omega))
                    have HNB := hide (bSet3 (x := 0) (y := 1) (z := 2) (u := .bool false) (v := .string (s u1)) (t := .string (t u1)) HBL.out (Nat.le_refl _) HR1.out.lt)
                    go_wp2_with fail
                    first
                      | (go_roundw
                         case rel => exact ⟨k + 1, by omega, by go_num, (by rw [HU1.out]; exact HNR1.out), HNR2.out, HNR3.out, HNB.out⟩
                         case measure => (simp [intOf]; omega))
                      | (refine ⟨⟨k + 1, by omega, by go_num, (by rw [HU1.out]; exact HNR1.out), HNR2.out, HNR3.out, HNB.out⟩, ?_⟩
                         simp [intOf]; omega)
                  · have k1 : ((s c).toList == (s 0).toList) = false := str_ne hsc (ByteArray.toList_eq _).symm
                    have k2 : decide (s c = s 0) = false := decide_eq_false hsc
                    clear hne
                    have HS9 : Hid (∀ V, Below W.heap.size W V → V.cell? ⟨bx, ox + k * 3, none⟩ = some (.bool false) ∧ V.cell? ⟨bx, ox + k * 3 + 1, none⟩ = some (.string (s c)) ∧ V.cell? ⟨bx, ox + k * 3 + 2, none⟩ = some (.string (t c)) ∧ V.cell? ⟨w4.heap.size, 0, none⟩ = some (.bool false) ∧ V.cell? ⟨w4.heap.size, 1, none⟩ = some (.string (s u)) ∧ V.cell? ⟨w4.heap.size, 2, none⟩ = some (.string (t u)) ∧ V.cell? ⟨w5.heap.size, 0, none⟩ = some (.bool false) ∧ V.cell? ⟨w5.heap.size, 1, none⟩ = some (.string (s 0)) ∧ V.cell? ⟨w5.heap.size, 2, none⟩ = some (.string (t 0)) ∧ V.cell? ⟨w6.heap.size, 0, none⟩ = some (.bool false) ∧ V.cell? ⟨w6.heap.size, 1, none⟩ = some (.string (s (n * LL))) ∧ V.cell? ⟨w6.heap.size, 2, none⟩ = some (.string (t (n * LL)))) := fun V hW => by
                      obtain ⟨q0, q1, q2, _, _, _⟩ := HR1.out.below hW
                      obtain ⟨r0, r1, r2, _, _, _⟩ := HR2.out.below hW
                      obtain ⟨t0, t1, t2, _, _, _⟩ := HR3.out.below hW
                      exact ⟨keep_cell hW HXC.out.1, keep_cell hW HXC.out.2.1, keep_cell hW HXC.out.2.2, q0, q1, q2, r0, r1, r2, t0, t1, t2⟩
                    go_wp2_with fail
                    go_region_held3 (fun w' => w'.cell? ⟨bx, ox + k * 3, none⟩ = some (.bool false) ∧ w'.cell? ⟨bx, ox + k * 3 + 1, none⟩ = some (.string (s c)) ∧ w'.cell? ⟨bx, ox + k * 3 + 2, none⟩ = some (.string (t c)) ∧ w'.cell? ⟨w4.heap.size, 0, none⟩ = some (.bool false) ∧ w'.cell? ⟨w4.heap.size, 1, none⟩ = some (.string (s u)) ∧ w'.cell? ⟨w4.heap.size, 2, none⟩ = some (.string (t u)) ∧ w'.cell? ⟨w5.heap.size, 0, none⟩ = some (.bool false) ∧ w'.cell? ⟨w5.heap.size, 1, none⟩ = some (.string (s 0)) ∧ w'.cell? ⟨w5.heap.size, 2, none⟩ = some (.string (t 0)) ∧ w'.cell? ⟨w6.heap.size, 0, none⟩ = some (.bool false) ∧ w'.cell? ⟨w6.heap.size, 1, none⟩ = some (.string (s (n * LL))) ∧ w'.cell? ⟨w6.heap.size, 2, none⟩ = some (.string (t (n * LL))))
                      (first | exact HS9.out _ HB30.out | exact HS9.out _ (bDraw (Below.refl _ W)) | go_keep)
                      (first
                        | (go_at_call 25; refine (HCMP.out _ (HLW.out.below (bDraw (Below.refl _ _)))).mono ?_; rintro e w30 ⟨rfl, hb30⟩; have HB30 : Hid (Below W.heap.size W w30) := bStepD (bDraw (Below.refl _ W)) hb30))
                    have HR1 := hide (HR1.out.below HB30.out)
                    have HR2 := hide (HR2.out.below HB30.out)
                    have HR3 := hide (HR3.out.below HB30.out)
                    have HN := hide (HN.out.below HB30.out)
                    have HBL := hide (bStepD HBL.out HB30.out)
                    obtain ⟨q0, q1, q2, f0, f1, f2⟩ := (id HR1.out : RC _ _ _ _ _)
                    obtain ⟨n0, n1, n2, _, _, _⟩ := (id HN.out : RC _ _ _ _ _)
                    have HNR1 := hide (HR1.out.set3 false (s u1) (t u1))
                    have HNR2 := hide (HR2.out.far3 (x := 0) (y := 1) (z := 2) (u := .bool false) (v := .string (s u1)) (q := .string (t u1)) (show w5.heap.size ≠ w4.heap.size by have := HN12.out; omega))
                    have HNR3 := hide (HR3.out.far3 (x := 0) (y := 1) (z := 2) (u := .bool false) (v := .string (s u1)) (q := .string (t u1)) (show w6.heap.size ≠ w4.heap.size by have := HN13.out; omega))
                    have HNB := hide (bSet3 (x := 0) (y := 1) (z := 2) (u := .bool false) (v := .string (s u1)) (t := .string (t u1)) HBL.out (Nat.le_refl _) HR1.out.lt)
                    go_wp2_with fail
                    first
                      | (go_roundw
                         case rel => exact ⟨k + 1, by omega, by go_num, (by rw [HU1.out]; exact HNR1.out), HNR2.out, HNR3.out, HNB.out⟩
                         case measure => (simp [intOf]; omega))
                      | (refine ⟨⟨k + 1, by omega, by go_num, (by rw [HU1.out]; exact HNR1.out), HNR2.out, HNR3.out, HNB.out⟩, ?_⟩
                         simp [intOf]; omega)
              · have HN : Hid (RC (((w26.setCell ⟨wr.heap.size, 0, none⟩ (.bool false)).setCell ⟨wr.heap.size, 1, none⟩ (.string (s u1))).setCell ⟨wr.heap.size, 2, none⟩ (.string (t u1))) wr.heap.size _ _ _) := RC.set3 ⟨z0, z1, z2, z3, z4, z5⟩ _ _ _
                have HBN : Hid (Below wr.heap.size wr (((w26.setCell ⟨wr.heap.size, 0, none⟩ (.bool false)).setCell ⟨wr.heap.size, 1, none⟩ (.string (s u1))).setCell ⟨wr.heap.size, 2, none⟩ (.string (t u1)))) := bSet3 HB26.out (Nat.le_refl _) hzl
                have HNE : Hid (wr.heap.size ≠ w4.heap.size) := fun e => by have h2 := HR1.out.lt; omega
                obtain ⟨W, hW⟩ : ∃ W, ((w26.setCell ⟨wr.heap.size, 0, none⟩ (.bool false)).setCell ⟨wr.heap.size, 1, none⟩ (.string (s u1))).setCell ⟨wr.heap.size, 2, none⟩ (.string (t u1)) = W := ⟨_, rfl⟩
                rw [hW] at HN
                have HBN' : Hid (Below wr.heap.size wr W) := by show Below _ _ _; rw [← hW]; exact HBN.out
                have HBN := hide HBN'.out
                rw [hW]
                obtain ⟨A, hA⟩ : ∃ A, wr.heap.size = A := ⟨_, rfl⟩
                rw [hA] at HN HNE
                rw [hA]
                clear hW hA HB26 z0 z1 z2 z3 z4 z5 hzl HBN'
                have HR1 := hide (HR1.out.below HBN.out)
                have HR2 := hide (HR2.out.below HBN.out)
                have HR3 := hide (HR3.out.below HBN.out)
                have HBL := hide (bStepD HBL.out HBN.out)
                have HBK := hide (bStepD HBK.out HBN.out)
                have HLW := hide (HLW.out.below HBN.out)
                have HXC := hide (And.intro (keep_cell HBN.out HXC.out.1) (And.intro (keep_cell HBN.out HXC.out.2.1) (keep_cell HBN.out HXC.out.2.2)))
                clear HS9 HBN HADD
                cases bb with
                | false =>
                  obtain rfl : c = 0 := by
                    have h := HBER.out
                    rw [decide_eq_false_iff_not, Classical.not_not] at h
                    exact cos_eq0 h
                  clear HBER
                  have HS9 : Hid (∀ V, Below W.heap.size W V → V.cell? ⟨bx, ox + k * 3, none⟩ = some (.bool false) ∧ V.cell? ⟨bx, ox + k * 3 + 1, none⟩ = some (.string (s 0)) ∧ V.cell? ⟨bx, ox + k * 3 + 2, none⟩ = some (.string (t 0)) ∧ V.cell? ⟨w4.heap.size, 0, none⟩ = some (.bool false) ∧ V.cell? ⟨w4.heap.size, 1, none⟩ = some (.string (s u)) ∧ V.cell? ⟨w4.heap.size, 2, none⟩ = some (.string (t u)) ∧ V.cell? ⟨w5.heap.size, 0, none⟩ = some (.bool false) ∧ V.cell? ⟨w5.heap.size, 1, none⟩ = some (.string (s 0)) ∧ V.cell? ⟨w5.heap.size, 2, none⟩ = some (.string (t 0)) ∧ V.cell? ⟨w6.heap.size, 0, none⟩ = some (.bool false) ∧ V.cell? ⟨w6.heap.size, 1, none⟩ = some (.string (s (n * LL))) ∧ V.cell? ⟨w6.heap.size, 2, none⟩ = some (.string (t (n * LL)))) := fun V hW => by
                    obtain ⟨q0, q1, q2, _, _, _⟩ := HR1.out.below hW
                    obtain ⟨r0, r1, r2, _, _, _⟩ := HR2.out.below hW
                    obtain ⟨t0, t1, t2, _, _, _⟩ := HR3.out.below hW
                    exact ⟨keep_cell hW HXC.out.1, keep_cell hW HXC.out.2.1, keep_cell hW HXC.out.2.2, q0, q1, q2, r0, r1, r2, t0, t1, t2⟩
                  go_wp2_with fail
                  go_region_held3 (fun w' => w'.cell? ⟨bx, ox + k * 3, none⟩ = some (.bool false) ∧ w'.cell? ⟨bx, ox + k * 3 + 1, none⟩ = some (.string (s 0)) ∧ w'.cell? ⟨bx, ox + k * 3 + 2, none⟩ = some (.string (t 0)) ∧ w'.cell? ⟨w4.heap.size, 0, none⟩ = some (.bool false) ∧ w'.cell? ⟨w4.heap.size, 1, none⟩ = some (.string (s u)) ∧ w'.cell? ⟨w4.heap.size, 2, none⟩ = some (.string (t u)) ∧ w'.cell? ⟨w5.heap.size, 0, none⟩ = some (.bool false) ∧ w'.cell? ⟨w5.heap.size, 1, none⟩ = some (.string (s 0)) ∧ w'.cell? ⟨w5.heap.size, 2, none⟩ = some (.string (t 0)) ∧ w'.cell? ⟨w6.heap.size, 0, none⟩ = some (.bool false) ∧ w'.cell? ⟨w6.heap.size, 1, none⟩ = some (.string (s (n * LL))) ∧ w'.cell? ⟨w6.heap.size, 2, none⟩ = some (.string (t (n * LL))))
                    (first | exact HS9.out _ HB30.out | exact HS9.out _ (bDraw (Below.refl _ W)) | go_keep)
                    (first
                      | (go_at_call 25; refine (HCMP.out _ (HLW.out.below (bDraw (Below.refl _ _)))).mono ?_; rintro e w30 ⟨rfl, hb30⟩; have HB30 : Hid (Below W.heap.size W w30) := bStepD (bDraw (Below.refl _ W)) hb30))
                  have HR1 := hide (HR1.out.below HB30.out)
                  have HR2 := hide (HR2.out.below HB30.out)
                  have HR3 := hide (HR3.out.below HB30.out)
                  have HN := hide (HN.out.below HB30.out)
                  have HBL := hide (bStepD HBL.out HB30.out)
                  obtain ⟨q0, q1, q2, f0, f1, f2⟩ := (id HR1.out : RC _ _ _ _ _)
                  obtain ⟨n0, n1, n2, _, _, _⟩ := (id HN.out : RC _ _ _ _ _)
                  have HNR1 := hide (HR1.out.set3 false (s u1) (t u1))
                  have HNR2 := hide (HR2.out.far3 (x := 0) (y := 1) (z := 2) (u := .bool false) (v := .string (s u1)) (q := .string (t u1)) (show w5.heap.size ≠ w4.heap.size by have := HN12.out; omega))
                  have HNR3 := hide (HR3.out.far3 (x := 0) (y := 1) (z := 2) (u := .bool false) (v := .string (s u1)) (q := .string (t u1)) (show w6.heap.size ≠ w4.heap.size by have := HN13.out; omega))
                  have HNB := hide (bSet3 (x := 0) (y := 1) (z := 2) (u := .bool false) (v := .string (s u1)) (t := .string (t u1)) HBL.out (Nat.le_refl _) HR1.out.lt)
                  go_wp2_with fail
                  first
                    | (go_roundw
                       case rel => exact ⟨k + 1, by omega, by go_num, (by rw [HU1.out]; exact HNR1.out), HNR2.out, HNR3.out, HNB.out⟩
                       case measure => (simp [intOf]; omega))
                    | (refine ⟨⟨k + 1, by omega, by go_num, (by rw [HU1.out]; exact HNR1.out), HNR2.out, HNR3.out, HNB.out⟩, ?_⟩
                       simp [intOf]; omega)
                | true =>
                  have hne : ¬ (s c = s 0 ∧ t c = t 0) := fun h => by
                    have h1 := HTZ.out c h.1 h.2
                    have h2 := of_decide_eq_true HBER.out
                    exact h2 (by rw [h1]; exact cos_zero)
                  clear HBER
                  by_cases hsc : s c = s 0
                  · have htc : ¬ t c = t 0 := fun h => hne ⟨hsc, h⟩
                    rw [hsc] at HXC HCMP
                    have k1 : ((t c).toList == (t 0).toList) = false := str_ne htc (ByteArray.toList_eq _).symm
                    have k2 : decide (t c = t 0) = false := decide_eq_false htc
                    clear hne hsc
                    have HS9 : Hid (∀ V, Below W.heap.size W V → V.cell? ⟨bx, ox + k * 3, none⟩ = some (.bool false) ∧ V.cell? ⟨bx, ox + k * 3 + 1, none⟩ = some (.string (s 0)) ∧ V.cell? ⟨bx, ox + k * 3 + 2, none⟩ = some (.string (t c)) ∧ V.cell? ⟨w4.heap.size, 0, none⟩ = some (.bool false) ∧ V.cell? ⟨w4.heap.size, 1, none⟩ = some (.string (s u)) ∧ V.cell? ⟨w4.heap.size, 2, none⟩ = some (.string (t u)) ∧ V.cell? ⟨w5.heap.size, 0, none⟩ = some (.bool false) ∧ V.cell? ⟨w5.heap.size, 1, none⟩ = some (.string (s 0)) ∧ V.cell? ⟨w5.heap.size, 2, none⟩ = some (.string (t 0)) ∧ V.cell? ⟨w6.heap.size, 0, none⟩ = some (.bool false) ∧ V.cell? ⟨w6.heap.size, 1, none⟩ = some (.string (s (n * LL))) ∧ V.cell? ⟨w6.heap.size, 2, none⟩ = some (.string (t (n * LL)))) := fun V hW => by
                      obtain ⟨q0, q1, q2, _, _, _⟩ := HR1.out.below hW
                      obtain ⟨r0, r1, r2, _, _, _⟩ := HR2.out.below hW
                      obtain ⟨t0, t1, t2, _, _, _⟩ := HR3.out.below hW
                      exact ⟨keep_cell hW HXC.out.1, keep_cell hW HXC.out.2.1, keep_cell hW HXC.out.2.2, q0, q1, q2, r0, r1, r2, t0, t1, t2⟩
                    go_wp2_with fail
                    go_region_held3 (fun w' => w'.cell? ⟨bx, ox + k * 3, none⟩ = some (.bool false) ∧ w'.cell? ⟨bx, ox + k * 3 + 1, none⟩ = some (.string (s 0)) ∧ w'.cell? ⟨bx, ox + k * 3 + 2, none⟩ = some (.string (t c)) ∧ w'.cell? ⟨w4.heap.size, 0, none⟩ = some (.bool false) ∧ w'.cell? ⟨w4.heap.size, 1, none⟩ = some (.string (s u)) ∧ w'.cell? ⟨w4.heap.size, 2, none⟩ = some (.string (t u)) ∧ w'.cell? ⟨w5.heap.size, 0, none⟩ = some (.bool false) ∧ w'.cell? ⟨w5.heap.size, 1, none⟩ = some (.string (s 0)) ∧ w'.cell? ⟨w5.heap.size, 2, none⟩ = some (.string (t 0)) ∧ w'.cell? ⟨w6.heap.size, 0, none⟩ = some (.bool false) ∧ w'.cell? ⟨w6.heap.size, 1, none⟩ = some (.string (s (n * LL))) ∧ w'.cell? ⟨w6.heap.size, 2, none⟩ = some (.string (t (n * LL))))
                      (first | exact HS9.out _ HB30.out | exact HS9.out _ (bDraw (Below.refl _ W)) | go_keep)
                      (first
                        | (go_at_call 25; refine (HCMP.out _ (HLW.out.below (bDraw (Below.refl _ _)))).mono ?_; rintro e w30 ⟨rfl, hb30⟩; have HB30 : Hid (Below W.heap.size W w30) := bStepD (bDraw (Below.refl _ W)) hb30))
                    have HR1 := hide (HR1.out.below HB30.out)
                    have HR2 := hide (HR2.out.below HB30.out)
                    have HR3 := hide (HR3.out.below HB30.out)
                    have HN := hide (HN.out.below HB30.out)
                    have HBL := hide (bStepD HBL.out HB30.out)
                    obtain ⟨q0, q1, q2, f0, f1, f2⟩ := (id HR1.out : RC _ _ _ _ _)
                    obtain ⟨n0, n1, n2, _, _, _⟩ := (id HN.out : RC _ _ _ _ _)
                    have HNR1 := hide (HR1.out.set3 false (s u1) (t u1))
                    have HNR2 := hide (HR2.out.far3 (x := 0) (y := 1) (z := 2) (u := .bool false) (v := .string (s u1)) (q := .string (t u1)) (show w5.heap.size ≠ w4.heap.size by have := HN12.out; omega))
                    have HNR3 := hide (HR3.out.far3 (x := 0) (y := 1) (z := 2) (u := .bool false) (v := .string (s u1)) (q := .string (t u1)) (show w6.heap.size ≠ w4.heap.size by have := HN13.out; omega))
                    have HNB := hide (bSet3 (x := 0) (y := 1) (z := 2) (u := .bool false) (v := .string (s u1)) (t := .string (t u1)) HBL.out (Nat.le_refl _) HR1.out.lt)
                    go_wp2_with fail
                    first
                      | (go_roundw
                         case rel => exact ⟨k + 1, by omega, by go_num, (by rw [HU1.out]; exact HNR1.out), HNR2.out, HNR3.out, HNB.out⟩
                         case measure => (simp [intOf]; omega))
                      | (refine ⟨⟨k + 1, by omega, by go_num, (by rw [HU1.out]; exact HNR1.out), HNR2.out, HNR3.out, HNB.out⟩, ?_⟩
                         simp [intOf]; omega)
                  · have k1 : ((s c).toList == (s 0).toList) = false := str_ne hsc (ByteArray.toList_eq _).symm
                    have k2 : decide (s c = s 0) = false := decide_eq_false hsc
                    clear hne
                    have HS9 : Hid (∀ V, Below W.heap.size W V → V.cell? ⟨bx, ox + k * 3, none⟩ = some (.bool false) ∧ V.cell? ⟨bx, ox + k * 3 + 1, none⟩ = some (.string (s c)) ∧ V.cell? ⟨bx, ox + k * 3 + 2, none⟩ = some (.string (t c)) ∧ V.cell? ⟨w4.heap.size, 0, none⟩ = some (.bool false) ∧ V.cell? ⟨w4.heap.size, 1, none⟩ = some (.string (s u)) ∧ V.cell? ⟨w4.heap.size, 2, none⟩ = some (.string (t u)) ∧ V.cell? ⟨w5.heap.size, 0, none⟩ = some (.bool false) ∧ V.cell? ⟨w5.heap.size, 1, none⟩ = some (.string (s 0)) ∧ V.cell? ⟨w5.heap.size, 2, none⟩ = some (.string (t 0)) ∧ V.cell? ⟨w6.heap.size, 0, none⟩ = some (.bool false) ∧ V.cell? ⟨w6.heap.size, 1, none⟩ = some (.string (s (n * LL))) ∧ V.cell? ⟨w6.heap.size, 2, none⟩ = some (.string (t (n * LL)))) := fun V hW => by
                      obtain ⟨q0, q1, q2, _, _, _⟩ := HR1.out.below hW
                      obtain ⟨r0, r1, r2, _, _, _⟩ := HR2.out.below hW
                      obtain ⟨t0, t1, t2, _, _, _⟩ := HR3.out.below hW
                      exact ⟨keep_cell hW HXC.out.1, keep_cell hW HXC.out.2.1, keep_cell hW HXC.out.2.2, q0, q1, q2, r0, r1, r2, t0, t1, t2⟩
                    go_wp2_with fail
                    go_region_held3 (fun w' => w'.cell? ⟨bx, ox + k * 3, none⟩ = some (.bool false) ∧ w'.cell? ⟨bx, ox + k * 3 + 1, none⟩ = some (.string (s c)) ∧ w'.cell? ⟨bx, ox + k * 3 + 2, none⟩ = some (.string (t c)) ∧ w'.cell? ⟨w4.heap.size, 0, none⟩ = some (.bool false) ∧ w'.cell? ⟨w4.heap.size, 1, none⟩ = some (.string (s u)) ∧ w'.cell? ⟨w4.heap.size, 2, none⟩ = some (.string (t u)) ∧ w'.cell? ⟨w5.heap.size, 0, none⟩ = some (.bool false) ∧ w'.cell? ⟨w5.heap.size, 1, none⟩ = some (.string (s 0)) ∧ w'.cell? ⟨w5.heap.size, 2, none⟩ = some (.string (t 0)) ∧ w'.cell? ⟨w6.heap.size, 0, none⟩ = some (.bool false) ∧ w'.cell? ⟨w6.heap.size, 1, none⟩ = some (.string (s (n * LL))) ∧ w'.cell? ⟨w6.heap.size, 2, none⟩ = some (.string (t (n * LL))))
                      (first | exact HS9.out _ HB30.out | exact HS9.out _ (bDraw (Below.refl _ W)) | go_keep)
                      (first
                        | (go_at_call 25; refine (HCMP.out _ (HLW.out.below (bDraw (Below.refl _ _)))).mono ?_; rintro e w30 ⟨rfl, hb30⟩; have HB30 : Hid (Below W.heap.size W w30) := bStepD (bDraw (Below.refl _ W)) hb30))
                    have HR1 := hide (HR1.out.below HB30.out)
                    have HR2 := hide (HR2.out.below HB30.out)
                    have HR3 := hide (HR3.out.below HB30.out)
                    have HN := hide (HN.out.below HB30.out)
                    have HBL := hide (bStepD HBL.out HB30.out)
                    obtain ⟨q0, q1, q2, f0, f1, f2⟩ := (id HR1.out : RC _ _ _ _ _)
                    obtain ⟨n0, n1, n2, _, _, _⟩ := (id HN.out : RC _ _ _ _ _)
                    have HNR1 := hide (HR1.out.set3 false (s u1) (t u1))
                    have HNR2 := hide (HR2.out.far3 (x := 0) (y := 1) (z := 2) (u := .bool false) (v := .string (s u1)) (q := .string (t u1)) (show w5.heap.size ≠ w4.heap.size by have := HN12.out; omega))
                    have HNR3 := hide (HR3.out.far3 (x := 0) (y := 1) (z := 2) (u := .bool false) (v := .string (s u1)) (q := .string (t u1)) (show w6.heap.size ≠ w4.heap.size by have := HN13.out; omega))
                    have HNB := hide (bSet3 (x := 0) (y := 1) (z := 2) (u := .bool false) (v := .string (s u1)) (t := .string (t u1)) HBL.out (Nat.le_refl _) HR1.out.lt)
                    go_wp2_with fail
                    first
                      | (go_roundw
                         case rel => exact ⟨k + 1, by omega, by go_num, (by rw [HU1.out]; exact HNR1.out), HNR2.out, HNR3.out, HNB.out⟩
                         case measure => (simp [intOf]; omega))
                      | (refine ⟨⟨k + 1, by omega, by go_num, (by rw [HU1.out]; exact HNR1.out), HNR2.out, HNR3.out, HNB.out⟩, ?_⟩
                         simp [intOf]; omega)
        · obtain rfl : k = p := by omega
          rw [HSUM.out] at HR1
          obtain ⟨x0, x1, x2⟩ := (id HR1.out : RC _ _ _ _ _)
          obtain ⟨y0, y1, y2⟩ := (id HR3.out : RC _ _ _ _ _)
          go_wp2_with fail
          go_ret
          exact ⟨rfl, HBK.out⟩
end Go.Proofs.YtlagoiaiodjmhaaGreatDoor
