/- debt: Split. -/
import Derived.Test.YtlagoiaiodjmhaaGreatDoorDeL
set_option linter.unusedVariables false
set_option linter.unusedSimpArgs false
namespace Go.Proofs.YtlagoiaiodjmhaaGreatDoor
open Go.RowKit Go.Maps

def prB (l : List Db) (P : Int) : Bool := l.all fun d => decide (d.pr < P)
def splB (l : List Db) (ps : List Py) (m P : Int) : Bool := vlD l ps m && ((decide (1 ≤ P) && decide (P ≤ 64)) && prB l P)
def cosT (l : List Db) (S : List Int) (m p : Nat) : Bool × ByteArray × ByteArray := rqT (cosQ (cstN l S m p))
def vRt (t : Bool × ByteArray × ByteArray) : List Value := [.bool t.1, .string t.2.1, .string t.2.2]
theorem vRt_len (t : Bool × ByteArray × ByteArray) : (vRt t).length = 3 := rfl
def splL (l : List Db) (ps : List Py) (m P : Int) : List (Bool × ByteArray × ByteArray) := if splB l ps m P then (List.range P.toNat).map (cosT l (setL l ps m) ps.length) else []
def splE (l : List Db) (ps : List Py) (m P : Int) : Int := if splB l ps m P then 0 else 1
theorem rv_at {c d : Value} {y : DataW Value × List MemPlace} {X : DataW Value} (h : rV c = some y) (h1 : X = y.1) (h2 : X = .held d) : c = d := by
  unfold rV at h
  injection h with h
  rw [← h] at h1
  rw [h2] at h1
  injection h1 with h1
  exact h1.symm
theorem rb_slice {w : World} {b n : Nat} {f : Nat → Bool × ByteArray × ByteArray} (h : RB w b n f) (hm : n ≤ maxLen) : SliceOf vRt 3 w (.slice (some ⟨b, 0, none⟩) n n) ((List.range n).map f) := by
  have hl : ((List.range n).map f).length = n := by simp
  refine .inr ⟨b, 0, n, by rw [hl], h.lt, by rw [hl]; exact Nat.le_refl _, hm, fun i hi j u hu => ?_⟩
  have hi' : i < n := by rw [hl] at hi; exact hi
  obtain ⟨h0, h1, h2⟩ := h.c i hi'
  have e : ((List.range n).map f)[i] = f i := by simp
  rw [e] at hu
  match j, hu with
  | 0, hu =>
    obtain rfl : Value.bool (f i).1 = u := by simpa [vRt] using hu
    simpa using h0
  | 1, hu =>
    obtain rfl : Value.string (f i).2.1 = u := by simpa [vRt] using hu
    simpa using h1
  | 2, hu =>
    obtain rfl : Value.string (f i).2.2 = u := by simpa [vRt] using hu
    simpa using h2
  | j + 3, hu => simp [vRt] at hu
theorem below_of_none {w w' : World} (h : w.grownBy w' none) : Below w.heap.size w w' := (Below.refl w.heap.size w).grown h (Nat.le_refl _) (fun k hk => by cases hk)
theorem RC.kept {w w' : World} {b : Nat} {g : Bool} {s t : ByteArray} {row : Option Nat} (h : RC w b g s t) (hg : w.grownBy w' row) (hne : some b ≠ row) : RC w' b g s t := by
  have e := hg.block b h.lt hne
  exact ⟨(World.cell?_of_block (a := ⟨b, 0, none⟩) e).trans h.c0, (World.cell?_of_block (a := ⟨b, 1, none⟩) e).trans h.c1, (World.cell?_of_block (a := ⟨b, 2, none⟩) e).trans h.c2,
    (World.frozen?_of_block (a := ⟨b, 0, none⟩) e).trans h.f0, (World.frozen?_of_block (a := ⟨b, 1, none⟩) e).trans h.f1, (World.frozen?_of_block (a := ⟨b, 2, none⟩) e).trans h.f2⟩
/-- What is borne while payment k is gone through. -/
def accI (l : List Db) (S : List Int) (m : Nat) (left left2 : Lit → Bool) (k j : Nat) : Nat := accN l S m left j + if shB l S l.length k j && !left2 (kI (j : Int)) then shrN l S k else 0
theorem accI_end (l : List Db) (S : List Int) {m k : Nat} (hk : k < m) {left left2 : Lit → Bool} (hl : left (kI (k : Int)) = true) (h : ∀ kl, left2 kl = false) (j : Nat) : accI l S m left left2 k j = accN l S m (fun z => left z && !z.sameKey (kI (k : Int))) j := by
  rw [acc_step l S hk hl]
  unfold accI trmN
  rw [h, Bool.not_false, Bool.and_true]
theorem accI_step (l : List Db) (S : List Int) (m : Nat) (left left2 : Lit → Bool) (k j i : Nat) (hs : shB l S l.length k j = true) (h2 : left2 (kI (j : Int)) = true) :
    accI l S m left (fun z => left2 z && !z.sameKey (kI (j : Int))) k i = if i = j then accI l S m left left2 k j + shrN l S k else accI l S m left left2 k i := by
  by_cases e : i = j
  · subst e
    simp [accI, kI_same, hs, h2]
  · have e2 : ¬ ((i : Int) = (j : Int)) := fun h => e (by omega)
    simp only [accI, kI_same, decide_eq_false e2, Bool.not_false, Bool.and_true, if_neg e]
theorem accI_le (l : List Db) (S : List Int) (m : Nat) (left left2 : Lit → Bool) (k j : Nat) : accI l S m left left2 k j ≤ (m + 1) * LL := by
  unfold accI
  have h1 := acc_le l S m left j
  have h2 := shr_le l S k
  rw [Nat.add_mul]
  split <;> omega
set_option maxHeartbeats 8000000 in
set_option maxRecDepth 100000 in
theorem de_split (l : List Db) (ps : List Py) (m P : Int) (v1 v2 : Value) (w : World) (h1 : SliceOf vDb 6 w v1 l) (h2 : SliceOf vPy 4 w v2 ps) (hW : LawW w) :
    Calls Tryz.prog 17 #[v1, v2, .int .i64 m, .int .i64 P] w fun e w' => ∃ u, e = .returned (.tuple #[u, .int .i64 (splE l ps m P)]) ∧ SliceOf vRt 3 w' u (splL l ps m P) ∧ Below w.heap.size w w' := by
  have HST := hide (de_settle l ps m v1 v2 w h1 h2)
  have HWI := hide (fun n lo hi W => de_within n lo hi W)
  have HS1 := hide h1
  have HW := hide hW
  obtain ⟨a1, c1, rfl⟩ := h1.shape
  obtain ⟨a2, c2, rfl⟩ := h2.shape
  obtain ⟨b, hb⟩ : ∃ b, splB l ps m P = b := ⟨_, rfl⟩
  have HE : Hid (splE l ps m P = cond b 0 1) := by show _ = _; unfold splE; rw [hb]; cases b <;> rfl
  have HL : Hid (splL l ps m P = cond b ((List.range P.toNat).map (cosT l (setL l ps m) ps.length)) []) := by show _ = _; unfold splL; rw [hb]; cases b <;> rfl
  rw [HE.out, HL.out]
  have HBB := hide hb
  clear h1 h2 hW hb HE HL
  rcases Bool.eq_false_or_eq_true (vlD l ps m) with hv | hv
  case inr =>
    obtain rfl : b = false := by rw [← HBB.out]; unfold splB; rw [hv]; rfl
    have HE2 : Hid (stE l ps m = 1) := by show _ = _; unfold stE; rw [hv]; rfl
    rw [HE2.out] at HST
    clear hv HBB HE2
    go_enter Tryz.func17, Tryz.ntmps17
    go_wp2_with fail
    refine HST.out.mono ?_
    rintro e w1 ⟨u, rfl, -, hb⟩
    have HB := hide hb
    clear hb
    go_wp2_with fail
    go_ret2
    exact ⟨_, rfl, .inl ⟨none, rfl, rfl⟩, HB.out⟩
  have HE2 : Hid (stE l ps m = 0) := by show _ = _; unfold stE; rw [hv]; rfl
  have HE3 : Hid (stL l ps m = setL l ps m) := by show _ = _; unfold stL; rw [hv]; rfl
  rw [HE2.out, HE3.out] at HST
  obtain ⟨q, hq⟩ : ∃ q, (decide ((1 : Int) ≤ P) && decide (P ≤ 64)) = q := ⟨_, rfl⟩
  have HQ := hide hq
  have HVB : Hid (b = (q && prB l P)) := by show _ = _; rw [← HBB.out]; unfold splB; rw [hv, hq, Bool.true_and]
  obtain ⟨nl, np, hm, hdb, -⟩ := vlD_iff.1 hv
  have HDB := hide hdb
  have HBD := hide (fun i (h : i < (setL l ps m).length) => (show -1 ≤ (setL l ps m)[i] ∧ (setL l ps m)[i] < (ps.length : Int) from by rw [setL_at h]; exact bst_bd _ _ _ _))
  have HSL := hide (setL_len l ps m)
  obtain ⟨S, hS⟩ : ∃ S, setL l ps m = S := ⟨_, rfl⟩
  rw [hS] at HST HBD HSL ⊢
  clear hq hv HE2 HE3 HBB hS hdb hm
  cases q with
  | false =>
    obtain rfl : b = false := by rw [HVB.out]; rfl
    go_enter Tryz.func17, Tryz.ntmps17
    go_wp2_with fail
    refine HST.out.mono ?_
    rintro e w1 ⟨u, rfl, -, hb⟩
    have HB := hide hb
    clear hb
    go_wp2_with fail
    refine (HWI.out _ _ _ _).mono ?_
    rintro e w2 ⟨rfl, rfl⟩
    have hq := HQ.out
    rw [hq]
    clear hq
    go_wp2_with fail
    go_ret2
    exact ⟨_, rfl, .inl ⟨none, rfl, rfl⟩, HB.out⟩
  | true =>
    have hPP : 1 ≤ P ∧ P ≤ 64 := by have := HQ.out; simpa using this
    obtain ⟨hP1, hP2⟩ := hPP
    obtain ⟨Pn, rfl⟩ : ∃ Pn : Nat, P = (Pn : Int) := ⟨P.toNat, by omega⟩
    rw [Int.toNat_natCast]
    have hlI : (l.length : Int) ≤ 1000 := by omega
    have hmm := @run_makeMap Tryz.prog
    go_enter Tryz.func17, Tryz.ntmps17
    go_wp2_with fail
    refine HST.out.mono ?_
    rintro e w1 ⟨u, rfl, hs, hb⟩
    have HB1 := hide hb
    have HSS := hide hs
    obtain ⟨so, sc, rfl⟩ : ∃ so sc, u = .slice so S.length sc := hs.shape
    clear hs hb HST
    go_wp2_with fail
    refine (HWI.out _ _ _ _).mono ?_
    rintro e w2 ⟨rfl, rfl⟩
    have hq := HQ.out
    rw [hq]
    clear hq
    go_wp2_with fail
    clear hmm
    have HM0 := hide ((ShM.zero w2 (shZ l S 0)).congr (U' := usZ S 0) (F' := shZ l S 0) (fun x => by unfold usZ; simp) (fun x h => by cases h))
    have HB2 := hide (bAlloc (Below.refl w2.heap.size w2) (.map #[] 0))
    have HWM : Hid (w.heap.size ≤ w2.heap.size) := HB1.out.size
    obtain ⟨M, hM⟩ : ∃ M, w2.heap.size = M := ⟨_, rfl⟩
    obtain ⟨wa, hwa⟩ : ∃ x, w2.alloc (.map #[] 0) = x := ⟨_, rfl⟩
    rw [hwa, hM] at HM0
    rw [hwa] at HB2
    rw [hM] at HWM
    have HMW : Hid (w2.heap.size = M) := hM
    rw [hwa, hM]
    have HMA : Hid (M < wa.heap.size) := HM0.out.map.lt
    clear hwa hM
    go_loopw [41] (fun i wx => ∃ (n : Nat) (bk : Int → Nat), n ≤ l.length ∧ i = .int .i64 (n : Int) ∧ ShM wx M (2 * n) (usZ S n) (shZ l S n) bk ∧ (∀ j (h : j < l.length), j < n → l[j].pr < (Pn : Int)) ∧ Below w2.heap.size w2 wx) (fun i _ => l.length - (intOf i).toNat)
    case atStart => exact ⟨0, _, Nat.zero_le _, rfl, HM0.out, fun j _ h => absurd h (Nat.not_lt_zero _), HB2.out⟩
    case round =>
      obtain ⟨n, bk, hn, rfl, hsm, hall, hbl⟩ := hrel
      have HM := hide hsm
      have HA := hide hall
      have HB := hide hbl
      clear hsm hall hbl HM0 HB2
      by_cases hnl : n < l.length
      · have hni : (n : Int) < (l.length : Int) := by omega
        have hn0 : (0 : Int) ≤ (n : Int) := by omega
        obtain ⟨b1, o1, rfl, _, hcap, hcm, hc⟩ := SliceOf.at_ HS1.out (by omega)
        have g1 : (l.length : Int) ≤ (c1 : Int) := by omega
        have g2 : (c1 : Int) ≤ 9223372036854775807 := by unfold maxLen at hcm; omega
        have HDC := hide ((db_cells hc hnl).keep (bStepD HB1.out HB.out))
        have HIN := hide (HDB.out n hnl)
        have HNX : Hid (l[n].pr < (Pn : Int) → ∀ j (h : j < l.length), j < n + 1 → l[j].pr < (Pn : Int)) := fun e j h hj => by
          by_cases e2 : j = n
          · subst e2; exact e
          · exact HA.out j h (by omega)
        have HBF : Hid ((Pn : Int) ≤ l[n].pr → b = false) := fun e => by
          rw [HVB.out, Bool.true_and]
          unfold prB
          rw [List.all_eq_false]
          exact ⟨l[n], List.getElem_mem hnl, by simp; exact e⟩
        have hd0 := dbN_at hnl
        obtain ⟨d, hd⟩ : ∃ d, l[n] = d := ⟨_, rfl⟩
        rw [hd] at HDC HIN HNX HBF hd0
        have HDE := hide hd0
        have hpr : 0 ≤ d.pr ∧ d.pr ≤ 63 := by
          have := HIN.out
          unfold dbB at this
          rw [Bool.and_eq_true, Bool.and_eq_true, Bool.and_eq_true, Bool.and_eq_true, Bool.and_eq_true, decide_eq_true_eq, decide_eq_true_eq] at this
          exact this.1.1.1.2
        obtain ⟨x0, x1, x2, x3, x4, x5⟩ := HDC.out
        clear hc hcap hcm hd hd0 HIN HA
        go_upto_region 8 with fail
        have HBA := hide (bAlloc (Below.refl wr.heap.size wr) (.cells #[.int .i64 d.kd, .int .i64 d.tl, .int .i64 d.fl, .int .i64 d.fr, .int .i64 d.un, .int .i64 d.pr] 47))
        have HD3 := hide (DbC.new wr d 47)
        have HM3 := hide (HM.out.below HBA.out)
        have HS3 := hide (HSS.out.below (bStepD HB.out HBA.out))
        have HB3 := hide (bStepD HB.out HBA.out)
        have HAM : Hid (M < wr.heap.size) := HM.out.map.lt
        obtain ⟨A, hA⟩ : ∃ A, wr.heap.size = A := ⟨_, rfl⟩
        obtain ⟨w3, hw3⟩ : ∃ W, wr.alloc (.cells #[.int .i64 d.kd, .int .i64 d.tl, .int .i64 d.fl, .int .i64 d.fr, .int .i64 d.un, .int .i64 d.pr] 47) = W := ⟨_, rfl⟩
        rw [hw3] at HD3 HM3 HS3 HB3
        rw [hA] at HD3 HAM
        rw [hw3, hA]
        clear hw3 hA HBA HM HB x0 x1 x2 x3 x4 x5
        obtain ⟨x0, x1, x2, x3, x4, x5⟩ := HD3.out
        simp only [Nat.zero_add] at x1 x2 x3 x4 x5
        by_cases hpP : (Pn : Int) ≤ d.pr
        · have e1 : decide ((Pn : Int) ≤ d.pr) = true := decide_eq_true hpP
          obtain rfl : b = false := HBF.out hpP
          go_wp2_with fail
          go_ret2
          exact ⟨_, rfl, .inl ⟨none, rfl, rfl⟩, bStepD HB1.out HB3.out⟩
        have e1 : decide ((Pn : Int) ≤ d.pr) = false := decide_eq_false hpP
        have HNY := hide (HNX.out (by omega))
        have hsl : n < S.length := by have := HSL.out; omega
        have hslI : (n : Int) < (S.length : Int) := by omega
        obtain ⟨bs, os, rfl, _, hcap, hcm, hc⟩ := SliceOf.at_ HS3.out (by omega)
        have g3 : (S.length : Int) ≤ (sc : Int) := by omega
        have g4 : (sc : Int) ≤ 9223372036854775807 := by unfold maxLen at hcm; omega
        have y0 := int_cell hc hsl
        have hbd := HBD.out n hsl
        have hSn : S.getD n 0 = S[n] := by rw [List.getD_eq_getElem?_getD, List.getElem?_eq_getElem hsl]; rfl
        obtain ⟨x, hx⟩ : ∃ x, S[n] = x := ⟨_, rfl⟩
        rw [hx] at y0 hbd hSn
        have HSN := hide hSn
        clear hc hcap hcm hx hSn HNX HBF
        by_cases hneg : x < 0
        · have e2 : decide (x < 0) = true := decide_eq_true hneg
          have HM4 := hide ((HM3.out.congr (usZ_skip (by rw [HSN.out]; exact hneg)) (fun y hy p => shZ_skip (by rw [HSN.out]; exact hneg) hy p)).mono (show 2 * n ≤ 2 * (n + 1) by omega))
          clear HM3
          go_wp2_with fail
          first
            | (go_roundw
               case rel => exact ⟨n + 1, bk, by omega, by go_num, HM4.out, HNY.out, HB3.out⟩
               case measure => (simp [intOf]; omega))
            | (refine ⟨⟨n + 1, bk, by omega, by go_num, HM4.out, HNY.out, HB3.out⟩, ?_⟩
               simp [intOf]; omega)
        · have e2 : decide (x < 0) = false := decide_eq_false hneg
          have hxI : inI64 x := by unfold inI64; omega
          have hprI : inI64 d.pr := by unfold inI64; omega
          by_cases hu : usZ S n x = true
          · have HLK : Hid ((outM (usZ S n) bk x).getD (.map none) = .map (some (bk x))) := by show _ = _; unfold outM; rw [if_pos hu]; rfl
            obtain ⟨w4, hrun, hsm, hg4⟩ := (HM3.out.inn x hu).store Tryz.underlying72 (by unfold maxLen; omega) hprI
            have HM4 := hide (HM3.out.add hu hpr.1 hpr.2 hsm hg4)
            have HLO := hide (HM3.out.lo x hu)
            have HME : Hid (ShM w4 M (2 * (n + 1)) (usZ S (n + 1)) (shZ l S (n + 1)) bk) := (HM4.out.congr (usZ_same (by rw [HSN.out]; exact hu)) (fun y _ q => by
              have := shZ_step (l := l) (S := S) (n := n) y q
              rw [HSN.out, HDE.out] at this
              exact this)).mono (by omega)
            have HBE : Hid (Below w2.heap.size w2 w4) := HB3.out.grown hg4 HB3.out.size (fun b hb => by injection hb with hb; have := HMW.out; have := HLO.out; omega)
            obtain ⟨bx, hbx⟩ : ∃ z, bk x = z := ⟨_, rfl⟩
            rw [hbx] at HLK hrun
            clear hsm hg4 HM4 hbx
            have hqe := map_eq_some bx
            go_wp2_with (first | (at_lookup; refine wpList_look _ rfl _ _ 71 rfl 3 72 Tryz.keyed3D Tryz.underlying71 (zeroMD _) M (2 * n) kI (outM (usZ S n) bk) rfl HM3.out.map (.int .i64 x) x rfl (keyI hxI) ?_; rw [HLK.out]) | (at_mapUpdate; refine wpList_mapRun _ rfl _ _ _ 72 rfl (.int .i64 d.pr) (.bool true) bx w4 rfl rfl rfl hrun ?_))
            first
              | (go_roundw
                 case rel => exact ⟨n + 1, _, by omega, by go_num, HME.out, HNY.out, HBE.out⟩
                 case measure => (simp [intOf]; omega))
              | (refine ⟨⟨n + 1, _, by omega, by go_num, HME.out, HNY.out, HBE.out⟩, ?_⟩
                 simp [intOf]; omega)
          · have hu : usZ S n x = false := by simpa using hu
            have HLK : Hid ((outM (usZ S n) bk x).getD (.map none) = .map none) := by show _ = _; unfold outM; rw [hu]; rfl
            obtain ⟨nb, hnb⟩ : ∃ nb, w3.heap.size = nb := ⟨_, rfl⟩
            obtain ⟨w4, hw4⟩ : ∃ W, w3.alloc (.map #[] 0) = W := ⟨_, rfl⟩
            obtain ⟨w5, hrun5, hvm5, hg5⟩ := ((HM3.out.map.alloc (.map #[] 0)).store (T := 71) (val := .map (some nb)) (kl := x) Tryz.keyed3D Tryz.underlying71 (by unfold maxLen; omega) (keyI hxI) (keyI_lit x) kI_inj)
            rw [hw4] at hrun5 hg5
            have HM5 := hide (HM3.out.open_ hu hnb hw4 hvm5 hg5)
            have hu5 : (decide (x = x) || usZ S n x) = true := by simp
            have HLK5 : Hid ((outM (fun y => decide (y = x) || usZ S n y) (fun y => if y = x then nb else bk y) x).getD (.map none) = .map (some nb)) := by show _ = _; unfold outM; simp
            have hsx := HM5.out.inn x hu5
            obtain ⟨w6, hrun6, hsm6, hg6⟩ := hsx.store Tryz.underlying72 (by unfold maxLen; omega) hprI
            have HM6 := hide (HM5.out.add hu5 hpr.1 hpr.2 hsm6 hg6)
            have HME : Hid (ShM w6 M (2 * (n + 1)) (usZ S (n + 1)) (shZ l S (n + 1)) (fun y => if y = x then nb else bk y)) := (HM6.out.congr (fun y => by
              have := usZ_step (S := S) (n := n) (by rw [HSN.out]; omega) y
              rw [HSN.out] at this
              exact this) (fun y _ q => by
              have h1 := shZ_step (l := l) (S := S) (n := n) y q
              rw [HSN.out, HDE.out] at h1
              have h2 := shZ_none (l := l) (S := S) (n := n) (x := x) (by omega) hu q
              by_cases e : y = x
              · rw [if_pos e] at h1 ⊢
                rw [if_pos rfl, ← h1, h2]
              · rw [if_neg e] at h1 ⊢
                rw [if_neg e]; exact h1)).mono (by omega)
            have HBE : Hid (Below w2.heap.size w2 w6) := by
              have hM := HMW.out
              have e1 : w4.heap.size = w3.heap.size + 1 := by rw [← hw4]; simp
              have e2 := hg5.size
              have e3 := HB3.out.size
              have e4 : Below w2.heap.size w2 w4 := by rw [← hw4]; exact bAlloc HB3.out _
              refine (e4.grown hg5 (by omega) (fun b hb => by injection hb with hb; omega)).grown hg6 (by omega) (fun b hb => ?_)
              simp only [if_true, Option.some.injEq] at hb
              omega
            simp only [if_true] at hrun6
            have x5' : w5.cell? ⟨A, 5, none⟩ = some (.int .i64 d.pr) := by
              have hA := World.block_lt_of_cell? _ _ x5
              have e4 : w4.cell? ⟨A, 5, none⟩ = some (.int .i64 d.pr) := by rw [← hw4]; exact keep_cell (bAlloc (Below.refl w3.heap.size w3) _) x5
              exact (World.cell?_of_block (a := ⟨A, 5, none⟩) (hg5.block A (World.block_lt_of_cell? _ _ e4) (fun e => by injection e with e; have := HAM.out; omega))).trans e4
            have hmm := @run_makeMap Tryz.prog
            clear hvm5 hg5 hsm6 hg6 HM6 hsx
            have hqe := @map_eq_none
            go_wp2_with (first | (at_lookup; refine wpList_look _ rfl _ _ 71 rfl 3 72 Tryz.keyed3D Tryz.underlying71 (zeroMD _) M (2 * n) kI (outM (usZ S n) bk) rfl HM3.out.map (.int .i64 x) x rfl (keyI hxI) ?_; rw [HLK.out]) | (at_lookup; refine wpList_look _ rfl _ _ 71 rfl 3 72 Tryz.keyed3D Tryz.underlying71 (zeroMD _) M (2 * n + 1) kI (outM (fun y => decide (y = x) || usZ S n y) (fun y => if y = x then nb else bk y)) rfl HM5.out.map (.int .i64 x) x rfl (keyI hxI) ?_; rw [HLK5.out]) | (at_mapUpdate; refine wpList_mapRun _ rfl _ _ _ 71 rfl (.int .i64 x) (.map (some nb)) M w5 rfl rfl (by rw [← hnb]; rfl) (by first | (rw [hw4]; exact hrun5) | exact hrun5) ?_) | (at_mapUpdate; refine wpList_mapRun _ rfl _ _ _ 72 rfl (.int .i64 d.pr) (.bool true) nb w6 rfl rfl rfl hrun6 ?_))
            first
              | (go_roundw
                 case rel => exact ⟨n + 1, _, by omega, by go_num, HME.out, HNY.out, HBE.out⟩
                 case measure => (simp [intOf]; omega))
              | (refine ⟨⟨n + 1, _, by omega, by go_num, HME.out, HNY.out, HBE.out⟩, ?_⟩
                 simp [intOf]; omega)
      · obtain rfl : n = l.length := by omega
        obtain rfl : b = true := by
          rw [HVB.out, Bool.true_and]
          unfold prB
          rw [List.all_eq_true]
          intro x hx
          obtain ⟨j, hj, rfl⟩ := List.mem_iff_getElem.1 hx
          exact decide_eq_true (HA.out j hj hj)
        obtain ⟨wl, hwl⟩ : ∃ W, wr = W := ⟨_, rfl⟩
        rw [hwl] at HM HB ⊢
        have HPR : Hid (∀ j (h : j < l.length), 0 ≤ l[j].pr ∧ l[j].pr < (Pn : Int)) := fun j h => ⟨by
          have := HDB.out j h
          unfold dbB at this
          rw [Bool.and_eq_true, Bool.and_eq_true, Bool.and_eq_true, Bool.and_eq_true, Bool.and_eq_true, decide_eq_true_eq, decide_eq_true_eq] at this
          exact this.1.1.1.2.1, HA.out j h h⟩
        clear hwl HA
        have HMK := hide (run_make_rat Pn (by omega))
        have hmk := HMK.out
        have hPnI : (Pn : Int) ≤ 64 := by omega
        have hPn0 : (0 : Int) ≤ (Pn : Int) := by omega
        go_upto_region 18 with fail
        clear hmk HMK
        have HR0 := hide ((RB.made wl Pn 57).below (bAlloc (Below.refl _ _) (.cells #[.slice (some ⟨wl.heap.size, 0, none⟩) Pn Pn] 38)))
        have HB5 := hide (bAlloc (bAlloc (Below.refl wl.heap.size wl) (.cells (madeCells #[.bool false, .string ⟨#[]⟩, .string ⟨#[]⟩] (Pn * 3)) 57)) (.cells #[.slice (some ⟨wl.heap.size, 0, none⟩) Pn Pn] 38))
        have HOV : Hid (((wl.alloc (.cells (madeCells #[.bool false, .string ⟨#[]⟩, .string ⟨#[]⟩] (Pn * 3)) 57)).alloc (.cells #[.slice (some ⟨wl.heap.size, 0, none⟩) Pn Pn] 38)).cell? ⟨wl.heap.size + 1, 0, none⟩ = some (.slice (some ⟨wl.heap.size, 0, none⟩) Pn Pn)) := by
          have e : (wl.alloc (.cells (madeCells #[.bool false, .string ⟨#[]⟩, .string ⟨#[]⟩] (Pn * 3)) 57)).heap.size = wl.heap.size + 1 := by simp
          show World.cell? _ _ = _
          rw [World.cell?_alloc_at _ _ _ _ e.symm]
          rfl
        obtain ⟨O, hO⟩ : ∃ O, wl.heap.size = O := ⟨_, rfl⟩
        have HOW := hide hO
        obtain ⟨w5, hw5⟩ : ∃ W, ((wl.alloc (.cells (madeCells #[.bool false, .string ⟨#[]⟩, .string ⟨#[]⟩] (Pn * 3)) 57)).alloc (.cells #[.slice (some ⟨wl.heap.size, 0, none⟩) Pn Pn] 38)) = W := ⟨_, rfl⟩
        rw [hw5] at HR0 HB5 HOV
        rw [hO] at HR0 HOV
        rw [hw5, hO]
        clear hw5 hO
        have hof : ofQ 0 1 = 0 := by decide +kernel
        have HOF := hide (fun W hX => of_ok (n := 0) (d := 1) (by unfold inI64; omega) (by unfold inI64; omega) (by omega) hof rqV_zero W hX)
        have o0 := HOV.out
        clear hof
        go_wp2_with fail
        clear o0
        go_loopw [74] (fun i wx => ∃ p : Nat, p ≤ Pn ∧ i = .int .i64 (p : Int) ∧ RB wx O Pn (fun j => if j < p then (false, ⟨#[48]⟩, ⟨#[49]⟩) else (false, ⟨#[]⟩, ⟨#[]⟩)) ∧ wx.cell? ⟨O + 1, 0, none⟩ = some (.slice (some ⟨O, 0, none⟩) Pn Pn) ∧ Below wl.heap.size wl wx) (fun i _ => Pn - (intOf i).toNat)
        case atStart => exact ⟨0, Nat.zero_le _, rfl, HR0.out.congr (fun j _ => by rw [if_neg (Nat.not_lt_zero _)]), HOV.out, HB5.out⟩
        case round =>
          obtain ⟨p, hp, rfl, hrb, hov, hbl⟩ := hrel
          have HR := hide hrb
          have HO := hide hov
          have HX := hide hbl
          clear hrb hov hbl HR0 HOV HB5
          by_cases hlt : p < Pn
          · have hpi : (p : Int) < (Pn : Int) := by omega
            have hp0 : (0 : Int) ≤ (p : Int) := by omega
            have o0 := HO.out
            have HLW := hide (HW.out.below (bStepD HB1.out (bStepD HB.out HX.out)))
            have HS1 : Hid (∀ W, Below wr.heap.size wr W → W.cell? ⟨O + 1, 0, none⟩ = some (.slice (some ⟨O, 0, none⟩) Pn Pn)) := fun W hW => keep_cell hW o0
            have HZ : Hid (Below wr.heap.size wr wr) := Below.refl _ _
            have hneO : O ≠ O + 1 := by omega
            clear o0
            go_wp2_with fail
            go_region_held3 (fun w' => w'.cell? ⟨O + 1, 0, none⟩ = some (.slice (some ⟨O, 0, none⟩) Pn Pn))
              (first | exact HS1.out _ HQ2.out | exact HS1.out _ (bDraw HZ.out) | go_keep)
              (first
                | (go_at_call 23; refine (HOF.out _ (HLW.out.below (bDraw HZ.out))).mono ?_; rintro e w6 ⟨rfl, hb⟩; have HQ2 := hide (bStepD (bDraw HZ.out) hb); have HR2 := hide (HR.out.below HQ2.out); obtain ⟨k0, k1, k2⟩ := HR2.out.c p hlt; obtain ⟨z0, z1, z2⟩ := HR2.out.z p hlt; clear hb))
            have HR3 := hide ((HR2.out.set hlt false ⟨#[48]⟩ ⟨#[49]⟩).congr (g := fun j => if j < p + 1 then (false, ⟨#[48]⟩, ⟨#[49]⟩) else (false, ⟨#[]⟩, ⟨#[]⟩)) (fun j _ => by
              by_cases e : j = p
              · rw [if_pos e, if_pos (by omega)]
              · rw [if_neg e]
                by_cases e2 : j < p
                · rw [if_pos e2, if_pos (by omega)]
                · rw [if_neg e2, if_neg (by omega)]))
            have HG := hide (grown_set3 w6 O (p * 3) (p * 3 + 1) (p * 3 + 2) (.bool false) (.string ⟨#[48]⟩) (.string ⟨#[49]⟩))
            have HO3 := hide ((World.cell?_of_block (a := ⟨O + 1, 0, none⟩) (HG.out.block (O + 1) (World.block_lt_of_cell? _ _ (HS1.out _ HQ2.out)) (fun e => by injection e with e; omega))).trans (HS1.out _ HQ2.out))
            have HX3 := hide ((bStepD HX.out HQ2.out).grown HG.out (bStepD HX.out HQ2.out).size (fun b hb => by injection hb with hb; have := HOW.out; omega))
            clear k0 k1 k2 z0 z1 z2
            go_wp2_with fail
            first
              | (go_roundw
                 case rel => exact ⟨p + 1, by omega, by go_num, HR3.out, HO3.out, HX3.out⟩
                 case measure => (simp [intOf]; omega))
              | (refine ⟨⟨p + 1, by omega, by go_num, HR3.out, HO3.out, HX3.out⟩, ?_⟩
                 simp [intOf]; omega)
          · obtain rfl : p = Pn := by omega
            have HMX := hide (HM.out.below HX.out)
            obtain ⟨D, hD1, hD2, hD3⟩ := HMX.out.map
            have HD1 := hide hD1
            have HHD : Hid (∀ x : Int, Maps.has D (kI x) = usZ S l.length x) := fun x => by
              rw [(hD3 x).1]
              unfold outM
              by_cases e : usZ S l.length x = true
              · rw [if_pos e, e]; rfl
              · rw [if_neg e]; simpa using e
            have HHV : Hid (∀ x : Int, usZ S l.length x = true → ∀ z, D.atKey (kI x) z = .held (.map (some (bk x)))) := fun x hx z => (hD3 x).2 _ (by unfold outM; rw [if_pos hx]) z
            have HR4 := hide (HR.out.congr (g := fun j => rqT (cosQ (accN l S ps.length (Maps.has D) j))) (fun j hj => by
              rw [if_pos hj, acc_none (fun k hk => ?_), cos_zero, rqT_zero]
              rw [HHD.out] at hk
              exact shZ_none (l := l) (S := S) (n := l.length) (x := (k : Int)) (by omega) hk (j : Int)))
            have o0 := HO.out
            have HXS : Hid (wl.heap.size ≤ wr.heap.size) := HX.out.size
            clear hD1 hD2 hD3 HR HMX
            go_wp2_with (first | (at_range; refine wpList_range_own _ rfl _ 71 rfl 3 72 Tryz.keyed3D Tryz.underlying71 rV M (2 * l.length) D rfl HD1.out ?_; intro w7 hrg0 hg0 hs0) | go_in)
            go_frame
            have HRG0 := hide hrg0
            have HX7 := hide (HX.out.grown hg0 HXS.out (fun b hb => by cases hb))
            have HR7 := hide (HR4.out.kept hg0 (by simp))
            have HO7 := hide ((World.cell?_of_block (a := ⟨O + 1, 0, none⟩) (hg0.block (O + 1) (World.block_lt_of_cell? _ _ HO.out) (by simp))).trans HO.out)
            obtain ⟨r, hr⟩ : ∃ r, wr.heap.size = r := ⟨_, rfl⟩
            have HRL : Hid (O + 1 < r) := by show _ < _; rw [← hr]; exact World.block_lt_of_cell? _ _ HO.out
            rw [hr] at HRG0 ⊢
            clear hrg0 hg0 hs0 o0 hr HR4 HX HO HD1
            go_loopw [20] (fun _ wx => ∃ (left : Lit → Bool) (cnt : Nat), wx.ranges Tryz.prog 3 rV M r (2 * l.length) D left cnt ∧ (∀ kl, left kl = true → Maps.has D kl = true) ∧ RB wx O p (fun j => rqT (cosQ (accN l S ps.length left j))) ∧ wx.cell? ⟨O + 1, 0, none⟩ = some (.slice (some ⟨O, 0, none⟩) p p) ∧ Below wl.heap.size wl wx) (fun _ wx => wx.rangeLeft M r)
            case atStart => exact ⟨_, _, HRG0.out, fun _ h => h, HR7.out, HO7.out, HX7.out⟩
            case round =>
              obtain ⟨left, cnt, hrg, hle, hrb, hov, hbl⟩ := hrel
              have HRG := hide hrg
              have HLE := hide hle
              have HR := hide hrb
              have HO := hide hov
              have HX := hide hbl
              clear hrg hle hrb hov hbl HRG0 HR7 HO7 HX7
              have o0 := HO.out
              have HMB : Hid (∀ W, Below wl.heap.size wl W → ∀ x, usZ S l.length x = true → SMap W (bk x) (2 * l.length) (cntN 64 fun p => shZ l S l.length x (p : Int)) (shZ l S l.length x)) := fun W hW x hx => (HM.out.below hW).inn x hx
              have HBR : Hid (∀ x, usZ S l.length x = true → some (bk x) ≠ some r) := fun x hx e => by
                injection e with e
                have h1 := (HM.out.inn x hx).lt
                have h2 := HOW.out
                have h3 := HRL.out
                omega
              go_wp2_with (at_next; refine wpList_next_ranges _ rfl _ rfl 3 Tryz.keyed3D rV (Value.int .i64) (fun v : Value => v) (fun key kl hkey => by obtain ⟨x, rfl, _⟩ := Maps.keyOf_int_inv Tryz.underlying3 hkey; exact ⟨x, rfl⟩) (fun v y _ => ⟨v, rfl⟩) M r (2 * l.length) D left cnt rfl HRG.out ?_ ?_; rotate_left; intro x c kl y w8 cnt' hkey hlk hv hat hrg' hlt hgr hsz hen; obtain ⟨x', e1, rfl, hwf⟩ := Maps.keyOf_int_inv Tryz.underlying3 hkey; injection e1 with _ e1; subst e1; have hus : usZ S l.length x = true := (HHD.out x).symm.trans (HLE.out _ hlk); obtain rfl : c = .map (some (bk x)) := rv_at hv (hat .nil) (HHV.out x hus .nil); have HSM := hide ((HMB.out _ HX.out x hus).kept hgr (HBR.out x hus)); have hlen := HSM.out.len Tryz.underlying72 3; rotate_left; intro hc0 hl0)
              · have HRE := hide (HR.out.congr (g := cosT l S ps.length) (fun j _ => by unfold cosT; rw [acc_all l S ps.length hl0]))
                go_ret2
                refine ⟨_, rfl, ?_, bStepD HB1.out (bStepD HB.out HX.out)⟩
                exact rb_slice HRE.out (by unfold maxLen; omega)
              · have hx0 : 0 ≤ x := by unfold usZ at hus; rw [Bool.and_eq_true, decide_eq_true_eq] at hus; exact hus.1
                obtain ⟨k, rfl⟩ : ∃ k : Nat, x = (k : Int) := ⟨x.toNat, by omega⟩
                have hix : ∃ i, i < l.length ∧ S.getD i 0 = (k : Int) := by
                  unfold usZ at hus
                  rw [Bool.and_eq_true, List.any_eq_true] at hus
                  obtain ⟨i, hi, h⟩ := hus.2
                  exact ⟨i, by simpa using hi, of_decide_eq_true h⟩
                obtain ⟨i0, hi0, hsi⟩ := hix
                have hkm : k < ps.length := by
                  have h1 : i0 < S.length := by rw [HSL.out]; exact hi0
                  have h2 := HBD.out i0 h1
                  rw [List.getD_eq_getElem?_getD, List.getElem?_eq_getElem h1] at hsi
                  have hsi : S[i0] = (k : Int) := hsi
                  omega
                have hprI := HPR.out i0 hi0
                have hsh0 : shB l S l.length k l[i0].pr.toNat = true := shB_iff.2 ⟨i0, hi0, hsi, by rw [dbN_at hi0]; omega⟩
                have hn1 := nSh_pos (by omega) hsh0
                have hn2 := nSh_le l S l.length k
                have HNS : Hid ((cntN 64 fun q => shZ l S l.length (k : Int) (q : Int)) = nSh l S l.length k) := rfl
                have HOX := hide (fun W hX => of_ok (n := 1) (d := ((nSh l S l.length k : Nat) : Int)) (by unfold inI64; omega) (by unfold inI64; omega) (by omega) (cos_one hn1 hn2).symm (rqT_is (cosQ (LL / nSh l S l.length k))) W hX)
                have HSZ : Hid (Sz 40 (cosQ (shrN l S k))) := cos_sz (by have := shr_le l S k; omega)
                have HSH : Hid (cosQ (LL / nSh l S l.length k) = cosQ (shrN l S k)) := rfl
                rw [HSH.out] at HOX
                rw [HNS.out] at HSM ⊢
                have HQI := hide (rqT_is (cosQ (shrN l S k)))
                obtain ⟨⟨g, s, t⟩, hgst⟩ : ∃ T, rqT (cosQ (shrN l S k)) = T := ⟨_, rfl⟩
                rw [hgst] at HOX HQI
                have HRX := hide hrg'
                have HLT := hide hlt
                have HLK := hide hlk
                have HX8 := hide (HX.out.grown hgr HX.out.size (fun b hb => by injection hb with hb; have := HRL.out; have := HOW.out; omega))
                have HR8 := hide (HR.out.kept hgr (fun e => by injection e with e; have := HRL.out; omega))
                have HO8 := hide ((World.cell?_of_block (a := ⟨O + 1, 0, none⟩) (hgr.block (O + 1) (World.block_lt_of_cell? _ _ HO.out) (fun e => by injection e with e; have := HRL.out; omega))).trans HO.out)
                have HL8 := hide (HW.out.below (bStepD HB1.out (bStepD HB.out HX8.out)))
                clear hkey hlk hv hat hrg' hlt hgr hsz hen hwf hgst hlen o0 hn1 hn2 hsh0 hprI hsi HX HR HO
                refine (HOX.out _ HL8.out).mono ?_
                rintro e w9 ⟨rfl, hb⟩
                have hg9 := grown_of_below hb
                have HRX9 := hide ((HRX.out.kept hg9 (by simp) (by simp)).alloc (.cells #[.bool g, .string s, .string t] 57))
                have hba := bAlloc (Below.refl w9.heap.size w9) (.cells #[.bool g, .string s, .string t] 57)
                have HX9 := hide (bStepD HX8.out (bStepD hb hba))
                have HR9 := hide ((HR8.out.below hb).below hba)
                have HO9 := hide (keep_cell hba (keep_cell hb HO8.out))
                have HSM9 := hide ((HSM.out.kept hg9 (by simp)).kept (grown_of_below hba) (by simp))
                have HCC : Hid (RC (w9.alloc (.cells #[.bool g, .string s, .string t] 57)) w9.heap.size g s t) := RC.new _ _ _ _ _
                have HRC9 : Hid (r < w9.heap.size) := by have h1 := HRX.out.lt; have h2 := hb.size; show _ < _; omega
                obtain ⟨C, hC⟩ : ∃ C, w9.heap.size = C := ⟨_, rfl⟩
                obtain ⟨wA, hwA⟩ : ∃ W, w9.alloc (.cells #[.bool g, .string s, .string t] 57) = W := ⟨_, rfl⟩
                have HWA := hide hwA
                have HCE := hide hC
                rw [hwA] at HRX9 HX9 HR9 HO9 HSM9 HCC
                rw [hC] at HCC HRC9
                clear hg9 hba hb hC hwA HRX HX8 HR8 HO8 HSM HL8
                obtain ⟨D2, hE1, hE2, hE3, hE4⟩ := HSM9.out
                have HE1 := hide hE1
                have HE4 := hide hE4
                clear hE1 hE2 hE3 hE4
                go_upto_region 27 with fail
                try rw [HWA.out]
                try rw [HCE.out]
                have HKO : Hid (bk (k : Int) < O) := by have h1 := (HM.out.inn (k : Int) hus).lt; have h2 := HOW.out; show _ < _; omega
                have HBI := hide (fun j (h : shZ l S l.length (k : Int) j = true) => (show ∃ jn : Nat, j = (jn : Int) ∧ jn < p ∧ shB l S l.length k jn = true from by
                  have h' := h
                  unfold shZ at h
                  rw [List.any_eq_true] at h
                  obtain ⟨i, hi, he⟩ := h
                  have he := of_decide_eq_true he
                  have hi : i < l.length := by simpa using hi
                  have hb := HPR.out i hi
                  rw [dbN_at hi] at he
                  refine ⟨j.toNat, by omega, by omega, ?_⟩
                  rw [← shZ_shB, show ((j.toNat : Nat) : Int) = j by omega]
                  exact h'))
                go_wp2_with (first | (at_range; refine wpList_range_own _ rfl _ 72 rfl 3 4 Tryz.keyed3D Tryz.underlying72 rV (bk (k : Int)) (2 * l.length) D2 rfl HE1.out ?_; intro wB hrgB hgB hsB) | go_in)
                go_frame
                have hbB := below_of_none hgB
                have HRGB := hide hrgB
                have HRXB := hide (HRX9.out.kept hgB (by simp) (by simp))
                have HXB := hide (bStepD HX9.out hbB)
                have HOB := hide (keep_cell hbB HO9.out)
                have HCB := hide (HCC.out.below hbB)
                have HRB := hide ((HR9.out.below hbB).congr (g := fun j => rqT (cosQ (accI l S ps.length left (Maps.has D2) k j))) (fun j _ => by
                  unfold accI
                  rw [HE4.out, shZ_shB]
                  cases shB l S l.length k j <;> simp))
                obtain ⟨r2, hr2⟩ : ∃ r2, wA.heap.size = r2 := ⟨_, rfl⟩
                have HCR : Hid (C < r2) := by rw [← hr2]; exact HCC.out.lt
                have HRR : Hid (r < r2) := by rw [← hr2]; exact HRX9.out.lt
                have HOR : Hid (O + 1 < r2) := by have h1 := HRL.out; have h2 := HRR.out; show _ < _; omega
                rw [hr2] at HRGB ⊢
                clear hrgB hgB hsB hbB HRX9 HX9 HO9 HCC HR9 HSM9 hr2
                go_loopw [23] (fun _ wx => ∃ (left2 : Lit → Bool) (cnt2 : Nat), wx.ranges Tryz.prog 3 rV (bk (k : Int)) r2 (2 * l.length) D2 left2 cnt2 ∧ (∀ kl, left2 kl = true → Maps.has D2 kl = true) ∧ wx.ranges Tryz.prog 3 rV M r (2 * l.length) D (fun z => left z && !z.sameKey (Lit.int .i64 (k : Int))) cnt' ∧ RB wx O p (fun j => rqT (cosQ (accI l S ps.length left left2 k j))) ∧ wx.cell? ⟨O + 1, 0, none⟩ = some (.slice (some ⟨O, 0, none⟩) p p) ∧ RC wx C g s t ∧ Below wl.heap.size wl wx) (fun _ wx => wx.rangeLeft (bk (k : Int)) r2)
                case atStart => exact ⟨_, _, HRGB.out, fun _ h => h, HRXB.out, HRB.out, HOB.out, HCB.out, HXB.out⟩
                case round =>
                  obtain ⟨left2, cnt2, hrg, hle2, hrx, hrb, hov, hcx, hbl⟩ := hrel
                  have HRG2 := hide hrg
                  have HLE2 := hide hle2
                  have HRX := hide hrx
                  have HR := hide hrb
                  have HO := hide hov
                  have HCX := hide hcx
                  have HX := hide hbl
                  clear hrg hle2 hrx hrb hov hcx hbl HRGB HRXB HRB HOB HCB HXB
                  go_wp2_with (at_next; refine wpList_next_ranges _ rfl _ rfl 3 Tryz.keyed3D rV (Value.int .i64) (fun v : Value => v) (fun key kl hkey => by obtain ⟨x, rfl, _⟩ := Maps.keyOf_int_inv Tryz.underlying3 hkey; exact ⟨x, rfl⟩) (fun v y _ => ⟨v, rfl⟩) (bk (k : Int)) r2 (2 * l.length) D2 left2 cnt2 rfl HRG2.out ?_ ?_; rotate_left; intro y c kl yy wD cnt3 hkey hlk2 hv hat hrg2 hlt2 hgr2 hsz hen; obtain ⟨y', e1, rfl, hwf⟩ := Maps.keyOf_int_inv Tryz.underlying3 hkey; injection e1 with _ e1; subst e1; obtain ⟨q0, q1, q2, -, -, -⟩ := HCX.out.kept hgr2 (fun e => by injection e with e; have := HCR.out; omega); rotate_left; intro hc0 hl0)
                  · have HRE := hide (HR.out.congr (g := fun j => rqT (cosQ (accN l S ps.length (fun z => left z && !z.sameKey (Lit.int .i64 (k : Int))) j))) (fun j _ => by
                      show _ = rqT (cosQ (accN l S ps.length (fun z => left z && !z.sameKey (kI (k : Int))) j))
                      rw [accI_end l S hkm HLK.out hl0]))
                    have HLN : Hid (∀ kl, (left kl && !kl.sameKey (Lit.int .i64 (k : Int))) = true → Maps.has D kl = true) := fun kl h => HLE.out kl (by rw [Bool.and_eq_true] at h; exact h.1)
                    refine ⟨⟨_, cnt', HRX.out, HLN.out, HRE.out, HO.out, HX.out⟩, ?_⟩
                    rw [HRX.out.left_eq, HRG.out.left_eq]
                    exact HLT.out
                  · obtain ⟨j, rfl, hjp, hsj⟩ := HBI.out y ((HE4.out y).symm.trans (HLE2.out _ hlk2))
                    have HL2 := hide hlk2
                    have HLT2 := hide hlt2
                    have HSJ := hide hsj
                    have hMO : M < O := by have h1 := HM.out.map.lt; have h2 := HOW.out; omega
                    have hkO := HKO.out
                    have h3 := HRL.out
                    have h4 := HRR.out
                    have h5 := HRC9.out
                    have h6 := HCR.out
                    have h7 := HOW.out
                    have HRGD := hide hrg2
                    have HRXD := hide (HRX.out.kept hgr2 (by simp; omega) (by simp; omega))
                    have HRD := hide (HR.out.kept hgr2 (by simp; omega))
                    have HCD := hide (HCX.out.kept hgr2 (by simp; omega))
                    have HOD := hide ((World.cell?_of_block (a := ⟨O + 1, 0, none⟩) (hgr2.block (O + 1) (World.block_lt_of_cell? _ _ HO.out) (by simp; omega))).trans HO.out)
                    have HXD := hide (HX.out.grown hgr2 HX.out.size (fun b hb => by injection hb with hb; omega))
                    have HAD := hide (fun W (hW : Below wD.heap.size wD W) => add_okq (cos_sz (a := accI l S ps.length left left2 k j) (Nat.le_trans (accI_le l S ps.length left left2 k j) (Nat.mul_le_mul_right _ (by omega)))) HSZ.out (by omega) (cos_add _ _) (rqT_is _) HQI.out (rqT_is (cosQ (accI l S ps.length left left2 k j + shrN l S k))) W (HW.out.below (bStepD HB1.out (bStepD HB.out (bStepD HXD.out hW)))))
                    clear q0 q1 q2 hkey hlk2 hv hat hrg2 hlt2 hgr2 hsz hen hwf hsj
                    refine (de_charge p j O (O + 1) p (fun j => rqT (cosQ (accI l S ps.length left left2 k j))) g _ s t _ _ wD hjp (by omega) ⟨by omega, by omega⟩ HOD.out (by omega) HRD.out HAD.out).mono ?_
                    rintro e wE ⟨rfl, hrb, hgO⟩
                    have HRE := hide (hrb.congr (g := fun i => rqT (cosQ (accI l S ps.length left (fun z => left2 z && !z.sameKey (Lit.int .i64 (j : Int))) k i))) (fun i _ => by
                      show _ = rqT (cosQ (accI l S ps.length left (fun z => left2 z && !z.sameKey (kI (j : Int))) k i))
                      rw [accI_step l S ps.length left left2 k j i HSJ.out HL2.out]
                      by_cases e : i = j
                      · rw [if_pos e, if_pos e]
                      · rw [if_neg e, if_neg e]))
                    have HRGE := hide (HRGD.out.kept hgO (by simp; omega) (by simp; omega))
                    have HRXE := hide (HRXD.out.kept hgO (by simp; omega) (by simp; omega))
                    have HCE2 := hide (HCD.out.kept hgO (by simp; omega))
                    have HOE := hide ((World.cell?_of_block (a := ⟨O + 1, 0, none⟩) (hgO.block (O + 1) (World.block_lt_of_cell? _ _ HOD.out) (by simp))).trans HOD.out)
                    have HXE := hide (HXD.out.grown hgO HXD.out.size (fun b hb => by injection hb with hb; omega))
                    have HLN2 : Hid (∀ kl, (left2 kl && !kl.sameKey (Lit.int .i64 (j : Int))) = true → Maps.has D2 kl = true) := fun kl h => HLE2.out kl (by rw [Bool.and_eq_true] at h; exact h.1)
                    clear hrb hgO hMO hkO h3 h4 h5 h6 h7
                    go_wp2_with fail
                    refine ⟨?_, ?measure⟩
                    · first
                        | exact ⟨_, cnt3, HRGE.out, HLN2.out, HRXE.out, HRE.out, HOE.out, HCE2.out, HXE.out⟩
                        | ((repeat apply Exists.intro)
                           refine ⟨?rel, rfl⟩
                           case rel => exact ⟨_, cnt3, HRGE.out, HLN2.out, HRXE.out, HRE.out, HOE.out, HCE2.out, HXE.out⟩)
                    case measure =>
                      rw [HRGE.out.left_eq, HRG2.out.left_eq]
                      exact HLT2.out
end Go.Proofs.YtlagoiaiodjmhaaGreatDoor
