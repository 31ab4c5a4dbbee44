/- law 18: the reference's Split. -/
import Derived.Test.YtlagoiaiodjmhaaGreatDoorDrD
import Derived.Test.YtlagoiaiodjmhaaGreatDoorDeZ
import Derived.Test.YtlagoiaiodjmhaaGreatDoorRgV
import Derived.BigGuard
set_option linter.unusedVariables false
set_option linter.unusedSimpArgs false
namespace Go.Proofs.YtlagoiaiodjmhaaGreatDoor
open Go.RowKit

/-- A block of rational numbers from a place on. -/
structure RO (w : World) (b o n : Nat) (f : Nat → Bool × ByteArray × ByteArray) : Prop where
  c : ∀ i, i < n → w.cell? ⟨b, o + i * 3, none⟩ = some (.bool (f i).1) ∧ w.cell? ⟨b, o + i * 3 + 1, none⟩ = some (.string (f i).2.1) ∧ w.cell? ⟨b, o + i * 3 + 2, none⟩ = some (.string (f i).2.2)
  z : ∀ i, i < n → w.frozen? ⟨b, o + i * 3, none⟩ = false ∧ w.frozen? ⟨b, o + i * 3 + 1, none⟩ = false ∧ w.frozen? ⟨b, o + i * 3 + 2, none⟩ = false
  lt : b < w.heap.size
theorem RO.below {w w' : World} {b o n : Nat} {f : Nat → Bool × ByteArray × ByteArray} (h : RO w b o n f) (hb : Below w.heap.size w w') : RO w' b o n f := by
  have e := hb.block b h.lt
  refine ⟨fun i hi => ?_, fun i hi => ?_, Nat.lt_of_lt_of_le h.lt hb.size⟩
  · obtain ⟨h1, h2, h3⟩ := h.c i hi
    exact ⟨keep_cell hb h1, keep_cell hb h2, keep_cell hb h3⟩
  · obtain ⟨h1, h2, h3⟩ := h.z i hi
    exact ⟨(hb.frozen (p := ⟨b, o + i * 3, none⟩) h.lt).trans h1, (hb.frozen (p := ⟨b, o + i * 3 + 1, none⟩) h.lt).trans h2, (hb.frozen (p := ⟨b, o + i * 3 + 2, none⟩) h.lt).trans h3⟩
theorem RO.congr {w : World} {b o n : Nat} {f g : Nat → Bool × ByteArray × ByteArray} (h : RO w b o n f) (e : ∀ i, i < n → f i = g i) : RO w b o n g := ⟨fun i hi => by rw [← e i hi]; exact h.c i hi, h.z, h.lt⟩
theorem RO.set {w : World} {b o n : Nat} {f : Nat → Bool × ByteArray × ByteArray} (h : RO w b o n f) {i : Nat} (hi : i < n) (g : Bool) (s t : ByteArray) :
    RO (((w.setCell ⟨b, o + i * 3, none⟩ (.bool g)).setCell ⟨b, o + i * 3 + 1, none⟩ (.string s)).setCell ⟨b, o + i * 3 + 2, none⟩ (.string t)) b o n (fun j => if j = i then (g, s, t) else f j) := by
  have ne : ∀ {x y : Nat}, x ≠ y → (⟨b, x, none⟩ : Addr) ≠ ⟨b, y, none⟩ := fun h e => h (by injection e)
  have far : ∀ x, x ≠ o + i * 3 → x ≠ o + i * 3 + 1 → x ≠ o + i * 3 + 2 → (((w.setCell ⟨b, o + i * 3, none⟩ (.bool g)).setCell ⟨b, o + i * 3 + 1, none⟩ (.string s)).setCell ⟨b, o + i * 3 + 2, none⟩ (.string t)).cell? ⟨b, x, none⟩ = w.cell? ⟨b, x, none⟩ := fun x h0 h1 h2 => by
    rw [World.cell?_setCell_other _ _ _ _ (ne h2.symm), World.cell?_setCell_other _ _ _ _ (ne h1.symm), World.cell?_setCell_other _ _ _ _ (ne h0.symm)]
  refine ⟨fun j hj => ?_, fun j hj => by simp only [World.frozen?_setCell]; exact h.z j hj, by simpa using h.lt⟩
  by_cases e : j = i
  · subst e
    simp only [if_true]
    obtain ⟨c0, c1, c2⟩ := h.c j hj
    refine ⟨?_, ?_, ?_⟩
    · rw [World.cell?_setCell_other _ _ _ _ (ne (by omega)), World.cell?_setCell_other _ _ _ _ (ne (by omega))]
      exact World.cell?_setCell_same _ _ _ c0
    · rw [World.cell?_setCell_other _ _ _ _ (ne (by omega))]
      exact World.cell?_setCell_same _ _ _ ((World.cell?_setCell_other _ _ _ _ (ne (by omega))).trans c1)
    · exact World.cell?_setCell_same _ _ _ ((World.cell?_setCell_other _ _ _ _ (ne (by omega))).trans ((World.cell?_setCell_other _ _ _ _ (ne (by omega))).trans c2))
  · simp only [if_neg e]
    obtain ⟨c0, c1, c2⟩ := h.c j hj
    exact ⟨(far _ (by omega) (by omega) (by omega)).trans c0, (far _ (by omega) (by omega) (by omega)).trans c1, (far _ (by omega) (by omega) (by omega)).trans c2⟩
theorem RO.slice {w : World} {b o n cp : Nat} {f : Nat → Bool × ByteArray × ByteArray} (h : RO w b o n f) (h1 : n ≤ cp) (h2 : cp ≤ maxLen) : SliceOf vRt 3 w (.slice (some ⟨b, o, none⟩) n cp) ((List.range n).map f) := by
  have hl : ((List.range n).map f).length = n := by simp
  refine .inr ⟨b, o, cp, by rw [hl], h.lt, by rw [hl]; exact h1, h2, fun i hi j u hu => ?_⟩
  have hi' : i < n := by rw [hl] at hi; exact hi
  rw [List.getElem_map, List.getElem_range] at hu
  obtain ⟨c0, c1, c2⟩ := h.c i hi'
  have hj : j < 3 := (List.getElem?_eq_some_iff.1 hu).1
  match j, hj with
  | 0, _ => injection hu with hu; subst hu; exact c0
  | 1, _ => injection hu with hu; subst hu; exact c1
  | 2, _ => injection hu with hu; subst hu; exact c2
theorem RO.of_own {w : World} {B n : Nat} {v : Value} {x : Bool × ByteArray × ByteArray} (h : OwnS w B 3 v n (flatV vRt (List.replicate n x))) (hn : 0 < n) : ∃ g off cap, v = .slice (some ⟨g, off, none⟩) n cap ∧ B ≤ g ∧ n ≤ cap ∧ cap ≤ maxLen ∧ RO w g off n (fun _ => x) := by
  rcases h.2 with ⟨ao, _, h2, _⟩ | ⟨g, off, cap, hv, hb, hlt, hnc, hm, hc, hx⟩
  · omega
  refine ⟨g, off, cap, hv, hb, hnc, hm, fun i hi => ?_, fun i hi => ?_, hlt⟩
  · have hi' : i < (List.replicate n x).length := by rw [List.length_replicate]; exact hi
    have e : ∀ j, j < 3 → (flatV vRt (List.replicate n x))[i * 3 + j]? = (vRt x)[j]? := fun j hj => by
      rw [flatV_get vRt_len _ i hi' j hj, List.getElem_replicate]
    exact ⟨hx (i * 3) _ (by have := e 0 (by omega); rw [Nat.add_zero] at this; exact this), hx (i * 3 + 1) _ (e 1 (by omega)), hx (i * 3 + 2) _ (e 2 (by omega))⟩
  · have h3 : i * 3 + 2 < cap * 3 := by omega
    exact ⟨(hc (i * 3) (by omega)).2, (hc (i * 3 + 1) (by omega)).2, (hc (i * 3 + 2) h3).2⟩
theorem BD.far3 {w w' : World} {b n g x y z : Nat} {f : Nat → Bool} {u v q : Value} (h : BD w b n f) (hb : Below w.heap.size w w') (hne : b ≠ g) : BD (((w'.setCell ⟨g, x, none⟩ u).setCell ⟨g, y, none⟩ v).setCell ⟨g, z, none⟩ q) b n f := by
  have ne : ∀ i j, (⟨g, j, none⟩ : Addr) ≠ ⟨b, i, none⟩ := fun i j e => hne (by injection e with e; exact e.symm)
  refine ⟨fun i hi => ?_, fun i hi => ?_, by have := hb.size; have := h.lt; simp; omega⟩
  · rw [World.cell?_setCell_other _ _ _ _ (ne _ _), World.cell?_setCell_other _ _ _ _ (ne _ _), World.cell?_setCell_other _ _ _ _ (ne _ _)]
    exact keep_cell hb (h.c i hi)
  · simp only [World.frozen?_setCell]
    exact (hb.frozen (p := ⟨b, i, none⟩) h.lt).trans (h.f i hi)
theorem r18_of (n d : Nat) (hn : n ≤ 1000) (hd : d ≤ 1000) (h0 : 0 < d) (q : Rat) (g : Bool) (s t : ByteArray) (e : ofQ (n : Int) (d : Int) = q) (hq : IsQ q g s t) (W : World) :
    Calls Tryz.prog 37 #[.int .i64 (n : Int), .int .i64 (d : Int)] W fun e w' => e = .returned (.tuple #[.agg #[.bool g, .string s, .string t], .int .i64 0]) ∧ Below W.heap.size W w' := by
  have hnd : ((d : Int) ≠ 0) := by omega
  have ra : ∀ x : Int, -9223372036854775808 ≤ x → x ≤ 9223372036854775807 → RA x (natS x.natAbs) := fun x h h' W => (ref04_abs x W h h').mono fun _ _ ⟨p, q⟩ => ⟨p, by rw [← q]; exact Below.refl _ _⟩
  have hc : ∀ n : Nat, n ≤ 1000 → n < capK 999 := fun n hn => Nat.lt_of_lt_of_le (show n < capK 20 from Nat.lt_of_le_of_lt hn (by unfold capK; decide +kernel)) (capK_le (by decide))
  rw [← e] at hq
  exact r4_of1 (n : Int) (d : Int) _ _ _ _ g s t W (ra _ (by omega) (by omega)) (ra _ (by omega) (by omega)) (r4_lowest _ (hc _ (by omega)) (hc _ (by omega)) (by omega) (by rw [mkQ_ofQ _ _ hnd]; exact hq)) rfl rfl (by rw [beq_eq_false_iff_ne]; exact hnd)
theorem nSh_cnt {l : List Db} {S : List Int} {p : Nat} (hp : p ≤ 64) (h : ∀ i, i < l.length → ∃ q : Nat, (dbN l i).pr = (q : Int) ∧ q < p) (k : Nat) : nSh l S l.length k = cntN p (shB l S l.length k) := by
  unfold nSh
  rw [show 64 = p + (64 - p) by omega]
  refine cntN_more (fun q hq => ?_) (64 - p)
  rw [Bool.eq_false_iff]
  intro hs
  obtain ⟨i, hi, _, h2⟩ := shB_iff.1 hs
  obtain ⟨q', hq', hlt⟩ := h i hi
  omega
theorem cst_none {l : List Db} {S : List Int} {p k q : Nat} (hq : q < p) (h : cntN p (shB l S l.length k) = 0) : cstN l S (k + 1) q = cstN l S k q := by
  have hs : shB l S l.length k q = false := by
    rw [Bool.eq_false_iff]
    intro hs
    have := cntN_pos (f := shB l S l.length k) (m := p) ⟨q, hq, hs⟩
    omega
  show cstN l S k q + trmN l S q k = _
  unfold trmN
  rw [if_neg (by rw [hs]; simp)]; rfl
theorem cst_not {l : List Db} {S : List Int} {k q : Nat} (hs : shB l S l.length k q = false) : cstN l S (k + 1) q = cstN l S k q := by
  show cstN l S k q + trmN l S q k = _
  unfold trmN
  rw [if_neg (by rw [hs]; simp)]; rfl
theorem cst_is {l : List Db} {S : List Int} {k q : Nat} (hs : shB l S l.length k q = true) : cstN l S (k + 1) q = cstN l S k q + LL / nSh l S l.length k := by
  show cstN l S k q + trmN l S q k = _
  unfold trmN shrN
  rw [if_pos hs]

set_option maxHeartbeats 16000000 in
set_option maxRecDepth 100000 in
theorem r18_split (l : List Db) (ps : List Py) (m P : Int) (hl : l.length ≤ 1002) (hps : ps.length ≤ 1002) (v1 v2 : Value) (w : World) (h1 : SliceOf vDb 6 w v1 l) (h2 : SliceOf vPy 4 w v2 ps) :
    Calls Tryz.prog 18 #[v1, v2, .int .i64 m, .int .i64 P] w fun e w' => ∃ u, e = .returned (.tuple #[u, .int .i64 (splE l ps m P)]) ∧ SliceOf vRt 3 w' u (splL l ps m P) ∧ Below w.heap.size w w' := by
  have H1 := hide h1
  have H2 := hide h2
  have HST := hide (r18_settle l ps m hl hps v1 v2 w h1 h2)
  have HWI := hide (fun n lo hi W => r18_within n lo hi W)
  obtain ⟨a1, c1, rfl⟩ := h1.shape
  obtain ⟨a2, c2, rfl⟩ := h2.shape
  clear h1 h2
  obtain ⟨b, hb⟩ : ∃ b, splB l ps m P = b := ⟨_, rfl⟩
  have HBE := hide hb
  have HE1 : Hid (splL l ps m P = cond b ((List.range P.toNat).map (cosT l (setL l ps m) ps.length)) []) := by show _ = _; unfold splL; rw [hb]; cases b <;> rfl
  have HE2 : Hid (splE l ps m P = cond b 0 1) := by show _ = _; unfold splE; rw [hb]; cases b <;> rfl
  rw [HE1.out, HE2.out]
  clear hb HE1 HE2
  rcases Bool.eq_false_or_eq_true (vlD l ps m) with hv | hv
  case inr =>
    obtain rfl : b = false := by rw [← HBE.out]; unfold splB; rw [hv, Bool.false_and]
    have HE2 : Hid (stE l ps m = 1) := by show _ = _; unfold stE; rw [hv]; rfl
    rw [HE2.out] at HST
    clear hv HE2
    go_enter Tryz.func18, Tryz.ntmps18
    go_wp2_with fail
    refine HST.out.mono ?_
    rintro e w1 ⟨u, rfl, -, hb⟩
    have HB1 := hide hb
    clear hb
    go_wp2_with fail
    go_ret2
    exact ⟨_, rfl, .inl ⟨none, rfl, rfl⟩, HB1.out⟩
  have HE3 : Hid (stL l ps m = setL l ps m) := by show _ = _; unfold stL; rw [hv]; rfl
  have HE4 : Hid (stE l ps m = 0) := by show _ = _; unfold stE; rw [hv]; rfl
  rw [HE3.out, HE4.out] at HST
  obtain ⟨n1, n2, -, hdv, -⟩ := vlD_iff.1 hv
  have hlI : (l.length : Int) ≤ 1000 := by omega
  have hpI : (ps.length : Int) ≤ 1000 := by omega
  have HPV : Hid (∀ i (h : i < l.length), ∃ q : Nat, l[i].pr = (q : Int)) := fun i h => by
    have h5 := hdv i h
    unfold dbB at h5
    simp only [Bool.and_eq_true, decide_eq_true_eq] at h5
    exact ⟨l[i].pr.toNat, by omega⟩
  have HNP : Hid (ps.length ≤ 1000) := n2
  have HBQ : Hid (((decide ((1 : Int) ≤ P) && decide (P ≤ 64)) && prB l P) = b) := by
    show _ = _
    rw [← HBE.out]; unfold splB; rw [hv, Bool.true_and]
  clear hv hdv HBE HE3 HE4
  have HSL : Hid ((setL l ps m).length = l.length) := setL_len l ps m
  obtain ⟨S, hS⟩ : ∃ S, setL l ps m = S := ⟨_, rfl⟩
  rw [hS] at HST HSL
  rw [hS]
  clear hS
  obtain ⟨q3, hq3⟩ : ∃ q, (decide ((1 : Int) ≤ P) && decide (P ≤ 64)) = q := ⟨_, rfl⟩
  rw [hq3] at HBQ
  have HQ3 := hide hq3
  cases q3 with
  | false =>
    obtain rfl : b = false := by rw [← HBQ.out, Bool.false_and]
    clear hq3
    go_enter Tryz.func18, Tryz.ntmps18
    go_wp2_with fail
    refine HST.out.mono ?_
    rintro e w1 ⟨u, rfl, -, hb⟩
    have HB1 := hide hb
    clear hb
    go_wp2_with fail
    refine (HWI.out _ _ _ _).mono ?_
    rintro e w2 ⟨rfl, rfl⟩
    have hp := HQ3.out
    rw [hp]
    clear hp
    go_wp2_with fail
    go_ret2
    exact ⟨_, rfl, .inl ⟨none, rfl, rfl⟩, HB1.out⟩
  | true =>
  rw [Bool.and_eq_true, decide_eq_true_eq, decide_eq_true_eq] at hq3
  obtain ⟨p, rfl⟩ : ∃ p : Nat, P = (p : Int) := ⟨P.toNat, by omega⟩
  have hp1 : 1 ≤ p := by omega
  have hp64 : p ≤ 64 := by omega
  have hp64I : (p : Int) ≤ 64 := by omega
  rw [Int.toNat_natCast]
  obtain ⟨s, t, hT⟩ : ∃ s t : Nat → ByteArray, ∀ a, rqT (cosQ a) = (false, s a, t a) := ⟨fun a => (rqT (cosQ a)).2.1, fun a => (rqT (cosQ a)).2.2, fun a => by
    show rqT (cosQ a) = (false, (rqT (cosQ a)).2.1, (rqT (cosQ a)).2.2)
    rw [show false = (rqT (cosQ a)).1 from (cos_ng a).symm]⟩
  have HTI : Hid (∀ a, IsQ (cosQ a) false (s a) (t a)) := fun a => by
    have h := rqT_is (cosQ a)
    rw [hT] at h; exact h
  have HXE : Hid ((List.range p).map (cosT l S ps.length) = (List.range p).map fun k => (false, s (cstN l S ps.length k), t (cstN l S ps.length k))) := by
    show _ = _
    refine List.map_congr_left fun k _ => ?_
    unfold cosT
    rw [hT]
  rw [HXE.out]
  clear hT hq3 HXE n1 n2
  have HBAD : Hid (∀ i (h : i < l.length), ¬ l[i].pr < (p : Int) → b = false) := fun i h hn => by
    rw [← HBQ.out, Bool.true_and]
    unfold prB
    rw [List.all_eq_false]
    exact ⟨_, List.getElem_mem h, by simpa using hn⟩
  have HGOOD : Hid ((∀ i (h : i < l.length), l[i].pr < (p : Int)) → b = true) := fun h => by
    rw [← HBQ.out, Bool.true_and]
    unfold prB
    rw [List.all_eq_true]
    intro x hx
    obtain ⟨j, hj, rfl⟩ := List.getElem_of_mem hx
    exact decide_eq_true (h j hj)
  clear HBQ
  go_enter Tryz.func18, Tryz.ntmps18
  go_wp2_with fail
  refine HST.out.mono ?_
  rintro e w1 ⟨u, rfl, hs, hb⟩
  have HB1 := hide hb
  have HS := hide hs
  obtain ⟨aa, ca, rfl⟩ := hs.shape
  rw [HSL.out] at HS
  rw [HSL.out]
  clear hb hs HST
  go_wp2_with fail
  refine (HWI.out _ _ _ _).mono ?_
  rintro e w2 ⟨rfl, rfl⟩
  have hp := HQ3.out
  rw [hp]
  clear hp
  go_wp2_with fail
  go_loopw [12] (fun i wx => ∃ k : Nat, k ≤ l.length ∧ i = .int .i64 (k : Int) ∧ Below w2.heap.size w2 wx ∧ ∀ j (hj : j < l.length), j < k → l[j].pr < (p : Int)) (fun i _ => l.length - (intOf i).toNat)
  case atStart => exact ⟨0, Nat.zero_le _, rfl, Below.refl _ _, fun j _ h => absurd h (Nat.not_lt_zero _)⟩
  case round =>
    obtain ⟨k, hk, rfl, hbl, hok⟩ := hrel
    have HOK := hide hok
    have HBL := hide hbl
    clear hok hbl
    by_cases hlt : k < l.length
    · have hkI : (k : Int) < (l.length : Int) := by omega
      have hk0 : (0 : Int) ≤ (k : Int) := by omega
      obtain ⟨bd, od, rfl, g1, g2, hd⟩ := H1.out.dbAt (bStepD HB1.out HBL.out) hlt
      have x5 := hd.2.2.2.2.2
      have HBK := hide (HBAD.out k hlt)
      have HNX : Hid (l[k].pr < (p : Int) → ∀ j (hj : j < l.length), j < k + 1 → l[j].pr < (p : Int)) := fun h j hj hjk => by
        by_cases e : j = k
        · subst e; exact h
        · exact HOK.out j hj (by omega)
      obtain ⟨y, hy⟩ : ∃ y, l[k].pr = y := ⟨_, rfl⟩
      rw [hy] at x5 HBK HNX
      clear hy hd
      by_cases hyp : y < (p : Int)
      · have e1 : decide ((p : Int) ≤ y) = false := decide_eq_false (by omega)
        have HNY := hide (HNX.out hyp)
        clear hyp HBK HNX
        go_wp2_with fail
        first
          | (go_roundw
             case rel => exact ⟨k + 1, by omega, by go_num, HBL.out, HNY.out⟩
             case measure => (simp [intOf]; omega))
          | (refine ⟨⟨k + 1, by omega, by go_num, HBL.out, HNY.out⟩, ?_⟩
             simp [intOf]; omega)
      · have e1 : decide ((p : Int) ≤ y) = true := decide_eq_true (by omega)
        obtain rfl : b = false := HBK.out (by omega)
        clear hyp HBK HNX
        go_wp2_with fail
        go_ret2
        exact ⟨_, rfl, .inl ⟨none, rfl, rfl⟩, bStepD HB1.out HBL.out⟩
    · obtain rfl : k = l.length := by omega
      obtain rfl : b = true := HGOOD.out (fun i h => HOK.out i h h)
      have HPR : Hid (∀ i, i < l.length → ∃ q : Nat, (dbN l i).pr = (q : Int) ∧ q < p) := fun i hi => by
        rw [dbN_at hi]
        obtain ⟨q, hq⟩ := HPV.out i hi
        have := HOK.out i hi hi
        exact ⟨q, hq, by omega⟩
      have HBS := hide (bStepD HB1.out HBL.out)
      have HS := hide (HS.out.below HBL.out)
      clear HBAD HGOOD HOK HPV HBL HB1
      obtain ⟨wS, rfl⟩ : ∃ W, W = wr := ⟨wr, rfl⟩
      have HOF0 := hide (fun W => r18_of 0 1 (by omega) (by omega) (by omega) (cosQ 0) false (s 0) (t 0) (by rw [cos_zero]; unfold ofQ; rw [Rat.div_def]; exact Rat.zero_mul _) (HTI.out 0) W)
      obtain ⟨i0, hi, hz0, hz1, hz2⟩ := info_parts Tryz.infoRatD
      have HRL : Hid ((List.replicate p (false, s 0, t 0)).length = p) := List.length_replicate
      go_wp2_with fail
      go_loopw [13, 14] (fun u i wx => ∃ k : Nat, k ≤ p ∧ i = .int .i64 (k : Int) ∧ Bld vRt 3 wS wx (List.replicate p (false, s 0, t 0)) u k) (fun _ i _ => p - (intOf i).toNat)
      case atStart => exact ⟨0, Nat.zero_le _, rfl, Bld.nil _ _ _ _⟩
      case round =>
        obtain ⟨k, hk, rfl, hst⟩ := hrel
        have HST := hide hst
        clear hst
        by_cases hkp : k < p
        · have hkI : (k : Int) < (p : Int) := by omega
          have hk0 : (0 : Int) ≤ (k : Int) := by omega
          go_wp2_with fail
          refine (HOF0.out _).mono ?_
          rintro e w3 ⟨rfl, hb⟩
          have HST := hide (HST.out.keep hb)
          clear hb
          have HRC : RC (w3.alloc (.cells #[.bool false, .string (s 0), .string (t 0)] 57)) w3.heap.size false (s 0) (t 0) := RC.new w3 false (s 0) (t 0) 57
          have HST2 := HST.out.keep (bAlloc (Below.refl w3.heap.size w3) (.cells #[.bool false, .string (s 0), .string (t 0)] 57))
          go_upto_region 14 with fail
          obtain ⟨w4, hw4⟩ : ∃ W, w3.alloc (.cells #[.bool false, .string (s 0), .string (t 0)] 57) = W := ⟨_, rfl⟩
          obtain ⟨X, hX⟩ : ∃ X, w3.heap.size = X := ⟨_, rfl⟩
          rw [hw4] at HRC HST2
          rw [hX] at HRC
          rw [hw4, hX]
          clear hw4 hX HST
          have HST2 := hide HST2
          obtain ⟨c0, c1', c2', _, _, _⟩ := HRC
          have HOW := hide HST2.out.own
          have HSZ := hide HST2.out.below.size
          have H1c : Hid (∀ u ∈ (#[Value.bool false, Value.string (s 0), Value.string (t 0)] : Array Value).toList, u.oneCell' = true) := by
            intro u hu
            simp at hu
            rcases hu with rfl | rfl | rfl <;> rfl
          have hbytes : (k + 1) * 40 ≤ 140737488355328 := by omega
          have hkM : k < (List.replicate p (false, s 0, t 0)).length := by rw [HRL.out]; exact hkp
          have HG : Hid ((List.replicate p (false, s 0, t 0))[k] = (false, s 0, t 0)) := List.getElem_replicate ..
          go_wp2_with (at_builtin; refine wpList_appendS rfl _ _ 38 rfl wS.heap.size 57 i0 (.agg #[.bool false, .string ⟨#[]⟩, .string ⟨#[]⟩]) 3 40 Tryz.underlying38 hi hz0 hz1 hz2 rfl (by decide) _ k (flatV vRt ((List.replicate p (false, s 0, t 0)).take k)) rfl HOW.out #[.bool false, .string (s 0), .string (t 0)] 57 1 rfl rfl H1c.out hbytes (by decide) HSZ.out ?_)
          intro g off' cap' w5 hown4 hg4 hb4 hat4
          have ht : (List.replicate p (false, s 0, t 0)).take k = List.replicate k (false, s 0, t 0) := by rw [List.take_replicate, Nat.min_eq_left (by omega)]
          try rw [← ht] at hown4
          clear ht
          have HN := hide (HST2.out.step (Below.refl _ _) hkM HG.out rfl hown4 hg4)
          clear hown4 hg4 hb4 hat4
          go_wp2_with fail
          first
            | (go_roundw
               case rel => exact ⟨k + 1, by omega, by go_num, HN.out⟩
               case measure => (simp [intOf]; omega))
            | (refine ⟨⟨k + 1, by omega, by go_num, HN.out⟩, ?_⟩
               simp [intOf]; omega)
        · have hkk : k = p := by omega
          have dkp : decide ((k : Int) < (p : Int)) = false := decide_eq_false (by omega)
          rw [hkk] at HST
          clear hkk hk
          have dkpn : decide (k < p) = false := decide_eq_false hkp
          have HOA : OwnS wr wS.heap.size 3 u13 p (flatV vRt (List.replicate p (false, s 0, t 0))) := by
            have h := Bld.own_all (M := List.replicate p (false, s 0, t 0)) (by rw [HRL.out]; exact HST.out)
            rw [HRL.out] at h
            exact h
          obtain ⟨g, off, cp, rfl, hgB, hncp, hcm, hro⟩ := RO.of_own HOA hp1
          have HGB := hide hgB
          have HBB := hide HST.out.below
          have HRO0 : Hid (RO wr g off p (fun j => (false, s (cstN l S 0 j), t (cstN l S 0 j)))) := hro.congr (fun j _ => rfl)
          have hcp1 : (p : Int) ≤ (cp : Int) := by omega
          have hcp2 : (cp : Int) ≤ 9223372036854775807 := by unfold maxLen at hcm; omega
          have HNC := hide hncp
          have HCM := hide hcm
          clear HOA hgB hncp hcm hro HST hi hz0 hz1 hz2 HOF0
          go_wp2_with fail
          go_loopw [17] (fun i wx => ∃ k : Nat, k ≤ ps.length ∧ i = .int .i64 (k : Int) ∧ RO wx g off p (fun j => (false, s (cstN l S k j), t (cstN l S k j))) ∧ Below wS.heap.size wS wx) (fun i _ => ps.length - (intOf i).toNat)
          case atStart => exact ⟨0, Nat.zero_le _, rfl, HRO0.out, HBB.out⟩
          case round =>
            obtain ⟨k, hk, rfl, hro, hbl⟩ := hrel
            have HRO := hide hro
            have HBL := hide hbl
            clear hro hbl HRO0 HBB
            by_cases hkn : k < ps.length
            · have hkI : (k : Int) < (ps.length : Int) := by omega
              have hk0 : (0 : Int) ≤ (k : Int) := by omega
              obtain ⟨wK, rfl⟩ : ∃ W, W = wr := ⟨wr, rfl⟩
              have hmk := run_make_row' (P := Tryz.prog) 54 4 (.bool false) 1 Tryz.underlying54 Tryz.infoB4D rfl .i64 .i64 p (by omega) (by omega)
              have HBM := hide (BD.made wK p 4)
              have HB0 := hide (bAlloc (Below.refl wK.heap.size wK) (.cells (madeCells #[.bool false] p) 4))
              have HC0 : Hid ((0 : Int) = ((cntN p (shB l S 0 k) : Nat) : Int)) := by
                show _ = _
                rw [show shB l S 0 k = fun _ => false from rfl, cntN_zero]; rfl
              go_wp2_with fail
              clear hmk
              go_loopw [19, 20] (fun n i wx => ∃ j : Nat, j ≤ l.length ∧ n = .int .i64 ((cntN p (shB l S j k) : Nat) : Int) ∧ i = .int .i64 (j : Int) ∧ BD wx wK.heap.size p (shB l S j k) ∧ Below wK.heap.size wK wx) (fun _ i _ => l.length - (intOf i).toNat)
              case atStart => exact ⟨0, Nat.zero_le _, congrArg (Value.int .i64) HC0.out, rfl, HBM.out, HB0.out⟩
              case round =>
                obtain ⟨j, hj, rfl, rfl, hbd, hbl⟩ := hrel
                have HBD := hide hbd
                have HBJ := hide hbl
                clear hbd hbl HBM HB0 HC0
                by_cases hjl : j < l.length
                · have hjI : (j : Int) < (l.length : Int) := by omega
                  have hj0 : (0 : Int) ≤ (j : Int) := by omega
                  obtain ⟨ba, oa, rfl, g1, g2, ha⟩ := HS.out.inAt HSL.out (bStepD HBL.out HBJ.out) hjl
                  obtain ⟨bd, od, rfl, g3, g4, hd⟩ := H1.out.dbAt (bStepD HBS.out (bStepD HBL.out HBJ.out)) hjl
                  have x5 := hd.2.2.2.2.2
                  obtain ⟨qp, hqp1, hqp2⟩ := HPR.out j hjl
                  rw [dbN_at hjl] at hqp1
                  rw [hqp1] at x5
                  have HSU : Hid (∀ q, shB l S (j + 1) k q = (shB l S j k q || decide (S.getD j 0 = (k : Int) ∧ (qp : Int) = (q : Int)))) := fun q => by rw [shB_succ, dbN_at hjl, hqp1]
                  have hqI : (qp : Int) < (p : Int) := by omega
                  have hq0 : (0 : Int) ≤ (qp : Int) := by omega
                  have hcn : ((cntN p (shB l S j k) : Nat) : Int) ≤ 64 := by have := cntN_le (shB l S j k) p; omega
                  have hcn0 : (0 : Int) ≤ ((cntN p (shB l S j k) : Nat) : Int) := by omega
                  obtain ⟨x, hx⟩ : ∃ x, S.getD j 0 = x := ⟨_, rfl⟩
                  rw [hx] at ha HSU
                  clear hd hqp1 hx
                  by_cases hxk : x = (k : Int)
                  · have e1 : (x == (k : Int)) = true := by rw [hxk]; simp
                    have hu := HBD.out.c qp hqp2
                    have huf := HBD.out.f qp hqp2
                    rcases Bool.eq_false_or_eq_true (shB l S j k qp) with hb | hb
                    · have HU : Hid (shB l S (j + 1) k = shB l S j k) := by
                        show _ = _
                        funext q
                        rw [HSU.out]
                        by_cases e : qp = q
                        · subst e; rw [hb, Bool.true_or]
                        · rw [decide_eq_false (fun h => e (by omega)), Bool.or_false]
                      rw [hb] at hu
                      clear hb hxk
                      go_wp2_with fail
                      first
                        | (go_roundw
                           case rel => exact ⟨j + 1, by omega, by rw [HU.out], by go_num, by rw [HU.out]; exact HBD.out, HBJ.out⟩
                           case measure => (simp [intOf]; omega))
                        | (refine ⟨⟨j + 1, by omega, by rw [HU.out], by go_num, by rw [HU.out]; exact HBD.out, HBJ.out⟩, ?_⟩
                           simp [intOf]; omega)
                    · have HU1 : Hid (∀ q, shB l S (j + 1) k q = if q = qp then true else shB l S j k q) := fun q => by
                        rw [HSU.out]
                        by_cases e : q = qp
                        · subst e; rw [if_pos rfl, decide_eq_true ⟨hxk, rfl⟩, Bool.or_true]
                        · rw [if_neg e, decide_eq_false (fun h => e (by omega)), Bool.or_false]
                      have HU2 : Hid (cntN p (shB l S (j + 1) k) = cntN p (shB l S j k) + 1) := cntN_new hqp2 hb (by rw [HU1.out, if_pos rfl]) (fun i hi => by rw [HU1.out, if_neg hi])
                      rw [hb] at hu
                      have HS1 := hide (HBD.out.set (g := shB l S (j + 1) k) hqp2 HU1.out)
                      have HS2 : Hid (Below wK.heap.size wK (wr.setCell ⟨wK.heap.size, qp, none⟩ (.bool true))) := bSet1 HBJ.out (Nat.le_refl _) HBD.out.lt
                      clear hb hxk
                      go_wp2_with fail
                      first
                        | (go_roundw
                           case rel => exact ⟨j + 1, by omega, congrArg (Value.int .i64) (by rw [HU2.out]; omega), by go_num, HS1.out, HS2.out⟩
                           case measure => (simp [intOf]; omega))
                        | (refine ⟨⟨j + 1, by omega, congrArg (Value.int .i64) (by rw [HU2.out]; omega), by go_num, HS1.out, HS2.out⟩, ?_⟩
                           simp [intOf]; omega)
                  · have e1 : (x == (k : Int)) = false := by simpa using hxk
                    have HU : Hid (shB l S (j + 1) k = shB l S j k) := by
                      show _ = _
                      funext q
                      rw [HSU.out, decide_eq_false (fun h => hxk h.1), Bool.or_false]
                    clear hxk
                    go_wp2_with fail
                    first
                      | (go_roundw
                         case rel => exact ⟨j + 1, by omega, by rw [HU.out], by go_num, by rw [HU.out]; exact HBD.out, HBJ.out⟩
                         case measure => (simp [intOf]; omega))
                      | (refine ⟨⟨j + 1, by omega, by rw [HU.out], by go_num, by rw [HU.out]; exact HBD.out, HBJ.out⟩, ?_⟩
                         simp [intOf]; omega)
                · obtain rfl : j = l.length := by omega
                  have HNS : Hid (nSh l S l.length k = cntN p (shB l S l.length k)) := nSh_cnt hp64 HPR.out k
                  have HNL : Hid (cntN p (shB l S l.length k) ≤ 64) := by have := cntN_le (shB l S l.length k) p; show _ ≤ _; omega
                  have HCN : Hid (cntN p (shB l S l.length k) = 0 → ∀ q, q < p → cstN l S (k + 1) q = cstN l S k q) := fun h q hq => cst_none hq h
                  have HCS : Hid (∀ q, shB l S l.length k q = false → cstN l S (k + 1) q = cstN l S k q) := fun q h => cst_not h
                  have HCI : Hid (∀ q, shB l S l.length k q = true → cstN l S (k + 1) q = cstN l S k q + LL / nSh l S l.length k) := fun q h => cst_is h
                  have HCL : Hid (∀ q, cstN l S (k + 1) q ≤ 1001 * LL) := fun q => Nat.le_trans (cst_le l S (k + 1) q) (Nat.mul_le_mul_right _ (by have := HNP.out; omega))
                  rw [HNS.out] at HCI
                  obtain ⟨N, hN⟩ : ∃ N, cntN p (shB l S l.length k) = N := ⟨_, rfl⟩
                  rw [hN] at HNL HCN HCI
                  rw [hN]
                  clear hN HNS hj hjl
                  have HUG : Hid (g < wK.heap.size) := HRO.out.lt
                  have HRO := hide (HRO.out.below HBJ.out)
                  have HBL := hide (bStepD HBL.out HBJ.out)
                  have HROZ : Hid (RO wr g off p (fun j => if j < 0 then (false, s (cstN l S (k + 1) j), t (cstN l S (k + 1) j)) else (false, s (cstN l S k j), t (cstN l S k j)))) := HRO.out.congr (fun j _ => by rw [if_neg (Nat.not_lt_zero _)])
                  clear HBJ HRO
                  go_wp2_with fail
                  go_loopw [21] (fun i wx => ∃ q : Nat, q ≤ p ∧ i = .int .i64 (q : Int) ∧ RO wx g off p (fun j => if j < q then (false, s (cstN l S (k + 1) j), t (cstN l S (k + 1) j)) else (false, s (cstN l S k j), t (cstN l S k j))) ∧ BD wx wK.heap.size p (shB l S l.length k) ∧ Below wS.heap.size wS wx) (fun i _ => p - (intOf i).toNat)
                  case atStart => exact ⟨0, Nat.zero_le _, rfl, HROZ.out, HBD.out, HBL.out⟩
                  case round =>
                    obtain ⟨q, hq, rfl, hro, hbd, hbl⟩ := hrel
                    have HRO := hide hro
                    have HBD := hide hbd
                    have HBL := hide hbl
                    clear hro hbd hbl HROZ
                    by_cases hqp : q < p
                    · have hqI : (q : Int) < (p : Int) := by omega
                      have hq0 : (0 : Int) ≤ (q : Int) := by omega
                      have e0 : decide ((q : Int) < (p : Int)) = true := decide_eq_true hqI
                      by_cases hN0 : N = 0
                      · subst hN0
                        have HRN : Hid (RO wr g off p (fun j => (false, s (cstN l S (k + 1) j), t (cstN l S (k + 1) j)))) := HRO.out.congr (fun j hj => by rw [HCN.out rfl j hj]; split <;> rfl)
                        go_wp2_with fail
                        first
                          | (go_roundw
                             case rel => exact ⟨k + 1, by omega, by go_num, HRN.out, HBL.out⟩
                             case measure => (simp [intOf]; omega))
                          | (refine ⟨⟨k + 1, by omega, by go_num, HRN.out, HBL.out⟩, ?_⟩
                             simp [intOf]; omega)
                      · have hNI : (0 : Int) < (N : Int) := by omega
                        have eN : decide ((0 : Int) < (N : Int)) = true := decide_eq_true hNI
                        have hu := HBD.out.c q hqp
                        rcases Bool.eq_false_or_eq_true (shB l S l.length k q) with hb | hb
                        · have HCQ := hide (HCI.out q hb)
                          have hNL := HNL.out
                          have HOF := hide (fun W => r18_of 1 N (by omega) (by omega) (by omega) (cosQ (LL / N)) false (s (LL / N)) (t (LL / N)) (cos_one (by omega) hNL).symm (HTI.out (LL / N)) W)
                          have hold : cstN l S k q ≤ 1001 * LL := by have h := HCL.out q; rw [HCQ.out] at h; exact Nat.le_trans (Nat.le_add_right _ _) h
                          have hpt : LL / N ≤ 1001 * LL := by have h := HCL.out q; rw [HCQ.out] at h; exact Nat.le_trans (Nat.le_add_left _ _) h
                          have HAD := hide (q2_add (cos_sz hold) (cos_sz hpt) (by omega) (show cosQ (cstN l S k q) + cosQ (LL / N) = cosQ (cstN l S (k + 1) q) by rw [cos_add, HCQ.out]) (HTI.out _) (HTI.out _) (HTI.out _))
                          unfold Q2 at HAD
                          rw [hb] at hu
                          have HROQ : Hid (RO wr g off p (fun j => if j = q then (false, s (cstN l S k q), t (cstN l S k q)) else if j < q then (false, s (cstN l S (k + 1) j), t (cstN l S (k + 1) j)) else (false, s (cstN l S k j), t (cstN l S k j)))) := HRO.out.congr (fun j _ => by
                            by_cases e : j = q
                            · subst e; rw [if_pos rfl, if_neg (Nat.lt_irrefl _)]
                            · rw [if_neg e])
                          obtain ⟨old, hold2⟩ : ∃ a, cstN l S k q = a := ⟨_, rfl⟩
                          obtain ⟨pt, hpt2⟩ : ∃ a, LL / N = a := ⟨_, rfl⟩
                          obtain ⟨new, hnew2⟩ : ∃ a, cstN l S (k + 1) q = a := ⟨_, rfl⟩
                          rw [hold2, hpt2, hnew2] at HAD
                          rw [hold2] at HROQ
                          rw [hpt2] at HOF
                          have HNW := hide hnew2
                          clear hb hold hpt hold2 hpt2 hnew2 HRO HCQ hNL
                          go_wp2_with fail
                          refine (HOF.out _).mono ?_
                          rintro e w5 ⟨rfl, hb⟩
                          have HRO := hide (HROQ.out.below hb)
                          have HB5 := hide hb
                          clear hb HROQ HOF hu
                          have hb := bAlloc (Below.refl w5.heap.size w5) (.cells #[.bool false, .string (s pt), .string (t pt)] 57)
                          have HXC0 := RC.new w5 false (s pt) (t pt) 57
                          have HRO6 := HRO.out.below hb
                          have HGX0 : g ≠ w5.heap.size := fun e => by have := HRO.out.lt; omega
                          have HB6' := bStepD HB5.out hb
                          obtain ⟨w6, hw6⟩ : ∃ W, w5.alloc (.cells #[.bool false, .string (s pt), .string (t pt)] 57) = W := ⟨_, rfl⟩
                          obtain ⟨X, hX⟩ : ∃ X, w5.heap.size = X := ⟨_, rfl⟩
                          rw [hw6] at HXC0 HRO6 HB6'
                          rw [hX] at HXC0 HGX0
                          have HXC := hide HXC0
                          have HRO := hide HRO6
                          have HB6 := hide HB6'
                          have HGX := hide HGX0
                          have HW6 := hide hw6
                          have HXE := hide hX
                          clear hb HXC0 HRO6 HGX0 HB6' hw6 hX HB5
                          go_upto_region 31 with fail
                          rw [HW6.out, HXE.out]
                          have q1 : w6.drew.cell? ⟨g, off + q * 3, none⟩ = some (.bool false) := by have h := (HRO.out.c q hqp).1; rw [if_pos rfl] at h; exact h
                          have q2 : w6.drew.cell? ⟨g, off + q * 3 + 1, none⟩ = some (.string (s old)) := by have h := (HRO.out.c q hqp).2.1; rw [if_pos rfl] at h; exact h
                          have q3 : w6.drew.cell? ⟨g, off + q * 3 + 2, none⟩ = some (.string (t old)) := by have h := (HRO.out.c q hqp).2.2; rw [if_pos rfl] at h; exact h
                          have HS1 : Hid (∀ W, Below w6.heap.size w6 W → W.cell? ⟨X, 0, none⟩ = some (.bool false) ∧ W.cell? ⟨X, 1, none⟩ = some (.string (s pt)) ∧ W.cell? ⟨X, 2, none⟩ = some (.string (t pt))) := fun W hW => by
                            obtain ⟨x0, x1, x2, _, _, _⟩ := HXC.out.below hW
                            exact ⟨x0, x1, x2⟩
                          have HZ : Hid (Below w6.heap.size w6 w6) := Below.refl _ _
                          refine wp_region_noPanic ?_
                          refine wp_region_held_drew (S := (fun w' => w'.cell? ⟨X, 0, none⟩ = some (.bool false) ∧ w'.cell? ⟨X, 1, none⟩ = some (.string (s pt)) ∧ w'.cell? ⟨X, 2, none⟩ = some (.string (t pt)))) (by kernel_rfl) (HS1.out _ (bDraw HZ.out)) (fun hHeld => ?_)
                          change wpAnyH _ _ _ _ _ 13 #[false, false, false, false, false, false, false, false, false, false, false, false, false] _ _
                          refine wpAnyH_take (i := 0) (oi := _) (v := ?_) rfl (by kernel_rfl) (by kernel_rfl) (by kernel_rfl) (fun _ _ _ h => h) (Or.inl ⟨by rfl, ?_⟩) (by assumption) ?_
                          rotate_left
                          · intro w hSw
                            (try dsimp only at hSw)
                            go_simp
                            try with_reducible rfl
                          try simp only [List.getElem_toArray, List.getElem_cons_zero, List.getElem_cons_succ, List.get, Act.put, List.setIfInBounds_toArray, List.set_cons_zero, List.set_cons_succ]
                          refine wpAnyH_take (i := 1) (oi := _) (v := ?_) rfl (by kernel_rfl) (by kernel_rfl) (by kernel_rfl) (fun _ _ _ h => h) (Or.inl ⟨by rfl, ?_⟩) (by assumption) ?_
                          rotate_left
                          · intro w hSw
                            (try dsimp only at hSw)
                            go_simp
                            try with_reducible rfl
                          try simp only [List.getElem_toArray, List.getElem_cons_zero, List.getElem_cons_succ, List.get, Act.put, List.setIfInBounds_toArray, List.set_cons_zero, List.set_cons_succ]
                          refine wpAnyH_take (i := 2) (oi := _) (v := ?_) rfl (by kernel_rfl) (by kernel_rfl) (by kernel_rfl) (fun _ _ _ h => h) (Or.inl ⟨by rfl, ?_⟩) (by assumption) ?_
                          rotate_left
                          · intro w hSw
                            (try dsimp only at hSw)
                            go_simp
                            try with_reducible rfl
                          try simp only [List.getElem_toArray, List.getElem_cons_zero, List.getElem_cons_succ, List.get, Act.put, List.setIfInBounds_toArray, List.set_cons_zero, List.set_cons_succ]
                          refine wpAnyH_take (i := 3) (oi := _) (v := ?_) rfl (by kernel_rfl) (by kernel_rfl) (by kernel_rfl) (fun _ _ _ h => h) (Or.inl ⟨by rfl, ?_⟩) (by assumption) ?_
                          rotate_left
                          · intro w hSw
                            (try dsimp only at hSw)
                            go_simp
                            try with_reducible rfl
                          try simp only [List.getElem_toArray, List.getElem_cons_zero, List.getElem_cons_succ, List.get, Act.put, List.setIfInBounds_toArray, List.set_cons_zero, List.set_cons_succ]
                          refine wpAnyH_take (i := 4) (oi := _) (v := ?_) rfl (by kernel_rfl) (by kernel_rfl) (by kernel_rfl) (fun _ _ _ h => h) (Or.inl ⟨by rfl, ?_⟩) (by assumption) ?_
                          rotate_left
                          · intro w hSw
                            (try dsimp only at hSw)
                            go_simp
                            try with_reducible rfl
                          try simp only [List.getElem_toArray, List.getElem_cons_zero, List.getElem_cons_succ, List.get, Act.put, List.setIfInBounds_toArray, List.set_cons_zero, List.set_cons_succ]
                          refine wpAnyH_take (i := 6) (oi := _) (v := ?_) rfl (by kernel_rfl) (by kernel_rfl) (by kernel_rfl) (fun _ _ _ h => h) (Or.inl ⟨by rfl, ?_⟩) (by assumption) ?_
                          rotate_left
                          · intro w hSw
                            (try dsimp only at hSw)
                            go_simp
                            try with_reducible rfl
                          try simp only [List.getElem_toArray, List.getElem_cons_zero, List.getElem_cons_succ, List.get, Act.put, List.setIfInBounds_toArray, List.set_cons_zero, List.set_cons_succ]
                          refine wpAnyH_ready (rs := [5]) (by kernel_rfl) (by simp) ?_
                          refine AllReadyH.cons (o := _) rfl (fun K hK => ?_) AllReadyH.nil
                          go_simp
                          replace hK := hide hK
                          refine hK.out _ _ (HS1.out _ (bDraw HZ.out)) (fun hHeld => ?_)
                          clear hK K
                          try simp only [List.getElem_toArray, List.getElem_cons_zero, List.getElem_cons_succ, List.get, Act.put, List.setIfInBounds_toArray, List.set_cons_zero, List.set_cons_succ]
                          refine wpAnyH_ready (rs := [7]) (by kernel_rfl) (by simp) ?_
                          refine AllReadyH.cons (o := _) rfl (fun K hK => ?_) AllReadyH.nil
                          go_simp
                          replace hK := hide hK
                          go_at_call 38
                          refine (HAD.out _).mono ?_
                          rintro e w7 ⟨rfl, hb⟩
                          have HB7 := hide (bStepD (bDraw HZ.out) hb)
                          have HRO7 := hide (HRO.out.below HB7.out)
                          obtain ⟨k0, k1, k2⟩ := HRO7.out.c q hqp
                          obtain ⟨z0, z1, z2⟩ := HRO7.out.z q hqp
                          have hgX : g ≠ X := HGX.out
                          clear hb
                          go_wp2_with fail
                          refine hK.out _ _ (HS1.out _ HB7.out) (fun hHeld => ?_)
                          clear hK K
                          try simp only [List.getElem_toArray, List.getElem_cons_zero, List.getElem_cons_succ, List.get, Act.put, List.setIfInBounds_toArray, List.set_cons_zero, List.set_cons_succ]
                          refine wpAnyH_take (i := 8) (oi := _) (v := ?_) rfl (by kernel_rfl) (by kernel_rfl) (by kernel_rfl) (fun _ _ _ h => h) (Or.inl ⟨by rfl, ?_⟩) (by assumption) ?_
                          rotate_left
                          · intro w hSw
                            (try dsimp only at hSw)
                            go_simp
                            try with_reducible rfl
                          try simp only [List.getElem_toArray, List.getElem_cons_zero, List.getElem_cons_succ, List.get, Act.put, List.setIfInBounds_toArray, List.set_cons_zero, List.set_cons_succ]
                          refine wpAnyH_take (i := 9) (oi := _) (v := ?_) rfl (by kernel_rfl) (by kernel_rfl) (by kernel_rfl) (fun _ _ _ h => h) (Or.inl ⟨by rfl, ?_⟩) (by assumption) ?_
                          rotate_left
                          · intro w hSw
                            (try dsimp only at hSw)
                            go_simp
                            try with_reducible rfl
                          try simp only [List.getElem_toArray, List.getElem_cons_zero, List.getElem_cons_succ, List.get, Act.put, List.setIfInBounds_toArray, List.set_cons_zero, List.set_cons_succ]
                          refine wpAnyH_take (i := 10) (oi := _) (v := ?_) rfl (by kernel_rfl) (by kernel_rfl) (by kernel_rfl) (fun _ _ _ h => h) (Or.inl ⟨by rfl, ?_⟩) (by assumption) ?_
                          rotate_left
                          · intro w hSw
                            (try dsimp only at hSw)
                            go_simp
                            try with_reducible rfl
                          try simp only [List.getElem_toArray, List.getElem_cons_zero, List.getElem_cons_succ, List.get, Act.put, List.setIfInBounds_toArray, List.set_cons_zero, List.set_cons_succ]
                          refine wpAnyH_take (i := 11) (oi := _) (v := ?_) rfl (by kernel_rfl) (by kernel_rfl) (by kernel_rfl) (fun _ _ _ h => h) (Or.inl ⟨by rfl, ?_⟩) (by assumption) ?_
                          rotate_left
                          · intro w hSw
                            (try dsimp only at hSw)
                            go_simp
                            try with_reducible rfl
                          try simp only [List.getElem_toArray, List.getElem_cons_zero, List.getElem_cons_succ, List.get, Act.put, List.setIfInBounds_toArray, List.set_cons_zero, List.set_cons_succ]
                          refine wpAnyH_ready (rs := [12]) (by kernel_rfl) (by simp) ?_
                          refine AllReadyH.cons (o := _) rfl (fun K hK => ?_) AllReadyH.nil
                          go_simp
                          replace hK := hide hK
                          refine hK.out _ _ (by go_keep) (fun hHeld => ?_)
                          clear hK K
                          try simp only [List.getElem_toArray, List.getElem_cons_zero, List.getElem_cons_succ, List.get, Act.put, List.setIfInBounds_toArray, List.set_cons_zero, List.set_cons_succ]
                          refine wpAnyH_done (by kernel_rfl) ?_ _
                          refine NoPanic.normal ?_
                          have HRE : Hid (RO (((w7.setCell ⟨g, off + q * 3, none⟩ (.bool false)).setCell ⟨g, off + q * 3 + 1, none⟩ (.string (s new))).setCell ⟨g, off + q * 3 + 2, none⟩ (.string (t new))) g off p (fun j => if j < q + 1 then (false, s (cstN l S (k + 1) j), t (cstN l S (k + 1) j)) else (false, s (cstN l S k j), t (cstN l S k j)))) := (HRO7.out.set hqp false (s new) (t new)).congr (fun j _ => by
                            by_cases e : j = q
                            · subst e; rw [if_pos rfl, if_pos (Nat.lt_succ_self _), HNW.out]
                            · rw [if_neg e]
                              by_cases e2 : j < q
                              · rw [if_neg e, if_pos e2, if_pos (by omega)]
                              · rw [if_neg e, if_neg e2, if_neg (by omega)])
                          have HB67 := hide (bStepD HB6.out HB7.out)
                          have HBDE : Hid (BD (((w7.setCell ⟨g, off + q * 3, none⟩ (.bool false)).setCell ⟨g, off + q * 3 + 1, none⟩ (.string (s new))).setCell ⟨g, off + q * 3 + 2, none⟩ (.string (t new))) wK.heap.size p (shB l S l.length k)) := HBD.out.far3 HB67.out (by have := HUG.out; omega)
                          have HBLE : Hid (Below wS.heap.size wS (((w7.setCell ⟨g, off + q * 3, none⟩ (.bool false)).setCell ⟨g, off + q * 3 + 1, none⟩ (.string (s new))).setCell ⟨g, off + q * 3 + 2, none⟩ (.string (t new)))) := bSet3 (bStepD HBL.out HB67.out) HGB.out HRO7.out.lt
                          go_wp2_with fail
                          first
                            | (go_roundw
                               case rel => exact ⟨q + 1, by omega, by go_num, HRE.out, HBDE.out, HBLE.out⟩
                               case measure => (simp [intOf]; omega))
                            | (refine ⟨⟨q + 1, by omega, by go_num, HRE.out, HBDE.out, HBLE.out⟩, ?_⟩
                               simp [intOf]; omega)
                        · have HCQ := hide (HCS.out q hb)
                          rw [hb] at hu
                          have HRN : Hid (RO wr g off p (fun j => if j < q + 1 then (false, s (cstN l S (k + 1) j), t (cstN l S (k + 1) j)) else (false, s (cstN l S k j), t (cstN l S k j)))) := HRO.out.congr (fun j _ => by
                            by_cases e : j = q
                            · subst e; rw [if_neg (Nat.lt_irrefl _), if_pos (Nat.lt_succ_self _), HCQ.out]
                            · by_cases e2 : j < q
                              · rw [if_pos e2, if_pos (by omega)]
                              · rw [if_neg e2, if_neg (by omega)])
                          clear hb
                          go_wp2_with fail
                          first
                            | (go_roundw
                               case rel => exact ⟨q + 1, by omega, by go_num, HRN.out, HBD.out, HBL.out⟩
                               case measure => (simp [intOf]; omega))
                            | (refine ⟨⟨q + 1, by omega, by go_num, HRN.out, HBD.out, HBL.out⟩, ?_⟩
                               simp [intOf]; omega)
                    · have hqq : q = p := by omega
                      have e0 : decide ((q : Int) < (p : Int)) = false := decide_eq_false (by omega)
                      have HRN : Hid (RO wr g off p (fun j => (false, s (cstN l S (k + 1) j), t (cstN l S (k + 1) j)))) := HRO.out.congr (fun j hj => by rw [if_pos (by omega)])
                      go_wp2_with fail
                      first
                        | (go_roundw
                           case rel => exact ⟨k + 1, by omega, by go_num, HRN.out, HBL.out⟩
                           case measure => (simp [intOf]; omega))
                        | (refine ⟨⟨k + 1, by omega, by go_num, HRN.out, HBL.out⟩, ?_⟩
                           simp [intOf]; omega)
            · have hkk : k = ps.length := by omega
              have dkn : decide ((k : Int) < (ps.length : Int)) = false := decide_eq_false (by omega)
              rw [hkk] at HRO
              have HSLC := hide (HRO.out.slice HNC.out HCM.out)
              have HBE := hide (bStepD HBS.out HBL.out)
              go_wp2_with fail
              go_ret2
              exact ⟨_, rfl, HSLC.out, HBE.out⟩
end Go.Proofs.YtlagoiaiodjmhaaGreatDoor
