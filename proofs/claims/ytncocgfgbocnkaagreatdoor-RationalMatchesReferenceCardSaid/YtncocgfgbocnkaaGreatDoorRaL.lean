/- RationalInts. -/
import Derived.Test.YtncocgfgbocnkaaGreatDoorRaJ
import Derived.Test.YtncocgfgbocnkaaGreatDoorRaK
import Derived.BigGuard
set_option linter.unusedVariables false
set_option linter.unusedSimpArgs false
namespace Go.Proofs.YtncocgfgbocnkaaGreatDoor
open Go.RowKit Go.Sort

theorem mkQ_le (g : Bool) (n d : Nat) (hd : 0 < d) : nmQ (mkQ g n d) ≤ n ∧ (mkQ g n d).den ≤ d := by
  by_cases hn : n = 0
  · subst hn
    rw [mkQ_zero]
    exact ⟨Nat.le_of_eq (nmQ_zero.2 rfl), by show 1 ≤ d; omega⟩
  · obtain ⟨hl, he⟩ := lowest_eq (g := g) hd (by omega : 0 < n)
    obtain ⟨_, b, c⟩ := mkQ_low hl
    rw [he] at b c
    rw [b, c]
    exact ⟨Nat.div_le_self _ _, Nat.div_le_self _ _⟩
theorem ofQ_le (n d : Int) (hd : d ≠ 0) : nmQ (ofQ n d) ≤ n.natAbs ∧ (ofQ n d).den ≤ d.natAbs := by
  rw [← mkQ_ofQ n d hd]
  exact mkQ_le _ _ _ (by omega)
theorem small_cap {n : Nat} (h : n ≤ 9223372036854775808) : n < capN := to_capN (k := 19) (Nat.lt_of_le_of_lt h (by decide +kernel)) (by decide)
theorem ofQ_fit {n d : Int} (hd : d ≠ 0) (hn : n.natAbs ≤ 4294967296) (hD : d.natAbs ≤ 4294967296) : FitQ (ofQ n d) := by
  obtain ⟨a, b⟩ := ofQ_le n d hd
  exact ⟨small_cap (by omega), small_cap (by omega)⟩
theorem ofQ_mulFit {n d : Int} (hd : d ≠ 0) (hn : n.natAbs ≤ 2147483648) (hD : d.natAbs ≤ 2147483648) : mulFit (ofQ n d) (ofQ d 1) := by
  obtain ⟨a, b⟩ := ofQ_le n d hd
  obtain ⟨a', b'⟩ := ofQ_le d 1 (by omega)
  have h1 : nmQ (ofQ n d) * nmQ (ofQ d 1) ≤ 2147483648 * 2147483648 := Nat.mul_le_mul (by omega) (by omega)
  have h2 : (ofQ n d).den * (ofQ d 1).den ≤ 2147483648 * 1 := Nat.mul_le_mul (by omega) b'
  exact ⟨small_cap (by omega), small_cap (by omega)⟩
theorem ofQ_back {n d : Int} (hd : d ≠ 0) : ofQ n d * ofQ d 1 = ofQ n 1 := by
  unfold ofQ
  have : (d : Rat) ≠ 0 := by exact_mod_cast hd
  have e : ((1 : Int) : Rat) = 1 := by norm_cast
  rw [e]
  grind
theorem ofQ_scale {n d k : Int} (hd : d ≠ 0) (hk : k ≠ 0) : ofQ (n * k) (d * k) = ofQ n d := by
  unfold ofQ
  have h1 : (d : Rat) ≠ 0 := by exact_mod_cast hd
  have h2 : (k : Rat) ≠ 0 := by exact_mod_cast hk
  rw [Rat.intCast_mul, Rat.intCast_mul]
  grind
theorem mul_bd {n k : Int} (hn : n.natAbs ≤ 2147483648) (hk : k.natAbs ≤ 1073741824) : inI64 (n * k) := by
  have h := Nat.mul_le_mul hn hk
  rw [← Int.natAbs_mul] at h
  unfold inI64
  omega
/-- A call of Of that is good, by letters. -/
theorem of_ok {n d : Int} {q : Rat} {g : Bool} {s t : ByteArray} (hn : inI64 n) (hd : inI64 d) (h0 : d ≠ 0) (e : ofQ n d = q) (hq : rqV q = .agg #[.bool g, .string s, .string t]) (W : World) (hW : LawW W) :
    Calls Tryz.prog 13 #[.int .i64 n, .int .i64 d] W fun e w' => e = .returned (.tuple #[.agg #[.bool g, .string s, .string t], .int .i64 0]) ∧ Below W.heap.size W w' := by
  have h := rat_Of n d W hn hd hW
  unfold OfPost at h
  simp only [if_neg h0] at h
  unfold RqPost at h
  rw [e, hq] at h
  exact h
theorem of_zero {n : Int} (hn : inI64 n) (W : World) (hW : LawW W) :
    Calls Tryz.prog 13 #[.int .i64 n, .int .i64 0] W fun e w' => e = .returned (.tuple #[.agg #[.bool false, .string ⟨#[]⟩, .string ⟨#[]⟩], .int .i64 14]) ∧ Below W.heap.size W w' := by
  have h := rat_Of n 0 W hn (by unfold inI64; omega) hW
  unfold OfPost at h
  simp only [if_pos] at h
  exact h
theorem mul_ok {p q r : Rat} {g g1 g2 : Bool} {s t s1 t1 s2 t2 : ByteArray} (hp : FitQ p) (hq : FitQ q) (hf : mulFit p q) (e : p * q = r) (ep : rqV p = .agg #[.bool g1, .string s1, .string t1]) (eq : rqV q = .agg #[.bool g2, .string s2, .string t2]) (er : rqV r = .agg #[.bool g, .string s, .string t]) (W : World) (hW : LawW W) :
    Calls Tryz.prog 29 #[.agg #[.bool g1, .string s1, .string t1], .agg #[.bool g2, .string s2, .string t2]] W fun e w' => e = .returned (.tuple #[.agg #[.bool g, .string s, .string t], .int .i64 0]) ∧ Below W.heap.size W w' := by
  have h := rat_Mul p q W hp hq hW
  rw [mulR_ok hf] at h
  unfold RvPost at h
  rw [ep, eq] at h
  have e2 : rvV (some (p * q)) = .agg #[.bool g, .string s, .string t] := by rw [e]; exact er
  rw [e2] at h
  exact h
theorem make_ok {n d : Int} {q : Rat} {g : Bool} {s t : ByteArray} (hn : n.natAbs ≤ 4294967296) (hd : d.natAbs ≤ 4294967296) (h0 : d ≠ 0) (e : ofQ n d = q) (hq : rqV q = .agg #[.bool g, .string s, .string t]) (W : World) (hW : LawW W) :
    Calls Tryz.prog 15 #[.bool (decide (n < 0) != decide (d < 0)), .string (natS n.natAbs), .string (natS d.natAbs)] W fun e w' => e = .returned (.tuple #[.agg #[.bool g, .string s, .string t], .int .i64 0]) ∧ Below W.heap.size W w' := by
  have h := rat_Make (decide (n < 0) != decide (d < 0)) n.natAbs d.natAbs W (small_cap (by omega)) (small_cap (by omega)) (by omega) hW
  unfold RqPost at h
  rw [mkQ_ofQ n d h0, e, hq] at h
  exact h
set_option maxHeartbeats 2000000 in
set_option maxRecDepth 100000 in
theorem ints04_zero (n f : Int) (w : World) (hn : inI64 n) (hw : LawW w) :
    Calls Tryz.prog 9 #[.int .i32 n, .int .i32 0, .int .i32 f] w fun e w' => e = .returned (.bool true) ∧ Below w.heap.size w w' := by
  have HW := hide hw
  have g1 : IntKind.i64.wrap n = n := IntWalk.i64_in _ (by unfold inI64 at hn; omega)
  have g2 : IntKind.i64.wrap 0 = 0 := IntWalk.i64_in _ (by omega)
  have HN := hide hn
  have HH := hide (law04_head w hw)
  clear hw hn
  go_enter Tryz.func9, Tryz.ntmps9
  go_wp2_with fail
  refine HH.out.mono ?_
  rintro e w1 ⟨rfl, hb⟩
  have HB1 := hide hb
  clear hb HH
  go_wp2_with fail
  refine (of_zero HN.out _ (HW.out.below HB1.out)).mono ?_
  rintro e w2 ⟨rfl, hb⟩
  have HB2 := hide (bAlloc (bStep HB1.out hb) (.cells #[.bool false, .string ⟨#[]⟩, .string ⟨#[]⟩] 24))
  clear hb HB1
  go_wp2_with fail
  go_ret
  exact ⟨rfl, HB2.out⟩
set_option maxHeartbeats 8000000 in
set_option maxRecDepth 100000 in
theorem ints04_k0 (n d f k : Int) (w : World) (hn : n.natAbs ≤ 2147483648) (hd : d.natAbs ≤ 2147483648) (h0 : d ≠ 0) (hfk : f.tmod 1073741824 = k) (hkb : k.natAbs ≤ 1073741824) (hf : f.natAbs ≤ 2147483648) (hk : k = 0) (hw : LawW w) :
    Calls Tryz.prog 9 #[.int .i32 n, .int .i32 d, .int .i32 f] w fun e w' => e = .returned (.bool true) ∧ Below w.heap.size w w' := by
  have HW := hide hw
  have bn : inI64 n := by unfold inI64; omega
  have bd : inI64 d := by unfold inI64; omega
  have b1 : inI64 1 := by unfold inI64; omega
  have g1 : IntKind.i64.wrap n = n := IntWalk.i64_in _ (by omega)
  have g2 : IntKind.i64.wrap d = d := IntWalk.i64_in _ (by omega)
  have g3 : IntKind.i64.wrap f = f := IntWalk.i64_in _ (by omega)
  have g4 : IntKind.i64.wrap k = k := IntWalk.i64_in _ (by omega)
  have bnk := mul_bd hn hkb
  have bdk := mul_bd hd hkb
  have g5 : IntKind.i64.wrap (n * k) = n * k := IntWalk.i64_in _ (by unfold inI64 at bnk; omega)
  have g6 : IntKind.i64.wrap (d * k) = d * k := IntWalk.i64_in _ (by unfold inI64 at bdk; omega)
  have e1 : (d == 0) = false := by simpa using h0
  have e2 : decide (d = 0) = false := decide_eq_false h0
  obtain ⟨ga, hga⟩ : ∃ x, ngQ (ofQ n d) = x := ⟨_, rfl⟩
  obtain ⟨sa, hsa⟩ : ∃ x, natS (nmQ (ofQ n d)) = x := ⟨_, rfl⟩
  obtain ⟨ta, hta⟩ : ∃ x, natS (ofQ n d).den = x := ⟨_, rfl⟩
  obtain ⟨gd, hgd⟩ : ∃ x, ngQ (ofQ d 1) = x := ⟨_, rfl⟩
  obtain ⟨sd, hsd⟩ : ∃ x, natS (nmQ (ofQ d 1)) = x := ⟨_, rfl⟩
  obtain ⟨td, htd⟩ : ∃ x, natS (ofQ d 1).den = x := ⟨_, rfl⟩
  obtain ⟨gn, hgn⟩ : ∃ x, ngQ (ofQ n 1) = x := ⟨_, rfl⟩
  obtain ⟨sn, hsn⟩ : ∃ x, natS (nmQ (ofQ n 1)) = x := ⟨_, rfl⟩
  obtain ⟨tn, htn⟩ : ∃ x, natS (ofQ n 1).den = x := ⟨_, rfl⟩
  have HA := hide (fun W hW => of_ok bn bd h0 rfl (litQ hga hsa hta) W hW)
  have HD := hide (fun W hW => of_ok bd b1 (by omega) rfl (litQ hgd hsd htd) W hW)
  have HN := hide (fun W hW => of_ok bn b1 (by omega) rfl (litQ hgn hsn htn) W hW)
  have HM := hide (fun W hW => mul_ok (ofQ_fit h0 (by omega) (by omega)) (ofQ_fit (by omega) (by omega) (by omega)) (ofQ_mulFit h0 hn hd) (ofQ_back h0) (litQ hga hsa hta) (litQ hgd hsd htd) (litQ hgn hsn htn) W hW)
  have HK := hide (fun W hW => make_ok (n := n) (d := d) (by omega) (by omega) h0 rfl (litQ hga hsa hta) W hW)
  have HX := hide (fun W => ref04_abs n W (by omega) (by omega))
  have HY := hide (fun W => ref04_abs d W (by omega) (by omega))
  obtain ⟨s1, hs1⟩ : ∃ x, natS n.natAbs = x := ⟨_, rfl⟩
  obtain ⟨s2, hs2⟩ : ∃ x, natS d.natAbs = x := ⟨_, rfl⟩
  rw [hs1] at HX HK
  rw [hs2] at HY HK
  subst hk
  have HBk := hide (fun W hW => of_zero (n := 0) (by unfold inI64; omega) W hW)
  have z1 : n * 0 = 0 := Int.mul_zero n
  have z2 : d * 0 = 0 := Int.mul_zero d
  rw [z1] at g5
  rw [z2] at g6
  have HH := hide (fun W hW => law04_head W hW)
  have HB0 : Hid (Below w.heap.size w w) := Below.refl _ _
  have HV0 : Hid (VL w []) := VL.nil w
  clear hga hsa hta hgd hsd htd hgn hsn htn hs1 hs2 hw hn hd hkb hf bn bd b1 bnk bdk h0
  go_enter Tryz.func9, Tryz.ntmps9
  go_wp2_with fail
  refine (HH.out _ (HW.out.below HB0.out)).mono ?_
  rintro e w1 ⟨rfl, hb⟩
  have HB1 := hide (bStep HB0.out hb)
  have HV1 := hide (HV0.out.below hb)
  clear hb HB0 HV0
  go_wp2_with fail
  refine (HA.out _ (HW.out.below HB1.out)).mono ?_
  rintro e w2 ⟨rfl, hb⟩
  have HB2 := hide (bStep HB1.out hb)
  have HV2 := hide (HV1.out.below hb)
  clear hb HB1 HV1
  have HV2_ := hide (HV2.out.pushAt (b := w2.heap.size) (by simp) ga sa ta 24)
  have HB2_ := hide (bAlloc HB2.out (.cells #[.bool ga, .string sa, .string ta] 24))
  clear HB2 HV2
  go_wp2_with fail
  refine (HBk.out _ (HW.out.below HB2_.out)).mono ?_
  rintro e w3 ⟨rfl, hb⟩
  have HB3 := hide (bStep HB2_.out hb)
  have HV3 := hide (HV2_.out.below hb)
  clear hb HB2_ HV2_
  have HV3_ := hide (HV3.out.pushAt (b := w3.heap.size) (by simp) false ⟨#[]⟩ ⟨#[]⟩ 24)
  have HB3_ := hide (bAlloc HB3.out (.cells #[.bool false, .string ⟨#[]⟩, .string ⟨#[]⟩] 24))
  clear HB3 HV3
  go_wp2_with fail
  refine (HD.out _ (HW.out.below HB3_.out)).mono ?_
  rintro e w4 ⟨rfl, hb⟩
  have HB4 := hide (bStep HB3_.out hb)
  have HV4 := hide (HV3_.out.below hb)
  clear hb HB3_ HV3_
  have HV4_ := hide (HV4.out.pushAt (b := w4.heap.size) (by simp) gd sd td 24)
  have HB4_ := hide (bAlloc HB4.out (.cells #[.bool gd, .string sd, .string td] 24))
  clear HB4 HV4
  go_wp2_with fail
  refine (HN.out _ (HW.out.below HB4_.out)).mono ?_
  rintro e w5 ⟨rfl, hb⟩
  have HB5 := hide (bStep HB4_.out hb)
  have HV5 := hide (HV4_.out.below hb)
  clear hb HB4_ HV4_
  have HV5_ := hide (HV5.out.pushAt (b := w5.heap.size) (by simp) gn sn tn 24)
  have HB5_ := hide (bAlloc HB5.out (.cells #[.bool gn, .string sn, .string tn] 24))
  clear HB5 HV5
  obtain ⟨c3, c4, c5⟩ := VL.cells3 (b := w2.heap.size) (g := ga) (s := sa) (t := ta) HV5_.out (by simp)
  obtain ⟨c6, c7, c8⟩ := VL.cells3 (b := w4.heap.size) (g := gd) (s := sd) (t := td) HV5_.out (by simp)
  go_wp2_with fail
  clear c3 c4 c5 c6 c7 c8
  refine (HM.out _ (HW.out.below HB5_.out)).mono ?_
  rintro e w6 ⟨rfl, hb⟩
  have HB6 := hide (bStep HB5_.out hb)
  have HV6 := hide (HV5_.out.below hb)
  clear hb HB5_ HV5_
  have HV6_ := hide (HV6.out.pushAt (b := w6.heap.size) (by simp) gn sn tn 24)
  have HB6_ := hide (bAlloc HB6.out (.cells #[.bool gn, .string sn, .string tn] 24))
  clear HB6 HV6
  go_wp2_with fail
  refine (HX.out _).mono ?_
  rintro e wx ⟨rfl, rfl⟩
  go_wp2_with fail
  refine (HY.out _).mono ?_
  rintro e wx ⟨rfl, rfl⟩
  go_wp2_with fail
  refine (HK.out _ (HW.out.below HB6_.out)).mono ?_
  rintro e w7 ⟨rfl, hb⟩
  have HB7 := hide (bStep HB6_.out hb)
  have HV7 := hide (HV6_.out.below hb)
  clear hb HB6_ HV6_
  have HV7_ := hide (HV7.out.pushAt (b := w7.heap.size) (by simp) ga sa ta 24)
  have HB7_ := hide (bAlloc HB7.out (.cells #[.bool ga, .string sa, .string ta] 24))
  clear HB7 HV7
  obtain ⟨c9, c10, c11⟩ := VL.cells3 (b := w2.heap.size) (g := ga) (s := sa) (t := ta) HV7_.out (by simp)
  obtain ⟨c12, c13, c14⟩ := VL.cells3 (b := w3.heap.size) (g := false) (s := ⟨#[]⟩) (t := ⟨#[]⟩) HV7_.out (by simp)
  obtain ⟨c15, c16, c17⟩ := VL.cells3 (b := w5.heap.size) (g := gn) (s := sn) (t := tn) HV7_.out (by simp)
  obtain ⟨c18, c19, c20⟩ := VL.cells3 (b := w6.heap.size) (g := gn) (s := sn) (t := tn) HV7_.out (by simp)
  obtain ⟨c21, c22, c23⟩ := VL.cells3 (b := w7.heap.size) (g := ga) (s := sa) (t := ta) HV7_.out (by simp)
  go_wp2_with fail
  clear c9 c10 c11 c12 c13 c14 c15 c16 c17 c18 c19 c20 c21 c22 c23
  go_ret
  exact ⟨rfl, HB7_.out⟩
set_option maxHeartbeats 8000000 in
set_option maxRecDepth 100000 in
theorem ints04_k (n d f k : Int) (w : World) (hn : n.natAbs ≤ 2147483648) (hd : d.natAbs ≤ 2147483648) (h0 : d ≠ 0) (hfk : f.tmod 1073741824 = k) (hkb : k.natAbs ≤ 1073741824) (hf : f.natAbs ≤ 2147483648) (hk : k ≠ 0) (hw : LawW w) :
    Calls Tryz.prog 9 #[.int .i32 n, .int .i32 d, .int .i32 f] w fun e w' => e = .returned (.bool true) ∧ Below w.heap.size w w' := by
  have HW := hide hw
  have bn : inI64 n := by unfold inI64; omega
  have bd : inI64 d := by unfold inI64; omega
  have b1 : inI64 1 := by unfold inI64; omega
  have g1 : IntKind.i64.wrap n = n := IntWalk.i64_in _ (by omega)
  have g2 : IntKind.i64.wrap d = d := IntWalk.i64_in _ (by omega)
  have g3 : IntKind.i64.wrap f = f := IntWalk.i64_in _ (by omega)
  have g4 : IntKind.i64.wrap k = k := IntWalk.i64_in _ (by omega)
  have bnk := mul_bd hn hkb
  have bdk := mul_bd hd hkb
  have g5 : IntKind.i64.wrap (n * k) = n * k := IntWalk.i64_in _ (by unfold inI64 at bnk; omega)
  have g6 : IntKind.i64.wrap (d * k) = d * k := IntWalk.i64_in _ (by unfold inI64 at bdk; omega)
  have e1 : (d == 0) = false := by simpa using h0
  have e2 : decide (d = 0) = false := decide_eq_false h0
  obtain ⟨ga, hga⟩ : ∃ x, ngQ (ofQ n d) = x := ⟨_, rfl⟩
  obtain ⟨sa, hsa⟩ : ∃ x, natS (nmQ (ofQ n d)) = x := ⟨_, rfl⟩
  obtain ⟨ta, hta⟩ : ∃ x, natS (ofQ n d).den = x := ⟨_, rfl⟩
  obtain ⟨gd, hgd⟩ : ∃ x, ngQ (ofQ d 1) = x := ⟨_, rfl⟩
  obtain ⟨sd, hsd⟩ : ∃ x, natS (nmQ (ofQ d 1)) = x := ⟨_, rfl⟩
  obtain ⟨td, htd⟩ : ∃ x, natS (ofQ d 1).den = x := ⟨_, rfl⟩
  obtain ⟨gn, hgn⟩ : ∃ x, ngQ (ofQ n 1) = x := ⟨_, rfl⟩
  obtain ⟨sn, hsn⟩ : ∃ x, natS (nmQ (ofQ n 1)) = x := ⟨_, rfl⟩
  obtain ⟨tn, htn⟩ : ∃ x, natS (ofQ n 1).den = x := ⟨_, rfl⟩
  have HA := hide (fun W hW => of_ok bn bd h0 rfl (litQ hga hsa hta) W hW)
  have HD := hide (fun W hW => of_ok bd b1 (by omega) rfl (litQ hgd hsd htd) W hW)
  have HN := hide (fun W hW => of_ok bn b1 (by omega) rfl (litQ hgn hsn htn) W hW)
  have HM := hide (fun W hW => mul_ok (ofQ_fit h0 (by omega) (by omega)) (ofQ_fit (by omega) (by omega) (by omega)) (ofQ_mulFit h0 hn hd) (ofQ_back h0) (litQ hga hsa hta) (litQ hgd hsd htd) (litQ hgn hsn htn) W hW)
  have HK := hide (fun W hW => make_ok (n := n) (d := d) (by omega) (by omega) h0 rfl (litQ hga hsa hta) W hW)
  have HX := hide (fun W => ref04_abs n W (by omega) (by omega))
  have HY := hide (fun W => ref04_abs d W (by omega) (by omega))
  obtain ⟨s1, hs1⟩ : ∃ x, natS n.natAbs = x := ⟨_, rfl⟩
  obtain ⟨s2, hs2⟩ : ∃ x, natS d.natAbs = x := ⟨_, rfl⟩
  rw [hs1] at HX HK
  rw [hs2] at HY HK
  have HBk := hide (fun W hW => of_ok bnk bdk (Int.mul_ne_zero h0 hk) (ofQ_scale h0 hk) (litQ hga hsa hta) W hW)
  have e3 : (k == 0) = false := by simpa using hk
  have e4 : decide (k = 0) = false := decide_eq_false hk
  obtain ⟨nk, hnk⟩ : ∃ x, n * k = x := ⟨_, rfl⟩
  obtain ⟨dk, hdk⟩ : ∃ x, d * k = x := ⟨_, rfl⟩
  rw [hnk] at g5 HBk
  rw [hdk] at g6 HBk
  have HH := hide (fun W hW => law04_head W hW)
  have HB0 : Hid (Below w.heap.size w w) := Below.refl _ _
  have HV0 : Hid (VL w []) := VL.nil w
  clear hga hsa hta hgd hsd htd hgn hsn htn hs1 hs2 hw hn hd hkb hf bn bd b1 bnk bdk h0 hk
  go_enter Tryz.func9, Tryz.ntmps9
  go_wp2_with fail
  refine (HH.out _ (HW.out.below HB0.out)).mono ?_
  rintro e w1 ⟨rfl, hb⟩
  have HB1 := hide (bStep HB0.out hb)
  have HV1 := hide (HV0.out.below hb)
  clear hb HB0 HV0
  go_wp2_with fail
  refine (HA.out _ (HW.out.below HB1.out)).mono ?_
  rintro e w2 ⟨rfl, hb⟩
  have HB2 := hide (bStep HB1.out hb)
  have HV2 := hide (HV1.out.below hb)
  clear hb HB1 HV1
  have HV2_ := hide (HV2.out.pushAt (b := w2.heap.size) (by simp) ga sa ta 24)
  have HB2_ := hide (bAlloc HB2.out (.cells #[.bool ga, .string sa, .string ta] 24))
  clear HB2 HV2
  go_wp2_with fail
  refine (HBk.out _ (HW.out.below HB2_.out)).mono ?_
  rintro e w3 ⟨rfl, hb⟩
  have HB3 := hide (bStep HB2_.out hb)
  have HV3 := hide (HV2_.out.below hb)
  clear hb HB2_ HV2_
  have HV3_ := hide (HV3.out.pushAt (b := w3.heap.size) (by simp) ga sa ta 24)
  have HB3_ := hide (bAlloc HB3.out (.cells #[.bool ga, .string sa, .string ta] 24))
  clear HB3 HV3
  go_wp2_with fail
  refine (HD.out _ (HW.out.below HB3_.out)).mono ?_
  rintro e w4 ⟨rfl, hb⟩
  have HB4 := hide (bStep HB3_.out hb)
  have HV4 := hide (HV3_.out.below hb)
  clear hb HB3_ HV3_
  have HV4_ := hide (HV4.out.pushAt (b := w4.heap.size) (by simp) gd sd td 24)
  have HB4_ := hide (bAlloc HB4.out (.cells #[.bool gd, .string sd, .string td] 24))
  clear HB4 HV4
  go_wp2_with fail
  refine (HN.out _ (HW.out.below HB4_.out)).mono ?_
  rintro e w5 ⟨rfl, hb⟩
  have HB5 := hide (bStep HB4_.out hb)
  have HV5 := hide (HV4_.out.below hb)
  clear hb HB4_ HV4_
  have HV5_ := hide (HV5.out.pushAt (b := w5.heap.size) (by simp) gn sn tn 24)
  have HB5_ := hide (bAlloc HB5.out (.cells #[.bool gn, .string sn, .string tn] 24))
  clear HB5 HV5
  obtain ⟨c3, c4, c5⟩ := VL.cells3 (b := w2.heap.size) (g := ga) (s := sa) (t := ta) HV5_.out (by simp)
  obtain ⟨c6, c7, c8⟩ := VL.cells3 (b := w4.heap.size) (g := gd) (s := sd) (t := td) HV5_.out (by simp)
  go_wp2_with fail
  clear c3 c4 c5 c6 c7 c8
  refine (HM.out _ (HW.out.below HB5_.out)).mono ?_
  rintro e w6 ⟨rfl, hb⟩
  have HB6 := hide (bStep HB5_.out hb)
  have HV6 := hide (HV5_.out.below hb)
  clear hb HB5_ HV5_
  have HV6_ := hide (HV6.out.pushAt (b := w6.heap.size) (by simp) gn sn tn 24)
  have HB6_ := hide (bAlloc HB6.out (.cells #[.bool gn, .string sn, .string tn] 24))
  clear HB6 HV6
  go_wp2_with fail
  refine (HX.out _).mono ?_
  rintro e wx ⟨rfl, rfl⟩
  go_wp2_with fail
  refine (HY.out _).mono ?_
  rintro e wx ⟨rfl, rfl⟩
  go_wp2_with fail
  refine (HK.out _ (HW.out.below HB6_.out)).mono ?_
  rintro e w7 ⟨rfl, hb⟩
  have HB7 := hide (bStep HB6_.out hb)
  have HV7 := hide (HV6_.out.below hb)
  clear hb HB6_ HV6_
  have HV7_ := hide (HV7.out.pushAt (b := w7.heap.size) (by simp) ga sa ta 24)
  have HB7_ := hide (bAlloc HB7.out (.cells #[.bool ga, .string sa, .string ta] 24))
  clear HB7 HV7
  obtain ⟨c9, c10, c11⟩ := VL.cells3 (b := w2.heap.size) (g := ga) (s := sa) (t := ta) HV7_.out (by simp)
  obtain ⟨c12, c13, c14⟩ := VL.cells3 (b := w3.heap.size) (g := ga) (s := sa) (t := ta) HV7_.out (by simp)
  obtain ⟨c15, c16, c17⟩ := VL.cells3 (b := w5.heap.size) (g := gn) (s := sn) (t := tn) HV7_.out (by simp)
  obtain ⟨c18, c19, c20⟩ := VL.cells3 (b := w6.heap.size) (g := gn) (s := sn) (t := tn) HV7_.out (by simp)
  obtain ⟨c21, c22, c23⟩ := VL.cells3 (b := w7.heap.size) (g := ga) (s := sa) (t := ta) HV7_.out (by simp)
  go_wp2_with fail
  clear c9 c10 c11 c12 c13 c14 c15 c16 c17 c18 c19 c20 c21 c22 c23
  go_ret
  exact ⟨rfl, HB7_.out⟩
theorem wf_inI32 {x : Int} (h : (Lit.int .i32 x).wf = true) : -2147483648 ≤ x ∧ x < 2147483648 := by
  simp [Lit.wf, IntKind.min, IntKind.max, IntKind.signed, IntKind.bits] at h
  exact ⟨by omega, by omega⟩
theorem rationalInts_walk (n d f : Int) (w : World) (hn : -2147483648 ≤ n ∧ n < 2147483648) (hd : -2147483648 ≤ d ∧ d < 2147483648) (hf : -2147483648 ≤ f ∧ f < 2147483648) (hw : LawW w) :
    Calls Tryz.prog 9 #[.int .i32 n, .int .i32 d, .int .i32 f] w fun e w' => e = .returned (.bool true) ∧ Below w.heap.size w w' := by
  by_cases h0 : d = 0
  · subst h0
    exact ints04_zero n f w (by unfold inI64; omega) hw
  · obtain ⟨k, hk⟩ : ∃ k, f.tmod 1073741824 = k := ⟨_, rfl⟩
    have hkb : k.natAbs ≤ 1073741824 := by
      rw [← hk, Int.natAbs_tmod]
      exact Nat.le_of_lt (Nat.mod_lt _ (by decide))
    by_cases hk0 : k = 0
    · exact ints04_k0 n d f k w (by omega) (by omega) h0 hk hkb (by omega) hk0 hw
    · exact ints04_k n d f k w (by omega) (by omega) h0 hk hkb (by omega) hk0 hw
end Go.Proofs.YtncocgfgbocnkaaGreatDoor
