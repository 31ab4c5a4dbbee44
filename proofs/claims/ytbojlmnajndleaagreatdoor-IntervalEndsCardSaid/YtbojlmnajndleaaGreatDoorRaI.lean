/- law 04: rat, few, the calls of head. -/
import Derived.Test.YtbojlmnajndleaaGreatDoorRaF
import Derived.Test.YtbojlmnajndleaaGreatDoorRaH
set_option linter.unusedVariables false
set_option linter.unusedSimpArgs false
namespace Go.Proofs.YtbojlmnajndleaaGreatDoor
open Go.RowKit

/-- A number of the struct, as its three cells. -/
def vQ (x : Bool × ByteArray × ByteArray) : List Value := [.bool x.1, .string x.2.1, .string x.2.2]
theorem vQ_len (x : Bool × ByteArray × ByteArray) : (vQ x).length = 3 := rfl
def fewQ (k : Nat) (l : List (Bool × ByteArray × ByteArray)) : Bool := l.all fun x => decide (x.2.1.size ≤ k) && decide (x.2.2.size ≤ k)
theorem q_cells {w : World} {b off : Nat} {l : List (Bool × ByteArray × ByteArray)} (h : ∀ i (h : i < l.length) j u, (vQ l[i])[j]? = some u → w.cell? ⟨b, off + i * 3 + j, none⟩ = some u) {k : Nat} (hk : k < l.length) :
    w.cell? ⟨b, off + k * 3 + 1, none⟩ = some (.string l[k].2.1) ∧ w.cell? ⟨b, off + k * 3 + 2, none⟩ = some (.string l[k].2.2) :=
  ⟨h k hk 1 _ rfl, h k hk 2 _ rfl⟩
theorem fewQ_no {m : Nat} {l : List (Bool × ByteArray × ByteArray)} {k : Nat} (h : k < l.length) (hs : m < l[k].2.1.size ∨ m < l[k].2.2.size) : fewQ m l = false := by
  unfold fewQ
  rw [List.all_eq_false]
  exact ⟨l[k], List.getElem_mem h, by simp; omega⟩
theorem fewQ_yes {m : Nat} {l : List (Bool × ByteArray × ByteArray)} (h : ∀ j (hj : j < l.length), l[j].2.1.size ≤ m ∧ l[j].2.2.size ≤ m) : fewQ m l = true := by
  unfold fewQ
  rw [List.all_eq_true]
  intro x hx
  obtain ⟨j, hj, rfl⟩ := List.mem_iff_getElem.1 hx
  simpa using h j hj
set_option maxHeartbeats 2000000 in
set_option maxRecDepth 100000 in
theorem ref04_few (m : Nat) (l : List (Bool × ByteArray × ByteArray)) (v : Value) (w : World) (hm : m ≤ 1000000) (hv : SliceOf vQ 3 w v l) (hl : l.length ≤ 1000) :
    Calls Tryz.prog 27 #[.int .i64 (m : Int), v] w fun e w' => e = .returned (.bool (fewQ m l)) ∧ w = w' := by
  have HHB : Hid (∀ k (h : k < l.length), ∃ bb off cap, v = .slice (some ⟨bb, off, none⟩) l.length cap ∧ w.cell? ⟨bb, off + k * 3 + 1, none⟩ = some (.string l[k].2.1) ∧ w.cell? ⟨bb, off + k * 3 + 2, none⟩ = some (.string l[k].2.2)) := fun k h => by
    obtain ⟨bb, off, cap, e, _, _, _, hc⟩ := hv.some_of_pos (by omega)
    exact ⟨bb, off, cap, e, q_cells hc h⟩
  obtain ⟨ao, cp, rfl⟩ := hv.shape
  clear hv
  go_enter Tryz.func27, Tryz.ntmps27
  go_wp2_with fail
  go_loop [5] (fun x => ∃ k : Nat, k ≤ l.length ∧ x = .int .i64 (k : Int) ∧ ∀ j (hj : j < l.length), j < k → l[j].2.1.size ≤ m ∧ l[j].2.2.size ≤ m) (fun x => l.length - (intOf x).toNat)
  case atStart => exact ⟨0, Nat.zero_le _, rfl, fun j hj h => by omega⟩
  case round =>
    obtain ⟨k, hk, rfl, hall⟩ := hrel
    have HA := hide hall
    clear hall
    by_cases hkl : k < l.length
    · have hkI : (k : Int) < (l.length : Int) := by omega
      have hk0 : (0 : Int) ≤ (k : Int) := by omega
      obtain ⟨bb, off, cap, e1, c1, c2⟩ := HHB.out k hkl
      simp only [Value.slice.injEq] at e1
      obtain ⟨rfl, _, rfl⟩ := e1
      have HNO : (m < l[k].2.1.size ∨ m < l[k].2.2.size) → Hid (fewQ m l = false) := fun h => fewQ_no hkl h
      have HYE : l[k].2.1.size ≤ m ∧ l[k].2.2.size ≤ m → Hid (∀ j (hj : j < l.length), j < k + 1 → l[j].2.1.size ≤ m ∧ l[j].2.2.size ≤ m) := fun h j hj hlt => by
        by_cases e : j = k
        · subst e; exact h
        · exact HA.out j hj (by omega)
      obtain ⟨s, hs⟩ : ∃ s, l[k].2.1 = s := ⟨_, rfl⟩
      obtain ⟨t, ht⟩ : ∃ s, l[k].2.2 = s := ⟨_, rfl⟩
      rw [hs] at c1 HNO HYE
      rw [ht] at c2 HNO HYE
      clear hs ht
      by_cases h1 : m < s.size
      · have H := hide (HNO (.inl h1)).out
        have f1 : decide ((m : Int) < (s.size : Int)) = true := decide_eq_true (by omega)
        have f1' : decide (m < s.size) = true := decide_eq_true h1
        clear HNO HYE
        go_wp2_with fail
        go_ret
        exact ⟨ret_bool H.out.symm, rfl⟩
      · have f1 : decide ((m : Int) < (s.size : Int)) = false := decide_eq_false (by omega)
        have f1' : decide (m < s.size) = false := decide_eq_false h1
        by_cases h2 : m < t.size
        · have H := hide (HNO (.inr h2)).out
          have f2 : decide ((m : Int) < (t.size : Int)) = true := decide_eq_true (by omega)
          have f2' : decide (m < t.size) = true := decide_eq_true h2
          clear HNO HYE
          go_wp2_with fail
          go_ret
          exact ⟨ret_bool H.out.symm, rfl⟩
        · have H := hide (HYE ⟨by omega, by omega⟩).out
          have f2 : decide ((m : Int) < (t.size : Int)) = false := decide_eq_false (by omega)
          have f2' : decide (m < t.size) = false := decide_eq_false h2
          clear HNO HYE
          go_wp2_with fail
          go_round
          case rel => exact ⟨k + 1, by omega, by go_num, H.out⟩
          case measure => (simp [intOf]; try omega)
    · have H := hide (fewQ_yes (m := m) (l := l) (fun j hj => HA.out j hj (by omega)))
      have hkI : (l.length : Int) ≤ (k : Int) := by omega
      go_wp2_with fail
      go_ret
      exact ⟨ret_bool H.out.symm, rfl⟩
theorem litQ {q : Rat} {g : Bool} {a b : ByteArray} (h : ngQ q = g) (ha : natS (nmQ q) = a) (hb : natS q.den = b) : rqV q = .agg #[.bool g, .string a, .string b] := by
  unfold rqV; rw [h, ha, hb]
theorem fitQ_of {q : Rat} {a b : ByteArray} (ha : vldN a = true) (hn : nval a.data.toList = nmQ q) (hb : vldN b = true) (hd : nval b.data.toList = q.den) : FitQ q := ⟨lit_cap ha hn, lit_cap hb hd⟩
theorem q_p1_2 : rqV ((1 / 2) : Rat) = .agg #[.bool false, .string ⟨#[49]⟩, .string ⟨#[50]⟩] := litQ (by decide +kernel) (lit_nat (by decide +kernel) (by decide +kernel)) (lit_nat (by decide +kernel) (by decide +kernel))
theorem f_p1_2 : FitQ ((1 / 2) : Rat) := fitQ_of (a := ⟨#[49]⟩) (b := ⟨#[50]⟩) (by decide +kernel) (by decide +kernel) (by decide +kernel) (by decide +kernel)
theorem q_p1_3 : rqV ((1 / 3) : Rat) = .agg #[.bool false, .string ⟨#[49]⟩, .string ⟨#[51]⟩] := litQ (by decide +kernel) (lit_nat (by decide +kernel) (by decide +kernel)) (lit_nat (by decide +kernel) (by decide +kernel))
theorem f_p1_3 : FitQ ((1 / 3) : Rat) := fitQ_of (a := ⟨#[49]⟩) (b := ⟨#[51]⟩) (by decide +kernel) (by decide +kernel) (by decide +kernel) (by decide +kernel)
theorem q_m3_4 : rqV (-(3 / 4) : Rat) = .agg #[.bool true, .string ⟨#[51]⟩, .string ⟨#[52]⟩] := litQ (by decide +kernel) (lit_nat (by decide +kernel) (by decide +kernel)) (lit_nat (by decide +kernel) (by decide +kernel))
theorem f_m3_4 : FitQ (-(3 / 4) : Rat) := fitQ_of (a := ⟨#[51]⟩) (b := ⟨#[52]⟩) (by decide +kernel) (by decide +kernel) (by decide +kernel) (by decide +kernel)
theorem q_p0_1 : rqV (0 : Rat) = .agg #[.bool false, .string ⟨#[48]⟩, .string ⟨#[49]⟩] := litQ (by decide +kernel) (lit_nat (by decide +kernel) (by decide +kernel)) (lit_nat (by decide +kernel) (by decide +kernel))
theorem f_p0_1 : FitQ (0 : Rat) := fitQ_of (a := ⟨#[48]⟩) (b := ⟨#[49]⟩) (by decide +kernel) (by decide +kernel) (by decide +kernel) (by decide +kernel)
theorem q_p5_6 : rqV ((5 / 6) : Rat) = .agg #[.bool false, .string ⟨#[53]⟩, .string ⟨#[54]⟩] := litQ (by decide +kernel) (lit_nat (by decide +kernel) (by decide +kernel)) (lit_nat (by decide +kernel) (by decide +kernel))
theorem f_p5_6 : FitQ ((5 / 6) : Rat) := fitQ_of (a := ⟨#[53]⟩) (b := ⟨#[54]⟩) (by decide +kernel) (by decide +kernel) (by decide +kernel) (by decide +kernel)
theorem q_m1_2 : rqV (-(1 / 2) : Rat) = .agg #[.bool true, .string ⟨#[49]⟩, .string ⟨#[50]⟩] := litQ (by decide +kernel) (lit_nat (by decide +kernel) (by decide +kernel)) (lit_nat (by decide +kernel) (by decide +kernel))
theorem f_m1_2 : FitQ (-(1 / 2) : Rat) := fitQ_of (a := ⟨#[49]⟩) (b := ⟨#[50]⟩) (by decide +kernel) (by decide +kernel) (by decide +kernel) (by decide +kernel)
theorem q_p3_4 : rqV ((3 / 4) : Rat) = .agg #[.bool false, .string ⟨#[51]⟩, .string ⟨#[52]⟩] := litQ (by decide +kernel) (lit_nat (by decide +kernel) (by decide +kernel)) (lit_nat (by decide +kernel) (by decide +kernel))
theorem f_p3_4 : FitQ ((3 / 4) : Rat) := fitQ_of (a := ⟨#[51]⟩) (b := ⟨#[52]⟩) (by decide +kernel) (by decide +kernel) (by decide +kernel) (by decide +kernel)
theorem q_m2_3 : rqV (-(2 / 3) : Rat) = .agg #[.bool true, .string ⟨#[50]⟩, .string ⟨#[51]⟩] := litQ (by decide +kernel) (lit_nat (by decide +kernel) (by decide +kernel)) (lit_nat (by decide +kernel) (by decide +kernel))
theorem f_m2_3 : FitQ (-(2 / 3) : Rat) := fitQ_of (a := ⟨#[50]⟩) (b := ⟨#[51]⟩) (by decide +kernel) (by decide +kernel) (by decide +kernel) (by decide +kernel)
theorem q_p2_3 : rqV ((2 / 3) : Rat) = .agg #[.bool false, .string ⟨#[50]⟩, .string ⟨#[51]⟩] := litQ (by decide +kernel) (lit_nat (by decide +kernel) (by decide +kernel)) (lit_nat (by decide +kernel) (by decide +kernel))
theorem f_p2_3 : FitQ ((2 / 3) : Rat) := fitQ_of (a := ⟨#[50]⟩) (b := ⟨#[51]⟩) (by decide +kernel) (by decide +kernel) (by decide +kernel) (by decide +kernel)
theorem hd_A (w : World) (hw : LawW w) : Calls Tryz.prog 46 #[.int .i64 6, .int .i64 (-8)] w fun e w' => e = .returned (.tuple #[.agg #[.bool true, .string ⟨#[51]⟩, .string ⟨#[52]⟩], .int .i64 0]) ∧ Below w.heap.size w w' := by
  have h := rat_Of 6 (-8) w (by unfold inI64; omega) (by unfold inI64; omega) hw
  refine h.mono fun e w' h => ?_
  unfold OfPost at h
  rw [if_neg (by decide), show ofQ 6 (-8) = (-(3 / 4) : Rat) by decide +kernel] at h
  unfold RqPost at h
  rw [q_m3_4] at h
  exact h
theorem hd_B (w : World) (hw : LawW w) : Calls Tryz.prog 46 #[.int .i64 0, .int .i64 (-5)] w fun e w' => e = .returned (.tuple #[.agg #[.bool false, .string ⟨#[48]⟩, .string ⟨#[49]⟩], .int .i64 0]) ∧ Below w.heap.size w w' := by
  have h := rat_Of 0 (-5) w (by unfold inI64; omega) (by unfold inI64; omega) hw
  refine h.mono fun e w' h => ?_
  unfold OfPost at h
  rw [if_neg (by decide), show ofQ 0 (-5) = (0 : Rat) by decide +kernel] at h
  unfold RqPost at h
  rw [q_p0_1] at h
  exact h
theorem hd_G (w : World) (hw : LawW w) : Calls Tryz.prog 46 #[.int .i64 1, .int .i64 0] w fun e w' => e = .returned (.tuple #[.agg #[.bool false, .string ⟨#[]⟩, .string ⟨#[]⟩], .int .i64 14]) ∧ Below w.heap.size w w' := by
  have h := rat_Of 1 0 w (by unfold inI64; omega) (by unfold inI64; omega) hw
  refine h.mono fun e w' h => ?_
  unfold OfPost at h
  rw [if_pos rfl] at h
  exact h
theorem hd_C (w : World) (hw : LawW w) : Calls Tryz.prog 23 #[.agg #[.bool false, .string ⟨#[49]⟩, .string ⟨#[50]⟩], .agg #[.bool false, .string ⟨#[49]⟩, .string ⟨#[51]⟩]] w fun e w' => e = .returned (.tuple #[.agg #[.bool false, .string ⟨#[53]⟩, .string ⟨#[54]⟩], .int .i64 0]) ∧ Below w.heap.size w w' := by
  have h := rat_Add ((1 / 2) : Rat) ((1 / 3) : Rat) w f_p1_2 f_p1_3 hw
  unfold RvPost at h
  rw [addR_ok (show addFit ((1 / 2) : Rat) ((1 / 3) : Rat) by
    refine ⟨lit_cap (b := ⟨#[51]⟩) (by decide +kernel) (by decide +kernel), lit_cap (b := ⟨#[50]⟩) (by decide +kernel) (by decide +kernel), lit_cap (b := ⟨#[54]⟩) (by decide +kernel) (by decide +kernel), fun _ => lit_cap (b := ⟨#[53]⟩) (by decide +kernel) (by decide +kernel)⟩), show (((1 / 2) : Rat) + ((1 / 3) : Rat) : Rat) = ((5 / 6) : Rat) by decide +kernel] at h
  simp only [rvV, rvE] at h
  rw [q_p1_2, q_p1_3, q_p5_6] at h
  exact h
theorem hv_of {q : Rat} {g : Bool} {a b : ByteArray} (e : rqV q = .agg #[.bool g, .string a, .string b]) (h : FitQ q) : Hid (∀ W, LawW W → Calls Tryz.prog 36 #[.agg #[.bool g, .string a, .string b]] W fun e w' => e = .returned (.bool true) ∧ Below W.heap.size W w') := fun W hW => by
  have := rat_valid_q q W h hW
  rw [e] at this; exact this
theorem q_p4_3 : rqV (4 / 3 : Rat) = .agg #[.bool false, .string ⟨#[52]⟩, .string ⟨#[51]⟩] := litQ (by decide +kernel) (lit_nat (by decide +kernel) (by decide +kernel)) (lit_nat (by decide +kernel) (by decide +kernel))
theorem f_p4_3 : FitQ (4 / 3 : Rat) := fitQ_of (a := ⟨#[52]⟩) (b := ⟨#[51]⟩) (by decide +kernel) (by decide +kernel) (by decide +kernel) (by decide +kernel)
theorem natS_dec {n : Nat} {a : ByteArray} (h : natS n = a) : Lib.decDigits n = a.data.toList := by rw [← h]; rfl
theorem t_m3_4 : bL (txtQ (-(3 / 4) : Rat)) = ⟨#[45, 51, 47, 52]⟩ := by
  unfold txtQ txtL
  rw [natS_dec (lit_nat (b := ⟨#[51]⟩) (n := nmQ (-(3 / 4) : Rat)) (by decide +kernel) (by decide +kernel)), natS_dec (lit_nat (b := ⟨#[52]⟩) (n := ((-(3 / 4) : Rat)).den) (by decide +kernel) (by decide +kernel)), show ngQ (-(3 / 4) : Rat) = true by decide +kernel, if_neg (show ¬ ((-(3 / 4) : Rat)).den = 1 by decide +kernel)]
  rfl
theorem hd_Q1 (w : World) (hw : LawW w) : Calls Tryz.prog 37 #[.agg #[.bool true, .string ⟨#[49]⟩, .string ⟨#[50]⟩], .agg #[.bool false, .string ⟨#[49]⟩, .string ⟨#[51]⟩]] w fun e w' => e = .returned (.int .i64 (-1)) ∧ Below w.heap.size w w' := by
  have h := rat_Compare (-(1 / 2) : Rat) ((1 / 3) : Rat) w f_m1_2 f_p1_3 hw
  rw [cmpQ_lt (show ((-(1 / 2) : Rat) : Rat) < ((1 / 3) : Rat) by decide +kernel), q_m1_2, q_p1_3] at h
  exact h
theorem hd_Q2 (w : World) (hw : LawW w) : Calls Tryz.prog 37 #[.agg #[.bool false, .string ⟨#[50]⟩, .string ⟨#[51]⟩], .agg #[.bool false, .string ⟨#[51]⟩, .string ⟨#[52]⟩]] w fun e w' => e = .returned (.int .i64 (-1)) ∧ Below w.heap.size w w' := by
  have h := rat_Compare ((2 / 3) : Rat) ((3 / 4) : Rat) w f_p2_3 f_p3_4 hw
  rw [cmpQ_lt (show (((2 / 3) : Rat) : Rat) < ((3 / 4) : Rat) by decide +kernel), q_p2_3, q_p3_4] at h
  exact h
theorem hd_V1 (w : World) (hw : LawW w) : Calls Tryz.prog 36 #[.agg #[.bool false, .string ⟨#[49]⟩, .string ⟨#[50]⟩]] w fun e w' => e = .returned (.bool true) ∧ Below w.heap.size w w' := (hv_of q_p1_2 f_p1_2).out w hw
theorem hd_V2 (w : World) (hw : LawW w) : Calls Tryz.prog 36 #[.agg #[.bool false, .string ⟨#[]⟩, .string ⟨#[]⟩]] w fun e w' => e = .returned (.bool false) ∧ Below w.heap.size w w' := by
  have h := rat_valid false ⟨#[]⟩ ⟨#[]⟩ w (by decide) (by decide) hw
  rw [show vldR false ⟨#[]⟩ ⟨#[]⟩ = false by decide +kernel] at h
  exact h
theorem hd_V3 (w : World) (hw : LawW w) : Calls Tryz.prog 36 #[.agg #[.bool false, .string ⟨#[50]⟩, .string ⟨#[52]⟩]] w fun e w' => e = .returned (.bool false) ∧ Below w.heap.size w w' := by
  have h := rat_valid false ⟨#[50]⟩ ⟨#[52]⟩ w (by decide) (by decide) hw
  rw [show vldR false ⟨#[50]⟩ ⟨#[52]⟩ = false by decide +kernel] at h
  exact h
end Go.Proofs.YtbojlmnajndleaaGreatDoor
