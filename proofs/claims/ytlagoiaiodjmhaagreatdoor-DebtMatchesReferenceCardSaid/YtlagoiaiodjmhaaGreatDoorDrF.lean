/- law 18: DebtMatchesReference. -/
import Derived.Test.YtlagoiaiodjmhaaGreatDoorDrE
set_option linter.unusedVariables false
set_option linter.unusedSimpArgs false
namespace Go.Proofs.YtlagoiaiodjmhaaGreatDoor
open Go.RowKit

/-- A frame's cells. -/
def FrY (w : World) (b : Nat) (f : Fr) : Prop := w.cell? ⟨b, 0, none⟩ = some (.int .i64 f.mo) ∧ w.cell? ⟨b, 1, none⟩ = some (.int .i64 f.tl) ∧ w.cell? ⟨b, 2, none⟩ = some (.int .i64 f.pr) ∧ w.cell? ⟨b, 3, none⟩ = some (.int .i64 f.ti) ∧ w.cell? ⟨b, 4, none⟩ = some (.int .i64 f.fl) ∧ w.cell? ⟨b, 5, none⟩ = some (.int .i64 f.r0) ∧ w.cell? ⟨b, 6, none⟩ = some (.int .i64 f.r1) ∧ w.cell? ⟨b, 7, none⟩ = some (.int .i64 f.r2) ∧ w.cell? ⟨b, 8, none⟩ = some (.int .i64 f.r3)
theorem FrY.keep {W W' : World} {b : Nat} {f : Fr} (h : FrY W b f) (hb : Below W.heap.size W W') : FrY W' b f :=
  ⟨keep_cell hb h.1, keep_cell hb h.2.1, keep_cell hb h.2.2.1, keep_cell hb h.2.2.2.1, keep_cell hb h.2.2.2.2.1, keep_cell hb h.2.2.2.2.2.1, keep_cell hb h.2.2.2.2.2.2.1, keep_cell hb h.2.2.2.2.2.2.2.1, keep_cell hb h.2.2.2.2.2.2.2.2⟩
theorem FrY.new (w : World) (f : Fr) (T : TypeId) : FrY (w.alloc (.cells #[.int .i64 f.mo, .int .i64 f.tl, .int .i64 f.pr, .int .i64 f.ti, .int .i64 f.fl, .int .i64 f.r0, .int .i64 f.r1, .int .i64 f.r2, .int .i64 f.r3] T)) w.heap.size f := by
  refine ⟨?_, ?_, ?_, ?_, ?_, ?_, ?_, ?_, ?_⟩ <;> simp [go_sem]
theorem spl_lenM (l : List Db) (ps : List Py) (m P : Int) : (splL l ps m P).length ≤ 1000000 := by
  unfold splL
  split
  · rename_i h
    unfold splB at h
    simp only [Bool.and_eq_true, decide_eq_true_eq] at h
    rw [List.length_map, List.length_range]
    omega
  · simp
theorem st_lenM {l : List Db} (ps : List Py) (m : Int) (hl : l.length ≤ 1002) : (stL l ps m).length ≤ 1000000 := by
  unfold stL
  split
  · rw [setL_len]; omega
  · simp
theorem owe_lenM (f : Fr) (b : Bool) : (oweR f b).length ≤ 1000000 := by
  cases b
  · show 0 ≤ 1000000; omega
  · show 3 ≤ 1000000; omega
theorem few_le18 {n k : Nat} (h : fewD n k = true) : n ≤ 1002 ∧ k ≤ 1002 := by
  unfold fewD at h
  rw [decide_eq_true_eq] at h
  omega
set_option maxHeartbeats 16000000 in
set_option maxRecDepth 100000 in
theorem debtMatches (f : Fr) (l : List Db) (ps : List Py) (m P : Int) (v1 v2 : Value) (w : World) (h1 : SliceOf vDb 6 w v1 l) (h2 : SliceOf vPy 4 w v2 ps) (hW : LawW w) :
    Calls Tryz.prog 3 #[vFr f, v1, v2, .int .i64 m, .int .i64 P] w fun e w' => e = .returned (.bool true) ∧ Below w.heap.size w w' := by
  have hba := bAlloc (Below.refl w.heap.size w) (.cells #[.int .i64 f.mo, .int .i64 f.tl, .int .i64 f.pr, .int .i64 f.ti, .int .i64 f.fl, .int .i64 f.r0, .int .i64 f.r1, .int .i64 f.r2, .int .i64 f.r3] 25)
  have HBA := hide hba
  have HH := hide (law18_head _ (hW.below hba))
  have HW := hide (hW.below hba)
  have HF0 := hide (FrY.new w f 25)
  have H1 := hide (h1.below hba)
  have H2 := hide (h2.below hba)
  obtain ⟨a1, c1, rfl⟩ := h1.shape
  obtain ⟨a2, c2, rfl⟩ := h2.shape
  clear h1 h2 hW hba
  unfold vFr
  go_enter Tryz.func3, Tryz.ntmps3
  go_wp2_with fail
  obtain ⟨A, hA⟩ : ∃ A, w.heap.size = A := ⟨_, rfl⟩
  obtain ⟨w0, hw0⟩ : ∃ W, w.alloc (.cells #[.int .i64 f.mo, .int .i64 f.tl, .int .i64 f.pr, .int .i64 f.ti, .int .i64 f.fl, .int .i64 f.r0, .int .i64 f.r1, .int .i64 f.r2, .int .i64 f.r3] 25) = W := ⟨_, rfl⟩
  rw [hw0] at HBA HH HW HF0 H1 H2
  have HAZ : Hid (A ≤ w0.heap.size) := by have := HBA.out.size; rw [hA] at this; exact this
  rw [hA] at HBA HF0
  rw [hw0, hA]
  clear hw0
  have HAA := hide hA
  clear hA
  refine HH.out.mono ?_
  rintro e w1 ⟨rfl, hb⟩
  have HB := hide hb
  clear hb
  go_wp2_with fail
  refine (r18_few _ _ _ _ _ _ _).mono ?_
  rintro e w2 ⟨rfl, rfl⟩
  rcases Bool.eq_false_or_eq_true (fewD l.length ps.length) with hf | hf
  case inr =>
    rw [hf]
    clear hf
    go_wp2_with fail
    go_ret
    exact ⟨rfl, by rw [HAA.out]; exact HBA.out.trans (HB.out.mono HAZ.out)⟩
  obtain ⟨hl, hps⟩ := few_le18 hf
  rw [hf]
  obtain ⟨b, hb⟩ : ∃ b, oweB f = b := ⟨_, rfl⟩
  have HO1 := hide (fun W => de_owe f W b hb)
  have HO2 := hide (fun W => r18_owe f W b hb)
  have HS1 := hide (fun W (hb : Below w0.heap.size w0 W) => de_settle l ps m _ _ W (H1.out.below hb) (H2.out.below hb))
  have HS2 := hide (fun W (hb : Below w0.heap.size w0 W) => r18_settle l ps m hl hps _ _ W (H1.out.below hb) (H2.out.below hb))
  have HP1 := hide (fun W (hb : Below w0.heap.size w0 W) => de_paid f ps m _ W (H2.out.below hb))
  have HP2 := hide (fun W (hb : Below w0.heap.size w0 W) => r18_paid f ps m hps _ W (H2.out.below hb))
  have HT1 := hide (fun W (hb : Below w0.heap.size w0 W) => de_split l ps m P _ _ W (H1.out.below hb) (H2.out.below hb) (HW.out.below hb))
  have HT2 := hide (fun W (hb : Below w0.heap.size w0 W) => r18_split l ps m P hl hps _ _ W (H1.out.below hb) (H2.out.below hb))
  have HL1 := hide (owe_lenM f b)
  have HL2 := hide (st_lenM (l := l) ps m hl)
  have HL3 := hide (spl_lenM l ps m P)
  unfold vFr at HO1 HO2 HP1 HP2
  obtain ⟨L1, hL1⟩ : ∃ L, oweR f b = L := ⟨_, rfl⟩
  obtain ⟨E1, hE1⟩ : ∃ L, oweE b = L := ⟨_, rfl⟩
  obtain ⟨L2, hL2⟩ : ∃ L, stL l ps m = L := ⟨_, rfl⟩
  obtain ⟨E2, hE2⟩ : ∃ L, stE l ps m = L := ⟨_, rfl⟩
  obtain ⟨L3, hL3⟩ : ∃ L, splL l ps m P = L := ⟨_, rfl⟩
  obtain ⟨E3, hE3⟩ : ∃ L, splE l ps m P = L := ⟨_, rfl⟩
  obtain ⟨B4, hB4⟩ : ∃ L, paidB f ps m = L := ⟨_, rfl⟩
  obtain ⟨E4, hE4⟩ : ∃ L, paidE f ps m = L := ⟨_, rfl⟩
  rw [hL1, hE1] at HO1 HO2
  rw [hL2, hE2] at HS1 HS2
  rw [hL3, hE3] at HT1 HT2
  rw [hB4, hE4] at HP1 HP2
  rw [hL1] at HL1
  rw [hL2] at HL2
  rw [hL3] at HL3
  clear hb hf hl hps hL1 hE1 hL2 hE2 hL3 hE3 hB4 hE4
  obtain ⟨q0, q1, q2, q3, q4, q5, q6, q7, q8⟩ := HF0.out.keep HB.out
  go_wp2_with fail
  refine (HO1.out _).mono ?_
  rintro e w3 ⟨u1, rfl, hs, hb⟩
  clear q0 q1 q2 q3 q4 q5 q6 q7 q8
  have HB := hide (bStepD HB.out hb)
  have HA1 := hide hs
  clear hs hb
  obtain ⟨q0, q1, q2, q3, q4, q5, q6, q7, q8⟩ := HF0.out.keep HB.out
  go_wp2_with fail
  refine (HO2.out _).mono ?_
  rintro e w4 ⟨u2, rfl, hs, hb⟩
  clear q0 q1 q2 q3 q4 q5 q6 q7 q8
  have HA1 := hide (HA1.out.below hb)
  have HB := hide (bStepD HB.out hb)
  have HA2 := hide hs
  clear hs hb
  go_wp2_with fail
  refine (HS1.out _ HB.out).mono ?_
  rintro e w5 ⟨u3, rfl, hs, hb⟩
  have HA1 := hide (HA1.out.below hb)
  have HA2 := hide (HA2.out.below hb)
  have HB := hide (bStepD HB.out hb)
  have HA3 := hide hs
  clear hs hb
  go_wp2_with fail
  refine (HS2.out _ HB.out).mono ?_
  rintro e w6 ⟨u4, rfl, hs, hb⟩
  have HA1 := hide (HA1.out.below hb)
  have HA2 := hide (HA2.out.below hb)
  have HA3 := hide (HA3.out.below hb)
  have HB := hide (bStepD HB.out hb)
  have HA4 := hide hs
  clear hs hb
  obtain ⟨q0, q1, q2, q3, q4, q5, q6, q7, q8⟩ := HF0.out.keep HB.out
  go_wp2_with fail
  refine (HP1.out _ HB.out).mono ?_
  rintro e w7 ⟨rfl, hb⟩
  clear q0 q1 q2 q3 q4 q5 q6 q7 q8
  have HA1 := hide (HA1.out.below hb)
  have HA2 := hide (HA2.out.below hb)
  have HA3 := hide (HA3.out.below hb)
  have HA4 := hide (HA4.out.below hb)
  have HB := hide (bStepD HB.out hb)
  clear hb
  obtain ⟨q0, q1, q2, q3, q4, q5, q6, q7, q8⟩ := HF0.out.keep HB.out
  go_wp2_with fail
  refine (HP2.out _ HB.out).mono ?_
  rintro e w8 ⟨rfl, hb⟩
  clear q0 q1 q2 q3 q4 q5 q6 q7 q8
  have HA1 := hide (HA1.out.below hb)
  have HA2 := hide (HA2.out.below hb)
  have HA3 := hide (HA3.out.below hb)
  have HA4 := hide (HA4.out.below hb)
  have HB := hide (bStepD HB.out hb)
  clear hb
  go_wp2_with fail
  refine (HT1.out _ HB.out).mono ?_
  rintro e w9 ⟨u5, rfl, hs, hb⟩
  have HA1 := hide (HA1.out.below hb)
  have HA2 := hide (HA2.out.below hb)
  have HA3 := hide (HA3.out.below hb)
  have HA4 := hide (HA4.out.below hb)
  have HB := hide (bStepD HB.out hb)
  have HA5 := hide hs
  clear hs hb
  go_wp2_with fail
  refine (HT2.out _ HB.out).mono ?_
  rintro e w10 ⟨u6, rfl, hs, hb⟩
  have HA1 := hide (HA1.out.below hb)
  have HA2 := hide (HA2.out.below hb)
  have HA3 := hide (HA3.out.below hb)
  have HA4 := hide (HA4.out.below hb)
  have HA5 := hide (HA5.out.below hb)
  have HB := hide (bStepD HB.out hb)
  have HA6 := hide hs
  clear hs hb
  go_wp2_with fail
  refine (l18_debts L1 _ _ _ HA1.out HA2.out HL1.out).mono ?_
  rintro e w11 ⟨rfl, hb⟩
  have HA3 := hide (HA3.out.below hb)
  have HA4 := hide (HA4.out.below hb)
  have HA5 := hide (HA5.out.below hb)
  have HA6 := hide (HA6.out.below hb)
  have HB := hide (bStepD HB.out hb)
  clear hb
  go_wp2_with fail
  refine (l18_equal L2 _ _ _ HA3.out HA4.out HL2.out).mono ?_
  rintro e w12 ⟨rfl, hb⟩
  have HA5 := hide (HA5.out.below hb)
  have HA6 := hide (HA6.out.below hb)
  have HB := hide (bStepD HB.out hb)
  clear hb
  go_wp2_with fail
  refine (l18_rats L3 _ _ _ HA5.out HA6.out HL3.out).mono ?_
  rintro e w13 ⟨rfl, hb⟩
  have HB := hide (bStepD HB.out hb)
  clear hb
  go_wp2_with fail
  go_ret
  exact ⟨rfl, by rw [HAA.out]; exact HBA.out.trans (HB.out.mono HAZ.out)⟩
end Go.Proofs.YtlagoiaiodjmhaaGreatDoor
