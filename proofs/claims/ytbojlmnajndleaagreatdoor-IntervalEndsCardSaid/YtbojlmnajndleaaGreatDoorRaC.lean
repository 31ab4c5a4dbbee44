/- rational: the sums' methods. -/
import Derived.Test.YtbojlmnajndleaaGreatDoorRaB
set_option linter.unusedVariables false
set_option linter.unusedSimpArgs false
namespace Go.Proofs.YtbojlmnajndleaaGreatDoor
open Go.RowKit

/-- What a product or a sum of naturals leaves, and its error. -/
def msS (n : Nat) : ByteArray := if n < capN then natS n else ⟨#[]⟩
def msE (n : Nat) : Int := if n < capN then 0 else 2
theorem msS_ok {n : Nat} (h : n < capN) : msS n = natS n := if_pos h
theorem msE_ok {n : Nat} (h : n < capN) : msE n = 0 := if_pos h
theorem msE_bad {n : Nat} (h : ¬ n < capN) : msE n = 2 := if_neg h
theorem TextPost.ms {w w' : World} {n : Nat} {e : Ending} (h : TextPost w n e w') : e = .returned (.tuple #[.string (msS n), .int .i64 (msE n)]) ∧ Below w.heap.size w w' := by
  obtain ⟨hb, ⟨h1, he⟩ | ⟨h1, he⟩⟩ := h
  · rw [msS_ok h1, msE_ok h1]; exact ⟨he, hb⟩
  · unfold msS msE; rw [if_neg h1, if_neg h1]; exact ⟨he, hb⟩
/-- The first error. -/
def er2 (er k : Int) : Int := if er = 0 then k else er
/-- The world behind a step that may set the error in block R. -/
structure StepR (W w' : World) (R : Nat) (er : Int) : Prop where
  only : Only2 W w' R none
  cell : w'.cell? ⟨R, 0, none⟩ = some (.int .i64 er)
  froz : w'.frozen? ⟨R, 0, none⟩ = false
theorem StepR.trans {w0 w1 w2 : World} {R : Nat} {a b : Int} (h : Only2 w0 w1 R none) (k : StepR w1 w2 R b) : StepR w0 w2 R b :=
  ⟨⟨k.only.os.trans h.os, k.only.tape.trans h.tape, k.only.output.trans h.output, Nat.le_trans h.size k.only.size, fun j hj h1 h2 => (k.only.block j (Nat.lt_of_lt_of_le hj h.size) h1 h2).trans (h.block j hj h1 h2)⟩, k.cell, k.froz⟩
theorem Only2.refl (w : World) (R : Nat) (row : Option Nat) : Only2 w w R row := ⟨rfl, rfl, rfl, Nat.le_refl _, fun _ _ _ _ => rfl⟩
theorem Only2.trans' {w0 w1 w2 : World} {R : Nat} (h : Only2 w0 w1 R none) (k : Only2 w1 w2 R none) : Only2 w0 w2 R none :=
  ⟨k.os.trans h.os, k.tape.trans h.tape, k.output.trans h.output, Nat.le_trans h.size k.size, fun j hj h1 h2 => (k.block j (Nat.lt_of_lt_of_le hj h.size) h1 h2).trans (h.block j hj h1 h2)⟩
theorem Only2.lawW {w w' : World} {R : Nat} {B : Nat} (h : Only2 w w' R none) (hR : B ≤ R) (hB : B ≤ w.heap.size) : Below B w w' := h.below hR (by simp) hB
set_option maxHeartbeats 2000000 in
set_option maxRecDepth 100000 in
theorem sums_take (R : Nat) (s : ByteArray) (k er : Int) (w : World) (hc : w.cell? ⟨R, 0, none⟩ = some (.int .i64 er)) (hf : w.frozen? ⟨R, 0, none⟩ = false) :
    Calls Tryz.prog 44 #[.pointer (some ⟨R, 0, none⟩), .string s, .int .i64 k] w fun e w' => e = .returned (.string s) ∧ StepR w w' R (er2 er k) := by
  have HC := hide hc
  have HF := hide hf
  by_cases h : er = 0
  · subst h
    go_enter Tryz.func44, Tryz.ntmps44
    go_wp2_with fail
    go_ret
    exact ⟨rfl, (Only2.refl _ _ _).setCell 0 _, World.cell?_setCell_same _ _ _ HC.out, by rw [World.frozen?_setCell]; exact HF.out⟩
  · have he : (er == 0) = false := by simpa using h
    have HE : Hid (er2 er k = er) := if_neg h
    clear h
    go_enter Tryz.func44, Tryz.ntmps44
    go_wp2_with fail
    go_ret
    exact ⟨rfl, Only2.refl _ _ _, by rw [HE.out]; exact HC.out, HF.out⟩
set_option maxHeartbeats 2000000 in
set_option maxRecDepth 100000 in
theorem sums_mul (R : Nat) (x y : Nat) (er : Int) (w : World) (hx : x < capN) (hy : y < capN) (hw : LawW w) (hc : w.cell? ⟨R, 0, none⟩ = some (.int .i64 er)) (hf : w.frozen? ⟨R, 0, none⟩ = false) :
    Calls Tryz.prog 39 #[.pointer (some ⟨R, 0, none⟩), .string (natS x), .string (natS y)] w fun e w' => e = .returned (.string (msS (x * y))) ∧ StepR w w' R (er2 er (msE (x * y))) := by
  have HM : Hid (∀ W, LawW W → Calls Tryz.prog 63 #[.string (natS x), .string (natS y)] W fun e w' => e = .returned (.tuple #[.string (msS (x * y)), .int .i64 (msE (x * y))]) ∧ Below W.heap.size W w') := fun W hW => (nat_mul x y W hx hy hW).mono fun _ _ h => h.ms
  have HC := hide hc
  have HF := hide hf
  have HW := hide hw
  obtain ⟨m, hm⟩ : ∃ s, msS (x * y) = s := ⟨_, rfl⟩
  obtain ⟨k, hk⟩ : ∃ s, msE (x * y) = s := ⟨_, rfl⟩
  obtain ⟨sx, hsx⟩ : ∃ s, natS x = s := ⟨_, rfl⟩
  obtain ⟨sy, hsy⟩ : ∃ s, natS y = s := ⟨_, rfl⟩
  rw [hm, hk, hsx, hsy] at HM
  rw [hm, hk, hsx, hsy]
  clear hm hk hsx hsy hx hy hc hf hw
  go_enter Tryz.func39, Tryz.ntmps39
  go_wp2_with fail
  refine (HM.out _ HW.out).mono ?_
  rintro e w1 ⟨rfl, hb⟩
  have HC1 := hide (keep_cell hb HC.out)
  have HF1 := hide ((hb.frozen (p := ⟨R, 0, none⟩) (World.block_lt_of_cell? _ _ HC.out)).trans HF.out)
  have HO := hide (Only2.of_below (R := R) (row := none) hb)
  clear hb
  go_wp2_with fail
  refine (sums_take R m k er _ HC1.out HF1.out).mono ?_
  rintro e w2 ⟨rfl, hs⟩
  have HS := hide hs
  clear hs
  go_wp2_with fail
  go_ret
  exact ⟨rfl, StepR.trans (a := er) HO.out HS.out⟩
set_option maxHeartbeats 2000000 in
set_option maxRecDepth 100000 in
theorem sums_add (R : Nat) (x y : Nat) (er : Int) (w : World) (hx : x < capN) (hy : y < capN) (hw : LawW w) (hc : w.cell? ⟨R, 0, none⟩ = some (.int .i64 er)) (hf : w.frozen? ⟨R, 0, none⟩ = false) :
    Calls Tryz.prog 42 #[.pointer (some ⟨R, 0, none⟩), .string (natS x), .string (natS y)] w fun e w' => e = .returned (.string (msS (x + y))) ∧ StepR w w' R (er2 er (msE (x + y))) := by
  have HM : Hid (∀ W, LawW W → Calls Tryz.prog 64 #[.string (natS x), .string (natS y)] W fun e w' => e = .returned (.tuple #[.string (msS (x + y)), .int .i64 (msE (x + y))]) ∧ Below W.heap.size W w') := fun W hW => (nat_add x y W hx hy hW).mono fun _ _ h => h.ms
  have HC := hide hc
  have HF := hide hf
  have HW := hide hw
  obtain ⟨m, hm⟩ : ∃ s, msS (x + y) = s := ⟨_, rfl⟩
  obtain ⟨k, hk⟩ : ∃ s, msE (x + y) = s := ⟨_, rfl⟩
  obtain ⟨sx, hsx⟩ : ∃ s, natS x = s := ⟨_, rfl⟩
  obtain ⟨sy, hsy⟩ : ∃ s, natS y = s := ⟨_, rfl⟩
  rw [hm, hk, hsx, hsy] at HM
  rw [hm, hk, hsx, hsy]
  clear hm hk hsx hsy hx hy hc hf hw
  go_enter Tryz.func42, Tryz.ntmps42
  go_wp2_with fail
  refine (HM.out _ HW.out).mono ?_
  rintro e w1 ⟨rfl, hb⟩
  have HC1 := hide (keep_cell hb HC.out)
  have HF1 := hide ((hb.frozen (p := ⟨R, 0, none⟩) (World.block_lt_of_cell? _ _ HC.out)).trans HF.out)
  have HO := hide (Only2.of_below (R := R) (row := none) hb)
  clear hb
  go_wp2_with fail
  refine (sums_take R m k er _ HC1.out HF1.out).mono ?_
  rintro e w2 ⟨rfl, hs⟩
  have HS := hide hs
  clear hs
  go_wp2_with fail
  go_ret
  exact ⟨rfl, StepR.trans (a := er) HO.out HS.out⟩
set_option maxHeartbeats 2000000 in
set_option maxRecDepth 100000 in
theorem join_ok (R D : Nat) (g : Bool) (n d : Nat) (w : World) (hn : n < capN) (hd : d < capN) (hd0 : 0 < d) (hw : LawW w) (hc : w.cell? ⟨R, 0, none⟩ = some (.int .i64 0)) (hD : w.cell? ⟨D, 0, none⟩ = some (.string (natS d))) :
    Calls Tryz.prog 40 #[.bool g, .string (natS n), .pointer (some ⟨R, 0, none⟩), .pointer (some ⟨D, 0, none⟩)] w (RqPost w (mkQ g n d)) := by
  have HL : Hid (∀ W, LawW W → Calls Tryz.prog 41 #[.bool g, .string (natS n), .string (natS d)] W fun e w' => e = .returned (rqV (mkQ g n d)) ∧ Below W.heap.size W w') := fun W hW => rat_lowest g n d W hn hd hd0 hW
  have HW := hide hw
  unfold RqPost
  obtain ⟨q, hq⟩ : ∃ q, mkQ g n d = q := ⟨_, rfl⟩
  rw [hq] at HL ⊢
  unfold rqV at HL ⊢
  obtain ⟨g', hg'⟩ : ∃ s, ngQ q = s := ⟨_, rfl⟩
  obtain ⟨s', hs'⟩ : ∃ s, natS (nmQ q) = s := ⟨_, rfl⟩
  obtain ⟨t', ht'⟩ : ∃ s, natS q.den = s := ⟨_, rfl⟩
  rw [hg', hs', ht'] at HL ⊢
  obtain ⟨s, hs⟩ : ∃ s, natS n = s := ⟨_, rfl⟩
  obtain ⟨t, ht⟩ : ∃ s, natS d = s := ⟨_, rfl⟩
  rw [hs] at HL ⊢
  rw [ht] at HL hD
  clear hn hd hd0 hs ht hs' ht' hg' hq hw
  have hb0 := bAlloc (Below.refl w.heap.size w) (.cells #[.bool false, .string ⟨#[]⟩, .string ⟨#[]⟩] 24)
  have HB0 := hide hb0
  have c8 := keep_cell hb0 hc
  have c9 := keep_cell hb0 hD
  clear hb0
  have HR0 := hide (RC.new w false ⟨#[]⟩ ⟨#[]⟩ 24)
  go_enter Tryz.func40, Tryz.ntmps40
  go_wp2_with fail
  refine (HL.out _ (HW.out.below HB0.out)).mono ?_
  rintro e w3 ⟨rfl, hb⟩
  have HB3 := hide (bStep HB0.out hb)
  have HR3 := hide (HR0.out.below hb)
  obtain ⟨c0, c1, c2, f0, f1, f2⟩ := HR3.out
  clear hb
  go_wp2_with fail
  obtain ⟨d0, d1, d2, _, _, _⟩ := HR3.out.set3 g' s' t'
  exact bodyPost_ret (v := .tuple #[.agg #[.bool g', .string s', .string t'], .int .i64 0]) (by simp [results, Tryz.results40, go_sem, d0, d1, d2]) rfl ⟨rfl, bset3 HB3.out (Nat.le_refl _) _ _ _⟩
set_option maxHeartbeats 2000000 in
set_option maxRecDepth 100000 in
theorem join_err (R : Nat) (g : Bool) (n : ByteArray) (D : Value) (er : Int) (w : World) (hne : er ≠ 0) (hc : w.cell? ⟨R, 0, none⟩ = some (.int .i64 er)) :
    Calls Tryz.prog 40 #[.bool g, .string n, .pointer (some ⟨R, 0, none⟩), D] w (ReqPost w er) := by
  have hb0 := bAlloc (Below.refl w.heap.size w) (.cells #[.bool false, .string ⟨#[]⟩, .string ⟨#[]⟩] 24)
  have HB0 := hide hb0
  have c8 := keep_cell hb0 hc
  have he : (er == 0) = false := by simpa using hne
  have he2 : (er != 0) = true := by simpa using hne
  have hR : R ≠ w.heap.size := by have : R < w.heap.size := World.block_lt_of_cell? _ _ hc; omega
  clear hb0 hne
  unfold ReqPost zV
  have HR0 := hide (RC.new w false ⟨#[]⟩ ⟨#[]⟩ 24)
  go_enter Tryz.func40, Tryz.ntmps40
  go_wp2_with fail
  obtain ⟨c0, c1, c2, f0, f1, f2⟩ := HR0.out
  go_region
  all_goals
    go_wp2_with fail
    exact bodyPost_ret (v := .tuple #[.agg #[.bool false, .string ⟨#[]⟩, .string ⟨#[]⟩], .int .i64 er]) (by simp [results, Tryz.results40, go_sem]) rfl ⟨rfl, HB0.out.drew⟩
end Go.Proofs.YtbojlmnajndleaaGreatDoor
