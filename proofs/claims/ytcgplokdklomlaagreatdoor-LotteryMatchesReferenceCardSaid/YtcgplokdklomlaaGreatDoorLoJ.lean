/- Law 29: head. -/
import Derived.Test.YtcgplokdklomlaaGreatDoorLoI
set_option linter.unusedVariables false
set_option linter.unusedSimpArgs false
namespace Go.Proofs.YtcgplokdklomlaaGreatDoor
open Go.RowKit

theorem hd_val : vldL [1, 2, 3] [0, 2, 2] [10, 30, 10] = true := by decide +kernel
theorem hd_tk : tkL [1, 2, 3] [0, 2, 2] [10, 30, 10] = [180, 405, 135] ∧ tkE [1, 2, 3] [0, 2, 2] [10, 30, 10] = 0 := by decide +kernel
theorem hd_tn : tkL [1, 2, 3] [] [] = [] ∧ tkE [1, 2, 3] [] [] = 0 := by decide +kernel
theorem hd_tb : tkE [1, 2, 3] [0] [0] = 1 := by decide +kernel
theorem hd_ls : lstB [180, 405, 135] = true := by decide +kernel
theorem hd_of : ofQ ([180, 405, 135].getD 1 0) 720 = (9 / 16 : Rat) := by decide +kernel
theorem hd_rq : rqV (9 / 16 : Rat) = .agg #[.bool false, .string ⟨#[57]⟩, .string ⟨#[49, 54]⟩] := by
  have e1 : ngQ (9 / 16 : Rat) = false := by decide +kernel
  have e2 : natS (nmQ (9 / 16 : Rat)) = ⟨#[57]⟩ := by decide +kernel
  have e3 : natS (9 / 16 : Rat).den = ⟨#[49, 54]⟩ := by decide +kernel
  unfold rqV
  rw [e1, e2, e3]
theorem ilit (w : World) (l : List Int) (T : TypeId) {s n : Nat} (hs : w.heap.size = s) (hn : l.length = n) {cs : Array Value} (hc : (flatV vI l).toArray = cs) (hm : n ≤ 1000) : SliceOf vI 1 (w.alloc (.cells cs T)) (.slice (some ⟨s, 0, none⟩) n n) l := by
  subst hs hn hc
  exact slice_lit vI_len w l T (by unfold maxLen; omega)
set_option maxHeartbeats 8000000 in
set_option maxRecDepth 100000 in
theorem law29_head (w : World) (hW : LawW w) : Calls Tryz.prog 10 #[] w fun e w' => e = .returned (.bool true) ∧ Below w.heap.size w w' := by
  have HW := hide hW
  have HB0 := hide (bAlloc (Below.refl w.heap.size w) (.cells #[.int .i64 1, .int .i64 2, .int .i64 3] 3))
  have HS0 := hide (ilit w [1, 2, 3] 3 (s := w.heap.size) (n := 3) (cs := #[.int .i64 1, .int .i64 2, .int .i64 3]) rfl rfl rfl (by decide))
  have HT := hide (fun (X : World) (hX : Below (w.alloc (.cells #[.int .i64 1, .int .i64 2, .int .i64 3] 3)).heap.size (w.alloc (.cells #[.int .i64 1, .int .i64 2, .int .i64 3] 3)) X) v2 v3 h2 h3 => lo_tk [1, 2, 3] [0, 2, 2] [10, 30, 10] _ v2 v3 X (HS0.out.below hX) h2 h3 (by decide) (by decide) (by decide))
  have HTN := hide (fun (X : World) (hX : Below (w.alloc (.cells #[.int .i64 1, .int .i64 2, .int .i64 3] 3)).heap.size (w.alloc (.cells #[.int .i64 1, .int .i64 2, .int .i64 3] 3)) X) => lo_tk [1, 2, 3] [] [] _ (.slice none 0 0) (.slice none 0 0) X (HS0.out.below hX) (slice_nil0 _ _ _) (slice_nil0 _ _ _) (by decide) (by decide) (by decide))
  have HTB := hide (fun (X : World) (hX : Below (w.alloc (.cells #[.int .i64 1, .int .i64 2, .int .i64 3] 3)).heap.size (w.alloc (.cells #[.int .i64 1, .int .i64 2, .int .i64 3] 3)) X) v2 v3 h2 h3 => lo_tk [1, 2, 3] [0] [0] _ v2 v3 X (HS0.out.below hX) h2 h3 (by decide) (by decide) (by decide))
  rw [hd_tk.1, hd_tk.2] at HT
  rw [hd_tn.1, hd_tn.2] at HTN
  rw [hd_tb] at HTB
  have HNM := hide (fun (X : World) (v : Value) (h : SliceOf vI 1 X v [180, 405, 135]) (d : Int) (i : Nat) hd0 hd1 hi h1 h2 => lo_names [180, 405, 135] d i v X hd_ls h hd0 hd1 hi h1 h2)
  have HOD := hide (fun (X : World) (hX : LawW X) (v : Value) (h : SliceOf vI 1 X v [180, 405, 135]) => lo_odds [180, 405, 135] 1 (9 / 16) false ⟨#[57]⟩ ⟨#[49, 54]⟩ v X hd_ls h (by decide) hd_of hd_rq hX)
  have HIN := hide (fun (X : World) (v u : Value) h1 h2 => ref29_ints [180, 405, 135] [180, 405, 135] v u X true (by decide) h1 h2 (by decide))
  clear hW
  go_enter Tryz.func10, Tryz.ntmps10
  go_wp2_with fail
  obtain ⟨wa, hwa⟩ : ∃ x, w.alloc (.cells #[.int .i64 1, .int .i64 2, .int .i64 3] 3) = x := ⟨_, rfl⟩
  rw [hwa] at HT HTN HTB HB0 HS0
  have hsz : wa.heap.size = w.heap.size + 1 := by rw [← hwa]; simp
  rw [hwa]
  clear hwa
  have HSB := hide ((ilit wa [0, 2, 2] 3 (s := w.heap.size + 1) (n := 3) (cs := #[.int .i64 0, .int .i64 2, .int .i64 2]) hsz rfl rfl (by decide)).below (bAlloc (Below.refl _ _) (.cells #[.int .i64 10, .int .i64 30, .int .i64 10] 3)))
  have HSC := hide (ilit (wa.alloc (.cells #[.int .i64 0, .int .i64 2, .int .i64 2] 3)) [10, 30, 10] 3 (s := w.heap.size + 2) (n := 3) (cs := #[.int .i64 10, .int .i64 30, .int .i64 10]) (by simp [hsz]) rfl rfl (by decide))
  have HBa := hide (bAlloc (bAlloc (Below.refl wa.heap.size wa) (.cells #[.int .i64 0, .int .i64 2, .int .i64 2] 3)) (.cells #[.int .i64 10, .int .i64 30, .int .i64 10] 3))
  have HSZ := hide hsz
  clear hsz
  refine (HT.out _ HBa.out _ _ HSB.out HSC.out).mono ?_
  rintro e w2 ⟨u, rfl, hs, hb⟩
  obtain ⟨uo, uc, rfl⟩ : ∃ uo uc, u = .slice uo 3 uc := hs.shape
  have HL2 := hide hs
  have HB2 := hide (bStepL HBa.out hb)
  clear hs hb HSB HSC
  go_wp2_with fail
  refine (HTN.out _ HB2.out).mono ?_
  rintro e w3 ⟨u, rfl, hs, hb⟩
  obtain ⟨vo, vc, rfl⟩ : ∃ uo uc, u = .slice uo 0 uc := hs.shape
  have HL3 := hide (HL2.out.below hb)
  have HB3 := hide (bStepL HB2.out hb)
  clear hs hb HL2 HB2
  go_wp2_with fail
  refine (HTB.out _ (bAlloc (bAlloc HB3.out (.cells #[.int .i64 0] 3)) (.cells #[.int .i64 0] 3)) _ _ ((ilit w3 [0] 3 (s := w3.heap.size) (n := 1) (cs := #[.int .i64 0]) rfl rfl rfl (by decide)).below (bAlloc (Below.refl _ _) (.cells #[.int .i64 0] 3))) (ilit (w3.alloc (.cells #[.int .i64 0] 3)) [0] 3 (s := w3.heap.size + 1) (n := 1) (cs := #[.int .i64 0]) (by simp) rfl rfl (by decide))).mono ?_
  rintro e w4 ⟨u, rfl, hs, hb⟩
  have HL4 := hide ((HL3.out.below (bAlloc (bAlloc (Below.refl _ _) (.cells #[.int .i64 0] 3)) (.cells #[.int .i64 0] 3))).below hb)
  have HB4 := hide (bStepL (bAlloc (bAlloc HB3.out (.cells #[.int .i64 0] 3)) (.cells #[.int .i64 0] 3)) hb)
  clear hs hb HL3 HB3
  go_wp2_with fail
  refine (HIN.out _ _ _ (HL4.out.below (bAlloc (Below.refl _ _) (.cells #[.int .i64 180, .int .i64 405, .int .i64 135] 3))) (ilit w4 [180, 405, 135] 3 (s := w4.heap.size) (n := 3) (cs := #[.int .i64 180, .int .i64 405, .int .i64 135]) rfl rfl rfl (by decide))).mono ?_
  rintro e w5 ⟨rfl, hb⟩
  have HL5 := hide ((HL4.out.below (bAlloc (Below.refl _ _) (.cells #[.int .i64 180, .int .i64 405, .int .i64 135] 3))).below hb)
  have HB5 := hide (bStepL (bAlloc HB4.out (.cells #[.int .i64 180, .int .i64 405, .int .i64 135] 3)) hb)
  clear hb HL4 HB4
  go_wp2_with fail
  refine (HOD.out _ (HW.out.below (bStepL HB0.out HB5.out)) _ HL5.out).mono ?_
  rintro e w6 ⟨rfl, hb⟩
  have HL6 := hide ((HL5.out.below hb).below (bAlloc (Below.refl _ _) (.cells #[.bool false, .string ⟨#[57]⟩, .string ⟨#[49, 54]⟩] 32)))
  have HB6 := hide (bAlloc (bStepL HB5.out hb) (.cells #[.bool false, .string ⟨#[57]⟩, .string ⟨#[49, 54]⟩] 32))
  have HR6 : Hid (RC (w6.alloc (.cells #[.bool false, .string ⟨#[57]⟩, .string ⟨#[49, 54]⟩] 32)) w6.heap.size false ⟨#[57]⟩ ⟨#[49, 54]⟩) := RC.new _ _ _ _ _
  clear hb HL5 HB5
  obtain ⟨H, hH⟩ : ∃ H, w6.heap.size = H := ⟨_, rfl⟩
  go_wp2_with fail
  obtain ⟨w7, hw7⟩ : ∃ x, w6.alloc (.cells #[.bool false, .string ⟨#[57]⟩, .string ⟨#[49, 54]⟩] 32) = x := ⟨_, rfl⟩
  rw [hw7, hH] at HR6
  rw [hw7] at HL6 HB6
  rw [hw7]
  clear hw7 hH
  refine (HNM.out _ _ HL6.out 0 0 (by decide) (by decide) (by decide) (by decide +kernel) (by decide +kernel)).mono ?_
  rintro e w8 ⟨rfl, hb⟩
  have HL7 := hide (HL6.out.below hb)
  have HB7 := hide (bStepL HB6.out hb)
  have HR7 := hide (HR6.out.below hb)
  clear hb HL6 HB6 HR6
  go_wp2_with fail
  refine (HNM.out _ _ HL7.out 179 0 (by decide) (by decide) (by decide) (by decide +kernel) (by decide +kernel)).mono ?_
  rintro e w9 ⟨rfl, hb⟩
  have HL8 := hide (HL7.out.below hb)
  have HB8 := hide (bStepL HB7.out hb)
  have HR8 := hide (HR7.out.below hb)
  clear hb HL7 HB7 HR7
  go_wp2_with fail
  refine (HNM.out _ _ HL8.out 180 1 (by decide) (by decide) (by decide) (by decide +kernel) (by decide +kernel)).mono ?_
  rintro e w10 ⟨rfl, hb⟩
  have HL9 := hide (HL8.out.below hb)
  have HB9 := hide (bStepL HB8.out hb)
  have HR9 := hide (HR8.out.below hb)
  clear hb HL8 HB8 HR8
  go_wp2_with fail
  refine (HNM.out _ _ HL9.out 584 1 (by decide) (by decide) (by decide) (by decide +kernel) (by decide +kernel)).mono ?_
  rintro e w11 ⟨rfl, hb⟩
  have HL10 := hide (HL9.out.below hb)
  have HB10 := hide (bStepL HB9.out hb)
  have HR10 := hide (HR9.out.below hb)
  clear hb HL9 HB9 HR9
  go_wp2_with fail
  refine (HNM.out _ _ HL10.out 585 2 (by decide) (by decide) (by decide) (by decide +kernel) (by decide +kernel)).mono ?_
  rintro e w12 ⟨rfl, hb⟩
  have HL11 := hide (HL10.out.below hb)
  have HB11 := hide (bStepL HB10.out hb)
  have HR11 := hide (HR10.out.below hb)
  clear hb HL10 HB10 HR10
  go_wp2_with fail
  refine (HNM.out _ _ HL11.out 719 2 (by decide) (by decide) (by decide) (by decide +kernel) (by decide +kernel)).mono ?_
  rintro e w13 ⟨rfl, hb⟩
  have HL12 := hide (HL11.out.below hb)
  have HB12 := hide (bStepL HB11.out hb)
  have HR12 := hide (HR11.out.below hb)
  clear hb HL11 HB11 HR11
  obtain ⟨r0, r1, r2, -, -, -⟩ := HR12.out
  go_wp2_with fail
  go_ret
  exact ⟨rfl, bStepL HB0.out HB12.out⟩
end Go.Proofs.YtcgplokdklomlaaGreatDoor
