/- IntervalHulls. -/
import Derived.Test.YtbojlmnajndleaaGreatDoorIvL
import Derived.Deep.DeepCutAuto
set_option linter.unusedVariables false
set_option linter.unusedSimpArgs false
namespace Go.Proofs.YtbojlmnajndleaaGreatDoor
open Go.RowKit Go.Sort Go.Deep Go.ChangeShapes Go.WideShapes
theorem Tryz.infoI6 : (Tryz.prog.info? 26).map (fun i => (i.zero, i.size, i.bytes)) = some (some (.agg #[.bool false, .string ⟨#[]⟩, .string ⟨#[]⟩, .bool false, .string ⟨#[]⟩, .string ⟨#[]⟩]), 6, 80) := by kernel_rfl

set_option maxHeartbeats 8000000 in
set_option maxRecDepth 100000 in
theorem hulls_0 (l : List (Q3 × Q3)) (ao : Option Addr) (cp : Nat) (g1 : Bool) (s1 t1 : ByteArray)  (w : World) (hv : SliceOf vIv 6 w (.slice ao l.length cp) l) (hl : l.length ≤ maxLen) (hf : (fewI l && fewQ 60 [(g1, s1, t1)]) = false) (hw : LawW w) :
    Calls Tryz.prog 6 #[.slice ao l.length cp, .agg #[.bool g1, .string s1, .string t1]] w fun e w' => e = .returned (.bool true) ∧ Below w.heap.size w w' := by
  have HW := hide hw
  have HH := hide (fun W hW => law05_head W hW)
  have HF := hide (fun u W (h1 : Below w.heap.size w W) h2 => law05_few l [(g1, s1, t1)] (.slice ao l.length cp) u W (hv.below h1) h2 hl (by show 1 ≤ 1000; decide))
  rw [hf] at HF

  have HV0 : Hid (VB w w []) := VB.nil w
  clear hw hf hl hv 
  go_enter Tryz.func6, Tryz.ntmps6
  have HV0_ := hide (HV0.out.push3 (b := w.heap.size) (by simp) (.bool g1) (.string s1) (.string t1) 24)
  clear HV0
  go_wp2_with fail
  refine (HH.out _ (HV0_.out.law HW.out)).mono ?_
  rintro e w1 ⟨rfl, hb⟩
  have HV1 := hide (HV0_.out.below hb)
  clear hb HV0_
  obtain ⟨c1, c2, c3⟩ := HV1.out.at3 0 rfl
  have hlq : SliceOf vQ 3 (w1.alloc (.cells #[.bool g1, .string s1, .string t1] 24)) (.slice (some ⟨w1.heap.size, 0, none⟩) 1 1) [(g1, s1, t1)] := slice_lit_iv vQ_len w1 [(g1, s1, t1)] _ (show 1 ≤ maxLen by decide) (by simp) rfl rfl
  have HLQ := hide hlq
  clear hlq
  have HV1_ := hide (HV1.out.anon (.cells #[.bool g1, .string s1, .string t1] 24))
  clear HV1
  go_wp2_with fail
  clear c1 c2 c3
  refine (HF.out _ _ HV1_.out.bel HLQ.out).mono ?_
  rintro e w2 ⟨rfl, hb⟩
  have HV2 := hide (HV1_.out.below hb)
  clear hb HV1_ HF HLQ
  go_wp2_with fail
  go_ret
  exact ⟨rfl, HV2.out.bel⟩
set_option maxHeartbeats 8000000 in
set_option maxRecDepth 100000 in
theorem hulls_bad (l : List (Q3 × Q3)) (ao : Option Addr) (cp : Nat) (g1 : Bool) (s1 t1 : ByteArray)  (w : World) (hv : SliceOf vIv 6 w (.slice ao l.length cp) l) (hl : l.length ≤ maxLen) (h1 : ∀ W, Below w.heap.size w W → LawW W → Calls Tryz.prog 15 #[.slice ao l.length cp] W fun e w' => e = .returned (.tuple #[.agg #[.bool false, .string ⟨#[]⟩, .string ⟨#[]⟩, .bool false, .string ⟨#[]⟩, .string ⟨#[]⟩], .int .i64 1]) ∧ Below W.heap.size W w') (hn : l.length ≠ 0) (hf : (fewI l && fewQ 60 [(g1, s1, t1)]) = true) (hw : LawW w) :
    Calls Tryz.prog 6 #[.slice ao l.length cp, .agg #[.bool g1, .string s1, .string t1]] w fun e w' => e = .returned (.bool true) ∧ Below w.heap.size w w' := by
  have Hh1 := hide h1
  have HW := hide hw
  have HH := hide (fun W hW => law05_head W hW)
  have HF := hide (fun u W (h1 : Below w.heap.size w W) h2 => law05_few l [(g1, s1, t1)] (.slice ao l.length cp) u W (hv.below h1) h2 hl (by show 1 ≤ 1000; decide))
  rw [hf] at HF
  have j1 : ((l.length : Int) == 0) = false := beq_eq_false_iff_ne.2 (by omega)
  have j2 : ¬ l.length = 0 := by omega

  have HV0 : Hid (VB w w []) := VB.nil w
  clear h1 hw hf hl hv hn
  go_enter Tryz.func6, Tryz.ntmps6
  have HV0_ := hide (HV0.out.push3 (b := w.heap.size) (by simp) (.bool g1) (.string s1) (.string t1) 24)
  clear HV0
  go_wp2_with fail
  refine (HH.out _ (HV0_.out.law HW.out)).mono ?_
  rintro e w1 ⟨rfl, hb⟩
  have HV1 := hide (HV0_.out.below hb)
  clear hb HV0_
  obtain ⟨c1, c2, c3⟩ := HV1.out.at3 0 rfl
  have hlq : SliceOf vQ 3 (w1.alloc (.cells #[.bool g1, .string s1, .string t1] 24)) (.slice (some ⟨w1.heap.size, 0, none⟩) 1 1) [(g1, s1, t1)] := slice_lit_iv vQ_len w1 [(g1, s1, t1)] _ (show 1 ≤ maxLen by decide) (by simp) rfl rfl
  have HLQ := hide hlq
  clear hlq
  have HV1_ := hide (HV1.out.anon (.cells #[.bool g1, .string s1, .string t1] 24))
  clear HV1
  go_wp2_with fail
  clear c1 c2 c3
  refine (HF.out _ _ HV1_.out.bel HLQ.out).mono ?_
  rintro e w2 ⟨rfl, hb⟩
  have HV2 := hide (HV1_.out.below hb)
  clear hb HV1_ HF HLQ
  go_wp2_with fail
  refine (Hh1.out _ HV2.out.bel (HV2.out.law HW.out)).mono ?_
  rintro e w3 ⟨rfl, hb⟩
  have HV3 := hide (HV2.out.below hb)
  clear hb HV2
  have HV3_ := hide (HV3.out.push6 (b := w3.heap.size) (by simp) (.bool false) (.string ⟨#[]⟩) (.string ⟨#[]⟩) (.bool false) (.string ⟨#[]⟩) (.string ⟨#[]⟩) 26)
  clear HV3
  obtain ⟨c4, c5, c6, c7, c8, c9⟩ := HV3_.out.at6 0 rfl
  go_wp2_with fail
  clear c4 c5 c6 c7 c8 c9
  go_ret
  exact ⟨rfl, HV3_.out.bel⟩
set_option maxHeartbeats 8000000 in
set_option maxRecDepth 100000 in
theorem hulls_nil (ao : Option Addr) (cp : Nat) (g1 : Bool) (s1 t1 : ByteArray)  (w : World) (hv : SliceOf vIv 6 w (.slice ao 0 cp) []) (hl : 0 ≤ maxLen) (h1 : ∀ W, Below w.heap.size w W → LawW W → Calls Tryz.prog 15 #[.slice ao 0 cp] W fun e w' => e = .returned (.tuple #[.agg #[.bool false, .string ⟨#[]⟩, .string ⟨#[]⟩, .bool false, .string ⟨#[]⟩, .string ⟨#[]⟩], .int .i64 10]) ∧ Below W.heap.size W w') (hf : (fewI [] && fewQ 60 [(g1, s1, t1)]) = true) (hw : LawW w) :
    Calls Tryz.prog 6 #[.slice ao 0 cp, .agg #[.bool g1, .string s1, .string t1]] w fun e w' => e = .returned (.bool true) ∧ Below w.heap.size w w' := by
  have Hh1 := hide h1
  have HW := hide hw
  have HH := hide (fun W hW => law05_head W hW)
  have HF := hide (fun u W (h1 : Below w.heap.size w W) h2 => law05_few [] [(g1, s1, t1)] (.slice ao 0 cp) u W (hv.below h1) h2 hl (by show 1 ≤ 1000; decide))
  rw [hf] at HF

  have HV0 : Hid (VB w w []) := VB.nil w
  clear h1 hw hf hl hv
  go_enter Tryz.func6, Tryz.ntmps6
  have HV0_ := hide (HV0.out.push3 (b := w.heap.size) (by simp) (.bool g1) (.string s1) (.string t1) 24)
  clear HV0
  go_wp2_with fail
  refine (HH.out _ (HV0_.out.law HW.out)).mono ?_
  rintro e w1 ⟨rfl, hb⟩
  have HV1 := hide (HV0_.out.below hb)
  clear hb HV0_
  obtain ⟨c1, c2, c3⟩ := HV1.out.at3 0 rfl
  have hlq : SliceOf vQ 3 (w1.alloc (.cells #[.bool g1, .string s1, .string t1] 24)) (.slice (some ⟨w1.heap.size, 0, none⟩) 1 1) [(g1, s1, t1)] := slice_lit_iv vQ_len w1 [(g1, s1, t1)] _ (show 1 ≤ maxLen by decide) (by simp) rfl rfl
  have HLQ := hide hlq
  clear hlq
  have HV1_ := hide (HV1.out.anon (.cells #[.bool g1, .string s1, .string t1] 24))
  clear HV1
  go_wp2_with fail
  clear c1 c2 c3
  refine (HF.out _ _ HV1_.out.bel HLQ.out).mono ?_
  rintro e w2 ⟨rfl, hb⟩
  have HV2 := hide (HV1_.out.below hb)
  clear hb HV1_ HF HLQ
  go_wp2_with fail
  refine (Hh1.out _ HV2.out.bel (HV2.out.law HW.out)).mono ?_
  rintro e w3 ⟨rfl, hb⟩
  have HV3 := hide (HV2.out.below hb)
  clear hb HV2
  have HV3_ := hide (HV3.out.push6 (b := w3.heap.size) (by simp) (.bool false) (.string ⟨#[]⟩) (.string ⟨#[]⟩) (.bool false) (.string ⟨#[]⟩) (.string ⟨#[]⟩) 26)
  clear HV3
  obtain ⟨c4, c5, c6, c7, c8, c9⟩ := HV3_.out.at6 0 rfl
  go_wp2_with fail
  clear c4 c5 c6 c7 c8 c9
  go_ret
  exact ⟨rfl, HV3_.out.bel⟩
/-- The cells of an interval. -/
def IvAt (W : World) (b o : Nat) (a : Q3 × Q3) : Prop := W.cell? ⟨b, o, none⟩ = some (.bool a.1.1) ∧ W.cell? ⟨b, o + 1, none⟩ = some (.string a.1.2.1) ∧ W.cell? ⟨b, o + 2, none⟩ = some (.string a.1.2.2) ∧ W.cell? ⟨b, o + 3, none⟩ = some (.bool a.2.1) ∧ W.cell? ⟨b, o + 4, none⟩ = some (.string a.2.2.1) ∧ W.cell? ⟨b, o + 5, none⟩ = some (.string a.2.2.2)
theorem ivat_of {W : World} {b o : Nat} {a : Q3 × Q3} (h : ∀ j u, (vIv a)[j]? = some u → W.cell? ⟨b, o + j, none⟩ = some u) : IvAt W b o a :=
  ⟨h 0 _ rfl, h 1 _ rfl, h 2 _ rfl, h 3 _ rfl, h 4 _ rfl, h 5 _ rfl⟩
def AllQ (l : List (Q3 × Q3)) (P R : Q3 × Q3 → Prop) : Prop := ∀ a ∈ l, P a ∨ R a
def IsIn (x : Q3) (l : List Q3) : Prop := x ∈ l

set_option maxHeartbeats 8000000 in
set_option maxRecDepth 100000 in
theorem hulls_ok (l : List (Q3 × Q3)) (ao : Option Addr) (cp : Nat) (g1 : Bool) (s1 t1 : ByteArray) (g2 : Bool) (s2 t2 : ByteArray) (g3 : Bool) (s3 t3 : ByteArray) (w : World) (hv : SliceOf vIv 6 w (.slice ao l.length cp) l) (hl : l.length ≤ maxLen) (h1 : ∀ W, Below w.heap.size w W → LawW W → Calls Tryz.prog 15 #[.slice ao l.length cp] W fun e w' => e = .returned (.tuple #[.agg #[.bool g2, .string s2, .string t2, .bool g3, .string s3, .string t3], .int .i64 0]) ∧ Below W.heap.size W w') (h2 : ∀ u W, SliceOf vIv 6 W u l.reverse → LawW W → Calls Tryz.prog 15 #[u] W fun e w' => e = .returned (.tuple #[.agg #[.bool g2, .string s2, .string t2, .bool g3, .string s3, .string t3], .int .i64 0]) ∧ Below W.heap.size W w') (h3 : ∀ a ∈ l, (∀ W, LawW W → Calls Tryz.prog 21 #[iArg a, .agg #[.bool g1, .string s1, .string t1]] W fun e w' => e = .returned (.bool false) ∧ Below W.heap.size W w') ∨ ((∀ W, LawW W → Calls Tryz.prog 21 #[iArg a, .agg #[.bool g1, .string s1, .string t1]] W fun e w' => e = .returned (.bool true) ∧ Below W.heap.size W w') ∧ ∀ W, LawW W → Calls Tryz.prog 21 #[.agg #[.bool g2, .string s2, .string t2, .bool g3, .string s3, .string t3], .agg #[.bool g1, .string s1, .string t1]] W fun e w' => e = .returned (.bool true) ∧ Below W.heap.size W w')) (h4 : ∀ a ∈ l, ∀ W, LawW W → Calls Tryz.prog 21 #[.agg #[.bool g2, .string s2, .string t2, .bool g3, .string s3, .string t3], qArg a.1] W fun e w' => e = .returned (.bool true) ∧ Below W.heap.size W w') (h5 : ∀ a ∈ l, ∀ W, LawW W → Calls Tryz.prog 21 #[.agg #[.bool g2, .string s2, .string t2, .bool g3, .string s3, .string t3], qArg a.2] W fun e w' => e = .returned (.bool true) ∧ Below W.heap.size W w') (hlo : (g2, s2, t2) ∈ l.map Prod.fst) (hhi : (g3, s3, t3) ∈ l.map Prod.snd) (h0 : 0 < l.length) (h12 : l.length ≤ 12) (hf : (fewI l && fewQ 60 [(g1, s1, t1)]) = true) (hw : LawW w) :
    Calls Tryz.prog 6 #[.slice ao l.length cp, .agg #[.bool g1, .string s1, .string t1]] w fun e w' => e = .returned (.bool true) ∧ Below w.heap.size w w' := by
  have Hh1 := hide h1
  have Hh2 := hide h2
  have HW := hide hw
  have HH := hide (fun W hW => law05_head W hW)
  have HF := hide (fun u W (h1 : Below w.heap.size w W) h2 => law05_few l [(g1, s1, t1)] (.slice ao l.length cp) u W (hv.below h1) h2 hl (by show 1 ≤ 1000; decide))
  rw [hf] at HF
  have H3 : Hid (AllQ l (fun a => ∀ W, LawW W → Calls Tryz.prog 21 #[iArg a, .agg #[.bool g1, .string s1, .string t1]] W fun e w' => e = .returned (.bool false) ∧ Below W.heap.size W w') (fun a => (∀ W, LawW W → Calls Tryz.prog 21 #[iArg a, .agg #[.bool g1, .string s1, .string t1]] W fun e w' => e = .returned (.bool true) ∧ Below W.heap.size W w') ∧ ∀ W, LawW W → Calls Tryz.prog 21 #[.agg #[.bool g2, .string s2, .string t2, .bool g3, .string s3, .string t3], .agg #[.bool g1, .string s1, .string t1]] W fun e w' => e = .returned (.bool true) ∧ Below W.heap.size W w')) := h3
  have H4 := hide h4
  have H5 := hide h5
  have HLO : Hid (IsIn (g2, s2, t2) (l.reverse.map Prod.fst)) := by show _ ∈ _; rw [List.map_reverse, List.mem_reverse]; exact hlo
  have HHI : Hid (IsIn (g3, s3, t3) (l.reverse.map Prod.snd)) := by show _ ∈ _; rw [List.map_reverse, List.mem_reverse]; exact hhi
  obtain ⟨bl, off, rfl, _, hcap, hcm, hc⟩ := SliceOf.at_ hv h0
  have HCI : Hid (∀ W, Below w.heap.size w W → ∀ m (hm : m < l.length), IvAt W bl (off + m * 6) l[m]) := fun W hW m hm => ivat_of (fun j u hu => keep_cell hW (hc m hm j u hu))
  have hcpI : (l.length : Int) ≤ (cp : Int) := by omega
  have hcmI : (cp : Int) ≤ 9223372036854775807 := by unfold maxLen at hcm; omega
  have hlI : (l.length : Int) ≤ 12 := by omega
  have hl0 : (0 : Int) < (l.length : Int) := by omega
  have HRL : Hid (l.reverse.length = l.length) := List.length_reverse
  have HRG : Hid (∀ k m (hk : k < l.reverse.length) (hm : k + m + 1 = l.length), l.reverse[k] = l[m]) := fun k m hk hm => by
    rw [List.getElem_reverse]
    congr 1
    omega
  obtain ⟨i0, hi, hz0, hz1, hz2⟩ := info_parts Tryz.infoI6

  have HV0 : Hid (VB w w []) := VB.nil w
  clear h1 h2 hw hf hl hv h3 h4 h5 hlo hhi hc hcap hcm h0 h12
  go_enter Tryz.func6, Tryz.ntmps6
  have HV0_ := hide (HV0.out.push3 (b := w.heap.size) (by simp) (.bool g1) (.string s1) (.string t1) 24)
  clear HV0
  go_wp2_with fail
  refine (HH.out _ (HV0_.out.law HW.out)).mono ?_
  rintro e w1 ⟨rfl, hb⟩
  have HV1 := hide (HV0_.out.below hb)
  clear hb HV0_
  obtain ⟨c1, c2, c3⟩ := HV1.out.at3 0 rfl
  have hlq : SliceOf vQ 3 (w1.alloc (.cells #[.bool g1, .string s1, .string t1] 24)) (.slice (some ⟨w1.heap.size, 0, none⟩) 1 1) [(g1, s1, t1)] := slice_lit_iv vQ_len w1 [(g1, s1, t1)] _ (show 1 ≤ maxLen by decide) (by simp) rfl rfl
  have HLQ := hide hlq
  clear hlq
  have HV1_ := hide (HV1.out.anon (.cells #[.bool g1, .string s1, .string t1] 24))
  clear HV1
  go_wp2_with fail
  clear c1 c2 c3
  refine (HF.out _ _ HV1_.out.bel HLQ.out).mono ?_
  rintro e w2 ⟨rfl, hb⟩
  have HV2 := hide (HV1_.out.below hb)
  clear hb HV1_ HF HLQ
  go_wp2_with fail
  refine (Hh1.out _ HV2.out.bel (HV2.out.law HW.out)).mono ?_
  rintro e w3 ⟨rfl, hb⟩
  have HV3 := hide (HV2.out.below hb)
  clear hb HV2
  have HV3_ := hide (HV3.out.push6 (b := w3.heap.size) (by simp) (.bool g2) (.string s2) (.string t2) (.bool g3) (.string s3) (.string t3) 26)
  clear HV3
  go_wp2_with fail
  obtain ⟨wq, hwq⟩ : ∃ x, (w3.alloc (.cells #[.bool g2, .string s2, .string t2, .bool g3, .string s3, .string t3] 26)) = x := ⟨_, rfl⟩
  have HQ := hide HV3_.out
  rw [hwq] at HQ ⊢
  clear hwq HV3_
  go_loopw [8, 9, 10, 11] (fun z8 z9 z10 z11 wx => ∃ (k : Nat) (b1 b2 : Bool), k ≤ l.length ∧ z8 = .bool b1 ∧ z9 = .bool b2 ∧ z11 = .int .i64 ((l.length : Int) - 1 - (k : Int)) ∧ IsB b1 ((g2, s2, t2) ∈ (l.reverse.map Prod.fst).take k) ∧ IsB b2 ((g3, s3, t3) ∈ (l.reverse.map Prod.snd).take k) ∧ Bld vIv 6 wq wx l.reverse z10 k) (fun _ _ _ z _ => (intOf z + 1).toNat)
  case atStart => exact ⟨0, false, false, Nat.zero_le _, rfl, rfl, congrArg (Value.int .i64) (by omega), IsB.zero _ _, IsB.zero _ _, Bld.nil _ _ _ _⟩
  case round =>
    obtain ⟨k, b1, b2, hk, rfl, rfl, rfl, e1, e2, hst⟩ := hrel
    have HE1 := hide e1
    have HE2 := hide e2
    have HST := hide hst
    clear e1 e2 hst
    by_cases hlt : k < l.length
    · obtain ⟨m, hm⟩ : ∃ m : Nat, (l.length : Int) - 1 - (k : Int) = (m : Int) := ⟨l.length - 1 - k, by omega⟩
      have hm2 : k + m + 1 = l.length := by omega
      rw [hm]
      have HM := hide hm
      clear hm
      have hmi : (m : Int) < (l.length : Int) := by omega
      have hm0 : (0 : Int) ≤ (m : Int) := by omega
      have hml : m < l.length := by omega
      have hkR : k < l.reverse.length := by rw [HRL.out]; exact hlt
      have HG := hide (HRG.out k m hkR hm2)
      have HHV := hide (HQ.out.below HST.out.below)
      have HMEM := hide (List.getElem_mem hml)
      have HCW := hide (fun W hW => HCI.out W hW m hml)
      have h3 := H3.out _ HMEM.out
      have h4 := H4.out _ HMEM.out
      have h5 := H5.out _ HMEM.out
      have HG1 : Hid ((l.reverse.map Prod.fst)[k]? = some l[m].1) := by show _ = _; rw [List.getElem?_map, List.getElem?_eq_getElem hkR, HG.out]; rfl
      have HG2 : Hid ((l.reverse.map Prod.snd)[k]? = some l[m].2) := by show _ = _; rw [List.getElem?_map, List.getElem?_eq_getElem hkR, HG.out]; rfl
      obtain ⟨a, ha⟩ : ∃ a, l[m] = a := ⟨_, rfl⟩
      rw [ha] at HG HMEM h3 h4 h5 HG1 HG2
      have HCW : Hid (∀ W, Below w.heap.size w W → IvAt W bl (off + m * 6) a) := by rw [← ha]; exact HCW.out
      clear ha
      obtain ⟨⟨g4, s4, t4⟩, g5, s5, t5⟩ := a
      have H3a := hide h3
      have H4a := hide h4
      have H5a := hide h5
      have HM2 := hide hm2
      have HLW : Hid (∀ W, Below wr.heap.size wr W → LawW W) := fun W h => (HHV.out.below h).law HW.out
      have HCS : Hid (∀ W, Below wr.heap.size wr W → ((W.cell? ⟨w.heap.size, 0, none⟩ = some (.bool g1) ∧ W.cell? ⟨w.heap.size, 1, none⟩ = some (.string s1) ∧ W.cell? ⟨w.heap.size, 2, none⟩ = some (.string t1)) ∧ (W.cell? ⟨w3.heap.size, 0, none⟩ = some (.bool g2) ∧ W.cell? ⟨w3.heap.size, 1, none⟩ = some (.string s2) ∧ W.cell? ⟨w3.heap.size, 2, none⟩ = some (.string t2)) ∧ (W.cell? ⟨w3.heap.size, 3, none⟩ = some (.bool g3) ∧ W.cell? ⟨w3.heap.size, 4, none⟩ = some (.string s3) ∧ W.cell? ⟨w3.heap.size, 5, none⟩ = some (.string t3))) ∧ ((W.cell? ⟨bl, off + m * 6, none⟩ = some (.bool g4) ∧ W.cell? ⟨bl, off + m * 6 + 1, none⟩ = some (.string s4) ∧ W.cell? ⟨bl, off + m * 6 + 2, none⟩ = some (.string t4)) ∧ (W.cell? ⟨bl, off + m * 6 + 3, none⟩ = some (.bool g5) ∧ W.cell? ⟨bl, off + m * 6 + 3 + 1, none⟩ = some (.string s5) ∧ W.cell? ⟨bl, off + m * 6 + 3 + 2, none⟩ = some (.string t5)) ∧ (True)) ∧ W.cell? ⟨bl, off + m * 6 + 4, none⟩ = some (.string s5) ∧ W.cell? ⟨bl, off + m * 6 + 5, none⟩ = some (.string t5)) := fun W h => by
        have hv := HHV.out.below h
        obtain ⟨x0, x1, x2⟩ := hv.at3 1 rfl
        obtain ⟨y0, y1, y2, y3, y4, y5⟩ := hv.at6 0 rfl
        obtain ⟨z0, z1, z2, z3, z4, z5⟩ := HCW.out W hv.bel
        exact ⟨⟨⟨x0, x1, x2⟩, ⟨y0, y1, y2⟩, y3, y4, y5⟩, ⟨⟨z0, z1, z2⟩, ⟨z3, z4, z5⟩, trivial⟩, z4, z5⟩
      clear h3 h4 h5 hm2
      go_wp2_with fail
      go_cut [80] (fun z wx => z = .bool false ∧ Below wr.heap.size wr wx)
      case first =>
        have hd := (Below.refl wr.heap.size wr).drew
        rcases H3a.out with q0 | ⟨q0, q1⟩
        all_goals have HQ0 := hide q0
        all_goals clear q0
        · skip
          refine wp_region_noPanic ?_
          refine wp_region_held_drew (S := (fun w' => ((w'.cell? ⟨w.heap.size, 0, none⟩ = some (.bool g1) ∧ w'.cell? ⟨w.heap.size, 1, none⟩ = some (.string s1) ∧ w'.cell? ⟨w.heap.size, 2, none⟩ = some (.string t1)) ∧ (w'.cell? ⟨w3.heap.size, 0, none⟩ = some (.bool g2) ∧ w'.cell? ⟨w3.heap.size, 1, none⟩ = some (.string s2) ∧ w'.cell? ⟨w3.heap.size, 2, none⟩ = some (.string t2)) ∧ (w'.cell? ⟨w3.heap.size, 3, none⟩ = some (.bool g3) ∧ w'.cell? ⟨w3.heap.size, 4, none⟩ = some (.string s3) ∧ w'.cell? ⟨w3.heap.size, 5, none⟩ = some (.string t3))) ∧ ((w'.cell? ⟨bl, off + m * 6, none⟩ = some (.bool g4) ∧ w'.cell? ⟨bl, off + m * 6 + 1, none⟩ = some (.string s4) ∧ w'.cell? ⟨bl, off + m * 6 + 2, none⟩ = some (.string t4)) ∧ (w'.cell? ⟨bl, off + m * 6 + 3, none⟩ = some (.bool g5) ∧ w'.cell? ⟨bl, off + m * 6 + 3 + 1, none⟩ = some (.string s5) ∧ w'.cell? ⟨bl, off + m * 6 + 3 + 2, none⟩ = some (.string t5)) ∧ (True)) ∧ w'.cell? ⟨bl, off + m * 6 + 4, none⟩ = some (.string s5) ∧ w'.cell? ⟨bl, off + m * 6 + 5, none⟩ = some (.string t5))) (by kernel_rfl) (HCS.out _ hd) (fun hHeld => ?_)
          change wpAnyH _ _ _ _ _ 32 #[false, false, false, false, false, false, false, false, false, false, false, false, false, false, false, false, false, false, false, false, false, false, false, false, false, false, false, false, false, false, false, false] _ _
          refine wpAnyH_take (i := 0) (oi := _) (v := ?_) rfl (by kernel_rfl) (by kernel_rfl) (by kernel_rfl) (fun _ _ _ h => h) (Or.inl ⟨by rfl, ?_⟩) (by assumption) ?_
          rotate_left
          · intro w hSw
            (try dsimp only at hSw)
            go_simp
            try with_reducible rfl
          try simp only [List.getElem_toArray, List.getElem_cons_zero, List.getElem_cons_succ, List.get, Act.put, List.setIfInBounds_toArray, List.set_cons_zero, List.set_cons_succ]
          refine wpAnyH_take (i := 1) (oi := _) (v := ?_) rfl (by kernel_rfl) (by kernel_rfl) (by kernel_rfl) (fun _ _ _ h => h) (Or.inl ⟨by rfl, ?_⟩) (by assumption) ?_
          rotate_left
          · intro w hSw
            (try dsimp only at hSw)
            go_simp
            try with_reducible rfl
          try simp only [List.getElem_toArray, List.getElem_cons_zero, List.getElem_cons_succ, List.get, Act.put, List.setIfInBounds_toArray, List.set_cons_zero, List.set_cons_succ]
          refine wpAnyH_take (i := 2) (oi := _) (v := ?_) rfl (by kernel_rfl) (by kernel_rfl) (by kernel_rfl) (fun _ _ _ h => h) (Or.inl ⟨by rfl, ?_⟩) (by assumption) ?_
          rotate_left
          · intro w hSw
            (try dsimp only at hSw)
            go_simp
            try with_reducible rfl
          try simp only [List.getElem_toArray, List.getElem_cons_zero, List.getElem_cons_succ, List.get, Act.put, List.setIfInBounds_toArray, List.set_cons_zero, List.set_cons_succ]
          refine wpAnyH_take (i := 3) (oi := _) (v := ?_) rfl (by kernel_rfl) (by kernel_rfl) (by kernel_rfl) (fun _ _ _ h => h) (Or.inl ⟨by rfl, ?_⟩) (by assumption) ?_
          rotate_left
          · intro w hSw
            (try dsimp only at hSw)
            go_simp
            try with_reducible rfl
          try simp only [List.getElem_toArray, List.getElem_cons_zero, List.getElem_cons_succ, List.get, Act.put, List.setIfInBounds_toArray, List.set_cons_zero, List.set_cons_succ]
          refine wpAnyH_take (i := 4) (oi := _) (v := ?_) rfl (by kernel_rfl) (by kernel_rfl) (by kernel_rfl) (fun _ _ _ h => h) (Or.inl ⟨by rfl, ?_⟩) (by assumption) ?_
          rotate_left
          · intro w hSw
            (try dsimp only at hSw)
            go_simp
            try with_reducible rfl
          try simp only [List.getElem_toArray, List.getElem_cons_zero, List.getElem_cons_succ, List.get, Act.put, List.setIfInBounds_toArray, List.set_cons_zero, List.set_cons_succ]
          refine wpAnyH_ready (rs := [5]) (by kernel_rfl) (by simp) ?_
          refine AllReadyH.cons (o := _) rfl (fun K hK => ?_) AllReadyH.nil
          go_simp
          refine (HQ0.out _ (HLW.out _ hd)).mono ?_
          rintro e wa ⟨rfl, hb⟩
          have hd := bStep (w0 := wr) hd hb
          clear hb
          go_wp2_with fail
          refine hK.out _ _ (HCS.out _ hd) (fun hHeld => ?_)
          clear hK K
          try simp only [List.getElem_toArray, List.getElem_cons_zero, List.getElem_cons_succ, List.get, Act.put, List.setIfInBounds_toArray, List.set_cons_zero, List.set_cons_succ]
          refine wpAnyH_take (i := 6) (oi := _) (v := ?_) rfl (by kernel_rfl) (by kernel_rfl) (by kernel_rfl) (fun _ _ _ h => h) (Or.inl ⟨by rfl, ?_⟩) (by assumption) ?_
          rotate_left
          · intro w hSw
            (try dsimp only at hSw)
            go_simp
            try with_reducible rfl
          try simp only [List.getElem_toArray, List.getElem_cons_zero, List.getElem_cons_succ, List.get, Act.put, List.setIfInBounds_toArray, List.set_cons_zero, List.set_cons_succ]
          refine wpAnyH_take (i := 7) (oi := _) (v := undef) rfl (by kernel_rfl) (by kernel_rfl) (by kernel_rfl) (fun _ _ _ h => h) (Or.inr ⟨by rfl, rfl⟩) (by assumption) ?_
          try simp only [List.getElem_toArray, List.getElem_cons_zero, List.getElem_cons_succ, List.get, Act.put, List.setIfInBounds_toArray, List.set_cons_zero, List.set_cons_succ]
          refine wpAnyH_take (i := 8) (oi := _) (v := undef) rfl (by kernel_rfl) (by kernel_rfl) (by kernel_rfl) (fun _ _ _ h => h) (Or.inr ⟨by rfl, rfl⟩) (by assumption) ?_
          try simp only [List.getElem_toArray, List.getElem_cons_zero, List.getElem_cons_succ, List.get, Act.put, List.setIfInBounds_toArray, List.set_cons_zero, List.set_cons_succ]
          refine wpAnyH_take (i := 9) (oi := _) (v := undef) rfl (by kernel_rfl) (by kernel_rfl) (by kernel_rfl) (fun _ _ _ h => h) (Or.inr ⟨by rfl, rfl⟩) (by assumption) ?_
          try simp only [List.getElem_toArray, List.getElem_cons_zero, List.getElem_cons_succ, List.get, Act.put, List.setIfInBounds_toArray, List.set_cons_zero, List.set_cons_succ]
          refine wpAnyH_take (i := 10) (oi := _) (v := undef) rfl (by kernel_rfl) (by kernel_rfl) (by kernel_rfl) (fun _ _ _ h => h) (Or.inr ⟨by rfl, rfl⟩) (by assumption) ?_
          try simp only [List.getElem_toArray, List.getElem_cons_zero, List.getElem_cons_succ, List.get, Act.put, List.setIfInBounds_toArray, List.set_cons_zero, List.set_cons_succ]
          refine wpAnyH_take (i := 11) (oi := _) (v := ?_) rfl (by kernel_rfl) (by kernel_rfl) (by kernel_rfl) (fun _ _ _ h => h) (Or.inl ⟨by rfl, ?_⟩) (by assumption) ?_
          rotate_left
          · intro w hSw
            (try dsimp only at hSw)
            go_simp
            try with_reducible rfl
          try simp only [List.getElem_toArray, List.getElem_cons_zero, List.getElem_cons_succ, List.get, Act.put, List.setIfInBounds_toArray, List.set_cons_zero, List.set_cons_succ]
          refine wpAnyH_take (i := 12) (oi := _) (v := ?_) rfl (by kernel_rfl) (by kernel_rfl) (by kernel_rfl) (fun _ _ _ h => h) (Or.inl ⟨by rfl, ?_⟩) (by assumption) ?_
          rotate_left
          · intro w hSw
            (try dsimp only at hSw)
            go_simp
            try with_reducible rfl
          try simp only [List.getElem_toArray, List.getElem_cons_zero, List.getElem_cons_succ, List.get, Act.put, List.setIfInBounds_toArray, List.set_cons_zero, List.set_cons_succ]
          refine wpAnyH_take (i := 13) (oi := _) (v := ?_) rfl (by kernel_rfl) (by kernel_rfl) (by kernel_rfl) (fun _ _ _ h => h) (Or.inl ⟨by rfl, ?_⟩) (by assumption) ?_
          rotate_left
          · intro w hSw
            (try dsimp only at hSw)
            go_simp
            try with_reducible rfl
          try simp only [List.getElem_toArray, List.getElem_cons_zero, List.getElem_cons_succ, List.get, Act.put, List.setIfInBounds_toArray, List.set_cons_zero, List.set_cons_succ]
          refine wpAnyH_take (i := 14) (oi := _) (v := ?_) rfl (by kernel_rfl) (by kernel_rfl) (by kernel_rfl) (fun _ _ _ h => h) (Or.inl ⟨by rfl, ?_⟩) (by assumption) ?_
          rotate_left
          · intro w hSw
            (try dsimp only at hSw)
            go_simp
            try with_reducible rfl
          try simp only [List.getElem_toArray, List.getElem_cons_zero, List.getElem_cons_succ, List.get, Act.put, List.setIfInBounds_toArray, List.set_cons_zero, List.set_cons_succ]
          refine wpAnyH_take (i := 15) (oi := _) (v := ?_) rfl (by kernel_rfl) (by kernel_rfl) (by kernel_rfl) (fun _ _ _ h => h) (Or.inl ⟨by rfl, ?_⟩) (by assumption) ?_
          rotate_left
          · intro w hSw
            (try dsimp only at hSw)
            go_simp
            try with_reducible rfl
          try simp only [List.getElem_toArray, List.getElem_cons_zero, List.getElem_cons_succ, List.get, Act.put, List.setIfInBounds_toArray, List.set_cons_zero, List.set_cons_succ]
          refine wpAnyH_take (i := 16) (oi := _) (v := ?_) rfl (by kernel_rfl) (by kernel_rfl) (by kernel_rfl) (fun _ _ _ h => h) (Or.inl ⟨by rfl, ?_⟩) (by assumption) ?_
          rotate_left
          · intro w hSw
            (try dsimp only at hSw)
            go_simp
            try with_reducible rfl
          try simp only [List.getElem_toArray, List.getElem_cons_zero, List.getElem_cons_succ, List.get, Act.put, List.setIfInBounds_toArray, List.set_cons_zero, List.set_cons_succ]
          refine wpAnyH_take (i := 17) (oi := _) (v := ?_) rfl (by kernel_rfl) (by kernel_rfl) (by kernel_rfl) (fun _ _ _ h => h) (Or.inl ⟨by rfl, ?_⟩) (by assumption) ?_
          rotate_left
          · intro w hSw
            (try dsimp only at hSw)
            go_simp
            try with_reducible rfl
          try simp only [List.getElem_toArray, List.getElem_cons_zero, List.getElem_cons_succ, List.get, Act.put, List.setIfInBounds_toArray, List.set_cons_zero, List.set_cons_succ]
          refine wpAnyH_take (i := 18) (oi := _) (v := ?_) rfl (by kernel_rfl) (by kernel_rfl) (by kernel_rfl) (fun _ _ _ h => h) (Or.inl ⟨by rfl, ?_⟩) (by assumption) ?_
          rotate_left
          · intro w hSw
            (try dsimp only at hSw)
            go_simp
            try with_reducible rfl
          try simp only [List.getElem_toArray, List.getElem_cons_zero, List.getElem_cons_succ, List.get, Act.put, List.setIfInBounds_toArray, List.set_cons_zero, List.set_cons_succ]
          refine wpAnyH_ready (rs := [19]) (by kernel_rfl) (by simp) ?_
          refine AllReadyH.cons (o := _) rfl (fun K hK => ?_) AllReadyH.nil
          go_simp
          refine (H4a.out _ (HLW.out _ hd)).mono ?_
          rintro e wa ⟨rfl, hb⟩
          have hd := bStep (w0 := wr) hd hb
          clear hb
          go_wp2_with fail
          refine hK.out _ _ (HCS.out _ hd) (fun hHeld => ?_)
          clear hK K
          try simp only [List.getElem_toArray, List.getElem_cons_zero, List.getElem_cons_succ, List.get, Act.put, List.setIfInBounds_toArray, List.set_cons_zero, List.set_cons_succ]
          refine wpAnyH_take (i := 20) (oi := _) (v := ?_) rfl (by kernel_rfl) (by kernel_rfl) (by kernel_rfl) (fun _ _ _ h => h) (Or.inl ⟨by rfl, ?_⟩) (by assumption) ?_
          rotate_left
          · intro w hSw
            (try dsimp only at hSw)
            go_simp
            try with_reducible rfl
          try simp only [List.getElem_toArray, List.getElem_cons_zero, List.getElem_cons_succ, List.get, Act.put, List.setIfInBounds_toArray, List.set_cons_zero, List.set_cons_succ]
          refine wpAnyH_take (i := 21) (oi := _) (v := ?_) rfl (by kernel_rfl) (by kernel_rfl) (by kernel_rfl) (fun _ _ _ h => h) (Or.inl ⟨by rfl, ?_⟩) (by assumption) ?_
          rotate_left
          · intro w hSw
            (try dsimp only at hSw)
            go_simp
            try with_reducible rfl
          try simp only [List.getElem_toArray, List.getElem_cons_zero, List.getElem_cons_succ, List.get, Act.put, List.setIfInBounds_toArray, List.set_cons_zero, List.set_cons_succ]
          refine wpAnyH_take (i := 22) (oi := _) (v := ?_) rfl (by kernel_rfl) (by kernel_rfl) (by kernel_rfl) (fun _ _ _ h => h) (Or.inl ⟨by rfl, ?_⟩) (by assumption) ?_
          rotate_left
          · intro w hSw
            (try dsimp only at hSw)
            go_simp
            try with_reducible rfl
          try simp only [List.getElem_toArray, List.getElem_cons_zero, List.getElem_cons_succ, List.get, Act.put, List.setIfInBounds_toArray, List.set_cons_zero, List.set_cons_succ]
          refine wpAnyH_take (i := 23) (oi := _) (v := ?_) rfl (by kernel_rfl) (by kernel_rfl) (by kernel_rfl) (fun _ _ _ h => h) (Or.inl ⟨by rfl, ?_⟩) (by assumption) ?_
          rotate_left
          · intro w hSw
            (try dsimp only at hSw)
            go_simp
            try with_reducible rfl
          try simp only [List.getElem_toArray, List.getElem_cons_zero, List.getElem_cons_succ, List.get, Act.put, List.setIfInBounds_toArray, List.set_cons_zero, List.set_cons_succ]
          refine wpAnyH_take (i := 24) (oi := _) (v := ?_) rfl (by kernel_rfl) (by kernel_rfl) (by kernel_rfl) (fun _ _ _ h => h) (Or.inl ⟨by rfl, ?_⟩) (by assumption) ?_
          rotate_left
          · intro w hSw
            (try dsimp only at hSw)
            go_simp
            try with_reducible rfl
          try simp only [List.getElem_toArray, List.getElem_cons_zero, List.getElem_cons_succ, List.get, Act.put, List.setIfInBounds_toArray, List.set_cons_zero, List.set_cons_succ]
          refine wpAnyH_take (i := 25) (oi := _) (v := ?_) rfl (by kernel_rfl) (by kernel_rfl) (by kernel_rfl) (fun _ _ _ h => h) (Or.inl ⟨by rfl, ?_⟩) (by assumption) ?_
          rotate_left
          · intro w hSw
            (try dsimp only at hSw)
            go_simp
            try with_reducible rfl
          try simp only [List.getElem_toArray, List.getElem_cons_zero, List.getElem_cons_succ, List.get, Act.put, List.setIfInBounds_toArray, List.set_cons_zero, List.set_cons_succ]
          refine wpAnyH_take (i := 26) (oi := _) (v := ?_) rfl (by kernel_rfl) (by kernel_rfl) (by kernel_rfl) (fun _ _ _ h => h) (Or.inl ⟨by rfl, ?_⟩) (by assumption) ?_
          rotate_left
          · intro w hSw
            (try dsimp only at hSw)
            go_simp
            try with_reducible rfl
          try simp only [List.getElem_toArray, List.getElem_cons_zero, List.getElem_cons_succ, List.get, Act.put, List.setIfInBounds_toArray, List.set_cons_zero, List.set_cons_succ]
          refine wpAnyH_take (i := 27) (oi := _) (v := ?_) rfl (by kernel_rfl) (by kernel_rfl) (by kernel_rfl) (fun _ _ _ h => h) (Or.inl ⟨by rfl, ?_⟩) (by assumption) ?_
          rotate_left
          · intro w hSw
            (try dsimp only at hSw)
            go_simp
            try with_reducible rfl
          try simp only [List.getElem_toArray, List.getElem_cons_zero, List.getElem_cons_succ, List.get, Act.put, List.setIfInBounds_toArray, List.set_cons_zero, List.set_cons_succ]
          refine wpAnyH_take (i := 28) (oi := _) (v := ?_) rfl (by kernel_rfl) (by kernel_rfl) (by kernel_rfl) (fun _ _ _ h => h) (Or.inl ⟨by rfl, ?_⟩) (by assumption) ?_
          rotate_left
          · intro w hSw
            (try dsimp only at hSw)
            go_simp
            try with_reducible rfl
          try simp only [List.getElem_toArray, List.getElem_cons_zero, List.getElem_cons_succ, List.get, Act.put, List.setIfInBounds_toArray, List.set_cons_zero, List.set_cons_succ]
          refine wpAnyH_ready (rs := [29]) (by kernel_rfl) (by simp) ?_
          refine AllReadyH.cons (o := _) rfl (fun K hK => ?_) AllReadyH.nil
          go_simp
          refine (H5a.out _ (HLW.out _ hd)).mono ?_
          rintro e wa ⟨rfl, hb⟩
          have hd := bStep (w0 := wr) hd hb
          clear hb
          go_wp2_with fail
          refine hK.out _ _ (HCS.out _ hd) (fun hHeld => ?_)
          clear hK K
          try simp only [List.getElem_toArray, List.getElem_cons_zero, List.getElem_cons_succ, List.get, Act.put, List.setIfInBounds_toArray, List.set_cons_zero, List.set_cons_succ]
          refine wpAnyH_take (i := 30) (oi := _) (v := ?_) rfl (by kernel_rfl) (by kernel_rfl) (by kernel_rfl) (fun _ _ _ h => h) (Or.inl ⟨by rfl, ?_⟩) (by assumption) ?_
          rotate_left
          · intro w hSw
            (try dsimp only at hSw)
            go_simp
            try with_reducible rfl
          try simp only [List.getElem_toArray, List.getElem_cons_zero, List.getElem_cons_succ, List.get, Act.put, List.setIfInBounds_toArray, List.set_cons_zero, List.set_cons_succ]
          refine wpAnyH_take (i := 31) (oi := _) (v := ?_) rfl (by kernel_rfl) (by kernel_rfl) (by kernel_rfl) (fun _ _ _ h => h) (Or.inl ⟨by rfl, ?_⟩) (by assumption) ?_
          rotate_left
          · intro w hSw
            (try dsimp only at hSw)
            go_simp
            try with_reducible rfl
          try simp only [List.getElem_toArray, List.getElem_cons_zero, List.getElem_cons_succ, List.get, Act.put, List.setIfInBounds_toArray, List.set_cons_zero, List.set_cons_succ]
          refine wpAnyH_done (by kernel_rfl) ?_ _
          refine NoPanic.normal ?_
          go_wp2_with fail
          go_meet
          exact ⟨rfl, hd⟩
        · have HQ1 := hide q1
          clear q1
          refine wp_region_noPanic ?_
          refine wp_region_held_drew (S := (fun w' => ((w'.cell? ⟨w.heap.size, 0, none⟩ = some (.bool g1) ∧ w'.cell? ⟨w.heap.size, 1, none⟩ = some (.string s1) ∧ w'.cell? ⟨w.heap.size, 2, none⟩ = some (.string t1)) ∧ (w'.cell? ⟨w3.heap.size, 0, none⟩ = some (.bool g2) ∧ w'.cell? ⟨w3.heap.size, 1, none⟩ = some (.string s2) ∧ w'.cell? ⟨w3.heap.size, 2, none⟩ = some (.string t2)) ∧ (w'.cell? ⟨w3.heap.size, 3, none⟩ = some (.bool g3) ∧ w'.cell? ⟨w3.heap.size, 4, none⟩ = some (.string s3) ∧ w'.cell? ⟨w3.heap.size, 5, none⟩ = some (.string t3))) ∧ ((w'.cell? ⟨bl, off + m * 6, none⟩ = some (.bool g4) ∧ w'.cell? ⟨bl, off + m * 6 + 1, none⟩ = some (.string s4) ∧ w'.cell? ⟨bl, off + m * 6 + 2, none⟩ = some (.string t4)) ∧ (w'.cell? ⟨bl, off + m * 6 + 3, none⟩ = some (.bool g5) ∧ w'.cell? ⟨bl, off + m * 6 + 3 + 1, none⟩ = some (.string s5) ∧ w'.cell? ⟨bl, off + m * 6 + 3 + 2, none⟩ = some (.string t5)) ∧ (True)) ∧ w'.cell? ⟨bl, off + m * 6 + 4, none⟩ = some (.string s5) ∧ w'.cell? ⟨bl, off + m * 6 + 5, none⟩ = some (.string t5))) (by kernel_rfl) (HCS.out _ hd) (fun hHeld => ?_)
          change wpAnyH _ _ _ _ _ 32 #[false, false, false, false, false, false, false, false, false, false, false, false, false, false, false, false, false, false, false, false, false, false, false, false, false, false, false, false, false, false, false, false] _ _
          refine wpAnyH_take (i := 0) (oi := _) (v := ?_) rfl (by kernel_rfl) (by kernel_rfl) (by kernel_rfl) (fun _ _ _ h => h) (Or.inl ⟨by rfl, ?_⟩) (by assumption) ?_
          rotate_left
          · intro w hSw
            (try dsimp only at hSw)
            go_simp
            try with_reducible rfl
          try simp only [List.getElem_toArray, List.getElem_cons_zero, List.getElem_cons_succ, List.get, Act.put, List.setIfInBounds_toArray, List.set_cons_zero, List.set_cons_succ]
          refine wpAnyH_take (i := 1) (oi := _) (v := ?_) rfl (by kernel_rfl) (by kernel_rfl) (by kernel_rfl) (fun _ _ _ h => h) (Or.inl ⟨by rfl, ?_⟩) (by assumption) ?_
          rotate_left
          · intro w hSw
            (try dsimp only at hSw)
            go_simp
            try with_reducible rfl
          try simp only [List.getElem_toArray, List.getElem_cons_zero, List.getElem_cons_succ, List.get, Act.put, List.setIfInBounds_toArray, List.set_cons_zero, List.set_cons_succ]
          refine wpAnyH_take (i := 2) (oi := _) (v := ?_) rfl (by kernel_rfl) (by kernel_rfl) (by kernel_rfl) (fun _ _ _ h => h) (Or.inl ⟨by rfl, ?_⟩) (by assumption) ?_
          rotate_left
          · intro w hSw
            (try dsimp only at hSw)
            go_simp
            try with_reducible rfl
          try simp only [List.getElem_toArray, List.getElem_cons_zero, List.getElem_cons_succ, List.get, Act.put, List.setIfInBounds_toArray, List.set_cons_zero, List.set_cons_succ]
          refine wpAnyH_take (i := 3) (oi := _) (v := ?_) rfl (by kernel_rfl) (by kernel_rfl) (by kernel_rfl) (fun _ _ _ h => h) (Or.inl ⟨by rfl, ?_⟩) (by assumption) ?_
          rotate_left
          · intro w hSw
            (try dsimp only at hSw)
            go_simp
            try with_reducible rfl
          try simp only [List.getElem_toArray, List.getElem_cons_zero, List.getElem_cons_succ, List.get, Act.put, List.setIfInBounds_toArray, List.set_cons_zero, List.set_cons_succ]
          refine wpAnyH_take (i := 4) (oi := _) (v := ?_) rfl (by kernel_rfl) (by kernel_rfl) (by kernel_rfl) (fun _ _ _ h => h) (Or.inl ⟨by rfl, ?_⟩) (by assumption) ?_
          rotate_left
          · intro w hSw
            (try dsimp only at hSw)
            go_simp
            try with_reducible rfl
          try simp only [List.getElem_toArray, List.getElem_cons_zero, List.getElem_cons_succ, List.get, Act.put, List.setIfInBounds_toArray, List.set_cons_zero, List.set_cons_succ]
          refine wpAnyH_ready (rs := [5]) (by kernel_rfl) (by simp) ?_
          refine AllReadyH.cons (o := _) rfl (fun K hK => ?_) AllReadyH.nil
          go_simp
          refine (HQ0.out _ (HLW.out _ hd)).mono ?_
          rintro e wa ⟨rfl, hb⟩
          have hd := bStep (w0 := wr) hd hb
          clear hb
          go_wp2_with fail
          refine hK.out _ _ (HCS.out _ hd) (fun hHeld => ?_)
          clear hK K
          try simp only [List.getElem_toArray, List.getElem_cons_zero, List.getElem_cons_succ, List.get, Act.put, List.setIfInBounds_toArray, List.set_cons_zero, List.set_cons_succ]
          refine wpAnyH_take (i := 6) (oi := _) (v := ?_) rfl (by kernel_rfl) (by kernel_rfl) (by kernel_rfl) (fun _ _ _ h => h) (Or.inl ⟨by rfl, ?_⟩) (by assumption) ?_
          rotate_left
          · intro w hSw
            (try dsimp only at hSw)
            go_simp
            try with_reducible rfl
          try simp only [List.getElem_toArray, List.getElem_cons_zero, List.getElem_cons_succ, List.get, Act.put, List.setIfInBounds_toArray, List.set_cons_zero, List.set_cons_succ]
          refine wpAnyH_take (i := 7) (oi := _) (v := ?_) rfl (by kernel_rfl) (by kernel_rfl) (by kernel_rfl) (fun _ _ _ h => h) (Or.inl ⟨by rfl, ?_⟩) (by assumption) ?_
          rotate_left
          · intro w hSw
            (try dsimp only at hSw)
            go_simp
            try with_reducible rfl
          try simp only [List.getElem_toArray, List.getElem_cons_zero, List.getElem_cons_succ, List.get, Act.put, List.setIfInBounds_toArray, List.set_cons_zero, List.set_cons_succ]
          refine wpAnyH_take (i := 8) (oi := _) (v := ?_) rfl (by kernel_rfl) (by kernel_rfl) (by kernel_rfl) (fun _ _ _ h => h) (Or.inl ⟨by rfl, ?_⟩) (by assumption) ?_
          rotate_left
          · intro w hSw
            (try dsimp only at hSw)
            go_simp
            try with_reducible rfl
          try simp only [List.getElem_toArray, List.getElem_cons_zero, List.getElem_cons_succ, List.get, Act.put, List.setIfInBounds_toArray, List.set_cons_zero, List.set_cons_succ]
          refine wpAnyH_ready (rs := [9]) (by kernel_rfl) (by simp) ?_
          refine AllReadyH.cons (o := _) rfl (fun K hK => ?_) AllReadyH.nil
          go_simp
          refine (HQ1.out _ (HLW.out _ hd)).mono ?_
          rintro e wa ⟨rfl, hb⟩
          have hd := bStep (w0 := wr) hd hb
          clear hb
          go_wp2_with fail
          refine hK.out _ _ (HCS.out _ hd) (fun hHeld => ?_)
          clear hK K
          try simp only [List.getElem_toArray, List.getElem_cons_zero, List.getElem_cons_succ, List.get, Act.put, List.setIfInBounds_toArray, List.set_cons_zero, List.set_cons_succ]
          refine wpAnyH_take (i := 10) (oi := _) (v := ?_) rfl (by kernel_rfl) (by kernel_rfl) (by kernel_rfl) (fun _ _ _ h => h) (Or.inl ⟨by rfl, ?_⟩) (by assumption) ?_
          rotate_left
          · intro w hSw
            (try dsimp only at hSw)
            go_simp
            try with_reducible rfl
          try simp only [List.getElem_toArray, List.getElem_cons_zero, List.getElem_cons_succ, List.get, Act.put, List.setIfInBounds_toArray, List.set_cons_zero, List.set_cons_succ]
          refine wpAnyH_take (i := 11) (oi := _) (v := ?_) rfl (by kernel_rfl) (by kernel_rfl) (by kernel_rfl) (fun _ _ _ h => h) (Or.inl ⟨by rfl, ?_⟩) (by assumption) ?_
          rotate_left
          · intro w hSw
            (try dsimp only at hSw)
            go_simp
            try with_reducible rfl
          try simp only [List.getElem_toArray, List.getElem_cons_zero, List.getElem_cons_succ, List.get, Act.put, List.setIfInBounds_toArray, List.set_cons_zero, List.set_cons_succ]
          refine wpAnyH_take (i := 12) (oi := _) (v := ?_) rfl (by kernel_rfl) (by kernel_rfl) (by kernel_rfl) (fun _ _ _ h => h) (Or.inl ⟨by rfl, ?_⟩) (by assumption) ?_
          rotate_left
          · intro w hSw
            (try dsimp only at hSw)
            go_simp
            try with_reducible rfl
          try simp only [List.getElem_toArray, List.getElem_cons_zero, List.getElem_cons_succ, List.get, Act.put, List.setIfInBounds_toArray, List.set_cons_zero, List.set_cons_succ]
          refine wpAnyH_take (i := 13) (oi := _) (v := ?_) rfl (by kernel_rfl) (by kernel_rfl) (by kernel_rfl) (fun _ _ _ h => h) (Or.inl ⟨by rfl, ?_⟩) (by assumption) ?_
          rotate_left
          · intro w hSw
            (try dsimp only at hSw)
            go_simp
            try with_reducible rfl
          try simp only [List.getElem_toArray, List.getElem_cons_zero, List.getElem_cons_succ, List.get, Act.put, List.setIfInBounds_toArray, List.set_cons_zero, List.set_cons_succ]
          refine wpAnyH_take (i := 14) (oi := _) (v := ?_) rfl (by kernel_rfl) (by kernel_rfl) (by kernel_rfl) (fun _ _ _ h => h) (Or.inl ⟨by rfl, ?_⟩) (by assumption) ?_
          rotate_left
          · intro w hSw
            (try dsimp only at hSw)
            go_simp
            try with_reducible rfl
          try simp only [List.getElem_toArray, List.getElem_cons_zero, List.getElem_cons_succ, List.get, Act.put, List.setIfInBounds_toArray, List.set_cons_zero, List.set_cons_succ]
          refine wpAnyH_take (i := 15) (oi := _) (v := ?_) rfl (by kernel_rfl) (by kernel_rfl) (by kernel_rfl) (fun _ _ _ h => h) (Or.inl ⟨by rfl, ?_⟩) (by assumption) ?_
          rotate_left
          · intro w hSw
            (try dsimp only at hSw)
            go_simp
            try with_reducible rfl
          try simp only [List.getElem_toArray, List.getElem_cons_zero, List.getElem_cons_succ, List.get, Act.put, List.setIfInBounds_toArray, List.set_cons_zero, List.set_cons_succ]
          refine wpAnyH_take (i := 16) (oi := _) (v := ?_) rfl (by kernel_rfl) (by kernel_rfl) (by kernel_rfl) (fun _ _ _ h => h) (Or.inl ⟨by rfl, ?_⟩) (by assumption) ?_
          rotate_left
          · intro w hSw
            (try dsimp only at hSw)
            go_simp
            try with_reducible rfl
          try simp only [List.getElem_toArray, List.getElem_cons_zero, List.getElem_cons_succ, List.get, Act.put, List.setIfInBounds_toArray, List.set_cons_zero, List.set_cons_succ]
          refine wpAnyH_take (i := 17) (oi := _) (v := ?_) rfl (by kernel_rfl) (by kernel_rfl) (by kernel_rfl) (fun _ _ _ h => h) (Or.inl ⟨by rfl, ?_⟩) (by assumption) ?_
          rotate_left
          · intro w hSw
            (try dsimp only at hSw)
            go_simp
            try with_reducible rfl
          try simp only [List.getElem_toArray, List.getElem_cons_zero, List.getElem_cons_succ, List.get, Act.put, List.setIfInBounds_toArray, List.set_cons_zero, List.set_cons_succ]
          refine wpAnyH_take (i := 18) (oi := _) (v := ?_) rfl (by kernel_rfl) (by kernel_rfl) (by kernel_rfl) (fun _ _ _ h => h) (Or.inl ⟨by rfl, ?_⟩) (by assumption) ?_
          rotate_left
          · intro w hSw
            (try dsimp only at hSw)
            go_simp
            try with_reducible rfl
          try simp only [List.getElem_toArray, List.getElem_cons_zero, List.getElem_cons_succ, List.get, Act.put, List.setIfInBounds_toArray, List.set_cons_zero, List.set_cons_succ]
          refine wpAnyH_ready (rs := [19]) (by kernel_rfl) (by simp) ?_
          refine AllReadyH.cons (o := _) rfl (fun K hK => ?_) AllReadyH.nil
          go_simp
          refine (H4a.out _ (HLW.out _ hd)).mono ?_
          rintro e wa ⟨rfl, hb⟩
          have hd := bStep (w0 := wr) hd hb
          clear hb
          go_wp2_with fail
          refine hK.out _ _ (HCS.out _ hd) (fun hHeld => ?_)
          clear hK K
          try simp only [List.getElem_toArray, List.getElem_cons_zero, List.getElem_cons_succ, List.get, Act.put, List.setIfInBounds_toArray, List.set_cons_zero, List.set_cons_succ]
          refine wpAnyH_take (i := 20) (oi := _) (v := ?_) rfl (by kernel_rfl) (by kernel_rfl) (by kernel_rfl) (fun _ _ _ h => h) (Or.inl ⟨by rfl, ?_⟩) (by assumption) ?_
          rotate_left
          · intro w hSw
            (try dsimp only at hSw)
            go_simp
            try with_reducible rfl
          try simp only [List.getElem_toArray, List.getElem_cons_zero, List.getElem_cons_succ, List.get, Act.put, List.setIfInBounds_toArray, List.set_cons_zero, List.set_cons_succ]
          refine wpAnyH_take (i := 21) (oi := _) (v := ?_) rfl (by kernel_rfl) (by kernel_rfl) (by kernel_rfl) (fun _ _ _ h => h) (Or.inl ⟨by rfl, ?_⟩) (by assumption) ?_
          rotate_left
          · intro w hSw
            (try dsimp only at hSw)
            go_simp
            try with_reducible rfl
          try simp only [List.getElem_toArray, List.getElem_cons_zero, List.getElem_cons_succ, List.get, Act.put, List.setIfInBounds_toArray, List.set_cons_zero, List.set_cons_succ]
          refine wpAnyH_take (i := 22) (oi := _) (v := ?_) rfl (by kernel_rfl) (by kernel_rfl) (by kernel_rfl) (fun _ _ _ h => h) (Or.inl ⟨by rfl, ?_⟩) (by assumption) ?_
          rotate_left
          · intro w hSw
            (try dsimp only at hSw)
            go_simp
            try with_reducible rfl
          try simp only [List.getElem_toArray, List.getElem_cons_zero, List.getElem_cons_succ, List.get, Act.put, List.setIfInBounds_toArray, List.set_cons_zero, List.set_cons_succ]
          refine wpAnyH_take (i := 23) (oi := _) (v := ?_) rfl (by kernel_rfl) (by kernel_rfl) (by kernel_rfl) (fun _ _ _ h => h) (Or.inl ⟨by rfl, ?_⟩) (by assumption) ?_
          rotate_left
          · intro w hSw
            (try dsimp only at hSw)
            go_simp
            try with_reducible rfl
          try simp only [List.getElem_toArray, List.getElem_cons_zero, List.getElem_cons_succ, List.get, Act.put, List.setIfInBounds_toArray, List.set_cons_zero, List.set_cons_succ]
          refine wpAnyH_take (i := 24) (oi := _) (v := ?_) rfl (by kernel_rfl) (by kernel_rfl) (by kernel_rfl) (fun _ _ _ h => h) (Or.inl ⟨by rfl, ?_⟩) (by assumption) ?_
          rotate_left
          · intro w hSw
            (try dsimp only at hSw)
            go_simp
            try with_reducible rfl
          try simp only [List.getElem_toArray, List.getElem_cons_zero, List.getElem_cons_succ, List.get, Act.put, List.setIfInBounds_toArray, List.set_cons_zero, List.set_cons_succ]
          refine wpAnyH_take (i := 25) (oi := _) (v := ?_) rfl (by kernel_rfl) (by kernel_rfl) (by kernel_rfl) (fun _ _ _ h => h) (Or.inl ⟨by rfl, ?_⟩) (by assumption) ?_
          rotate_left
          · intro w hSw
            (try dsimp only at hSw)
            go_simp
            try with_reducible rfl
          try simp only [List.getElem_toArray, List.getElem_cons_zero, List.getElem_cons_succ, List.get, Act.put, List.setIfInBounds_toArray, List.set_cons_zero, List.set_cons_succ]
          refine wpAnyH_take (i := 26) (oi := _) (v := ?_) rfl (by kernel_rfl) (by kernel_rfl) (by kernel_rfl) (fun _ _ _ h => h) (Or.inl ⟨by rfl, ?_⟩) (by assumption) ?_
          rotate_left
          · intro w hSw
            (try dsimp only at hSw)
            go_simp
            try with_reducible rfl
          try simp only [List.getElem_toArray, List.getElem_cons_zero, List.getElem_cons_succ, List.get, Act.put, List.setIfInBounds_toArray, List.set_cons_zero, List.set_cons_succ]
          refine wpAnyH_take (i := 27) (oi := _) (v := ?_) rfl (by kernel_rfl) (by kernel_rfl) (by kernel_rfl) (fun _ _ _ h => h) (Or.inl ⟨by rfl, ?_⟩) (by assumption) ?_
          rotate_left
          · intro w hSw
            (try dsimp only at hSw)
            go_simp
            try with_reducible rfl
          try simp only [List.getElem_toArray, List.getElem_cons_zero, List.getElem_cons_succ, List.get, Act.put, List.setIfInBounds_toArray, List.set_cons_zero, List.set_cons_succ]
          refine wpAnyH_take (i := 28) (oi := _) (v := ?_) rfl (by kernel_rfl) (by kernel_rfl) (by kernel_rfl) (fun _ _ _ h => h) (Or.inl ⟨by rfl, ?_⟩) (by assumption) ?_
          rotate_left
          · intro w hSw
            (try dsimp only at hSw)
            go_simp
            try with_reducible rfl
          try simp only [List.getElem_toArray, List.getElem_cons_zero, List.getElem_cons_succ, List.get, Act.put, List.setIfInBounds_toArray, List.set_cons_zero, List.set_cons_succ]
          refine wpAnyH_ready (rs := [29]) (by kernel_rfl) (by simp) ?_
          refine AllReadyH.cons (o := _) rfl (fun K hK => ?_) AllReadyH.nil
          go_simp
          refine (H5a.out _ (HLW.out _ hd)).mono ?_
          rintro e wa ⟨rfl, hb⟩
          have hd := bStep (w0 := wr) hd hb
          clear hb
          go_wp2_with fail
          refine hK.out _ _ (HCS.out _ hd) (fun hHeld => ?_)
          clear hK K
          try simp only [List.getElem_toArray, List.getElem_cons_zero, List.getElem_cons_succ, List.get, Act.put, List.setIfInBounds_toArray, List.set_cons_zero, List.set_cons_succ]
          refine wpAnyH_take (i := 30) (oi := _) (v := ?_) rfl (by kernel_rfl) (by kernel_rfl) (by kernel_rfl) (fun _ _ _ h => h) (Or.inl ⟨by rfl, ?_⟩) (by assumption) ?_
          rotate_left
          · intro w hSw
            (try dsimp only at hSw)
            go_simp
            try with_reducible rfl
          try simp only [List.getElem_toArray, List.getElem_cons_zero, List.getElem_cons_succ, List.get, Act.put, List.setIfInBounds_toArray, List.set_cons_zero, List.set_cons_succ]
          refine wpAnyH_take (i := 31) (oi := _) (v := ?_) rfl (by kernel_rfl) (by kernel_rfl) (by kernel_rfl) (fun _ _ _ h => h) (Or.inl ⟨by rfl, ?_⟩) (by assumption) ?_
          rotate_left
          · intro w hSw
            (try dsimp only at hSw)
            go_simp
            try with_reducible rfl
          try simp only [List.getElem_toArray, List.getElem_cons_zero, List.getElem_cons_succ, List.get, Act.put, List.setIfInBounds_toArray, List.set_cons_zero, List.set_cons_succ]
          refine wpAnyH_done (by kernel_rfl) ?_ _
          refine NoPanic.normal ?_
          go_wp2_with fail
          go_meet
          exact ⟨rfl, hd⟩
      case rest =>
      obtain ⟨rfl, hb⟩ := hcut
      have HBC := hide hb
      clear hb
      obtain ⟨wq2, rfl⟩ : ∃ x, x = wc := ⟨_, rfl⟩
      go_upto_region 14 with fail
      go_cut [8] (fun z wy => ∃ b' : Bool, z = .bool b' ∧ IsB b' ((g2, s2, t2) ∈ (l.reverse.map Prod.fst).take (k + 1)) ∧ ∃ n, wy = wq2.drewN n)
      case first =>
        obtain ⟨⟨⟨x0, x1, x2⟩, ⟨y0, y1, y2⟩, y3, y4, y5⟩, ⟨⟨z0, z1, z2⟩, ⟨z3, z4, z5⟩, -⟩, z4', z5'⟩ := HCS.out _ HBC.out
        cases b1
        · rcases q3_cases g4 s4 t4 g2 s2 t2 with ⟨rfl, rfl, rfl⟩ | ⟨hne, hc⟩
          · have HT := hide (step_f (b := true) HG1.out HE1.out ⟨fun _ => rfl, fun _ => rfl⟩)
            go_wp2_with fail
            go_quiet (fail)
            go_wp2_with fail
            go_meet
            exact ⟨true, rfl, HT.out, _, rfl⟩
          · have HT := hide (step_f (b := false) HG1.out HE1.out ⟨fun h => (by cases h), fun h => absurd h hne⟩)
            clear hne
            rcases hc with q | ⟨rfl, q⟩ | ⟨rfl, rfl, q⟩
            all_goals
              go_wp2_with fail
              go_quiet (fail)
              go_wp2_with fail
              go_meet
              exact ⟨false, rfl, HT.out, _, rfl⟩
        · have HT := hide (step_t HE1.out)
          go_wp2_with fail
          go_quiet (fail)
          go_wp2_with fail
          go_meet
          exact ⟨true, rfl, HT.out, _, rfl⟩
      case rest =>
      obtain ⟨b3, rfl, e3, n3, rfl⟩ := hcut
      have HE3 := hide e3
      clear e3
      have HBC2 := hide (below_drewN HBC.out n3)
      obtain ⟨wq3, hwq3⟩ : ∃ x, wq2.drewN n3 = x := ⟨_, rfl⟩
      rw [hwq3] at HBC2 ⊢
      clear hwq3 HBC
      go_upto_region 15 with fail
      go_cut [9] (fun z wy => ∃ b' : Bool, z = .bool b' ∧ IsB b' ((g3, s3, t3) ∈ (l.reverse.map Prod.snd).take (k + 1)) ∧ ∃ n, wy = wq3.drewN n)
      case first =>
        obtain ⟨⟨⟨x0, x1, x2⟩, ⟨y0, y1, y2⟩, y3, y4, y5⟩, ⟨⟨z0, z1, z2⟩, ⟨z3, z4, z5⟩, -⟩, z4', z5'⟩ := HCS.out _ HBC2.out
        cases b2
        · rcases q3_cases g5 s5 t5 g3 s3 t3 with ⟨rfl, rfl, rfl⟩ | ⟨hne, hc⟩
          · have HT := hide (step_f (b := true) HG2.out HE2.out ⟨fun _ => rfl, fun _ => rfl⟩)
            go_wp2_with fail
            go_quiet (fail)
            go_wp2_with fail
            go_meet
            exact ⟨true, rfl, HT.out, _, rfl⟩
          · have HT := hide (step_f (b := false) HG2.out HE2.out ⟨fun h => (by cases h), fun h => absurd h hne⟩)
            clear hne
            rcases hc with q | ⟨rfl, q⟩ | ⟨rfl, rfl, q⟩
            all_goals
              go_wp2_with fail
              go_quiet (fail)
              go_wp2_with fail
              go_meet
              exact ⟨false, rfl, HT.out, _, rfl⟩
        · have HT := hide (step_t HE2.out)
          go_wp2_with fail
          go_quiet (fail)
          go_wp2_with fail
          go_meet
          exact ⟨true, rfl, HT.out, _, rfl⟩
      case rest =>
      obtain ⟨b4, rfl, e4, n4, rfl⟩ := hcut
      have HE4 := hide e4
      clear e4
      have HBC3 := hide (below_drewN HBC2.out n4)
      obtain ⟨wq4, hwq4⟩ : ∃ x, wq3.drewN n4 = x := ⟨_, rfl⟩
      rw [hwq4] at HBC3 ⊢
      clear hwq4 HBC2
      have HOW := hide (HST.out.keep HBC3.out).own
      have HSZ := hide (HST.out.keep HBC3.out).below.size
      have H1c : Hid (∀ u ∈ (#[.bool g4, .string s4, .string t4, .bool g5, .string s5, .string t5] : Array Value).toList, u.oneCell' = true) := by
        intro u hu
        simp at hu
        rcases hu with rfl | rfl | rfl | rfl | rfl | rfl <;> rfl
      have hbytes : (k + 1) * 80 ≤ 140737488355328 := by omega
      obtain ⟨-, ⟨⟨z0, z1, z2⟩, ⟨z3, z4, z5⟩, -⟩, z4', z5'⟩ := HCS.out _ HBC3.out
      go_wp2_with (at_builtin; refine wpList_appendS rfl _ _ 27 rfl wq.heap.size 26 i0 (.agg #[.bool false, .string ⟨#[]⟩, .string ⟨#[]⟩, .bool false, .string ⟨#[]⟩, .string ⟨#[]⟩]) 6 80 Tryz.underlying27 hi hz0 hz1 hz2 rfl (by decide) _ k (flatV vIv (l.reverse.take k)) rfl HOW.out #[.bool g4, .string s4, .string t4, .bool g5, .string s5, .string t5] 26 1 rfl rfl H1c.out hbytes (by decide) HSZ.out ?_)
      intro g off' cap' w4 hown4 hg4 hb4 hat4
      have HN := hide (HST.out.step HBC3.out hkR HG.out rfl hown4 hg4)
      clear hown4 hg4 hb4 hat4 z0 z1 z2 z3 z4 z5 z4' z5'
      go_wp2_with fail
      go_roundw
      case rel => exact ⟨k + 1, b3, b4, by omega, rfl, rfl, congrArg (Value.int .i64) (by have := HM2.out; omega), HE3.out, HE4.out, HN.out⟩
      case measure => have := HM2.out; have := HM.out; simp [intOf] <;> omega
    · have hk' : k = l.length := by omega
      subst hk'
      have hneg : (l.length : Int) - 1 - (l.length : Int) = -1 := by omega
      rw [hneg]
      obtain rfl : b1 = true := HE1.out.2 (by rw [List.take_of_length_le (by rw [List.length_map, HRL.out]; exact Nat.le_refl _)]; exact HLO.out)
      obtain rfl : b2 = true := HE2.out.2 (by rw [List.take_of_length_le (by rw [List.length_map, HRL.out]; exact Nat.le_refl _)]; exact HHI.out)
      have HBK : Hid (SliceOf vIv 6 wr u10 l.reverse) := Bld.to_slice vIv_len (by rw [HRL.out]; exact HST.out)
      have HHV := hide (HQ.out.below HST.out.below)
      clear hneg HST HE1 HE2
      go_wp2_with fail
      refine (Hh2.out _ _ HBK.out (HHV.out.law HW.out)).mono ?_
      rintro e w9 ⟨rfl, hb⟩
      have HV9 := hide (HHV.out.below hb)
      clear hb HBK HHV
      have HVX := hide (HV9.out.push6 (b := w9.heap.size) rfl (.bool g2) (.string s2) (.string t2) (.bool g3) (.string s3) (.string t3) 26)
      obtain ⟨y0, y1, y2, y3, y4, y5⟩ := HVX.out.at6 1 rfl
      go_wp2_with fail
      go_ret
      exact ⟨rfl, HVX.out.bel⟩
set_option maxRecDepth 100000 in
theorem open_ivs {H : Type} {enc : TypeId × Value → H} {w : World} {r : Reach} {b0 : Nat} {v : Value} {d : DataW H} {p : List MemPlace} (hv : Value.okWide Tryz.prog w r b0 27 v)
    (h : DataW.Trod enc Tryz.prog w 0 (fun _ => true) true 27 v d p) : ∃ l : List (Q3 × Q3), SliceOf vIv 6 w v l := by
  obtain ⟨l, h1, _⟩ := open_sliceOf vIv (fun _ => True) Tryz.underlying27 Tryz.cellsIv (by omega) vIv_len (fun _ _ _ _ h => by
    obtain ⟨a, e⟩ := trod_iv h
    exact ⟨a, trivial, e⟩) hv h
  exact ⟨l, h1⟩
theorem ends_mem {l : List (Q3 × Q3)} {x : Q3} : x ∈ ends l ↔ ∃ a ∈ l, x = a.1 ∨ x = a.2 := by
  unfold ends
  rw [List.mem_flatMap]
  simp only [List.mem_cons, List.not_mem_nil, or_false]
set_option maxRecDepth 100000 in
theorem intervalHulls (l : List (Q3 × Q3)) (r : Q3) (v : Value) (W : World) (hv : SliceOf vIv 6 W v l) (hW : LawW W) : Calls Tryz.prog 6 #[v, qArg r] W fun e w' => e = .returned (.bool true) ∧ Below W.heap.size W w' := by
  obtain ⟨ao, cp, rfl⟩ := hv.shape
  have hl : l.length ≤ maxLen := by
    rcases hv with ⟨_, _, rfl⟩ | ⟨_, _, c, _, _, h1, h2, _⟩
    · exact Nat.zero_le _
    · exact Nat.le_trans h1 h2
  obtain ⟨f, hf⟩ : ∃ f, (fewI l && fewQ 60 [r]) = f := ⟨_, rfl⟩
  cases f
  · exact hulls_0 l ao cp _ _ _ W hv hl hf hW
  have hf' := hf
  rw [Bool.and_eq_true] at hf
  obtain ⟨h12, hsh⟩ := fewI_sh hf.1
  have hr := fewQ_sh hf.2 r (by simp)
  by_cases hne : l = []
  · subst hne
    exact hulls_nil ao cp _ _ _ W hv hl (fun X hb hX => iv_hull_nil ao cp X (hv.below hb) hX) hf' hW
  have h0 : 0 < l.length := List.length_pos_iff.2 hne
  have hcs : ∀ a ∈ l, IvOk 60 a ∨ (¬ IvOk 60 a ∧ IVx a false) := fun a ha => ivx_cases a (hsh a ha).1.1 (hsh a ha).1.2 (hsh a ha).2.1 (hsh a ha).2.2
  by_cases hok : ∀ a ∈ l, IvOk 60 a
  case neg =>
    have dec : ∀ a, Decidable (IvOk 60 a) := fun a => Classical.propDecidable _
    have hvl : ∀ a ∈ l, IVx a (decide (IvOk 60 a)) := fun a ha => by
      rcases hcs a ha with h | ⟨h, h'⟩
      · rw [decide_eq_true h]; exact ivx_ok h (by omega)
      · rw [decide_eq_false h]; exact h'
    have hb : (l.any fun x => !decide (IvOk 60 x)) = true := by
      simp only [Classical.not_forall] at hok
      obtain ⟨a, ha, hn⟩ := hok
      rw [List.any_eq_true]
      exact ⟨a, ha, by rw [decide_eq_false hn]; rfl⟩
    exact hulls_bad l ao cp _ _ _ W hv hl (fun X hb' hX => iv_hull_bad l _ (fun a => decide (IvOk 60 a)) X (hv.below hb') (by omega) hvl hb hX) (by omega) hf' hW
  have hall : ∀ z ∈ ends l, IsX 60 z := fun z hz => by
    obtain ⟨a, ha, e⟩ := ends_mem.1 hz
    rcases e with rfl | rfl
    · exact (hok a ha).lo
    · exact (hok a ha).hi
  have hen : ends l ≠ [] := by
    obtain ⟨a, ha⟩ := List.exists_mem_of_ne_nil l hne
    exact List.ne_nil_of_mem (ends_mem.2 ⟨a, ha, .inl rfl⟩)
  obtain ⟨x, hx⟩ := min_ex (ends l) hen
  obtain ⟨y, hy⟩ := max_ex (ends l) hen
  have hrev : ∀ z, z ∈ ends l.reverse ↔ z ∈ ends l := fun z => by
    rw [ends_mem, ends_mem]
    simp only [List.mem_reverse]
  have hx' : MinX (ends l.reverse) x := ⟨(hrev x).2 hx.1, fun z hz => hx.2 z ((hrev z).1 hz)⟩
  have hy' : MaxX (ends l.reverse) y := ⟨(hrev y).2 hy.1, fun z hz => hy.2 z ((hrev z).1 hz)⟩
  have oh : IvOk 60 (x, y) := ⟨hall x hx.1, hall y hy.1, hx.2 y hy.1⟩
  have lo : ∀ a ∈ l, qv x ≤ qv a.1 ∧ qv a.1 ≤ qv y ∧ qv x ≤ qv a.2 ∧ qv a.2 ≤ qv y := fun a ha =>
    ⟨hx.2 _ (ends_mem.2 ⟨a, ha, .inl rfl⟩), hy.2 _ (ends_mem.2 ⟨a, ha, .inl rfl⟩), hx.2 _ (ends_mem.2 ⟨a, ha, .inr rfl⟩), hy.2 _ (ends_mem.2 ⟨a, ha, .inr rfl⟩)⟩
  refine hulls_ok l ao cp r.1 r.2.1 r.2.2 x.1 x.2.1 x.2.2 y.1 y.2.1 y.2.2 W hv hl (fun X hb hX => c_hull hok h0 (by omega) (by omega) hx hy X (hv.below hb) hX)
    (fun u X hu hX => c_hull (l := l.reverse) (fun a ha => hok a (List.mem_reverse.1 ha)) (by rw [List.length_reverse]; exact h0) (by rw [List.length_reverse]; omega) (by omega) hx' hy' X hu hX) (fun a ha => ?_) (fun a ha => ?_) (fun a ha => ?_) ?_ ?_ h0 h12 hf' hW
  · rcases isx_cases r hr with xr | nr
    · have h := c_contains (hok a ha) xr (by omega) (by omega)
      by_cases hd : qv a.1 ≤ qv r ∧ qv r ≤ qv a.2
      · rw [decide_eq_true hd] at h
        refine .inr ⟨h, ?_⟩
        have h2 := c_contains oh xr (by omega) (by omega)
        rw [decide_eq_true (by show qv x ≤ qv r ∧ qv r ≤ qv y; have := lo a ha; exact ⟨Rat.le_trans this.1 hd.1, Rat.le_trans hd.2 this.2.2.2⟩)] at h2
        exact h2
      · rw [decide_eq_false hd] at h
        exact .inl h
    · exact .inl (c_contains_bad (.inr ⟨ivx_ok (hok a ha) (by omega), nr⟩))
  · have h2 := c_contains oh (hok a ha).lo (by omega) (by omega)
    rw [decide_eq_true (by show qv x ≤ qv a.1 ∧ qv a.1 ≤ qv y; exact ⟨(lo a ha).1, (lo a ha).2.1⟩)] at h2
    exact h2
  · have h2 := c_contains oh (hok a ha).hi (by omega) (by omega)
    rw [decide_eq_true (by show qv x ≤ qv a.2 ∧ qv a.2 ≤ qv y; exact ⟨(lo a ha).2.2.1, (lo a ha).2.2.2⟩)] at h2
    exact h2
  · obtain ⟨a, ha, e⟩ := ends_mem.1 hx.1
    refine List.mem_map.2 ⟨a, ha, ?_⟩
    rcases e with e | e
    · exact e.symm
    · exact (hok a ha).lo.eq (hall x hx.1) (by have h1 := (lo a ha).1; have h2 := (hok a ha).le; rw [← e] at h2; grind)
  · obtain ⟨a, ha, e⟩ := ends_mem.1 hy.1
    refine List.mem_map.2 ⟨a, ha, ?_⟩
    rcases e with e | e
    · exact (hok a ha).hi.eq (hall y hy.1) (by have h1 := (lo a ha).2.2.2; have h2 := (hok a ha).le; rw [← e] at h2; grind)
    · exact e.symm
end Go.Proofs.YtbojlmnajndleaaGreatDoor
