/- observatoryref05.Mul. -/
import Derived.Test.YtbojlmnajndleaaGreatDoorRvA
import Derived.Test.YtbojlmnajndleaaGreatDoorIvL
import Derived.Deep.DeepCutAuto
set_option linter.unusedVariables false
set_option linter.unusedSimpArgs false
namespace Go.Proofs.YtbojlmnajndleaaGreatDoor
open Go.RowKit Go.Sort

theorem VB.put6lo {w W : World} {L : List (Nat × List Value)} (h : VB w W L) (k : Nat) {b : Nat} {u0 u1 u2 u3 u4 u5 : Value} (hk : L[k]? = some (b, [u0, u1, u2, u3, u4, u5])) (x0 x1 x2 : Value) : VB w (((W.setCell ⟨b, 0, none⟩ x0).setCell ⟨b, 1, none⟩ x1).setCell ⟨b, 2, none⟩ x2) (L.set k (b, [x0, x1, x2, u3, u4, u5])) := by
  obtain ⟨h0, k0⟩ := h.set1 k hk 0 (by simp) x0
  obtain ⟨h1, k1⟩ := h0.set1 k k0 1 (by simp) x1
  obtain ⟨h2, _⟩ := h1.set1 k k1 2 (by simp) x2
  simpa only [List.set_set, List.set_cons_zero, List.set_cons_succ] using h2
theorem VB.put6hi {w W : World} {L : List (Nat × List Value)} (h : VB w W L) (k : Nat) {b : Nat} {u0 u1 u2 u3 u4 u5 : Value} (hk : L[k]? = some (b, [u0, u1, u2, u3, u4, u5])) (x0 x1 x2 : Value) : VB w (((W.setCell ⟨b, 3, none⟩ x0).setCell ⟨b, 4, none⟩ x1).setCell ⟨b, 5, none⟩ x2) (L.set k (b, [u0, u1, u2, x0, x1, x2])) := by
  obtain ⟨h0, k0⟩ := h.set1 k hk 3 (by simp) x0
  obtain ⟨h1, k1⟩ := h0.set1 k k0 4 (by simp) x1
  obtain ⟨h2, _⟩ := h1.set1 k k1 5 (by simp) x2
  simpa only [List.set_set, List.set_cons_zero, List.set_cons_succ] using h2
/-- The least and the greatest of the first j. -/
def BSt (l : List Q3) (j : Nat) (lo hi : Q3) : Prop := j = 0 ∨ (MinX (l.take j) lo ∧ MaxX (l.take j) hi)
theorem bst_one {l : List Q3} {m : Q3} (hm : l[0]? = some m) : BSt l 1 m m := by
  have e : l.take 1 = [m] := by
    cases l with
    | nil => simp at hm
    | cons a l => simp at hm; simp [hm]
  refine .inr ?_
  rw [e]
  exact ⟨⟨by simp, fun y hy => by simp at hy; subst hy; exact Rat.le_refl⟩, ⟨by simp, fun y hy => by simp at hy; subst hy; exact Rat.le_refl⟩⟩
theorem bst_step {l : List Q3} {j : Nat} {lo hi m : Q3} (h : BSt l j lo hi) (h0 : 0 < j) (hm : l[j]? = some m) {lo' hi' : Q3} (h1 : (lo' = m ∧ qv m < qv lo) ∨ (lo' = lo ∧ ¬ qv m < qv lo)) (h2 : (hi' = m ∧ qv hi < qv m) ∨ (hi' = hi ∧ ¬ qv hi < qv m)) : BSt l (j + 1) lo' hi' := by
  rcases h with h | ⟨⟨a1, a2⟩, b1, b2⟩
  · omega
  have e : l.take (j + 1) = l.take j ++ [m] := by rw [List.take_add_one, hm]; rfl
  refine .inr ?_
  rw [e]
  refine ⟨⟨?_, fun y hy => ?_⟩, ?_, fun y hy => ?_⟩
  · rcases h1 with ⟨rfl, _⟩ | ⟨rfl, _⟩
    · simp
    · exact List.mem_append_left _ a1
  · rcases List.mem_append.1 hy with hy | hy
    · have := a2 y hy
      rcases h1 with ⟨rfl, _⟩ | ⟨rfl, _⟩ <;> grind
    · obtain rfl : y = m := by simpa using hy
      rcases h1 with ⟨rfl, _⟩ | ⟨rfl, _⟩ <;> grind
  · rcases h2 with ⟨rfl, _⟩ | ⟨rfl, _⟩
    · simp
    · exact List.mem_append_left _ b1
  · rcases List.mem_append.1 hy with hy | hy
    · have := b2 y hy
      rcases h2 with ⟨rfl, _⟩ | ⟨rfl, _⟩ <;> grind
    · obtain rfl : y = m := by simpa using hy
      rcases h2 with ⟨rfl, _⟩ | ⟨rfl, _⟩ <;> grind
theorem bst_in {l : List Q3} {j : Nat} {lo hi : Q3} (h : BSt l j lo hi) (h0 : 0 < j) : lo ∈ l ∧ hi ∈ l := by
  rcases h with h | ⟨⟨a1, _⟩, b1, _⟩
  · omega
  · exact ⟨List.mem_of_mem_take a1, List.mem_of_mem_take b1⟩
/-- Compare of any two of a list. -/
def CmpAll (l : List Q3) : Prop := ∀ x ∈ l, ∀ y ∈ l, ∃ z, YC x.1 x.2.1 x.2.2 y.1 y.2.1 y.2.2 z ∧ (z < 0 ↔ qv x < qv y) ∧ (0 < z ↔ qv y < qv x)
def RvMulPost (w : World) (l : List Q3) (e : Ending) (w' : World) : Prop := ∃ lo hi : Q3, e = .returned (.tuple #[iArg (lo, hi), .int .i64 0]) ∧ (MinX l lo ∧ MaxX l hi) ∧ Below w.heap.size w w'

set_option maxHeartbeats 4000000 in
set_option maxRecDepth 100000 in
theorem rv_mul1 (g1 : Bool) (s1 t1 : ByteArray) (g2 : Bool) (s2 t2 : ByteArray) (g3 : Bool) (s3 t3 : ByteArray) (g4 : Bool) (s4 t4 : ByteArray) (w : World) (h1 : JV g1 s1 t1 g2 s2 t2 false) (hw : LawW w) :
    Calls Tryz.prog 14 #[.agg #[.bool g1, .string s1, .string t1, .bool g2, .string s2, .string t2], .agg #[.bool g3, .string s3, .string t3, .bool g4, .string s4, .string t4]] w fun e w' => e = .returned (.tuple #[.agg #[.bool false, .string ⟨#[]⟩, .string ⟨#[]⟩, .bool false, .string ⟨#[]⟩, .string ⟨#[]⟩], .int .i64 1]) ∧ Below w.heap.size w w' := by
  unfold JV at h1
  have Hh1 := hide h1
  have HW := hide hw
  have HV0 : Hid (VB w w []) := VB.nil w
  clear h1 hw 
  go_enter Tryz.func14, Tryz.ntmps14
  have HV0_ := hide (HV0.out.push6 (b := w.heap.size) (by simp) (.bool g1) (.string s1) (.string t1) (.bool g2) (.string s2) (.string t2) 26)
  clear HV0
  have HV0__ := hide (HV0_.out.push6 (b := w.heap.size + 1) (by simp) (.bool g3) (.string s3) (.string t3) (.bool g4) (.string s4) (.string t4) 26)
  clear HV0_
  have HV0___ := hide (HV0__.out.push6 (b := w.heap.size + 2) (by simp) (.bool false) (.string ⟨#[]⟩) (.string ⟨#[]⟩) (.bool false) (.string ⟨#[]⟩) (.string ⟨#[]⟩) 26)
  clear HV0__
  obtain ⟨c1, c2, c3, c4, c5, c6⟩ := HV0___.out.at6 2 rfl
  go_wp2_with fail
  clear c1 c2 c3 c4 c5 c6
  refine (Hh1.out _ (HV0___.out.law HW.out)).mono ?_
  rintro e w1 ⟨rfl, hb⟩
  have HV1 := hide (HV0___.out.below hb)
  clear hb HV0___
  obtain ⟨c7, c8, c9, c10, c11, c12⟩ := HV1.out.at6 0 rfl
  obtain ⟨fc7, fc8, fc9, fc10, fc11, fc12⟩ := HV1.out.fz6 0 rfl
  have HV1_ := hide (HV1.out.put6 0 rfl (.bool false) (.string ⟨#[]⟩) (.string ⟨#[]⟩) (.bool false) (.string ⟨#[]⟩) (.string ⟨#[]⟩))
  clear HV1
  go_wp2_with fail
  clear c7 c8 c9 c10 c11 c12 fc7 fc8 fc9 fc10 fc11 fc12
  obtain ⟨d0, d1, d2, d3, d4, d5⟩ := HV1_.out.at6 0 rfl
  exact bodyPost_ret (v := .tuple #[.agg #[.bool false, .string ⟨#[]⟩, .string ⟨#[]⟩, .bool false, .string ⟨#[]⟩, .string ⟨#[]⟩], .int .i64 1]) (by simp [results, Tryz.results14, go_sem, d0, d1, d2, d3, d4, d5]) rfl ⟨rfl, HV1_.out.bel⟩
set_option maxHeartbeats 4000000 in
set_option maxRecDepth 100000 in
theorem rv_mul2 (g1 : Bool) (s1 t1 : ByteArray) (g2 : Bool) (s2 t2 : ByteArray) (g3 : Bool) (s3 t3 : ByteArray) (g4 : Bool) (s4 t4 : ByteArray) (w : World) (h1 : JV g1 s1 t1 g2 s2 t2 true) (h2 : JV g3 s3 t3 g4 s4 t4 false) (hw : LawW w) :
    Calls Tryz.prog 14 #[.agg #[.bool g1, .string s1, .string t1, .bool g2, .string s2, .string t2], .agg #[.bool g3, .string s3, .string t3, .bool g4, .string s4, .string t4]] w fun e w' => e = .returned (.tuple #[.agg #[.bool false, .string ⟨#[]⟩, .string ⟨#[]⟩, .bool false, .string ⟨#[]⟩, .string ⟨#[]⟩], .int .i64 1]) ∧ Below w.heap.size w w' := by
  unfold JV at h1
  have Hh1 := hide h1
  unfold JV at h2
  have Hh2 := hide h2
  have HW := hide hw
  have HV0 : Hid (VB w w []) := VB.nil w
  clear h1 h2 hw 
  go_enter Tryz.func14, Tryz.ntmps14
  have HV0_ := hide (HV0.out.push6 (b := w.heap.size) (by simp) (.bool g1) (.string s1) (.string t1) (.bool g2) (.string s2) (.string t2) 26)
  clear HV0
  have HV0__ := hide (HV0_.out.push6 (b := w.heap.size + 1) (by simp) (.bool g3) (.string s3) (.string t3) (.bool g4) (.string s4) (.string t4) 26)
  clear HV0_
  have HV0___ := hide (HV0__.out.push6 (b := w.heap.size + 2) (by simp) (.bool false) (.string ⟨#[]⟩) (.string ⟨#[]⟩) (.bool false) (.string ⟨#[]⟩) (.string ⟨#[]⟩) 26)
  clear HV0__
  obtain ⟨c1, c2, c3, c4, c5, c6⟩ := HV0___.out.at6 2 rfl
  go_wp2_with fail
  clear c1 c2 c3 c4 c5 c6
  refine (Hh1.out _ (HV0___.out.law HW.out)).mono ?_
  rintro e w1 ⟨rfl, hb⟩
  have HV1 := hide (HV0___.out.below hb)
  clear hb HV0___
  obtain ⟨c7, c8, c9, c10, c11, c12⟩ := HV1.out.at6 1 rfl
  go_wp2_with fail
  clear c7 c8 c9 c10 c11 c12
  refine (Hh2.out _ (HV1.out.law HW.out)).mono ?_
  rintro e w2 ⟨rfl, hb⟩
  have HV2 := hide (HV1.out.below hb)
  clear hb HV1
  obtain ⟨c13, c14, c15, c16, c17, c18⟩ := HV2.out.at6 0 rfl
  obtain ⟨fc13, fc14, fc15, fc16, fc17, fc18⟩ := HV2.out.fz6 0 rfl
  have HV2_ := hide (HV2.out.put6 0 rfl (.bool false) (.string ⟨#[]⟩) (.string ⟨#[]⟩) (.bool false) (.string ⟨#[]⟩) (.string ⟨#[]⟩))
  clear HV2
  go_wp2_with fail
  clear c13 c14 c15 c16 c17 c18 fc13 fc14 fc15 fc16 fc17 fc18
  obtain ⟨d0, d1, d2, d3, d4, d5⟩ := HV2_.out.at6 0 rfl
  exact bodyPost_ret (v := .tuple #[.agg #[.bool false, .string ⟨#[]⟩, .string ⟨#[]⟩, .bool false, .string ⟨#[]⟩, .string ⟨#[]⟩], .int .i64 1]) (by simp [results, Tryz.results14, go_sem, d0, d1, d2, d3, d4, d5]) rfl ⟨rfl, HV2_.out.bel⟩
set_option maxHeartbeats 8000000 in
set_option maxRecDepth 100000 in
theorem rv_mul3 (g1 : Bool) (s1 t1 : ByteArray) (g2 : Bool) (s2 t2 : ByteArray) (g3 : Bool) (s3 t3 : ByteArray) (g4 : Bool) (s4 t4 : ByteArray) (g5 : Bool) (s5 t5 : ByteArray) (g6 : Bool) (s6 t6 : ByteArray) (g7 : Bool) (s7 t7 : ByteArray) (g8 : Bool) (s8 t8 : ByteArray) (w : World) (h1 : JV g1 s1 t1 g2 s2 t2 true) (h2 : JV g3 s3 t3 g4 s4 t4 true) (m0 : XA 31 g1 s1 t1 g3 s3 t3 g5 s5 t5 0) (m1 : XA 31 g1 s1 t1 g4 s4 t4 g6 s6 t6 0) (m2 : XA 31 g2 s2 t2 g3 s3 t3 g7 s7 t7 0) (m3 : XA 31 g2 s2 t2 g4 s4 t4 g8 s8 t8 0) (hc : CmpAll [(g5, s5, t5), (g6, s6, t6), (g7, s7, t7), (g8, s8, t8)]) (hw : LawW w) :
    Calls Tryz.prog 14 #[.agg #[.bool g1, .string s1, .string t1, .bool g2, .string s2, .string t2], .agg #[.bool g3, .string s3, .string t3, .bool g4, .string s4, .string t4]] w (RvMulPost w [(g5, s5, t5), (g6, s6, t6), (g7, s7, t7), (g8, s8, t8)]) := by
  unfold JV at h1
  have Hh1 := hide h1
  unfold JV at h2
  have Hh2 := hide h2
  unfold XA at m0
  have Hm0 := hide m0
  unfold XA at m1
  have Hm1 := hide m1
  unfold XA at m2
  have Hm2 := hide m2
  unfold XA at m3
  have Hm3 := hide m3
  have HW := hide hw
  have HC := hide hc
  have HV0 : Hid (VB w w []) := VB.nil w
  clear h1 h2 m0 m1 m2 m3 hw hc
  go_enter Tryz.func14, Tryz.ntmps14
  have HV0_ := hide (HV0.out.push6 (b := w.heap.size) (by simp) (.bool g1) (.string s1) (.string t1) (.bool g2) (.string s2) (.string t2) 26)
  clear HV0
  have HV0__ := hide (HV0_.out.push6 (b := w.heap.size + 1) (by simp) (.bool g3) (.string s3) (.string t3) (.bool g4) (.string s4) (.string t4) 26)
  clear HV0_
  have HV0___ := hide (HV0__.out.push6 (b := w.heap.size + 2) (by simp) (.bool false) (.string ⟨#[]⟩) (.string ⟨#[]⟩) (.bool false) (.string ⟨#[]⟩) (.string ⟨#[]⟩) 26)
  clear HV0__
  obtain ⟨c1, c2, c3, c4, c5, c6⟩ := HV0___.out.at6 2 rfl
  go_wp2_with fail
  clear c1 c2 c3 c4 c5 c6
  refine (Hh1.out _ (HV0___.out.law HW.out)).mono ?_
  rintro e w1 ⟨rfl, hb⟩
  have HV1 := hide (HV0___.out.below hb)
  clear hb HV0___
  obtain ⟨c7, c8, c9, c10, c11, c12⟩ := HV1.out.at6 1 rfl
  go_wp2_with fail
  clear c7 c8 c9 c10 c11 c12
  refine (Hh2.out _ (HV1.out.law HW.out)).mono ?_
  rintro e w2 ⟨rfl, hb⟩
  have HV2 := hide (HV1.out.below hb)
  clear hb HV1
  obtain ⟨c13, c14, c15, c16, c17, c18⟩ := HV2.out.at6 2 rfl
  go_upto_region 4 with fail
  clear c13 c14 c15 c16 c17 c18
  have HV2_ := hide (HV2.out.push6 (b := w2.heap.size) (by simp) (.bool g1) (.string s1) (.string t1) (.bool g2) (.string s2) (.string t2) 24)
  clear HV2
  obtain ⟨c19, c20, c21, c22, c23, c24⟩ := HV2_.out.at6 2 rfl
  go_upto_region 5 with fail
  clear c19 c20 c21 c22 c23 c24
  have HV2__ := hide (HV2_.out.push6 (b := w2.heap.size + 1) (by simp) (.bool g3) (.string s3) (.string t3) (.bool g4) (.string s4) (.string t4) 24)
  clear HV2_
  go_wp2_with fail
  have HV2___ := hide (HV2__.out.push6 (b := w2.heap.size + 2) (by simp) (.bool false) (.string ⟨#[]⟩) (.string ⟨#[]⟩) (.bool false) (.string ⟨#[]⟩) (.string ⟨#[]⟩) 26)
  clear HV2__
  obtain ⟨wq, hwq⟩ : ∃ x, (((w2.alloc (.cells #[.bool g1, .string s1, .string t1, .bool g2, .string s2, .string t2] 24)).alloc (.cells #[.bool g3, .string s3, .string t3, .bool g4, .string s4, .string t4] 24)).alloc (.cells #[.bool false, .string ⟨#[]⟩, .string ⟨#[]⟩, .bool false, .string ⟨#[]⟩, .string ⟨#[]⟩] 26)) = x := ⟨_, rfl⟩
  have HVQ := hide HV2___.out
  rw [hwq] at HVQ ⊢
  clear hwq HV2___
  go_loopw [9] (fun z9 wx => ∃ (i : Nat) (gl gh : Bool) (sl tl sh th : ByteArray), i ≤ 2 ∧ z9 = .int .i64 (i : Int) ∧ BSt [(g5, s5, t5), (g6, s6, t6), (g7, s7, t7), (g8, s8, t8)] (2 * i) (gl, sl, tl) (gh, sh, th) ∧ VB w wx [(w2.heap.size + 2, [.bool gl, .string sl, .string tl, .bool gh, .string sh, .string th]), (w2.heap.size + 1, [.bool g3, .string s3, .string t3, .bool g4, .string s4, .string t4]), (w2.heap.size, [.bool g1, .string s1, .string t1, .bool g2, .string s2, .string t2]), (w.heap.size + 2, [.bool false, .string ⟨#[]⟩, .string ⟨#[]⟩, .bool false, .string ⟨#[]⟩, .string ⟨#[]⟩]), (w.heap.size + 1, [.bool g3, .string s3, .string t3, .bool g4, .string s4, .string t4]), (w.heap.size, [.bool g1, .string s1, .string t1, .bool g2, .string s2, .string t2])]) (fun z _ => 2 - (intOf z).toNat)
  case atStart => exact ⟨0, _, _, _, _, _, _, by omega, rfl, .inl rfl, HVQ.out⟩
  case round =>
    obtain ⟨i, gl, gh, sl, tl, sh, th, hi2, rfl, hst, hv⟩ := hrel
    have HST := hide hst
    have HV := hide hv
    clear hst hv HVQ
    have hi' : i = 0 ∨ i = 1 ∨ i = 2 := by omega
    obtain ⟨K, hK⟩ : ∃ K : Int, (i : Int) = K := ⟨_, rfl⟩
    rw [hK]
    clear hi2
    rcases hi' with rfl | rfl | rfl
    · obtain rfl : K = 0 := by omega
      clear hK
      go_wp2_with fail
      go_loopw [10] (fun z9 wx => ∃ (k : Nat) (gl gh : Bool) (sl tl sh th : ByteArray), k ≤ 2 ∧ z9 = .int .i64 (k : Int) ∧ BSt [(g5, s5, t5), (g6, s6, t6), (g7, s7, t7), (g8, s8, t8)] (0 + k) (gl, sl, tl) (gh, sh, th) ∧ VB w wx [(w2.heap.size + 2, [.bool gl, .string sl, .string tl, .bool gh, .string sh, .string th]), (w2.heap.size + 1, [.bool g3, .string s3, .string t3, .bool g4, .string s4, .string t4]), (w2.heap.size, [.bool g1, .string s1, .string t1, .bool g2, .string s2, .string t2]), (w.heap.size + 2, [.bool false, .string ⟨#[]⟩, .string ⟨#[]⟩, .bool false, .string ⟨#[]⟩, .string ⟨#[]⟩]), (w.heap.size + 1, [.bool g3, .string s3, .string t3, .bool g4, .string s4, .string t4]), (w.heap.size, [.bool g1, .string s1, .string t1, .bool g2, .string s2, .string t2])]) (fun z _ => 2 - (intOf z).toNat)
      case atStart => exact ⟨0, gl, gh, sl, tl, sh, th, by omega, rfl, HST.out, HV.out⟩
      case round =>
        clear HST HV
        obtain ⟨k, gl, gh, sl, tl, sh, th, hk2, rfl, hst, hv⟩ := hrel
        have HST := hide hst
        have HV := hide hv
        clear hst hv
        have hk' : k = 0 ∨ k = 1 ∨ k = 2 := by omega
        obtain ⟨K, hK⟩ : ∃ K : Int, (k : Int) = K := ⟨_, rfl⟩
        rw [hK]
        clear hk2
        rcases hk' with rfl | rfl | rfl
        · obtain rfl : K = 0 := by omega
          clear hK
          have HCS : Hid (∀ W, Below wr.heap.size wr W → W.cell? ⟨w2.heap.size, 0, none⟩ = some (.bool g1) ∧ W.cell? ⟨w2.heap.size, 1, none⟩ = some (.string s1) ∧ W.cell? ⟨w2.heap.size, 2, none⟩ = some (.string t1) ∧ W.cell? ⟨w2.heap.size + 1, 0, none⟩ = some (.bool g3) ∧ W.cell? ⟨w2.heap.size + 1, 1, none⟩ = some (.string s3) ∧ W.cell? ⟨w2.heap.size + 1, 2, none⟩ = some (.string t3)) := fun W h => by
            obtain ⟨p0, p1, p2, p3, p4, p5⟩ := (HV.out.below h).at6 2 rfl
            obtain ⟨r0, r1, r2, r3, r4, r5⟩ := (HV.out.below h).at6 1 rfl
            exact ⟨by assumption, by assumption, by assumption, by assumption, by assumption, by assumption⟩
          go_wp2_with fail
          go_cut [11, 12] (fun z19 z20 wx => ∃ b, z19 = .pointer (some ⟨b, 0, none⟩) ∧ z20 = .int .i64 0 ∧ VB w wx ((b, [.bool g5, .string s5, .string t5]) :: [(w2.heap.size + 2, [.bool gl, .string sl, .string tl, .bool gh, .string sh, .string th]), (w2.heap.size + 1, [.bool g3, .string s3, .string t3, .bool g4, .string s4, .string t4]), (w2.heap.size, [.bool g1, .string s1, .string t1, .bool g2, .string s2, .string t2]), (w.heap.size + 2, [.bool false, .string ⟨#[]⟩, .string ⟨#[]⟩, .bool false, .string ⟨#[]⟩, .string ⟨#[]⟩]), (w.heap.size + 1, [.bool g3, .string s3, .string t3, .bool g4, .string s4, .string t4]), (w.heap.size, [.bool g1, .string s1, .string t1, .bool g2, .string s2, .string t2])]) ∧ Below wr.heap.size wr wx)
          case first =>
            have hd := (Below.refl wr.heap.size wr).drew
            have hd2 := (bAlloc (Below.refl wr.heap.size wr) (.cells #[.bool false, .string ⟨#[]⟩, .string ⟨#[]⟩] 24)).drew
            have HLW : Hid (∀ W, Below wr.heap.size wr W → LawW W) := fun W h => (HV.out.below h).law HW.out
            go_region_held3 (fun w' => w'.cell? ⟨w2.heap.size, 0, none⟩ = some (.bool g1) ∧ w'.cell? ⟨w2.heap.size, 1, none⟩ = some (.string s1) ∧ w'.cell? ⟨w2.heap.size, 2, none⟩ = some (.string t1) ∧ w'.cell? ⟨w2.heap.size + 1, 0, none⟩ = some (.bool g3) ∧ w'.cell? ⟨w2.heap.size + 1, 1, none⟩ = some (.string s3) ∧ w'.cell? ⟨w2.heap.size + 1, 2, none⟩ = some (.string t3))
              (first | exact HCS.out _ (by assumption) | exact HCS.out _ (bAlloc (by assumption) _) | exact HCS.out _ (bAlloc (by assumption) _).drew | exact HCS.out _ (end_set HV.out (by assumption) (by assumption) (g5, s5, t5)).2)
              (first
                | (go_at_call 31; (with_reducible refine (Hm0.out wr.drew (HLW.out wr.drew hd)).mono ?_); rintro e wa ⟨rfl, hb⟩; have hd := bStep (w0 := wr) hd hb; clear hb)
                | (go_at_call 31; (with_reducible refine (Hm0.out ((wr.alloc (.cells #[.bool false, .string ⟨#[]⟩, .string ⟨#[]⟩] 24)).drew) (HLW.out ((wr.alloc (.cells #[.bool false, .string ⟨#[]⟩, .string ⟨#[]⟩] 24)).drew) hd2)).mono ?_); rintro e wa ⟨rfl, hb⟩; have hz := (ZW.newd (u := wr) (W := wr) (Below.refl _ _) 24).below hb; have hd := bStep (w0 := wr) hd2 hb; obtain ⟨⟨z0, z1, z2, fz0, fz1, fz2⟩, _⟩ := id hz; clear hb))
            all_goals
              go_wp2_with fail
              go_meet
              first
              | (obtain ⟨q1, q2⟩ := end_new HV.out (by assumption) (g5, s5, t5) 24; exact ⟨_, rfl, rfl, q1, q2⟩)
              | (obtain ⟨q1, q2⟩ := end_set HV.out (by assumption) (by assumption) (g5, s5, t5); exact ⟨_, rfl, rfl, q1, q2⟩)
          case rest =>
          obtain ⟨bm, rfl, rfl, hv, hb⟩ := hcut
          have HV2 := hide hv
          clear hv hb HV HCS
          obtain ⟨wq2, rfl⟩ : ∃ x, x = wc := ⟨_, rfl⟩
          have HST' := hide (bst_one (l := [(g5, s5, t5), (g6, s6, t6), (g7, s7, t7), (g8, s8, t8)]) (m := (g5, s5, t5)) rfl)
          obtain ⟨m0, m1, m2⟩ := HV2.out.at3 0 rfl
          obtain ⟨o0, o1, o2, o3, o4, o5⟩ := HV2.out.at6 1 rfl
          obtain ⟨f0, f1, f2, f3, f4, f5⟩ := HV2.out.fz6 1 rfl
          go_upto_region 17 with fail
          clear m0 m1 m2 o0 o1 o2 o3 o4 o5 f0 f1 f2 f3 f4 f5
          have HV3 := hide (HV2.out.put6lo 1 rfl (.bool g5) (.string s5) (.string t5))
          clear HV2
          obtain ⟨m0, m1, m2⟩ := HV3.out.at3 0 rfl
          obtain ⟨o0, o1, o2, o3, o4, o5⟩ := HV3.out.at6 1 rfl
          obtain ⟨f0, f1, f2, f3, f4, f5⟩ := HV3.out.fz6 1 rfl
          go_wp2_with fail
          clear m0 m1 m2 o0 o1 o2 o3 o4 o5 f0 f1 f2 f3 f4 f5
          have HV4 := hide (HV3.out.put6hi 1 rfl (.bool g5) (.string s5) (.string t5))
          clear HV3
          go_roundw
          case rel => exact ⟨0 + 1, _, _, _, _, _, _, by omega, by go_num, HST'.out, HV4.out.tail⟩
          case measure => (simp [intOf]; try omega)
        · obtain rfl : K = 1 := by omega
          clear hK
          have HCS : Hid (∀ W, Below wr.heap.size wr W → W.cell? ⟨w2.heap.size, 0, none⟩ = some (.bool g1) ∧ W.cell? ⟨w2.heap.size, 1, none⟩ = some (.string s1) ∧ W.cell? ⟨w2.heap.size, 2, none⟩ = some (.string t1) ∧ W.cell? ⟨w2.heap.size + 1, 3, none⟩ = some (.bool g4) ∧ W.cell? ⟨w2.heap.size + 1, 4, none⟩ = some (.string s4) ∧ W.cell? ⟨w2.heap.size + 1, 5, none⟩ = some (.string t4)) := fun W h => by
            obtain ⟨p0, p1, p2, p3, p4, p5⟩ := (HV.out.below h).at6 2 rfl
            obtain ⟨r0, r1, r2, r3, r4, r5⟩ := (HV.out.below h).at6 1 rfl
            exact ⟨by assumption, by assumption, by assumption, by assumption, by assumption, by assumption⟩
          go_wp2_with fail
          go_cut [11, 12] (fun z19 z20 wx => ∃ b, z19 = .pointer (some ⟨b, 0, none⟩) ∧ z20 = .int .i64 0 ∧ VB w wx ((b, [.bool g6, .string s6, .string t6]) :: [(w2.heap.size + 2, [.bool gl, .string sl, .string tl, .bool gh, .string sh, .string th]), (w2.heap.size + 1, [.bool g3, .string s3, .string t3, .bool g4, .string s4, .string t4]), (w2.heap.size, [.bool g1, .string s1, .string t1, .bool g2, .string s2, .string t2]), (w.heap.size + 2, [.bool false, .string ⟨#[]⟩, .string ⟨#[]⟩, .bool false, .string ⟨#[]⟩, .string ⟨#[]⟩]), (w.heap.size + 1, [.bool g3, .string s3, .string t3, .bool g4, .string s4, .string t4]), (w.heap.size, [.bool g1, .string s1, .string t1, .bool g2, .string s2, .string t2])]) ∧ Below wr.heap.size wr wx)
          case first =>
            have hd := (Below.refl wr.heap.size wr).drew
            have hd2 := (bAlloc (Below.refl wr.heap.size wr) (.cells #[.bool false, .string ⟨#[]⟩, .string ⟨#[]⟩] 24)).drew
            have HLW : Hid (∀ W, Below wr.heap.size wr W → LawW W) := fun W h => (HV.out.below h).law HW.out
            go_region_held3 (fun w' => w'.cell? ⟨w2.heap.size, 0, none⟩ = some (.bool g1) ∧ w'.cell? ⟨w2.heap.size, 1, none⟩ = some (.string s1) ∧ w'.cell? ⟨w2.heap.size, 2, none⟩ = some (.string t1) ∧ w'.cell? ⟨w2.heap.size + 1, 3, none⟩ = some (.bool g4) ∧ w'.cell? ⟨w2.heap.size + 1, 4, none⟩ = some (.string s4) ∧ w'.cell? ⟨w2.heap.size + 1, 5, none⟩ = some (.string t4))
              (first | exact HCS.out _ (by assumption) | exact HCS.out _ (bAlloc (by assumption) _) | exact HCS.out _ (bAlloc (by assumption) _).drew | exact HCS.out _ (end_set HV.out (by assumption) (by assumption) (g6, s6, t6)).2)
              (first
                | (go_at_call 31; (with_reducible refine (Hm1.out wr.drew (HLW.out wr.drew hd)).mono ?_); rintro e wa ⟨rfl, hb⟩; have hd := bStep (w0 := wr) hd hb; clear hb)
                | (go_at_call 31; (with_reducible refine (Hm1.out ((wr.alloc (.cells #[.bool false, .string ⟨#[]⟩, .string ⟨#[]⟩] 24)).drew) (HLW.out ((wr.alloc (.cells #[.bool false, .string ⟨#[]⟩, .string ⟨#[]⟩] 24)).drew) hd2)).mono ?_); rintro e wa ⟨rfl, hb⟩; have hz := (ZW.newd (u := wr) (W := wr) (Below.refl _ _) 24).below hb; have hd := bStep (w0 := wr) hd2 hb; obtain ⟨⟨z0, z1, z2, fz0, fz1, fz2⟩, _⟩ := id hz; clear hb))
            all_goals
              go_wp2_with fail
              go_meet
              first
              | (obtain ⟨q1, q2⟩ := end_new HV.out (by assumption) (g6, s6, t6) 24; exact ⟨_, rfl, rfl, q1, q2⟩)
              | (obtain ⟨q1, q2⟩ := end_set HV.out (by assumption) (by assumption) (g6, s6, t6); exact ⟨_, rfl, rfl, q1, q2⟩)
          case rest =>
          obtain ⟨bm, rfl, rfl, hv, hb⟩ := hcut
          have HV2 := hide hv
          clear hv hb HV HCS
          obtain ⟨wq2, rfl⟩ : ∃ x, x = wc := ⟨_, rfl⟩
          have hin := bst_in HST.out (by omega)
          obtain ⟨z1, hz1, c1, -⟩ := HC.out (g6, s6, t6) (by simp) (gl, sl, tl) hin.1
          obtain ⟨z2, hz2, -, c2⟩ := HC.out (g6, s6, t6) (by simp) (gh, sh, th) hin.2
          unfold YC at hz1 hz2
          have HZ1 := hide hz1
          have HZ2 := hide hz2
          have HC1 := hide c1
          have HC2 := hide c2
          clear hz1 hz2 c1 c2 hin
          obtain ⟨m0, m1, m2⟩ := HV2.out.at3 0 rfl
          obtain ⟨o0, o1, o2, o3, o4, o5⟩ := HV2.out.at6 1 rfl
          go_wp2_with fail
          clear m0 m1 m2 o0 o1 o2 o3 o4 o5
          refine (HZ1.out _ (HV2.out.law HW.out)).mono ?_
          rintro e w5 ⟨rfl, hb⟩
          have HV3 := hide (HV2.out.below hb)
          clear hb HV2
          rcases Bool.eq_false_or_eq_true (decide (z1 < 0)) with d1 | d1
          · have HL := hide (HC1.out.1 (of_decide_eq_true d1))
            obtain ⟨m0, m1, m2⟩ := HV3.out.at3 0 rfl
            obtain ⟨o0, o1, o2, o3, o4, o5⟩ := HV3.out.at6 1 rfl
            obtain ⟨f0, f1, f2, f3, f4, f5⟩ := HV3.out.fz6 1 rfl
            go_upto_region 17 with fail
            clear m0 m1 m2 o0 o1 o2 o3 o4 o5 f0 f1 f2 f3 f4 f5 d1
            have HV4 := hide (HV3.out.put6lo 1 rfl (.bool g6) (.string s6) (.string t6))
            clear HV3
            obtain ⟨m0, m1, m2⟩ := HV4.out.at3 0 rfl
            obtain ⟨o0, o1, o2, o3, o4, o5⟩ := HV4.out.at6 1 rfl
            go_wp2_with fail
            clear m0 m1 m2 o0 o1 o2 o3 o4 o5
            refine (HZ2.out _ (HV4.out.law HW.out)).mono ?_
            rintro e w6 ⟨rfl, hb⟩
            have HV5 := hide (HV4.out.below hb)
            clear hb HV4
            rcases Bool.eq_false_or_eq_true (decide (0 < z2)) with d2 | d2
            · have HH := hide (HC2.out.1 (of_decide_eq_true d2))
              have HST' := hide (bst_step (m := (g6, s6, t6)) HST.out (by omega) rfl (.inl ⟨rfl, HL.out⟩) (.inl ⟨rfl, HH.out⟩))
              obtain ⟨m0, m1, m2⟩ := HV5.out.at3 0 rfl
              obtain ⟨o0, o1, o2, o3, o4, o5⟩ := HV5.out.at6 1 rfl
              obtain ⟨f0, f1, f2, f3, f4, f5⟩ := HV5.out.fz6 1 rfl
              go_wp2_with fail
              clear m0 m1 m2 o0 o1 o2 o3 o4 o5 f0 f1 f2 f3 f4 f5
              have HV6 := hide (HV5.out.put6hi 1 rfl (.bool g6) (.string s6) (.string t6))
              go_roundw
              case rel => exact ⟨1 + 1, _, _, _, _, _, _, by omega, by go_num, HST'.out, HV6.out.tail⟩
              case measure => (simp [intOf]; try omega)
            · have HH := hide (fun h => of_decide_eq_false d2 (HC2.out.2 h))
              have HST' := hide (bst_step (m := (g6, s6, t6)) HST.out (by omega) rfl (.inl ⟨rfl, HL.out⟩) (.inr ⟨rfl, HH.out⟩))
              go_wp2_with fail
              go_roundw
              case rel => exact ⟨1 + 1, _, _, _, _, _, _, by omega, by go_num, HST'.out, HV5.out.tail⟩
              case measure => (simp [intOf]; try omega)
          · have HL := hide (fun h => of_decide_eq_false d1 (HC1.out.2 h))
            obtain ⟨m0, m1, m2⟩ := HV3.out.at3 0 rfl
            obtain ⟨o0, o1, o2, o3, o4, o5⟩ := HV3.out.at6 1 rfl
            obtain ⟨f0, f1, f2, f3, f4, f5⟩ := HV3.out.fz6 1 rfl
            go_upto_region 17 with fail
            clear m0 m1 m2 o0 o1 o2 o3 o4 o5 f0 f1 f2 f3 f4 f5 d1
            obtain ⟨m0, m1, m2⟩ := HV3.out.at3 0 rfl
            obtain ⟨o0, o1, o2, o3, o4, o5⟩ := HV3.out.at6 1 rfl
            go_wp2_with fail
            clear m0 m1 m2 o0 o1 o2 o3 o4 o5
            refine (HZ2.out _ (HV3.out.law HW.out)).mono ?_
            rintro e w6 ⟨rfl, hb⟩
            have HV5 := hide (HV3.out.below hb)
            clear hb HV3
            rcases Bool.eq_false_or_eq_true (decide (0 < z2)) with d2 | d2
            · have HH := hide (HC2.out.1 (of_decide_eq_true d2))
              have HST' := hide (bst_step (m := (g6, s6, t6)) HST.out (by omega) rfl (.inr ⟨rfl, HL.out⟩) (.inl ⟨rfl, HH.out⟩))
              obtain ⟨m0, m1, m2⟩ := HV5.out.at3 0 rfl
              obtain ⟨o0, o1, o2, o3, o4, o5⟩ := HV5.out.at6 1 rfl
              obtain ⟨f0, f1, f2, f3, f4, f5⟩ := HV5.out.fz6 1 rfl
              go_wp2_with fail
              clear m0 m1 m2 o0 o1 o2 o3 o4 o5 f0 f1 f2 f3 f4 f5
              have HV6 := hide (HV5.out.put6hi 1 rfl (.bool g6) (.string s6) (.string t6))
              go_roundw
              case rel => exact ⟨1 + 1, _, _, _, _, _, _, by omega, by go_num, HST'.out, HV6.out.tail⟩
              case measure => (simp [intOf]; try omega)
            · have HH := hide (fun h => of_decide_eq_false d2 (HC2.out.2 h))
              have HST' := hide (bst_step (m := (g6, s6, t6)) HST.out (by omega) rfl (.inr ⟨rfl, HL.out⟩) (.inr ⟨rfl, HH.out⟩))
              go_wp2_with fail
              go_roundw
              case rel => exact ⟨1 + 1, _, _, _, _, _, _, by omega, by go_num, HST'.out, HV5.out.tail⟩
              case measure => (simp [intOf]; try omega)
        · obtain rfl : K = 2 := by omega
          clear hK
          go_wp2_with fail
          go_roundw
          case rel => exact ⟨0 + 1, gl, gh, sl, tl, sh, th, by omega, by go_num, HST.out, HV.out⟩
          case measure => (simp [intOf]; try omega)
    · obtain rfl : K = 1 := by omega
      clear hK
      go_wp2_with fail
      go_loopw [10] (fun z9 wx => ∃ (k : Nat) (gl gh : Bool) (sl tl sh th : ByteArray), k ≤ 2 ∧ z9 = .int .i64 (k : Int) ∧ BSt [(g5, s5, t5), (g6, s6, t6), (g7, s7, t7), (g8, s8, t8)] (2 + k) (gl, sl, tl) (gh, sh, th) ∧ VB w wx [(w2.heap.size + 2, [.bool gl, .string sl, .string tl, .bool gh, .string sh, .string th]), (w2.heap.size + 1, [.bool g3, .string s3, .string t3, .bool g4, .string s4, .string t4]), (w2.heap.size, [.bool g1, .string s1, .string t1, .bool g2, .string s2, .string t2]), (w.heap.size + 2, [.bool false, .string ⟨#[]⟩, .string ⟨#[]⟩, .bool false, .string ⟨#[]⟩, .string ⟨#[]⟩]), (w.heap.size + 1, [.bool g3, .string s3, .string t3, .bool g4, .string s4, .string t4]), (w.heap.size, [.bool g1, .string s1, .string t1, .bool g2, .string s2, .string t2])]) (fun z _ => 2 - (intOf z).toNat)
      case atStart => exact ⟨0, gl, gh, sl, tl, sh, th, by omega, rfl, HST.out, HV.out⟩
      case round =>
        clear HST HV
        obtain ⟨k, gl, gh, sl, tl, sh, th, hk2, rfl, hst, hv⟩ := hrel
        have HST := hide hst
        have HV := hide hv
        clear hst hv
        have hk' : k = 0 ∨ k = 1 ∨ k = 2 := by omega
        obtain ⟨K, hK⟩ : ∃ K : Int, (k : Int) = K := ⟨_, rfl⟩
        rw [hK]
        clear hk2
        rcases hk' with rfl | rfl | rfl
        · obtain rfl : K = 0 := by omega
          clear hK
          have HCS : Hid (∀ W, Below wr.heap.size wr W → W.cell? ⟨w2.heap.size, 3, none⟩ = some (.bool g2) ∧ W.cell? ⟨w2.heap.size, 4, none⟩ = some (.string s2) ∧ W.cell? ⟨w2.heap.size, 5, none⟩ = some (.string t2) ∧ W.cell? ⟨w2.heap.size + 1, 0, none⟩ = some (.bool g3) ∧ W.cell? ⟨w2.heap.size + 1, 1, none⟩ = some (.string s3) ∧ W.cell? ⟨w2.heap.size + 1, 2, none⟩ = some (.string t3)) := fun W h => by
            obtain ⟨p0, p1, p2, p3, p4, p5⟩ := (HV.out.below h).at6 2 rfl
            obtain ⟨r0, r1, r2, r3, r4, r5⟩ := (HV.out.below h).at6 1 rfl
            exact ⟨by assumption, by assumption, by assumption, by assumption, by assumption, by assumption⟩
          go_wp2_with fail
          go_cut [11, 12] (fun z19 z20 wx => ∃ b, z19 = .pointer (some ⟨b, 0, none⟩) ∧ z20 = .int .i64 0 ∧ VB w wx ((b, [.bool g7, .string s7, .string t7]) :: [(w2.heap.size + 2, [.bool gl, .string sl, .string tl, .bool gh, .string sh, .string th]), (w2.heap.size + 1, [.bool g3, .string s3, .string t3, .bool g4, .string s4, .string t4]), (w2.heap.size, [.bool g1, .string s1, .string t1, .bool g2, .string s2, .string t2]), (w.heap.size + 2, [.bool false, .string ⟨#[]⟩, .string ⟨#[]⟩, .bool false, .string ⟨#[]⟩, .string ⟨#[]⟩]), (w.heap.size + 1, [.bool g3, .string s3, .string t3, .bool g4, .string s4, .string t4]), (w.heap.size, [.bool g1, .string s1, .string t1, .bool g2, .string s2, .string t2])]) ∧ Below wr.heap.size wr wx)
          case first =>
            have hd := (Below.refl wr.heap.size wr).drew
            have hd2 := (bAlloc (Below.refl wr.heap.size wr) (.cells #[.bool false, .string ⟨#[]⟩, .string ⟨#[]⟩] 24)).drew
            have HLW : Hid (∀ W, Below wr.heap.size wr W → LawW W) := fun W h => (HV.out.below h).law HW.out
            go_region_held3 (fun w' => w'.cell? ⟨w2.heap.size, 3, none⟩ = some (.bool g2) ∧ w'.cell? ⟨w2.heap.size, 4, none⟩ = some (.string s2) ∧ w'.cell? ⟨w2.heap.size, 5, none⟩ = some (.string t2) ∧ w'.cell? ⟨w2.heap.size + 1, 0, none⟩ = some (.bool g3) ∧ w'.cell? ⟨w2.heap.size + 1, 1, none⟩ = some (.string s3) ∧ w'.cell? ⟨w2.heap.size + 1, 2, none⟩ = some (.string t3))
              (first | exact HCS.out _ (by assumption) | exact HCS.out _ (bAlloc (by assumption) _) | exact HCS.out _ (bAlloc (by assumption) _).drew | exact HCS.out _ (end_set HV.out (by assumption) (by assumption) (g7, s7, t7)).2)
              (first
                | (go_at_call 31; (with_reducible refine (Hm2.out wr.drew (HLW.out wr.drew hd)).mono ?_); rintro e wa ⟨rfl, hb⟩; have hd := bStep (w0 := wr) hd hb; clear hb)
                | (go_at_call 31; (with_reducible refine (Hm2.out ((wr.alloc (.cells #[.bool false, .string ⟨#[]⟩, .string ⟨#[]⟩] 24)).drew) (HLW.out ((wr.alloc (.cells #[.bool false, .string ⟨#[]⟩, .string ⟨#[]⟩] 24)).drew) hd2)).mono ?_); rintro e wa ⟨rfl, hb⟩; have hz := (ZW.newd (u := wr) (W := wr) (Below.refl _ _) 24).below hb; have hd := bStep (w0 := wr) hd2 hb; obtain ⟨⟨z0, z1, z2, fz0, fz1, fz2⟩, _⟩ := id hz; clear hb))
            all_goals
              go_wp2_with fail
              go_meet
              first
              | (obtain ⟨q1, q2⟩ := end_new HV.out (by assumption) (g7, s7, t7) 24; exact ⟨_, rfl, rfl, q1, q2⟩)
              | (obtain ⟨q1, q2⟩ := end_set HV.out (by assumption) (by assumption) (g7, s7, t7); exact ⟨_, rfl, rfl, q1, q2⟩)
          case rest =>
          obtain ⟨bm, rfl, rfl, hv, hb⟩ := hcut
          have HV2 := hide hv
          clear hv hb HV HCS
          obtain ⟨wq2, rfl⟩ : ∃ x, x = wc := ⟨_, rfl⟩
          have hin := bst_in HST.out (by omega)
          obtain ⟨z1, hz1, c1, -⟩ := HC.out (g7, s7, t7) (by simp) (gl, sl, tl) hin.1
          obtain ⟨z2, hz2, -, c2⟩ := HC.out (g7, s7, t7) (by simp) (gh, sh, th) hin.2
          unfold YC at hz1 hz2
          have HZ1 := hide hz1
          have HZ2 := hide hz2
          have HC1 := hide c1
          have HC2 := hide c2
          clear hz1 hz2 c1 c2 hin
          obtain ⟨m0, m1, m2⟩ := HV2.out.at3 0 rfl
          obtain ⟨o0, o1, o2, o3, o4, o5⟩ := HV2.out.at6 1 rfl
          go_wp2_with fail
          clear m0 m1 m2 o0 o1 o2 o3 o4 o5
          refine (HZ1.out _ (HV2.out.law HW.out)).mono ?_
          rintro e w5 ⟨rfl, hb⟩
          have HV3 := hide (HV2.out.below hb)
          clear hb HV2
          rcases Bool.eq_false_or_eq_true (decide (z1 < 0)) with d1 | d1
          · have HL := hide (HC1.out.1 (of_decide_eq_true d1))
            obtain ⟨m0, m1, m2⟩ := HV3.out.at3 0 rfl
            obtain ⟨o0, o1, o2, o3, o4, o5⟩ := HV3.out.at6 1 rfl
            obtain ⟨f0, f1, f2, f3, f4, f5⟩ := HV3.out.fz6 1 rfl
            go_upto_region 17 with fail
            clear m0 m1 m2 o0 o1 o2 o3 o4 o5 f0 f1 f2 f3 f4 f5 d1
            have HV4 := hide (HV3.out.put6lo 1 rfl (.bool g7) (.string s7) (.string t7))
            clear HV3
            obtain ⟨m0, m1, m2⟩ := HV4.out.at3 0 rfl
            obtain ⟨o0, o1, o2, o3, o4, o5⟩ := HV4.out.at6 1 rfl
            go_wp2_with fail
            clear m0 m1 m2 o0 o1 o2 o3 o4 o5
            refine (HZ2.out _ (HV4.out.law HW.out)).mono ?_
            rintro e w6 ⟨rfl, hb⟩
            have HV5 := hide (HV4.out.below hb)
            clear hb HV4
            rcases Bool.eq_false_or_eq_true (decide (0 < z2)) with d2 | d2
            · have HH := hide (HC2.out.1 (of_decide_eq_true d2))
              have HST' := hide (bst_step (m := (g7, s7, t7)) HST.out (by omega) rfl (.inl ⟨rfl, HL.out⟩) (.inl ⟨rfl, HH.out⟩))
              obtain ⟨m0, m1, m2⟩ := HV5.out.at3 0 rfl
              obtain ⟨o0, o1, o2, o3, o4, o5⟩ := HV5.out.at6 1 rfl
              obtain ⟨f0, f1, f2, f3, f4, f5⟩ := HV5.out.fz6 1 rfl
              go_wp2_with fail
              clear m0 m1 m2 o0 o1 o2 o3 o4 o5 f0 f1 f2 f3 f4 f5
              have HV6 := hide (HV5.out.put6hi 1 rfl (.bool g7) (.string s7) (.string t7))
              go_roundw
              case rel => exact ⟨0 + 1, _, _, _, _, _, _, by omega, by go_num, HST'.out, HV6.out.tail⟩
              case measure => (simp [intOf]; try omega)
            · have HH := hide (fun h => of_decide_eq_false d2 (HC2.out.2 h))
              have HST' := hide (bst_step (m := (g7, s7, t7)) HST.out (by omega) rfl (.inl ⟨rfl, HL.out⟩) (.inr ⟨rfl, HH.out⟩))
              go_wp2_with fail
              go_roundw
              case rel => exact ⟨0 + 1, _, _, _, _, _, _, by omega, by go_num, HST'.out, HV5.out.tail⟩
              case measure => (simp [intOf]; try omega)
          · have HL := hide (fun h => of_decide_eq_false d1 (HC1.out.2 h))
            obtain ⟨m0, m1, m2⟩ := HV3.out.at3 0 rfl
            obtain ⟨o0, o1, o2, o3, o4, o5⟩ := HV3.out.at6 1 rfl
            obtain ⟨f0, f1, f2, f3, f4, f5⟩ := HV3.out.fz6 1 rfl
            go_upto_region 17 with fail
            clear m0 m1 m2 o0 o1 o2 o3 o4 o5 f0 f1 f2 f3 f4 f5 d1
            obtain ⟨m0, m1, m2⟩ := HV3.out.at3 0 rfl
            obtain ⟨o0, o1, o2, o3, o4, o5⟩ := HV3.out.at6 1 rfl
            go_wp2_with fail
            clear m0 m1 m2 o0 o1 o2 o3 o4 o5
            refine (HZ2.out _ (HV3.out.law HW.out)).mono ?_
            rintro e w6 ⟨rfl, hb⟩
            have HV5 := hide (HV3.out.below hb)
            clear hb HV3
            rcases Bool.eq_false_or_eq_true (decide (0 < z2)) with d2 | d2
            · have HH := hide (HC2.out.1 (of_decide_eq_true d2))
              have HST' := hide (bst_step (m := (g7, s7, t7)) HST.out (by omega) rfl (.inr ⟨rfl, HL.out⟩) (.inl ⟨rfl, HH.out⟩))
              obtain ⟨m0, m1, m2⟩ := HV5.out.at3 0 rfl
              obtain ⟨o0, o1, o2, o3, o4, o5⟩ := HV5.out.at6 1 rfl
              obtain ⟨f0, f1, f2, f3, f4, f5⟩ := HV5.out.fz6 1 rfl
              go_wp2_with fail
              clear m0 m1 m2 o0 o1 o2 o3 o4 o5 f0 f1 f2 f3 f4 f5
              have HV6 := hide (HV5.out.put6hi 1 rfl (.bool g7) (.string s7) (.string t7))
              go_roundw
              case rel => exact ⟨0 + 1, _, _, _, _, _, _, by omega, by go_num, HST'.out, HV6.out.tail⟩
              case measure => (simp [intOf]; try omega)
            · have HH := hide (fun h => of_decide_eq_false d2 (HC2.out.2 h))
              have HST' := hide (bst_step (m := (g7, s7, t7)) HST.out (by omega) rfl (.inr ⟨rfl, HL.out⟩) (.inr ⟨rfl, HH.out⟩))
              go_wp2_with fail
              go_roundw
              case rel => exact ⟨0 + 1, _, _, _, _, _, _, by omega, by go_num, HST'.out, HV5.out.tail⟩
              case measure => (simp [intOf]; try omega)
        · obtain rfl : K = 1 := by omega
          clear hK
          have HCS : Hid (∀ W, Below wr.heap.size wr W → W.cell? ⟨w2.heap.size, 3, none⟩ = some (.bool g2) ∧ W.cell? ⟨w2.heap.size, 4, none⟩ = some (.string s2) ∧ W.cell? ⟨w2.heap.size, 5, none⟩ = some (.string t2) ∧ W.cell? ⟨w2.heap.size + 1, 3, none⟩ = some (.bool g4) ∧ W.cell? ⟨w2.heap.size + 1, 4, none⟩ = some (.string s4) ∧ W.cell? ⟨w2.heap.size + 1, 5, none⟩ = some (.string t4)) := fun W h => by
            obtain ⟨p0, p1, p2, p3, p4, p5⟩ := (HV.out.below h).at6 2 rfl
            obtain ⟨r0, r1, r2, r3, r4, r5⟩ := (HV.out.below h).at6 1 rfl
            exact ⟨by assumption, by assumption, by assumption, by assumption, by assumption, by assumption⟩
          go_wp2_with fail
          go_cut [11, 12] (fun z19 z20 wx => ∃ b, z19 = .pointer (some ⟨b, 0, none⟩) ∧ z20 = .int .i64 0 ∧ VB w wx ((b, [.bool g8, .string s8, .string t8]) :: [(w2.heap.size + 2, [.bool gl, .string sl, .string tl, .bool gh, .string sh, .string th]), (w2.heap.size + 1, [.bool g3, .string s3, .string t3, .bool g4, .string s4, .string t4]), (w2.heap.size, [.bool g1, .string s1, .string t1, .bool g2, .string s2, .string t2]), (w.heap.size + 2, [.bool false, .string ⟨#[]⟩, .string ⟨#[]⟩, .bool false, .string ⟨#[]⟩, .string ⟨#[]⟩]), (w.heap.size + 1, [.bool g3, .string s3, .string t3, .bool g4, .string s4, .string t4]), (w.heap.size, [.bool g1, .string s1, .string t1, .bool g2, .string s2, .string t2])]) ∧ Below wr.heap.size wr wx)
          case first =>
            have hd := (Below.refl wr.heap.size wr).drew
            have hd2 := (bAlloc (Below.refl wr.heap.size wr) (.cells #[.bool false, .string ⟨#[]⟩, .string ⟨#[]⟩] 24)).drew
            have HLW : Hid (∀ W, Below wr.heap.size wr W → LawW W) := fun W h => (HV.out.below h).law HW.out
            go_region_held3 (fun w' => w'.cell? ⟨w2.heap.size, 3, none⟩ = some (.bool g2) ∧ w'.cell? ⟨w2.heap.size, 4, none⟩ = some (.string s2) ∧ w'.cell? ⟨w2.heap.size, 5, none⟩ = some (.string t2) ∧ w'.cell? ⟨w2.heap.size + 1, 3, none⟩ = some (.bool g4) ∧ w'.cell? ⟨w2.heap.size + 1, 4, none⟩ = some (.string s4) ∧ w'.cell? ⟨w2.heap.size + 1, 5, none⟩ = some (.string t4))
              (first | exact HCS.out _ (by assumption) | exact HCS.out _ (bAlloc (by assumption) _) | exact HCS.out _ (bAlloc (by assumption) _).drew | exact HCS.out _ (end_set HV.out (by assumption) (by assumption) (g8, s8, t8)).2)
              (first
                | (go_at_call 31; (with_reducible refine (Hm3.out wr.drew (HLW.out wr.drew hd)).mono ?_); rintro e wa ⟨rfl, hb⟩; have hd := bStep (w0 := wr) hd hb; clear hb)
                | (go_at_call 31; (with_reducible refine (Hm3.out ((wr.alloc (.cells #[.bool false, .string ⟨#[]⟩, .string ⟨#[]⟩] 24)).drew) (HLW.out ((wr.alloc (.cells #[.bool false, .string ⟨#[]⟩, .string ⟨#[]⟩] 24)).drew) hd2)).mono ?_); rintro e wa ⟨rfl, hb⟩; have hz := (ZW.newd (u := wr) (W := wr) (Below.refl _ _) 24).below hb; have hd := bStep (w0 := wr) hd2 hb; obtain ⟨⟨z0, z1, z2, fz0, fz1, fz2⟩, _⟩ := id hz; clear hb))
            all_goals
              go_wp2_with fail
              go_meet
              first
              | (obtain ⟨q1, q2⟩ := end_new HV.out (by assumption) (g8, s8, t8) 24; exact ⟨_, rfl, rfl, q1, q2⟩)
              | (obtain ⟨q1, q2⟩ := end_set HV.out (by assumption) (by assumption) (g8, s8, t8); exact ⟨_, rfl, rfl, q1, q2⟩)
          case rest =>
          obtain ⟨bm, rfl, rfl, hv, hb⟩ := hcut
          have HV2 := hide hv
          clear hv hb HV HCS
          obtain ⟨wq2, rfl⟩ : ∃ x, x = wc := ⟨_, rfl⟩
          have hin := bst_in HST.out (by omega)
          obtain ⟨z1, hz1, c1, -⟩ := HC.out (g8, s8, t8) (by simp) (gl, sl, tl) hin.1
          obtain ⟨z2, hz2, -, c2⟩ := HC.out (g8, s8, t8) (by simp) (gh, sh, th) hin.2
          unfold YC at hz1 hz2
          have HZ1 := hide hz1
          have HZ2 := hide hz2
          have HC1 := hide c1
          have HC2 := hide c2
          clear hz1 hz2 c1 c2 hin
          obtain ⟨m0, m1, m2⟩ := HV2.out.at3 0 rfl
          obtain ⟨o0, o1, o2, o3, o4, o5⟩ := HV2.out.at6 1 rfl
          go_wp2_with fail
          clear m0 m1 m2 o0 o1 o2 o3 o4 o5
          refine (HZ1.out _ (HV2.out.law HW.out)).mono ?_
          rintro e w5 ⟨rfl, hb⟩
          have HV3 := hide (HV2.out.below hb)
          clear hb HV2
          rcases Bool.eq_false_or_eq_true (decide (z1 < 0)) with d1 | d1
          · have HL := hide (HC1.out.1 (of_decide_eq_true d1))
            obtain ⟨m0, m1, m2⟩ := HV3.out.at3 0 rfl
            obtain ⟨o0, o1, o2, o3, o4, o5⟩ := HV3.out.at6 1 rfl
            obtain ⟨f0, f1, f2, f3, f4, f5⟩ := HV3.out.fz6 1 rfl
            go_upto_region 17 with fail
            clear m0 m1 m2 o0 o1 o2 o3 o4 o5 f0 f1 f2 f3 f4 f5 d1
            have HV4 := hide (HV3.out.put6lo 1 rfl (.bool g8) (.string s8) (.string t8))
            clear HV3
            obtain ⟨m0, m1, m2⟩ := HV4.out.at3 0 rfl
            obtain ⟨o0, o1, o2, o3, o4, o5⟩ := HV4.out.at6 1 rfl
            go_wp2_with fail
            clear m0 m1 m2 o0 o1 o2 o3 o4 o5
            refine (HZ2.out _ (HV4.out.law HW.out)).mono ?_
            rintro e w6 ⟨rfl, hb⟩
            have HV5 := hide (HV4.out.below hb)
            clear hb HV4
            rcases Bool.eq_false_or_eq_true (decide (0 < z2)) with d2 | d2
            · have HH := hide (HC2.out.1 (of_decide_eq_true d2))
              have HST' := hide (bst_step (m := (g8, s8, t8)) HST.out (by omega) rfl (.inl ⟨rfl, HL.out⟩) (.inl ⟨rfl, HH.out⟩))
              obtain ⟨m0, m1, m2⟩ := HV5.out.at3 0 rfl
              obtain ⟨o0, o1, o2, o3, o4, o5⟩ := HV5.out.at6 1 rfl
              obtain ⟨f0, f1, f2, f3, f4, f5⟩ := HV5.out.fz6 1 rfl
              go_wp2_with fail
              clear m0 m1 m2 o0 o1 o2 o3 o4 o5 f0 f1 f2 f3 f4 f5
              have HV6 := hide (HV5.out.put6hi 1 rfl (.bool g8) (.string s8) (.string t8))
              go_roundw
              case rel => exact ⟨1 + 1, _, _, _, _, _, _, by omega, by go_num, HST'.out, HV6.out.tail⟩
              case measure => (simp [intOf]; try omega)
            · have HH := hide (fun h => of_decide_eq_false d2 (HC2.out.2 h))
              have HST' := hide (bst_step (m := (g8, s8, t8)) HST.out (by omega) rfl (.inl ⟨rfl, HL.out⟩) (.inr ⟨rfl, HH.out⟩))
              go_wp2_with fail
              go_roundw
              case rel => exact ⟨1 + 1, _, _, _, _, _, _, by omega, by go_num, HST'.out, HV5.out.tail⟩
              case measure => (simp [intOf]; try omega)
          · have HL := hide (fun h => of_decide_eq_false d1 (HC1.out.2 h))
            obtain ⟨m0, m1, m2⟩ := HV3.out.at3 0 rfl
            obtain ⟨o0, o1, o2, o3, o4, o5⟩ := HV3.out.at6 1 rfl
            obtain ⟨f0, f1, f2, f3, f4, f5⟩ := HV3.out.fz6 1 rfl
            go_upto_region 17 with fail
            clear m0 m1 m2 o0 o1 o2 o3 o4 o5 f0 f1 f2 f3 f4 f5 d1
            obtain ⟨m0, m1, m2⟩ := HV3.out.at3 0 rfl
            obtain ⟨o0, o1, o2, o3, o4, o5⟩ := HV3.out.at6 1 rfl
            go_wp2_with fail
            clear m0 m1 m2 o0 o1 o2 o3 o4 o5
            refine (HZ2.out _ (HV3.out.law HW.out)).mono ?_
            rintro e w6 ⟨rfl, hb⟩
            have HV5 := hide (HV3.out.below hb)
            clear hb HV3
            rcases Bool.eq_false_or_eq_true (decide (0 < z2)) with d2 | d2
            · have HH := hide (HC2.out.1 (of_decide_eq_true d2))
              have HST' := hide (bst_step (m := (g8, s8, t8)) HST.out (by omega) rfl (.inr ⟨rfl, HL.out⟩) (.inl ⟨rfl, HH.out⟩))
              obtain ⟨m0, m1, m2⟩ := HV5.out.at3 0 rfl
              obtain ⟨o0, o1, o2, o3, o4, o5⟩ := HV5.out.at6 1 rfl
              obtain ⟨f0, f1, f2, f3, f4, f5⟩ := HV5.out.fz6 1 rfl
              go_wp2_with fail
              clear m0 m1 m2 o0 o1 o2 o3 o4 o5 f0 f1 f2 f3 f4 f5
              have HV6 := hide (HV5.out.put6hi 1 rfl (.bool g8) (.string s8) (.string t8))
              go_roundw
              case rel => exact ⟨1 + 1, _, _, _, _, _, _, by omega, by go_num, HST'.out, HV6.out.tail⟩
              case measure => (simp [intOf]; try omega)
            · have HH := hide (fun h => of_decide_eq_false d2 (HC2.out.2 h))
              have HST' := hide (bst_step (m := (g8, s8, t8)) HST.out (by omega) rfl (.inr ⟨rfl, HL.out⟩) (.inr ⟨rfl, HH.out⟩))
              go_wp2_with fail
              go_roundw
              case rel => exact ⟨1 + 1, _, _, _, _, _, _, by omega, by go_num, HST'.out, HV5.out.tail⟩
              case measure => (simp [intOf]; try omega)
        · obtain rfl : K = 2 := by omega
          clear hK
          go_wp2_with fail
          go_roundw
          case rel => exact ⟨1 + 1, gl, gh, sl, tl, sh, th, by omega, by go_num, HST.out, HV.out⟩
          case measure => (simp [intOf]; try omega)
    · obtain rfl : K = 2 := by omega
      clear hK
      obtain ⟨c25, c26, c27, c28, c29, c30⟩ := HV.out.at6 0 rfl
      obtain ⟨c31, c32, c33, c34, c35, c36⟩ := HV.out.at6 3 rfl
      obtain ⟨fc31, fc32, fc33, fc34, fc35, fc36⟩ := HV.out.fz6 3 rfl
      have HV_ := hide (HV.out.put6 3 rfl (.bool gl) (.string sl) (.string tl) (.bool gh) (.string sh) (.string th))
      clear HV
      go_wp2_with fail
      clear c25 c26 c27 c28 c29 c30 c31 c32 c33 c34 c35 c36 fc31 fc32 fc33 fc34 fc35 fc36
      have hst2 : MinX [(g5, s5, t5), (g6, s6, t6), (g7, s7, t7), (g8, s8, t8)] (gl, sl, tl) ∧ MaxX [(g5, s5, t5), (g6, s6, t6), (g7, s7, t7), (g8, s8, t8)] (gh, sh, th) := by
        rcases HST.out with h | h
        · exact absurd h (by decide)
        · exact h
      obtain ⟨d0, d1, d2, d3, d4, d5⟩ := HV_.out.at6 3 rfl
      exact bodyPost_ret (v := .tuple #[.agg #[.bool gl, .string sl, .string tl, .bool gh, .string sh, .string th], .int .i64 0]) (by simp [results, Tryz.results14, go_sem, d0, d1, d2, d3, d4, d5]) rfl ⟨_, _, rfl, hst2, HV_.out.bel⟩
end Go.Proofs.YtbojlmnajndleaaGreatDoor
