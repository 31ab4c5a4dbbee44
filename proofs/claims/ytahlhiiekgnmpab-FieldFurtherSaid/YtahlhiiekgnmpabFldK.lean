/- The laws of layer 6: the examples of the chapter; FieldMatchesReference. -/
import Derived.Test.YtahlhiiekgnmpabFldJ
namespace Go.Proofs.Ytahlhiiekgnmpab
open Go.RowKit

theorem it_poly {ps : List (FP × FP)} {cs : List FP} (h0 : 0 < ps.length) (hd : dstB ps = true) (hl : cs.length ≤ ps.length) (h : ∀ k, k < ps.length → evalP cs (px ps k) = py ps k) (x : FP) : itV ps x = va (evalP cs x) := by
  obtain ⟨n, hn⟩ : ∃ n, ps.length = n + 1 := ⟨ps.length - 1, by omega⟩
  have hds := (dst_iff ps).1 hd
  rw [(itV_dst hd x).1]
  rw [hn] at hds h hl ⊢
  show va (nv (px ps) (py ps) x 0 n) = _
  congr 1
  exact nv_uniq hds (IsPoly.le (n := cs.length) (f := evalP cs) ⟨cs, rfl, fun _ => rfl⟩ hl) h x
theorem ip_poly {l : List (Int × Int)} {y : Int} (cs : List FP) (hB : itB l y = true) (hd : dstB (l.map el2) = true) (hl : cs.length ≤ l.length) (h : ∀ k, k < l.length → evalP cs (px (l.map el2) k) = py (l.map el2) k) :
    ipV l y = va (evalP cs (el y)) ∧ ipE l y = 0 := by
  have h1 : 0 < (l.map el2).length := by
    have h' : ((1 ≤ l.length ∧ l.length ≤ 16) ∧ inF y = true) ∧ allP l = true := by simpa [itB] using hB
    rw [List.length_map]; omega
  unfold ipV ipE
  rw [if_pos hB, if_pos hB, it_poly (cs := cs) h1 hd (by rw [List.length_map]; exact hl) (by rw [List.length_map]; exact h), (itV_dst hd 0).2]
  exact ⟨rfl, rfl⟩
theorem hd_add : addV 2147483646 2 = 1 ∧ twoE 2147483646 2 = 0 := by decide +kernel
theorem hd_mul : mulV 2147483646 2147483646 = 1 ∧ twoE 2147483646 2147483646 = 0 := by decide +kernel
theorem hd_inv : invV 2 = 1073741824 ∧ invE 2 = 0 := by
  refine ⟨?_, by decide⟩
  have h1 : (el 2) * (el 1073741824) = 1 := by decide +kernel
  have h2 : (el 2) ≠ 0 := by decide +kernel
  have h3 := Lean.Grind.Field.mul_inv_cancel h2
  have h4 : (el 2)⁻¹ = el 1073741824 := by grind
  unfold invV
  rw [if_pos (by decide), h4]
  exact va_el (by omega) (by omega)
theorem hd_eval : evalV [5, 3, 1] 2 = 15 ∧ eC (evalB [5, 3, 1] 2) = 0 := by decide +kernel
theorem hd_eval0 : evalV [] 7 = 0 ∧ eC (evalB [] 7) = 0 := by decide +kernel
theorem hd_ip2 : ipV [(1, 9), (2, 15)] 0 = 3 ∧ ipE [(1, 9), (2, 15)] 0 = 0 := by
  have h := ip_poly (l := [(1, 9), (2, 15)]) (y := 0) [el 3, el 6] (by decide +kernel) (by decide +kernel) (by decide) (by decide +kernel)
  refine ⟨h.1.trans ?_, h.2⟩
  decide +kernel
theorem hd_ip3 : ipV [(1, 9), (2, 15), (3, 23)] 0 = 5 ∧ ipE [(1, 9), (2, 15), (3, 23)] 0 = 0 := by
  have h := ip_poly (l := [(1, 9), (2, 15), (3, 23)]) (y := 0) [el 5, el 3, el 1] (by decide +kernel) (by decide +kernel) (by decide) (by decide +kernel)
  refine ⟨h.1.trans ?_, h.2⟩
  decide +kernel
theorem hd_ipt : ipV [(1, 9), (1, 9)] 0 = 0 ∧ ipE [(1, 9), (1, 9)] 0 = 8 := by
  have hB : itB [(1, 9), (1, 9)] 0 = true := by decide +kernel
  have hd : dstB ([(1, 9), (1, 9)].map el2) = false := by decide +kernel
  unfold ipV ipE
  rw [if_pos hB, if_pos hB, (itV_not hd _).1, (itV_not hd 0).2]
  exact ⟨rfl, rfl⟩

theorem fld_add_at (a b v f : Int) (w : World) (h : addV a b = v ∧ twoE a b = f) : Calls Try.prog 37 #[.int .i64 a, .int .i64 b] w fun e w' => e = .returned (.tuple #[.int .i64 v, .int .i64 f]) ∧ Below w.heap.size w w' := by
  obtain ⟨rfl, rfl⟩ := h; exact fld_add a b w
theorem fld_mul_at (a b v f : Int) (w : World) (h : mulV a b = v ∧ twoE a b = f) : Calls Try.prog 38 #[.int .i64 a, .int .i64 b] w fun e w' => e = .returned (.tuple #[.int .i64 v, .int .i64 f]) ∧ Below w.heap.size w w' := by
  obtain ⟨rfl, rfl⟩ := h; exact fld_mul a b w
theorem fld_inv_at (a v f : Int) (w : World) (h : invV a = v ∧ invE a = f) : Calls Try.prog 19 #[.int .i64 a] w fun e w' => e = .returned (.tuple #[.int .i64 v, .int .i64 f]) ∧ w = w' := by
  obtain ⟨rfl, rfl⟩ := h; exact fld_Inverse a w
theorem fld_eval_at (l : List Int) (x v f : Int) (u : Value) (w : World) (hs : SliceOf vI 1 w u l) (h : evalV l x = v ∧ eC (evalB l x) = f) : Calls Try.prog 20 #[u, .int .i64 x] w fun e w' => e = .returned (.tuple #[.int .i64 v, .int .i64 f]) ∧ w = w' := by
  obtain ⟨rfl, rfl⟩ := h; exact fld_eval l x u w hs
theorem fld_ip_at (l : List (Int × Int)) (x v f : Int) (u : Value) (w : World) (hs : SliceOf vP2 2 w u l) (h : ipV l x = v ∧ ipE l x = f) : Calls Try.prog 23 #[u, .int .i64 x] w fun e w' => e = .returned (.tuple #[.int .i64 v, .int .i64 f]) ∧ Below w.heap.size w w' := by
  obtain ⟨rfl, rfl⟩ := h; exact fld_interpolate l x u w hs

theorem bstep {w0 w1 w2 : World} (h : Below w0.heap.size w0 w1) (k : Below w1.heap.size w1 w2) : Below w0.heap.size w0 w2 := btrans h h.size k

set_option maxHeartbeats 2000000 in
set_option maxRecDepth 100000 in
theorem law06_head (w : World) : Calls Try.prog 15 #[] w fun e w' => e = .returned (.bool true) ∧ Below w.heap.size w w' := by
  go_enter Try.func15, Try.ntmps15
  go_wp2_with fail
  refine (fld_add_at 2147483646 2 1 0 _ hd_add).mono ?_
  rintro e w1 ⟨rfl, hb⟩
  have B := hide hb
  clear hb
  go_wp2_with fail
  refine (fld_mul_at 2147483646 2147483646 1 0 _ hd_mul).mono ?_
  rintro e w2 ⟨rfl, hb⟩
  replace B := hide (bstep B.out hb)
  clear hb
  go_wp2_with fail
  refine (fld_inv_at 2 1073741824 0 _ hd_inv).mono ?_
  rintro e w' ⟨rfl, rfl⟩
  go_wp2_with fail
  refine (fld_inv_at 0 0 14 _ ⟨invV_zero, invE_zero⟩).mono ?_
  rintro e w' ⟨rfl, rfl⟩
  go_wp2_with fail
  refine (fld_inv_at (-1) 0 1 _ ⟨invV_bad (by decide), invE_bad (by decide)⟩).mono ?_
  rintro e w' ⟨rfl, rfl⟩
  go_wp2_with fail
  have hs : SliceOf vI 1 (w2.alloc (.cells #[.int .i64 5, .int .i64 3, .int .i64 1] 3)) (.slice (some ⟨w2.heap.size, 0, none⟩) 3 3) [5, 3, 1] := slice_lit vI_len w2 [5, 3, 1] 3 (by simp [maxLen])
  refine (fld_eval_at [5, 3, 1] 2 15 0 _ _ hs hd_eval).mono ?_
  rintro e w' ⟨rfl, rfl⟩
  replace B := hide (bstep B.out (bAlloc (Below.refl _ w2) (.cells #[.int .i64 5, .int .i64 3, .int .i64 1] 3)))
  obtain ⟨w3, hw3⟩ : ∃ w3, w2.alloc (.cells #[.int .i64 5, .int .i64 3, .int .i64 1] 3) = w3 := ⟨_, rfl⟩
  rw [hw3] at B ⊢
  clear hs hw3
  go_wp2_with fail
  refine (fld_eval_at [] 7 0 0 _ _ (slice_nil _) hd_eval0).mono ?_
  rintro e w' ⟨rfl, rfl⟩
  go_wp2_with fail
  have hs : SliceOf vP2 2 (w3.alloc (.cells #[.int .i64 1, .int .i64 9, .int .i64 2, .int .i64 15] 39)) (.slice (some ⟨w3.heap.size, 0, none⟩) 2 2) [(1, 9), (2, 15)] := slice_lit vP2_len w3 [(1, 9), (2, 15)] 39 (by simp [maxLen])
  refine (fld_ip_at [(1, 9), (2, 15)] 0 3 0 _ _ hs hd_ip2).mono ?_
  rintro e w4 ⟨rfl, hb⟩
  replace B := hide (bstep B.out (bstep (bAlloc (Below.refl _ w3) (.cells #[.int .i64 1, .int .i64 9, .int .i64 2, .int .i64 15] 39)) hb))
  clear hs hb
  go_wp2_with fail
  have hs : SliceOf vP2 2 (w4.alloc (.cells #[.int .i64 1, .int .i64 9, .int .i64 1, .int .i64 9] 39)) (.slice (some ⟨w4.heap.size, 0, none⟩) 2 2) [(1, 9), (1, 9)] := slice_lit vP2_len w4 [(1, 9), (1, 9)] 39 (by simp [maxLen])
  refine (fld_ip_at [(1, 9), (1, 9)] 0 0 8 _ _ hs hd_ipt).mono ?_
  rintro e w5 ⟨rfl, hb⟩
  replace B := hide (bstep B.out (bstep (bAlloc (Below.refl _ w4) (.cells #[.int .i64 1, .int .i64 9, .int .i64 1, .int .i64 9] 39)) hb))
  clear hs hb
  go_wp2_with fail
  have hs : SliceOf vP2 2 (w5.alloc (.cells #[.int .i64 1, .int .i64 9, .int .i64 2, .int .i64 15, .int .i64 3, .int .i64 23] 39)) (.slice (some ⟨w5.heap.size, 0, none⟩) 3 3) [(1, 9), (2, 15), (3, 23)] := slice_lit vP2_len w5 [(1, 9), (2, 15), (3, 23)] 39 (by simp [maxLen])
  refine (fld_ip_at [(1, 9), (2, 15), (3, 23)] 0 5 0 _ _ hs hd_ip3).mono ?_
  rintro e w6 ⟨rfl, hb⟩
  replace B := hide (bstep B.out (bstep (bAlloc (Below.refl _ w5) (.cells #[.int .i64 1, .int .i64 9, .int .i64 2, .int .i64 15, .int .i64 3, .int .i64 23] 39)) hb))
  clear hs hb
  go_wp2_with fail
  go_ret
  exact ⟨rfl, B.out⟩
end Go.Proofs.Ytahlhiiekgnmpab
