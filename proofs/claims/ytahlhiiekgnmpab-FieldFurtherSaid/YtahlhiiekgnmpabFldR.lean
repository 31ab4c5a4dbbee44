/- The laws of layer 6: in, add, mul; FieldLaws, FieldInverts. -/
import Derived.Test.YtahlhiiekgnmpabFldK
namespace Go.Proofs.Ytahlhiiekgnmpab
open Go.RowKit

set_option maxHeartbeats 1000000 in
theorem law06_in (l : List Int) (v : Value) (w : World) (h : SliceOf vI 1 w v l) :
    Calls Try.prog 16 #[v] w fun e w' => e = .returned (.bool (allF l)) ∧ w = w' := by
  obtain ⟨ao, cp, rfl⟩ := h.shape
  have HC := hide h.at_
  clear h
  go_enter Try.func16, Try.ntmps16
  go_wp2_with fail
  go_loop [3] (fun i => ∃ k : Nat, k ≤ l.length ∧ i = .int .i64 k ∧ allF (l.take k) = true) (fun i => l.length - (intOf i).toNat)
  case atStart => exact ⟨0, Nat.zero_le _, rfl, rfl⟩
  case round =>
    obtain ⟨k, hk, rfl, hall⟩ := hrel
    have HA := hide hall
    clear hall
    by_cases hlt : k < l.length
    · obtain ⟨b, off, rfl, hb, h1, h2, hc⟩ := HC.out (by omega)
      have hx := int_cell hc hlt
      have hm : (cp : Int) ≤ 9223372036854775807 := by unfold maxLen at h2; omega
      have HS := hide (allF_take hlt HA.out)
      have HN := hide (fun h => allF_no (l := l) hlt h)
      clear hc hb h2
      obtain ⟨x, hxx⟩ : ∃ x, l[k] = x := ⟨_, rfl⟩
      rw [hxx] at hx HS HN
      clear hxx
      by_cases h0 : x < 0
      · have hf := hide (HN.out (inF_no.2 (by omega)))
        clear HN HS
        go_wp2_with fail
        go_ret
        exact ⟨ret_bool hf.out.symm, rfl⟩
      · by_cases h3 : 2147483647 ≤ x
        · have hf := hide (HN.out (inF_no.2 (by omega)))
          clear HN HS
          go_wp2_with fail
          go_ret
          exact ⟨ret_bool hf.out.symm, rfl⟩
        · have HS2 := hide (HS.out.trans (inF_yes.2 (by omega)))
          clear HN HS
          go_wp2_with fail
          go_round
          case rel => exact ⟨k + 1, by omega, by go_num, HS2.out⟩
          case measure => simp [intOf]; omega
    · have hk' : k = l.length := by omega
      subst hk'
      rw [List.take_length] at HA
      have HC' := HC.out
      by_cases h0 : 0 < l.length
      · obtain ⟨b, off, rfl, hb, h1, h2, hc⟩ := HC' h0
        clear hc HC'
        unfold maxLen at h2
        go_wp2_with fail
        go_ret
        exact ⟨ret_bool HA.out.symm, rfl⟩
      · clear HC'
        go_wp2_with fail
        go_ret
        exact ⟨ret_bool HA.out.symm, rfl⟩
theorem law06_in_at (l : List Int) (p : Bool) (v : Value) (w : World) (h : SliceOf vI 1 w v l) (hp : allF l = p) :
    Calls Try.prog 16 #[v] w fun e w' => e = .returned (.bool p) ∧ w = w' := by
  subst hp; exact law06_in l v w h

theorem law06_add (x y : FP) (w : World) : Calls Try.prog 17 #[.int .i64 (va x), .int .i64 (va y)] w fun e w' => e = .returned (.int .i64 (va (x + y))) ∧ Below w.heap.size w w' := by
  go_enter Try.func17, Try.ntmps17
  go_wp2_with fail
  refine (fld_add_ok x y _).mono ?_
  rintro e w' ⟨rfl, hb⟩
  go_wp2_with fail
  go_ret
  exact ⟨rfl, hb⟩
theorem law06_mul (x y : FP) (w : World) : Calls Try.prog 18 #[.int .i64 (va x), .int .i64 (va y)] w fun e w' => e = .returned (.int .i64 (va (x * y))) ∧ Below w.heap.size w w' := by
  go_enter Try.func18, Try.ntmps18
  go_wp2_with fail
  refine (fld_mul_ok x y _).mono ?_
  rintro e w' ⟨rfl, hb⟩
  go_wp2_with fail
  go_ret
  exact ⟨rfl, hb⟩
theorem law06_add0 (x : FP) (w : World) : Calls Try.prog 17 #[.int .i64 (va x), .int .i64 0] w fun e w' => e = .returned (.int .i64 (va x)) ∧ Below w.heap.size w w' := by
  have h := law06_add x 0 w
  rw [va_zero, show x + 0 = x by grind] at h
  exact h
theorem law06_mul1 (x : FP) (w : World) : Calls Try.prog 18 #[.int .i64 (va x), .int .i64 1] w fun e w' => e = .returned (.int .i64 (va x)) ∧ Below w.heap.size w w' := by
  have h := law06_mul x 1 w
  rw [va_one, show x * 1 = x by grind] at h
  exact h
theorem beq_va {x y : FP} (h : x = y) : (va x == va y) = true := by rw [h]; simp

set_option maxHeartbeats 4000000 in
set_option maxRecDepth 100000 in
theorem fieldLaws_yes (x y z : FP) (w : World) :
    Calls Try.prog 3 #[.int .i64 (va x), .int .i64 (va y), .int .i64 (va z)] w fun e w' => e = .returned (.bool true) ∧ Below w.heap.size w w' := by
  have t1 : (va (x + y) == va (y + x)) = true := beq_va (by grind)
  have t2 : (va (x + y + z) == va (x + (y + z))) = true := beq_va (by grind)
  have t3 : (va (x * y) == va (y * x)) = true := beq_va (by grind)
  have t4 : (va (x * y * z) == va (x * (y * z))) = true := beq_va (by grind)
  have t5 : (va (x * (y + z)) == va (x * y + x * z)) = true := beq_va (by grind)
  go_enter Try.func3, Try.ntmps3
  go_wp2_with fail
  refine (law06_head _).mono ?_
  rintro e w1 ⟨rfl, hb⟩
  have B := hide hb
  clear hb
  go_wp2_with fail
  have hs : SliceOf vI 1 (w1.alloc (.cells #[.int .i64 (va x), .int .i64 (va y), .int .i64 (va z)] 3)) (.slice (some ⟨w1.heap.size, 0, none⟩) 3 3) ([x, y, z].map va) := slice_lit vI_len w1 ([x, y, z].map va) 3 (by simp [maxLen])
  refine (law06_in_at _ true _ _ hs (allF_va _)).mono ?_
  rintro e w' ⟨rfl, rfl⟩
  replace B := hide (bstep B.out (bAlloc (Below.refl _ w1) (.cells #[.int .i64 (va x), .int .i64 (va y), .int .i64 (va z)] 3)))
  obtain ⟨w2, hw2⟩ : ∃ w2, w1.alloc (.cells #[.int .i64 (va x), .int .i64 (va y), .int .i64 (va z)] 3) = w2 := ⟨_, rfl⟩
  rw [hw2] at B ⊢
  clear hs hw2
  go_wp2_with fail
  iterate 22
    try
      first
        | ((with_reducible refine (law06_add0 _ _).mono ?_); rintro e w3 ⟨rfl, hb⟩; replace B := hide (bstep B.out hb); clear hb; go_wp2_with fail)
        | ((with_reducible refine (law06_mul1 _ _).mono ?_); rintro e w3 ⟨rfl, hb⟩; replace B := hide (bstep B.out hb); clear hb; go_wp2_with fail)
        | ((with_reducible refine (law06_add _ _ _).mono ?_); rintro e w3 ⟨rfl, hb⟩; replace B := hide (bstep B.out hb); clear hb; go_wp2_with fail)
        | ((with_reducible refine (law06_mul _ _ _).mono ?_); rintro e w3 ⟨rfl, hb⟩; replace B := hide (bstep B.out hb); clear hb; go_wp2_with fail)
  have hs : SliceOf vI 1 (w3.alloc (.cells #[.int .i64 (va (x + y)), .int .i64 (va (x * y))] 3)) (.slice (some ⟨w3.heap.size, 0, none⟩) 2 2) ([x + y, x * y].map va) := slice_lit vI_len w3 ([x + y, x * y].map va) 3 (by simp [maxLen])
  refine (law06_in_at _ true _ _ hs (allF_va _)).mono ?_
  rintro e w' ⟨rfl, rfl⟩
  replace B := hide (bstep B.out (bAlloc (Below.refl _ w3) (.cells #[.int .i64 (va (x + y)), .int .i64 (va (x * y))] 3)))
  clear hs
  go_wp2_with fail
  go_ret
  exact ⟨rfl, B.out⟩
theorem fieldLaws_walk (a b c : Int) (w : World) :
    Calls Try.prog 3 #[.int .i64 a, .int .i64 b, .int .i64 c] w fun e w' => e = .returned (.bool true) ∧ Below w.heap.size w w' := by
  rcases Bool.eq_false_or_eq_true (allF [a, b, c]) with h | h
  · have h' : inF a = true ∧ inF b = true ∧ inF c = true := by simpa [allF] using h
    obtain ⟨x, rfl⟩ := inF_el h'.1
    obtain ⟨y, rfl⟩ := inF_el h'.2.1
    obtain ⟨z, rfl⟩ := inF_el h'.2.2
    exact fieldLaws_yes x y z w
  · have H := hide h
    clear h
    go_enter Try.func3, Try.ntmps3
    go_wp2_with fail
    refine (law06_head _).mono ?_
    rintro e w1 ⟨rfl, hb⟩
    have B := hide hb
    clear hb
    go_wp2_with fail
    have hs : SliceOf vI 1 (w1.alloc (.cells #[.int .i64 a, .int .i64 b, .int .i64 c] 3)) (.slice (some ⟨w1.heap.size, 0, none⟩) 3 3) [a, b, c] := slice_lit vI_len w1 [a, b, c] 3 (by simp [maxLen])
    refine (law06_in_at _ false _ _ hs H.out).mono ?_
    rintro e w' ⟨rfl, rfl⟩
    clear hs
    go_wp2_with fail
    go_ret
    exact ⟨rfl, bAlloc B.out _⟩
end Go.Proofs.Ytahlhiiekgnmpab
