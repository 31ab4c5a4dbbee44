/- natural: Add, Sub, Mul, Gcd, Compare, Of: their contracts by numbers. -/
import Derived.Test.YtbojlmnajndleaaGreatDoorNatU
set_option linter.unusedVariables false
set_option linter.unusedSimpArgs false
namespace Go.Proofs.YtbojlmnajndleaaGreatDoor
open Go.RowKit

/-- A call that hands on what both gave. -/
theorem LimF.post {w w' : World} {V : Nat} {e : Ending} (h : LimF w V e w') : LimPost w V e w' := by
  obtain ⟨v, he, hs, hb, _⟩ := h
  exact ⟨v, he, hs, hb⟩
set_option maxHeartbeats 1000000 in
set_option maxRecDepth 100000 in
theorem nat_add (x y : Nat) (w : World) (hx : x < capN) (hy : y < capN) (hw : LawW w) :
    Calls Tryz.prog 64 #[.string (natS x), .string (natS y)] w (TextPost w (x + y)) := by
  have h1 := lim_cap hx
  have h2 := lim_cap hy
  have HV : (lim (x + y)).length ≤ 100000 := by
    have := add_lt (lim_Lm x) (lim_Lm y) (n := 112) h1 h2
    rw [lval_lim, lval_lim] at this
    have := lim_len_le this
    omega
  have HC := hide (both_ok 84 x y (x + y) w hx hy HV hw (enters_of Tryz.func84 (by kernel_rfl) rfl) (fun u v w' hu hv => by
    have := add_any (lim x) (lim y) u v w' hu hv (by omega) (by omega) (lim_Lm x) (lim_Lm y)
    rw [lval_lim, lval_lim] at this
    exact this.mono fun _ _ h => h.post))
  obtain ⟨sx, hsx⟩ : ∃ s, natS x = s := ⟨_, rfl⟩
  obtain ⟨sy, hsy⟩ : ∃ s, natS y = s := ⟨_, rfl⟩
  rw [hsx, hsy] at HC ⊢
  obtain ⟨V, hVe⟩ : ∃ V, x + y = V := ⟨_, rfl⟩
  rw [hVe] at HC ⊢
  clear hx hy hw HV h1 h2 hsx hsy hVe
  go_enter Tryz.func64, Tryz.ntmps64
  go_wp2_with fail
  refine HC.out.mono ?_
  rintro e w1 ⟨hb, ⟨h6, rfl⟩ | ⟨h6, rfl⟩⟩
  · have HB := hide hb
    have H6 := hide h6
    clear hb h6
    go_wp2_with fail
    go_ret2
    exact ⟨HB.out, .inl ⟨H6.out, rfl⟩⟩
  · have HB := hide hb
    have H6 := hide h6
    clear hb h6
    go_wp2_with fail
    go_ret2
    exact ⟨HB.out, .inr ⟨H6.out, rfl⟩⟩
set_option maxHeartbeats 1000000 in
set_option maxRecDepth 100000 in
theorem nat_add_bad (a b : ByteArray) (w : World) (ha : a.size ≤ maxLen) (hb : b.size ≤ maxLen) (h : bad2 a b) :
    Calls Tryz.prog 64 #[.string a, .string b] w (ArgPost w) := by
  have H := hide h
  clear h
  go_enter Tryz.func64, Tryz.ntmps64
  go_wp2_with fail
  refine (both_bad _ a b _ ha hb H.out).mono ?_
  rintro e w1 ⟨rfl, hb⟩
  have HB := hide hb
  clear hb
  go_wp2_with fail
  go_ret2
  exact ⟨rfl, HB.out⟩
set_option maxHeartbeats 1000000 in
set_option maxRecDepth 100000 in
theorem nat_mul (x y : Nat) (w : World) (hx : x < capN) (hy : y < capN) (hw : LawW w) :
    Calls Tryz.prog 63 #[.string (natS x), .string (natS y)] w (TextPost w (x * y)) := by
  have h1 := lim_cap hx
  have h2 := lim_cap hy
  have HV : (lim (x * y)).length ≤ 100000 := by
    have := lim_prod_len x (lim_Lm y)
    rw [lval_lim] at this
    omega
  have HC := hide (both_ok 83 x y (x * y) w hx hy HV hw (enters_of Tryz.func83 (by kernel_rfl) rfl) (fun u v w' hu hv => mul_any x y u v w' hu hv (by omega) (by omega)))
  obtain ⟨sx, hsx⟩ : ∃ s, natS x = s := ⟨_, rfl⟩
  obtain ⟨sy, hsy⟩ : ∃ s, natS y = s := ⟨_, rfl⟩
  rw [hsx, hsy] at HC ⊢
  obtain ⟨V, hVe⟩ : ∃ V, x * y = V := ⟨_, rfl⟩
  rw [hVe] at HC ⊢
  clear hx hy hw HV h1 h2 hsx hsy hVe
  go_enter Tryz.func63, Tryz.ntmps63
  go_wp2_with fail
  refine HC.out.mono ?_
  rintro e w1 ⟨hb, ⟨h6, rfl⟩ | ⟨h6, rfl⟩⟩
  · have HB := hide hb
    have H6 := hide h6
    clear hb h6
    go_wp2_with fail
    go_ret2
    exact ⟨HB.out, .inl ⟨H6.out, rfl⟩⟩
  · have HB := hide hb
    have H6 := hide h6
    clear hb h6
    go_wp2_with fail
    go_ret2
    exact ⟨HB.out, .inr ⟨H6.out, rfl⟩⟩
set_option maxHeartbeats 1000000 in
set_option maxRecDepth 100000 in
theorem nat_mul_bad (a b : ByteArray) (w : World) (ha : a.size ≤ maxLen) (hb : b.size ≤ maxLen) (h : bad2 a b) :
    Calls Tryz.prog 63 #[.string a, .string b] w (ArgPost w) := by
  have H := hide h
  clear h
  go_enter Tryz.func63, Tryz.ntmps63
  go_wp2_with fail
  refine (both_bad _ a b _ ha hb H.out).mono ?_
  rintro e w1 ⟨rfl, hb⟩
  have HB := hide hb
  clear hb
  go_wp2_with fail
  go_ret2
  exact ⟨rfl, HB.out⟩
/-- What is returned without an error. -/
def OkPost (w : World) (n : Nat) (e : Ending) (w' : World) : Prop := e = .returned (.tuple #[.string (natS n), .int .i64 0]) ∧ Below w.heap.size w w'
theorem TextPost.ok {w w' : World} {n : Nat} {e : Ending} (h : TextPost w n e w') (hn : n < capN) : OkPost w n e w' := by
  obtain ⟨hb, ⟨_, he⟩ | ⟨h6, _⟩⟩ := h
  · exact ⟨he, hb⟩
  · exact absurd hn h6
theorem gcd_cap {x y : Nat} (hx : x < capN) (hy : y < capN) : Nat.gcd x y < capN := by
  by_cases h : 0 < x
  · exact Nat.lt_of_le_of_lt (Nat.gcd_le_left _ h) hx
  · obtain rfl : x = 0 := by omega
    rw [Nat.gcd_zero_left]; exact hy
set_option maxHeartbeats 1000000 in
set_option maxRecDepth 100000 in
theorem nat_gcd (x y : Nat) (w : World) (hx : x < capN) (hy : y < capN) (hw : LawW w) :
    Calls Tryz.prog 58 #[.string (natS x), .string (natS y)] w (OkPost w (Nat.gcd x y)) := by
  have h1 := lim_cap hx
  have h2 := lim_cap hy
  have hg := gcd_cap hx hy
  have HV : (lim (Nat.gcd x y)).length ≤ 100000 := by have := lim_cap hg; omega
  have HC := hide ((both_ok 79 x y (Nat.gcd x y) w hx hy HV hw (enters_of Tryz.func79 (by kernel_rfl) rfl) (fun u v w' hu hv => gcdf_any x y u v w' hu hv (by omega) (by omega))).mono fun _ _ h => h.ok hg)
  obtain ⟨sx, hsx⟩ : ∃ s, natS x = s := ⟨_, rfl⟩
  obtain ⟨sy, hsy⟩ : ∃ s, natS y = s := ⟨_, rfl⟩
  rw [hsx, hsy] at HC ⊢
  obtain ⟨V, hVe⟩ : ∃ V, Nat.gcd x y = V := ⟨_, rfl⟩
  rw [hVe] at HC ⊢
  clear hx hy hw HV h1 h2 hg hsx hsy hVe
  go_enter Tryz.func58, Tryz.ntmps58
  go_wp2_with fail
  refine HC.out.mono ?_
  rintro e w1 ⟨rfl, hb⟩
  have HB := hide hb
  clear hb
  go_wp2_with fail
  go_ret2
  exact ⟨rfl, HB.out⟩
set_option maxHeartbeats 1000000 in
set_option maxRecDepth 100000 in
theorem nat_gcd_bad (a b : ByteArray) (w : World) (ha : a.size ≤ maxLen) (hb : b.size ≤ maxLen) (h : bad2 a b) :
    Calls Tryz.prog 58 #[.string a, .string b] w (ArgPost w) := by
  have H := hide h
  clear h
  go_enter Tryz.func58, Tryz.ntmps58
  go_wp2_with fail
  refine (both_bad _ a b _ ha hb H.out).mono ?_
  rintro e w1 ⟨rfl, hb⟩
  have HB := hide hb
  clear hb
  go_wp2_with fail
  go_ret2
  exact ⟨rfl, HB.out⟩
set_option maxHeartbeats 1000000 in
set_option maxRecDepth 100000 in
theorem nat_compare (x y : Nat) (w : World) (hx : x < capN) (hy : y < capN) :
    Calls Tryz.prog 43 #[.string (natS x), .string (natS y)] w fun e w' => e = .returned (.int .i64 (cmpN x y)) ∧ Below w.heap.size w w' := by
  have HX := hide hx
  have HY := hide hy
  have HLX := hide (lim_cap hx)
  have HLY := hide (lim_cap hy)
  obtain ⟨sx, hsx⟩ : ∃ s, natS x = s := ⟨_, rfl⟩
  obtain ⟨sy, hsy⟩ : ∃ s, natS y = s := ⟨_, rfl⟩
  have HSX := hide hsx
  have HSY := hide hsy
  rw [hsx, hsy]
  clear hx hy hsx hsy
  go_enter Tryz.func43, Tryz.ntmps43
  go_wp2_with fail
  refine ((by rw [← HSX.out]; exact nat_valid x _ HX.out) : Calls _ _ #[.string sx] _ _).mono ?_
  rintro e w1 ⟨rfl, hb1⟩
  have HB1 := hide hb1
  clear hb1
  go_wp2_with fail
  refine ((by rw [← HSY.out]; exact nat_valid y _ HY.out) : Calls _ _ #[.string sy] _ _).mono ?_
  rintro e w2 ⟨rfl, hb2⟩
  have HB2 := hide (bStep HB1.out hb2)
  clear hb2 HB1
  go_wp2_with fail
  refine ((by rw [← HSX.out]; exact nat_read x _ HX.out) : Calls _ _ #[.string sx] _ _).mono ?_
  rintro e w3 ⟨v3, rfl, hs3, hb3⟩
  have HS3 := hide hs3
  have HB3 := hide (bStep HB2.out hb3)
  clear hs3 hb3 HB2
  go_wp2_with fail
  refine ((by rw [← HSY.out]; exact nat_read y _ HY.out) : Calls _ _ #[.string sy] _ _).mono ?_
  rintro e w4 ⟨v4, rfl, hs4, hb4⟩
  have HS4 := hide hs4
  have HS34 := hide (HS3.out.below hb4)
  have HB4 := hide (bStep HB3.out hb4)
  clear hs4 hb4 HB3
  go_wp2_with fail
  refine (compare_any x y _ _ _ HS34.out HS4.out (by have := HLX.out; omega) (by have := HLY.out; omega)).mono ?_
  rintro e w5 ⟨rfl, m, rfl⟩
  have HB5 := hide (below_drewN HB4.out m)
  go_wp2_with fail
  go_ret
  exact ⟨rfl, HB5.out⟩
set_option maxHeartbeats 1000000 in
set_option maxRecDepth 100000 in
theorem nat_compare_bad (a b : ByteArray) (w : World) (ha : a.size ≤ maxLen) (hb : b.size ≤ maxLen) (h : bad2 a b) :
    Calls Tryz.prog 43 #[.string a, .string b] w fun e w' => e = .returned (.int .i64 0) ∧ Below w.heap.size w w' := by
  rcases h with h | ⟨h, h'⟩
  · have H := hide h
    clear h
    go_enter Tryz.func43, Tryz.ntmps43
    go_wp2_with fail
    refine (bad_valid a _ ha H.out).mono ?_
    rintro e w1 ⟨rfl, hb1⟩
    have HB1 := hide hb1
    clear hb1
    go_wp2_with fail
    go_ret
    exact ⟨rfl, HB1.out⟩
  · have H := hide h
    have H' := hide h'
    clear h h'
    go_enter Tryz.func43, Tryz.ntmps43
    go_wp2_with fail
    refine ((valid_any a _ ha)).mono ?_
    rintro e w1 ⟨rfl, hb1⟩
    rw [H.out]
    have HB1 := hide hb1
    clear hb1
    go_wp2_with fail
    refine (bad_valid b _ hb H'.out).mono ?_
    rintro e w2 ⟨rfl, hb2⟩
    have HB2 := hide (bStep HB1.out hb2)
    clear hb2
    go_wp2_with fail
    go_ret
    exact ⟨rfl, HB2.out⟩
end Go.Proofs.YtbojlmnajndleaaGreatDoor
