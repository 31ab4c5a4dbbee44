/- NatU, NatV, NatX, NatH, NatJ, RfP in one text. -/
import Derived.Test.YtblpnekjnaaeoaaGreatDoorNatT
import Derived.Deep.LoopGhost
import Derived.Test.YtblpnekjnaaeoaaGreatDoorPkB
set_option linter.unusedVariables false
set_option linter.unusedSimpArgs false
namespace Go.Proofs.YtblpnekjnaaeoaaGreatDoor
open Go.RowKit

theorem capK_Bs {k j : Nat} (h : k ≤ 9 * j) : capK k ≤ Bs ^ j := by
  unfold capK
  rw [Bs_ten]
  exact Nat.pow_le_pow_right (by decide) h
theorem capN_Bs : capN ≤ Bs ^ 112 := capK_Bs (by decide)
theorem lim_cap {n : Nat} (h : n < capN) : (lim n).length ≤ 112 := lim_len_le (Nat.lt_of_lt_of_le h capN_Bs)
theorem nat_read (n : Nat) (w : World) (h : n < capN) : Calls Tryz.prog 84 #[.string (natS n)] w (LimPost w n) := by
  have h1 := capN_len.2 h
  have := read_any (natS n) w (by rw [natS_size]; omega) (fun b hb => dec_digit n b (by rw [← natS_toList]; exact hb))
  rw [natS_toList, nval_dec] at this
  exact this
theorem nat_valid (n : Nat) (w : World) (h : n < capN) : Calls Tryz.prog 75 #[.string (natS n)] w fun e w' => e = .returned (.bool true) ∧ Below w.heap.size w w' := by
  have h1 := capN_len.2 h
  have := valid_any (natS n) w (by rw [natS_size]; unfold maxLen; omega)
  rw [natS_vldN.2 h] at this
  exact this
theorem bad_valid (s : ByteArray) (w : World) (hs : s.size ≤ maxLen) (h : vldN s = false) : Calls Tryz.prog 75 #[.string s] w fun e w' => e = .returned (.bool false) ∧ Below w.heap.size w w' := by
  have := valid_any s w hs
  rw [h] at this
  exact this
def ArgPost (w : World) (e : Ending) (w' : World) : Prop := e = .returned (.tuple #[.string ⟨#[]⟩, .int .i64 1]) ∧ Below w.heap.size w w'
/-- One of two strings is no natural number. -/
def bad2 (a b : ByteArray) : Prop := vldN a = false ∨ (vldN a = true ∧ vldN b = false)
theorem good_or_bad (a b : ByteArray) : (∃ x y, x < capN ∧ y < capN ∧ a = natS x ∧ b = natS y) ∨ bad2 a b := by
  cases ha : vldN a with
  | false => exact .inr (.inl ha)
  | true =>
    cases hb : vldN b with
    | false => exact .inr (.inr ⟨ha, hb⟩)
    | true =>
      obtain ⟨x, hx, rfl⟩ := vldN_obtain ha
      obtain ⟨y, hy, rfl⟩ := vldN_obtain hb
      exact .inl ⟨x, y, hx, hy, rfl, rfl⟩
theorem bad2_or {a b : ByteArray} (h : vldN a = false ∨ vldN b = false) : bad2 a b := by
  cases ha : vldN a with
  | false => exact .inl ha
  | true =>
    rcases h with h | h
    · rw [ha] at h; cases h
    · exact .inr ⟨ha, h⟩

set_option maxHeartbeats 1000000 in
set_option maxRecDepth 100000 in
theorem both_ok (F : FuncId) (x y V : Nat) (w : World) (hx : x < capN) (hy : y < capN) (hV : (lim V).length ≤ 100000) (hw : LawW w)
    (hE : ∀ args w, (callFunc F args).run Tryz.prog w = .ok (.enter F args) w)
    (hF : ∀ u v w', SliceOf vN 1 w' u (lim x) → SliceOf vN 1 w' v (lim y) → Calls Tryz.prog F #[u, v] w' (LimPost w' V)) :
    Calls Tryz.prog 90 #[.string (natS x), .string (natS y), .func (.func F) #[] #[]] w (TextPost w V) := by
  have HW := hide hw
  have HF := hide hF
  have HX := hide hx
  have HY := hide hy
  obtain ⟨sx, hsx⟩ : ∃ s, natS x = s := ⟨_, rfl⟩
  obtain ⟨sy, hsy⟩ : ∃ s, natS y = s := ⟨_, rfl⟩
  have HSX := hide hsx
  have HSY := hide hsy
  rw [hsx, hsy]
  clear hw hF hx hy hsx hsy
  go_enter Tryz.func90, Tryz.ntmps90
  go_wp2_with fail
  refine ((by rw [← HSX.out]; exact nat_valid x _ HX.out) : Calls _ _ #[.string sx] _ _).mono ?_
  rintro e w1 ⟨rfl, hb1⟩
  have HB1 := hide hb1
  clear hb1
  go_wp2_with fail
  refine ((by rw [← HSY.out]; exact nat_valid y _ HY.out) : Calls _ _ #[.string sy] _ _).mono ?_
  rintro e w2 ⟨rfl, hb2⟩
  have HB2 := hide (bStep HB1.out hb2)
  clear hb2 HB1
  go_wp2_with fail
  refine ((by rw [← HSX.out]; exact nat_read x _ HX.out) : Calls _ _ #[.string sx] _ _).mono ?_
  rintro e w3 ⟨v3, rfl, hs3, hb3⟩
  have HS3 := hide hs3
  have HB3 := hide (bStep HB2.out hb3)
  clear hs3 hb3 HB2
  go_wp2_with fail
  refine ((by rw [← HSY.out]; exact nat_read y _ HY.out) : Calls _ _ #[.string sy] _ _).mono ?_
  rintro e w4 ⟨v4, rfl, hs4, hb4⟩
  have HS4 := hide hs4
  have HS34 := hide (HS3.out.below hb4)
  have HB4 := hide (bStep HB3.out hb4)
  clear hs4 hb4 HB3
  go_wp2_with fail
  refine (HF.out _ _ _ HS34.out HS4.out).mono ?_
  rintro e w5 ⟨v5, rfl, hs5, hb5⟩
  have HS5 := hide hs5
  have HB5 := hide (bStep HB4.out hb5)
  have HW5 := hide (HW.out.below HB5.out)
  clear hs5 hb5 HB4
  go_wp2_with fail
  refine (text_any V _ _ HS5.out hV HW5.out).mono ?_
  rintro e w6 ⟨hb6, h6⟩
  have HB6 := hide (bStep HB5.out hb6)
  rcases h6 with ⟨h6, rfl⟩ | ⟨h6, rfl⟩
  · have H6 := hide h6
    clear h6 hb6
    go_wp2_with fail
    go_ret2
    exact ⟨HB6.out, .inl ⟨H6.out, rfl⟩⟩
  · have H6 := hide h6
    clear h6 hb6
    go_wp2_with fail
    go_ret2
    exact ⟨HB6.out, .inr ⟨H6.out, rfl⟩⟩

set_option maxHeartbeats 1000000 in
set_option maxRecDepth 100000 in
theorem both_bad (f : Value) (a b : ByteArray) (w : World) (ha : a.size ≤ maxLen) (hb : b.size ≤ maxLen) (h : bad2 a b) :
    Calls Tryz.prog 90 #[.string a, .string b, f] w (ArgPost w) := by
  rcases h with h | ⟨h, h'⟩
  · have H := hide h
    clear h
    go_enter Tryz.func90, Tryz.ntmps90
    go_wp2_with fail
    refine (bad_valid a _ ha H.out).mono ?_
    rintro e w1 ⟨rfl, hb1⟩
    have HB1 := hide hb1
    clear hb1
    go_wp2_with fail
    go_ret2
    exact ⟨rfl, HB1.out⟩
  · have H := hide h
    have H' := hide h'
    clear h h'
    go_enter Tryz.func90, Tryz.ntmps90
    go_wp2_with fail
    refine ((valid_any a _ ha)).mono ?_
    rintro e w1 ⟨rfl, hb1⟩
    rw [H.out]
    have HB1 := hide hb1
    clear hb1
    go_wp2_with fail
    refine (bad_valid b _ hb H'.out).mono ?_
    rintro e w2 ⟨rfl, hb2⟩
    have HB2 := hide (bStep HB1.out hb2)
    clear hb2
    go_wp2_with fail
    go_ret2
    exact ⟨rfl, HB2.out⟩

set_option maxHeartbeats 1000000 in
set_option maxRecDepth 100000 in
theorem gcdf_any (a b : Nat) (u v : Value) (w : World) (hu : SliceOf vN 1 w u (lim a)) (hv : SliceOf vN 1 w v (lim b)) (ha : (lim a).length ≤ 50000) (hb : (lim b).length ≤ 50000) :
    Calls Tryz.prog 101 #[u, v] w (LimPost w (Nat.gcd a b)) := by
  have HU := hide hu
  have HV := hide hv
  obtain ⟨ao, cp, rfl⟩ := hu.shape
  obtain ⟨bo, cq, rfl⟩ := hv.shape
  clear hu hv
  have HA := hide ha
  have HB := hide hb
  obtain ⟨m, hm⟩ : ∃ m, (lim a).length = m := ⟨_, rfl⟩
  obtain ⟨n, hn⟩ : ∃ m, (lim b).length = m := ⟨_, rfl⟩
  have HM := hide hm
  have HN := hide hn
  rw [hm, hn]
  clear hm hn ha hb
  go_enter Tryz.func101, Tryz.ntmps101
  go_wp2_with fail
  go_loopg [0, 1] b (fun g x y wx => ∃ p q : Nat, g = q ∧ SliceOf vN 1 wx x (lim p) ∧ SliceOf vN 1 wx y (lim q) ∧ Nat.gcd p q = Nat.gcd a b ∧ (lim p).length ≤ 50000 ∧ (lim q).length ≤ 50000 ∧ Below w.heap.size w wx)
  case atStart => exact ⟨a, b, rfl, by rw [← HM.out]; exact HU.out, by rw [← HN.out]; exact HV.out, rfl, HA.out, HB.out, Below.refl _ _⟩
  case round =>
    obtain ⟨p, q, rfl, hx, hy, hg, hp, hq, hbl⟩ := hrel
    have HX := hide hx
    have HY := hide hy
    have HG := hide hg
    have HBL := hide hbl
    obtain ⟨xo, xc, rfl⟩ := hx.shape
    obtain ⟨yo, yc, rfl⟩ := hy.shape
    clear hx hy hg hbl HU HV
    by_cases h0 : gk = 0
    · subst h0
      have hl0 : (lim 0).length = 0 := by rw [lim_zero]; rfl
      rw [hl0]
      rw [Nat.gcd_zero_right] at HG
      clear hl0
      go_wp2_with fail
      go_ret
      exact ⟨_, rfl, by rw [← HG.out]; exact HX.out, HBL.out⟩
    · have hpos : 0 < (lim gk).length := by rw [lim_step h0]; simp
      have hposI : (0 : Int) < ((lim gk).length : Int) := by omega
      have HP := hide hp
      have HQ := hide hq
      go_wp2_with fail
      refine (div_any (lim p) gk _ _ _ HX.out HY.out (by omega) (by omega) (lim_Lm p) (by omega)).mono ?_
      rintro e w1 ⟨qv, rv, rfl, _, hr, hb1⟩
      rw [lval_lim] at hr
      have HR := hide hr
      have HY1 := hide (HY.out.below hb1)
      have HB1 := hide (bStep HBL.out hb1)
      clear hr hb1
      have HGG : Hid (Nat.gcd gk (p % gk) = Nat.gcd a b) := by
        show _ = _
        rw [← HG.out, Nat.gcd_comm p gk, Nat.gcd_rec gk p, Nat.gcd_comm]
      have HLT : Hid (p % gk < gk) := Nat.mod_lt _ (by omega)
      have HLL : Hid ((lim (p % gk)).length ≤ 50000) := Nat.le_trans (lim_len_mono (Nat.le_of_lt HLT.out)) HQ.out
      go_wp2_with fail
      go_roundg (p % gk)
      case measure => exact HLT.out
      case rel => exact ⟨gk, p % gk, rfl, HY1.out, HR.out, HGG.out, HQ.out, HLL.out, HB1.out⟩
end Go.Proofs.YtblpnekjnaaeoaaGreatDoor
namespace Go.Proofs.YtblpnekjnaaeoaaGreatDoor
open Go.RowKit

/-- A call that hands on what both gave. -/
theorem LimF.post {w w' : World} {V : Nat} {e : Ending} (h : LimF w V e w') : LimPost w V e w' := by
  obtain ⟨v, he, hs, hb, _⟩ := h
  exact ⟨v, he, hs, hb⟩
set_option maxHeartbeats 1000000 in
set_option maxRecDepth 100000 in
theorem nat_add (x y : Nat) (w : World) (hx : x < capN) (hy : y < capN) (hw : LawW w) :
    Calls Tryz.prog 89 #[.string (natS x), .string (natS y)] w (TextPost w (x + y)) := by
  have h1 := lim_cap hx
  have h2 := lim_cap hy
  have HV : (lim (x + y)).length ≤ 100000 := by
    have := add_lt (lim_Lm x) (lim_Lm y) (n := 112) h1 h2
    rw [lval_lim, lval_lim] at this
    have := lim_len_le this
    omega
  have HC := hide (both_ok 115 x y (x + y) w hx hy HV hw (enters_of Tryz.func115 (by kernel_rfl) rfl) (fun u v w' hu hv => by
    have := add_any (lim x) (lim y) u v w' hu hv (by omega) (by omega) (lim_Lm x) (lim_Lm y)
    rw [lval_lim, lval_lim] at this
    exact this.mono fun _ _ h => h.post))
  obtain ⟨sx, hsx⟩ : ∃ s, natS x = s := ⟨_, rfl⟩
  obtain ⟨sy, hsy⟩ : ∃ s, natS y = s := ⟨_, rfl⟩
  rw [hsx, hsy] at HC ⊢
  obtain ⟨V, hVe⟩ : ∃ V, x + y = V := ⟨_, rfl⟩
  rw [hVe] at HC ⊢
  clear hx hy hw HV h1 h2 hsx hsy hVe
  go_enter Tryz.func89, Tryz.ntmps89
  go_wp2_with fail
  refine HC.out.mono ?_
  rintro e w1 ⟨hb, ⟨h6, rfl⟩ | ⟨h6, rfl⟩⟩
  · have HB := hide hb
    have H6 := hide h6
    clear hb h6
    go_wp2_with fail
    go_ret2
    exact ⟨HB.out, .inl ⟨H6.out, rfl⟩⟩
  · have HB := hide hb
    have H6 := hide h6
    clear hb h6
    go_wp2_with fail
    go_ret2
    exact ⟨HB.out, .inr ⟨H6.out, rfl⟩⟩
set_option maxHeartbeats 1000000 in
set_option maxRecDepth 100000 in
theorem nat_add_bad (a b : ByteArray) (w : World) (ha : a.size ≤ maxLen) (hb : b.size ≤ maxLen) (h : bad2 a b) :
    Calls Tryz.prog 89 #[.string a, .string b] w (ArgPost w) := by
  have H := hide h
  clear h
  go_enter Tryz.func89, Tryz.ntmps89
  go_wp2_with fail
  refine (both_bad _ a b _ ha hb H.out).mono ?_
  rintro e w1 ⟨rfl, hb⟩
  have HB := hide hb
  clear hb
  go_wp2_with fail
  go_ret2
  exact ⟨rfl, HB.out⟩
set_option maxHeartbeats 1000000 in
set_option maxRecDepth 100000 in
theorem nat_mul (x y : Nat) (w : World) (hx : x < capN) (hy : y < capN) (hw : LawW w) :
    Calls Tryz.prog 88 #[.string (natS x), .string (natS y)] w (TextPost w (x * y)) := by
  have h1 := lim_cap hx
  have h2 := lim_cap hy
  have HV : (lim (x * y)).length ≤ 100000 := by
    have := lim_prod_len x (lim_Lm y)
    rw [lval_lim] at this
    omega
  have HC := hide (both_ok 114 x y (x * y) w hx hy HV hw (enters_of Tryz.func114 (by kernel_rfl) rfl) (fun u v w' hu hv => mul_any x y u v w' hu hv (by omega) (by omega)))
  obtain ⟨sx, hsx⟩ : ∃ s, natS x = s := ⟨_, rfl⟩
  obtain ⟨sy, hsy⟩ : ∃ s, natS y = s := ⟨_, rfl⟩
  rw [hsx, hsy] at HC ⊢
  obtain ⟨V, hVe⟩ : ∃ V, x * y = V := ⟨_, rfl⟩
  rw [hVe] at HC ⊢
  clear hx hy hw HV h1 h2 hsx hsy hVe
  go_enter Tryz.func88, Tryz.ntmps88
  go_wp2_with fail
  refine HC.out.mono ?_
  rintro e w1 ⟨hb, ⟨h6, rfl⟩ | ⟨h6, rfl⟩⟩
  · have HB := hide hb
    have H6 := hide h6
    clear hb h6
    go_wp2_with fail
    go_ret2
    exact ⟨HB.out, .inl ⟨H6.out, rfl⟩⟩
  · have HB := hide hb
    have H6 := hide h6
    clear hb h6
    go_wp2_with fail
    go_ret2
    exact ⟨HB.out, .inr ⟨H6.out, rfl⟩⟩
set_option maxHeartbeats 1000000 in
set_option maxRecDepth 100000 in
theorem nat_mul_bad (a b : ByteArray) (w : World) (ha : a.size ≤ maxLen) (hb : b.size ≤ maxLen) (h : bad2 a b) :
    Calls Tryz.prog 88 #[.string a, .string b] w (ArgPost w) := by
  have H := hide h
  clear h
  go_enter Tryz.func88, Tryz.ntmps88
  go_wp2_with fail
  refine (both_bad _ a b _ ha hb H.out).mono ?_
  rintro e w1 ⟨rfl, hb⟩
  have HB := hide hb
  clear hb
  go_wp2_with fail
  go_ret2
  exact ⟨rfl, HB.out⟩
/-- What is returned without an error. -/
def OkPost (w : World) (n : Nat) (e : Ending) (w' : World) : Prop := e = .returned (.tuple #[.string (natS n), .int .i64 0]) ∧ Below w.heap.size w w'
theorem TextPost.ok {w w' : World} {n : Nat} {e : Ending} (h : TextPost w n e w') (hn : n < capN) : OkPost w n e w' := by
  obtain ⟨hb, ⟨_, he⟩ | ⟨h6, _⟩⟩ := h
  · exact ⟨he, hb⟩
  · exact absurd hn h6
theorem gcd_cap {x y : Nat} (hx : x < capN) (hy : y < capN) : Nat.gcd x y < capN := by
  by_cases h : 0 < x
  · exact Nat.lt_of_le_of_lt (Nat.gcd_le_left _ h) hx
  · obtain rfl : x = 0 := by omega
    rw [Nat.gcd_zero_left]; exact hy
set_option maxHeartbeats 1000000 in
set_option maxRecDepth 100000 in
theorem nat_gcd (x y : Nat) (w : World) (hx : x < capN) (hy : y < capN) (hw : LawW w) :
    Calls Tryz.prog 76 #[.string (natS x), .string (natS y)] w (OkPost w (Nat.gcd x y)) := by
  have h1 := lim_cap hx
  have h2 := lim_cap hy
  have hg := gcd_cap hx hy
  have HV : (lim (Nat.gcd x y)).length ≤ 100000 := by have := lim_cap hg; omega
  have HC := hide ((both_ok 101 x y (Nat.gcd x y) w hx hy HV hw (enters_of Tryz.func101 (by kernel_rfl) rfl) (fun u v w' hu hv => gcdf_any x y u v w' hu hv (by omega) (by omega))).mono fun _ _ h => h.ok hg)
  obtain ⟨sx, hsx⟩ : ∃ s, natS x = s := ⟨_, rfl⟩
  obtain ⟨sy, hsy⟩ : ∃ s, natS y = s := ⟨_, rfl⟩
  rw [hsx, hsy] at HC ⊢
  obtain ⟨V, hVe⟩ : ∃ V, Nat.gcd x y = V := ⟨_, rfl⟩
  rw [hVe] at HC ⊢
  clear hx hy hw HV h1 h2 hg hsx hsy hVe
  go_enter Tryz.func76, Tryz.ntmps76
  go_wp2_with fail
  refine HC.out.mono ?_
  rintro e w1 ⟨rfl, hb⟩
  have HB := hide hb
  clear hb
  go_wp2_with fail
  go_ret2
  exact ⟨rfl, HB.out⟩
set_option maxHeartbeats 1000000 in
set_option maxRecDepth 100000 in
theorem nat_gcd_bad (a b : ByteArray) (w : World) (ha : a.size ≤ maxLen) (hb : b.size ≤ maxLen) (h : bad2 a b) :
    Calls Tryz.prog 76 #[.string a, .string b] w (ArgPost w) := by
  have H := hide h
  clear h
  go_enter Tryz.func76, Tryz.ntmps76
  go_wp2_with fail
  refine (both_bad _ a b _ ha hb H.out).mono ?_
  rintro e w1 ⟨rfl, hb⟩
  have HB := hide hb
  clear hb
  go_wp2_with fail
  go_ret2
  exact ⟨rfl, HB.out⟩
set_option maxHeartbeats 1000000 in
set_option maxRecDepth 100000 in
theorem nat_compare (x y : Nat) (w : World) (hx : x < capN) (hy : y < capN) :
    Calls Tryz.prog 58 #[.string (natS x), .string (natS y)] w fun e w' => e = .returned (.int .i64 (cmpN x y)) ∧ Below w.heap.size w w' := by
  have HX := hide hx
  have HY := hide hy
  have HLX := hide (lim_cap hx)
  have HLY := hide (lim_cap hy)
  obtain ⟨sx, hsx⟩ : ∃ s, natS x = s := ⟨_, rfl⟩
  obtain ⟨sy, hsy⟩ : ∃ s, natS y = s := ⟨_, rfl⟩
  have HSX := hide hsx
  have HSY := hide hsy
  rw [hsx, hsy]
  clear hx hy hsx hsy
  go_enter Tryz.func58, Tryz.ntmps58
  go_wp2_with fail
  refine ((by rw [← HSX.out]; exact nat_valid x _ HX.out) : Calls _ _ #[.string sx] _ _).mono ?_
  rintro e w1 ⟨rfl, hb1⟩
  have HB1 := hide hb1
  clear hb1
  go_wp2_with fail
  refine ((by rw [← HSY.out]; exact nat_valid y _ HY.out) : Calls _ _ #[.string sy] _ _).mono ?_
  rintro e w2 ⟨rfl, hb2⟩
  have HB2 := hide (bStep HB1.out hb2)
  clear hb2 HB1
  go_wp2_with fail
  refine ((by rw [← HSX.out]; exact nat_read x _ HX.out) : Calls _ _ #[.string sx] _ _).mono ?_
  rintro e w3 ⟨v3, rfl, hs3, hb3⟩
  have HS3 := hide hs3
  have HB3 := hide (bStep HB2.out hb3)
  clear hs3 hb3 HB2
  go_wp2_with fail
  refine ((by rw [← HSY.out]; exact nat_read y _ HY.out) : Calls _ _ #[.string sy] _ _).mono ?_
  rintro e w4 ⟨v4, rfl, hs4, hb4⟩
  have HS4 := hide hs4
  have HS34 := hide (HS3.out.below hb4)
  have HB4 := hide (bStep HB3.out hb4)
  clear hs4 hb4 HB3
  go_wp2_with fail
  refine (compare_any x y _ _ _ HS34.out HS4.out (by have := HLX.out; omega) (by have := HLY.out; omega)).mono ?_
  rintro e w5 ⟨rfl, m, rfl⟩
  have HB5 := hide (below_drewN HB4.out m)
  go_wp2_with fail
  go_ret
  exact ⟨rfl, HB5.out⟩
set_option maxHeartbeats 1000000 in
set_option maxRecDepth 100000 in
theorem nat_compare_bad (a b : ByteArray) (w : World) (ha : a.size ≤ maxLen) (hb : b.size ≤ maxLen) (h : bad2 a b) :
    Calls Tryz.prog 58 #[.string a, .string b] w fun e w' => e = .returned (.int .i64 0) ∧ Below w.heap.size w w' := by
  rcases h with h | ⟨h, h'⟩
  · have H := hide h
    clear h
    go_enter Tryz.func58, Tryz.ntmps58
    go_wp2_with fail
    refine (bad_valid a _ ha H.out).mono ?_
    rintro e w1 ⟨rfl, hb1⟩
    have HB1 := hide hb1
    clear hb1
    go_wp2_with fail
    go_ret
    exact ⟨rfl, HB1.out⟩
  · have H := hide h
    have H' := hide h'
    clear h h'
    go_enter Tryz.func58, Tryz.ntmps58
    go_wp2_with fail
    refine ((valid_any a _ ha)).mono ?_
    rintro e w1 ⟨rfl, hb1⟩
    rw [H.out]
    have HB1 := hide hb1
    clear hb1
    go_wp2_with fail
    refine (bad_valid b _ hb H'.out).mono ?_
    rintro e w2 ⟨rfl, hb2⟩
    have HB2 := hide (bStep HB1.out hb2)
    clear hb2
    go_wp2_with fail
    go_ret
    exact ⟨rfl, HB2.out⟩
end Go.Proofs.YtblpnekjnaaeoaaGreatDoor
namespace Go.Proofs.YtblpnekjnaaeoaaGreatDoor
open Go.RowKit

set_option maxHeartbeats 1000000 in
set_option maxRecDepth 100000 in
theorem nat_sub (x y : Nat) (w : World) (hx : x < capN) (hy : y < capN) (hle : y ≤ x) (hw : LawW w) :
    Calls Tryz.prog 65 #[.string (natS x), .string (natS y)] w (OkPost w (x - y)) := by
  have h1 := lim_cap hx
  have h2 := lim_cap hy
  have hlt : x - y < capN := by omega
  have HV : (lim (x - y)).length ≤ 100000 := by have := lim_cap hlt; omega
  have HC : ∀ W, LawW W → Calls Tryz.prog 90 #[.string (natS x), .string (natS y), .func (.func 91) #[] #[]] W (OkPost W (x - y)) := fun W hW =>
    (both_ok 91 x y (x - y) W hx hy HV hW (enters_of Tryz.func91 (by kernel_rfl) rfl) (fun u v w' hu hv => by
      have := sub_any (lim x) (lim y) u v w' hu hv (by omega) (lim_len_mono hle) (lim_Lm x) (lim_Lm y) (by rw [lval_lim, lval_lim]; exact hle)
      rw [lval_lim, lval_lim] at this
      exact this.mono fun _ _ h => h.post)).mono fun _ _ h => h.ok hlt
  have HHC := hide HC
  have HW := hide hw
  have HVX : Hid (∀ W, Calls Tryz.prog 75 #[.string (natS x)] W fun e w' => e = .returned (.bool true) ∧ Below W.heap.size W w') := fun W => nat_valid x W hx
  have HVY : Hid (∀ W, Calls Tryz.prog 75 #[.string (natS y)] W fun e w' => e = .returned (.bool true) ∧ Below W.heap.size W w') := fun W => nat_valid y W hy
  have HCM : Hid (∀ W, Calls Tryz.prog 58 #[.string (natS x), .string (natS y)] W fun e w' => e = .returned (.int .i64 (cmpN x y)) ∧ Below W.heap.size W w') := fun W => nat_compare x y W hx hy
  have hcm : ¬ cmpN x y < 0 := fun h => by have := cmpN_neg.1 h; omega
  obtain ⟨c, hc⟩ : ∃ c, cmpN x y = c := ⟨_, rfl⟩
  rw [hc] at HCM hcm
  obtain ⟨sx, hsx⟩ : ∃ s, natS x = s := ⟨_, rfl⟩
  obtain ⟨sy, hsy⟩ : ∃ s, natS y = s := ⟨_, rfl⟩
  rw [hsx] at HVX
  rw [hsy] at HVY
  rw [hsx, hsy] at HHC HCM ⊢
  obtain ⟨V, hVe⟩ : ∃ V, x - y = V := ⟨_, rfl⟩
  rw [hVe] at HHC ⊢
  have hc0 : 0 ≤ c := by omega
  clear hx hy hw HV h1 h2 hsx hsy hVe HC hle hlt hc
  go_enter Tryz.func65, Tryz.ntmps65
  go_wp2_with fail
  refine (HVX.out _).mono ?_
  rintro e w1 ⟨rfl, hb1⟩
  have HB1 := hide hb1
  clear hb1
  go_wp2_with fail
  refine (HVY.out _).mono ?_
  rintro e w2 ⟨rfl, hb2⟩
  have HB2 := hide (bStep HB1.out hb2)
  clear hb2 HB1
  go_wp2_with fail
  refine (HCM.out _).mono ?_
  rintro e w3 ⟨rfl, hb3⟩
  have HB3 := hide (bStep HB2.out hb3)
  have HW3 := hide (HW.out.below HB3.out)
  clear hb3 HB2
  go_wp2_with fail
  refine (HHC.out _ HW3.out).mono ?_
  rintro e w4 ⟨rfl, hb4⟩
  have HB4 := hide (bStep HB3.out hb4)
  clear hb4 HB3
  go_wp2_with fail
  go_ret2
  exact ⟨rfl, HB4.out⟩
def RangePost (w : World) (e : Ending) (w' : World) : Prop := e = .returned (.tuple #[.string ⟨#[]⟩, .int .i64 9]) ∧ Below w.heap.size w w'
set_option maxHeartbeats 1000000 in
set_option maxRecDepth 100000 in
theorem nat_sub_less (x y : Nat) (w : World) (hx : x < capN) (hy : y < capN) (hlt : x < y) :
    Calls Tryz.prog 65 #[.string (natS x), .string (natS y)] w (RangePost w) := by
  have HVX : Hid (∀ W, Calls Tryz.prog 75 #[.string (natS x)] W fun e w' => e = .returned (.bool true) ∧ Below W.heap.size W w') := fun W => nat_valid x W hx
  have HVY : Hid (∀ W, Calls Tryz.prog 75 #[.string (natS y)] W fun e w' => e = .returned (.bool true) ∧ Below W.heap.size W w') := fun W => nat_valid y W hy
  have HCM : Hid (∀ W, Calls Tryz.prog 58 #[.string (natS x), .string (natS y)] W fun e w' => e = .returned (.int .i64 (-1)) ∧ Below W.heap.size W w') := fun W => by
    have := nat_compare x y W hx hy
    rw [cmpN_lt hlt] at this
    exact this
  obtain ⟨sx, hsx⟩ : ∃ s, natS x = s := ⟨_, rfl⟩
  obtain ⟨sy, hsy⟩ : ∃ s, natS y = s := ⟨_, rfl⟩
  rw [hsx] at HVX
  rw [hsy] at HVY
  rw [hsx, hsy] at HCM ⊢
  clear hx hy hsx hsy hlt
  go_enter Tryz.func65, Tryz.ntmps65
  go_wp2_with fail
  refine (HVX.out _).mono ?_
  rintro e w1 ⟨rfl, hb1⟩
  have HB1 := hide hb1
  clear hb1
  go_wp2_with fail
  refine (HVY.out _).mono ?_
  rintro e w2 ⟨rfl, hb2⟩
  have HB2 := hide (bStep HB1.out hb2)
  clear hb2 HB1
  go_wp2_with fail
  refine (HCM.out _).mono ?_
  rintro e w3 ⟨rfl, hb3⟩
  have HB3 := hide (bStep HB2.out hb3)
  clear hb3 HB2
  go_wp2_with fail
  go_ret2
  exact ⟨rfl, HB3.out⟩
set_option maxHeartbeats 1000000 in
set_option maxRecDepth 100000 in
theorem nat_sub_bad (a b : ByteArray) (w : World) (ha : a.size ≤ maxLen) (hb : b.size ≤ maxLen) (h : bad2 a b) :
    Calls Tryz.prog 65 #[.string a, .string b] w (ArgPost w) := by
  have HBD := hide h
  rcases h with h | ⟨h, h'⟩
  · have H := hide h
    clear h
    go_enter Tryz.func65, Tryz.ntmps65
    go_wp2_with fail
    refine (bad_valid a _ ha H.out).mono ?_
    rintro e w1 ⟨rfl, hb1⟩
    have HB1 := hide hb1
    clear hb1
    go_wp2_with fail
    refine (both_bad _ a b _ ha hb HBD.out).mono ?_
    rintro e w2 ⟨rfl, hb2⟩
    have HB2 := hide (bStep HB1.out hb2)
    clear hb2
    go_wp2_with fail
    go_ret2
    exact ⟨rfl, HB2.out⟩
  · have H := hide h
    have H' := hide h'
    clear h h'
    go_enter Tryz.func65, Tryz.ntmps65
    go_wp2_with fail
    refine ((valid_any a _ ha)).mono ?_
    rintro e w1 ⟨rfl, hb1⟩
    rw [H.out]
    have HB1 := hide hb1
    clear hb1
    go_wp2_with fail
    refine (bad_valid b _ hb H'.out).mono ?_
    rintro e w2 ⟨rfl, hb2⟩
    have HB2 := hide (bStep HB1.out hb2)
    clear hb2
    go_wp2_with fail
    refine (both_bad _ a b _ ha hb HBD.out).mono ?_
    rintro e w3 ⟨rfl, hb3⟩
    have HB3 := hide (bStep HB2.out hb3)
    clear hb3
    go_wp2_with fail
    go_ret2
    exact ⟨rfl, HB3.out⟩

theorem natS_zero : natS 0 = ⟨#[48]⟩ := by unfold natS; rw [dec_small (by omega)]; rfl
theorem natS_ne_zero {y : Nat} (h : 0 < y) : natS y ≠ ⟨#[48]⟩ := fun e => by
  rw [← natS_zero] at e
  have := natS_inj e
  omega
theorem str_ne {s t : ByteArray} {l : List UInt8} (h : s ≠ t) (ht : t.data.toList = l) : (s.toList == l) = false := by
  rw [beq_eq_false_iff_ne, ByteArray.toList_eq]
  intro e
  exact h (ba_eq (e.trans ht.symm))
theorem str_eq {s : ByteArray} {l : List UInt8} (h : s.data.toList = l) : (s.toList == l) = true := by rw [ByteArray.toList_eq, h]; simp
/-- Results of a division. -/
def DivsPost (w : World) (q r : Nat) (e : Ending) (w' : World) : Prop := e = .returned (.tuple #[.string (natS q), .string (natS r), .int .i64 0]) ∧ Below w.heap.size w w'
set_option maxHeartbeats 2000000 in
set_option maxRecDepth 100000 in
theorem nat_div (x y : Nat) (w : World) (hx : x < capN) (hy : y < capN) (hy0 : 0 < y) (hw : LawW w) :
    Calls Tryz.prog 57 #[.string (natS x), .string (natS y)] w (DivsPost w (x / y) (x % y)) := by
  have h1 := lim_cap hx
  have h2 := lim_cap hy
  have hq : x / y < capN := Nat.lt_of_le_of_lt (Nat.div_le_self x y) hx
  have hr : x % y < capN := Nat.lt_trans (Nat.mod_lt _ hy0) hy
  have HW := hide hw
  have HVX : Hid (∀ W, Calls Tryz.prog 75 #[.string (natS x)] W fun e w' => e = .returned (.bool true) ∧ Below W.heap.size W w') := fun W => nat_valid x W hx
  have HVY : Hid (∀ W, Calls Tryz.prog 75 #[.string (natS y)] W fun e w' => e = .returned (.bool true) ∧ Below W.heap.size W w') := fun W => nat_valid y W hy
  have HRX : Hid (∀ W, Calls Tryz.prog 84 #[.string (natS x)] W (LimPost W x)) := fun W => nat_read x W hx
  have HRY : Hid (∀ W, Calls Tryz.prog 84 #[.string (natS y)] W (LimPost W y)) := fun W => nat_read y W hy
  have HDV : Hid (∀ W u v, SliceOf vN 1 W u (lim x) → SliceOf vN 1 W v (lim y) → Calls Tryz.prog 85 #[u, v] W (DivPost W x y)) := fun W u v hu hv => by
    have := div_any (lim x) y u v W hu hv (by omega) (by omega) (lim_Lm x) hy0
    rw [lval_lim] at this
    exact this
  have HT : ∀ n, n < capN → Hid (∀ W v, SliceOf vN 1 W v (lim n) → LawW W → Calls Tryz.prog 86 #[v] W (OkPost W n)) := fun n hn W v hv hw =>
    (text_any n v W hv (by have := lim_cap hn; omega) hw).mono fun _ _ h => h.ok hn
  have HTQ := HT _ hq
  have HTR := HT _ hr
  have hne := natS_ne_zero hy0
  obtain ⟨sx, hsx⟩ : ∃ s, natS x = s := ⟨_, rfl⟩
  obtain ⟨sy, hsy⟩ : ∃ s, natS y = s := ⟨_, rfl⟩
  rw [hsx] at HVX HRX ⊢
  rw [hsy] at HVY HRY hne ⊢
  have hne1 : (sy.toList == [48]) = false := str_ne hne (by rfl)
  clear hx hy hw h1 h2 hsx hsy hy0 hq hr HT
  go_enter Tryz.func57, Tryz.ntmps57
  go_wp2_with fail
  refine (HVX.out _).mono ?_
  rintro e w1 ⟨rfl, hb1⟩
  have HB1 := hide hb1
  clear hb1
  go_wp2_with fail
  refine (HVY.out _).mono ?_
  rintro e w2 ⟨rfl, hb2⟩
  have HB2 := hide (bStep HB1.out hb2)
  clear hb2 HB1
  go_wp2_with fail
  refine (HRX.out _).mono ?_
  rintro e w3 ⟨v3, rfl, hs3, hb3⟩
  have HS3 := hide hs3
  have HB3 := hide (bStep HB2.out hb3)
  clear hs3 hb3 HB2
  go_wp2_with fail
  refine (HRY.out _).mono ?_
  rintro e w4 ⟨v4, rfl, hs4, hb4⟩
  have HS4 := hide hs4
  have HS34 := hide (HS3.out.below hb4)
  have HB4 := hide (bStep HB3.out hb4)
  clear hs4 hb4 HB3
  go_wp2_with fail
  refine (HDV.out _ _ _ HS34.out HS4.out).mono ?_
  rintro e w5 ⟨qv, rv, rfl, hs5, ht5, hb5⟩
  have HS5 := hide hs5
  have HT5 := hide ht5
  have HB5 := hide (bStep HB4.out hb5)
  have HW5 := hide (HW.out.below HB5.out)
  clear hs5 ht5 hb5 HB4
  go_wp2_with fail
  refine (HTQ.out _ _ HS5.out HW5.out).mono ?_
  rintro e w6 ⟨rfl, hb6⟩
  have HT6 := hide (HT5.out.below hb6)
  have HW6 := hide (HW5.out.below hb6)
  have HB6 := hide (bStep HB5.out hb6)
  clear hb6
  go_wp2_with fail
  refine (HTR.out _ _ HT6.out HW6.out).mono ?_
  rintro e w7 ⟨rfl, hb7⟩
  have HB7 := hide (bStep HB6.out hb7)
  clear hb7
  go_wp2_with fail
  go_ret3
  exact ⟨rfl, HB7.out⟩
def Err3Post (w : World) (k : Int) (e : Ending) (w' : World) : Prop := e = .returned (.tuple #[.string ⟨#[]⟩, .string ⟨#[]⟩, .int .i64 k]) ∧ Below w.heap.size w w'
set_option maxHeartbeats 2000000 in
set_option maxRecDepth 100000 in
theorem nat_div_zero (x : Nat) (w : World) (hx : x < capN) :
    Calls Tryz.prog 57 #[.string (natS x), .string ⟨#[48]⟩] w (Err3Post w 14) := by
  have HVX : Hid (∀ W, Calls Tryz.prog 75 #[.string (natS x)] W fun e w' => e = .returned (.bool true) ∧ Below W.heap.size W w') := fun W => nat_valid x W hx
  have HVY : Hid (∀ W, Calls Tryz.prog 75 #[.string ⟨#[48]⟩] W fun e w' => e = .returned (.bool true) ∧ Below W.heap.size W w') := fun W => by
    have := nat_valid 0 W capN_pos
    rw [natS_zero] at this
    exact this
  obtain ⟨sx, hsx⟩ : ∃ s, natS x = s := ⟨_, rfl⟩
  rw [hsx] at HVX ⊢
  clear hx hsx
  go_enter Tryz.func57, Tryz.ntmps57
  go_wp2_with fail
  refine (HVX.out _).mono ?_
  rintro e w1 ⟨rfl, hb1⟩
  have HB1 := hide hb1
  clear hb1
  go_wp2_with fail
  refine (HVY.out _).mono ?_
  rintro e w2 ⟨rfl, hb2⟩
  have HB2 := hide (bStep HB1.out hb2)
  clear hb2 HB1
  go_wp2_with fail
  go_ret3
  exact ⟨rfl, HB2.out⟩
set_option maxHeartbeats 2000000 in
set_option maxRecDepth 100000 in
theorem nat_div_bad (a b : ByteArray) (w : World) (ha : a.size ≤ maxLen) (hb : b.size ≤ maxLen) (h : bad2 a b) :
    Calls Tryz.prog 57 #[.string a, .string b] w (Err3Post w 1) := by
  rcases h with h | ⟨h, h'⟩
  · have H := hide h
    clear h
    go_enter Tryz.func57, Tryz.ntmps57
    go_wp2_with fail
    refine (bad_valid a _ ha H.out).mono ?_
    rintro e w1 ⟨rfl, hb1⟩
    have HB1 := hide hb1
    clear hb1
    go_wp2_with fail
    go_ret3
    exact ⟨rfl, HB1.out⟩
  · have H := hide h
    have H' := hide h'
    clear h h'
    go_enter Tryz.func57, Tryz.ntmps57
    go_wp2_with fail
    refine ((valid_any a _ ha)).mono ?_
    rintro e w1 ⟨rfl, hb1⟩
    rw [H.out]
    have HB1 := hide hb1
    clear hb1
    go_wp2_with fail
    refine (bad_valid b _ hb H'.out).mono ?_
    rintro e w2 ⟨rfl, hb2⟩
    have HB2 := hide (bStep HB1.out hb2)
    clear hb2
    go_wp2_with fail
    go_ret3
    exact ⟨rfl, HB2.out⟩

/-! ### Int -/
theorem foldl_low : ∀ (l : List UInt8) (acc : Nat), acc ≤ l.foldl (fun a b => a * 10 + dvN b) acc
  | [], acc => Nat.le_refl _
  | b :: l, acc => Nat.le_trans (by omega) (foldl_low l (acc * 10 + dvN b))
theorem parse_digits : ∀ (l : List UInt8) (acc : Nat), (∀ b ∈ l, isDg b = true) → acc < 18446744073709551616 →
    (l.foldl (fun a b => a * 10 + dvN b) acc < 18446744073709551616 → Lib.parseUint10 acc l = .ok (l.foldl (fun a b => a * 10 + dvN b) acc)) ∧
    (¬ l.foldl (fun a b => a * 10 + dvN b) acc < 18446744073709551616 → Lib.parseUint10 acc l = .range)
  | [], acc, _, ha => ⟨fun _ => rfl, fun h => absurd ha h⟩
  | b :: l, acc, h, ha => by
    have hb := isDg_iff.1 (h b (by simp))
    have hl := fun c hc => h c (List.mem_cons_of_mem b hc)
    have hlow := foldl_low l (acc * 10 + dvN b)
    have e : (b :: l).foldl (fun a b => a * 10 + dvN b) acc = l.foldl (fun a b => a * 10 + dvN b) (acc * 10 + dvN b) := rfl
    rw [e]
    show (_ → (if 48 ≤ b.toNat ∧ b.toNat ≤ 57 then _ else _) = _) ∧ (_ → (if 48 ≤ b.toNat ∧ b.toNat ≤ 57 then _ else _) = _)
    rw [if_pos hb]
    by_cases h1 : 1844674407370955162 ≤ acc
    · rw [if_pos h1]
      exact ⟨fun hx => by omega, fun _ => rfl⟩
    · rw [if_neg h1]
      by_cases h2 : 18446744073709551616 ≤ acc * 10 + (b.toNat - 48)
      · rw [if_pos h2]
        refine ⟨fun hx => ?_, fun _ => rfl⟩
        exfalso
        have : acc * 10 + dvN b = acc * 10 + (b.toNat - 48) := rfl
        omega
      · rw [if_neg h2]
        exact parse_digits l _ hl (by have : acc * 10 + dvN b = acc * 10 + (b.toNat - 48) := rfl; omega)
theorem atoiAll_dec (n : Nat) : Lib.atoiAll (Lib.decDigits n) = if n < 9223372036854775808 then .ok (n : Int) else .range := by
  have hd := dec_digit n
  have hv := nval_dec n
  cases hl : Lib.decDigits n with
  | nil => exact absurd hl (dec_ne_nil n)
  | cons c r =>
    rw [hl] at hd hv
    have hc := isDg_iff.1 (hd c (by simp))
    have hp := parse_digits (c :: r) 0 hd (by omega)
    have hf : (c :: r).foldl (fun a b => a * 10 + dvN b) 0 = n := hv
    rw [hf] at hp
    have e1 : ¬ (c.toNat = 43 ∨ c.toNat = 45) := by omega
    have e2 : ¬ c.toNat = 45 := by omega
    unfold Lib.atoiAll
    simp only [if_neg e1]
    unfold Lib.parseMag
    rw [if_neg (by simp)]
    by_cases h64 : n < 18446744073709551616
    · rw [hp.1 h64]
      simp only [e2, not_false_eq_true, true_and, false_and, if_false]
      by_cases h63 : n < 9223372036854775808
      · rw [if_neg (by omega), if_pos h63]
      · rw [if_pos (by omega), if_neg h63]
    · rw [hp.2 h64, if_neg (by omega)]
end Go.Proofs.YtblpnekjnaaeoaaGreatDoor
namespace Go.Proofs.YtblpnekjnaaeoaaGreatDoor
open Go.RowKit

theorem lit_nat {b : ByteArray} {n : Nat} (h : vldN b = true) (hn : nval b.data.toList = n) : natS n = b := by
  rw [← hn]; exact vldN_natS h
theorem lit_cap {b : ByteArray} {n : Nat} (h : vldN b = true) (hn : nval b.data.toList = n) : n < capN := natS_vldN.1 (by rw [lit_nat h hn]; exact h)
/-- A call of two literals that returns a literal. -/
theorem lit_ok {F : FuncId} {a b r : ByteArray} {x y n : Nat} (hc : ∀ w, x < capN → y < capN → LawW w → Calls Tryz.prog F #[.string (natS x), .string (natS y)] w (OkPost w n))
    (ha : vldN a = true) (hx : nval a.data.toList = x) (hb : vldN b = true) (hy : nval b.data.toList = y) (hr : vldN r = true) (hn : nval r.data.toList = n) (w : World) (hw : LawW w) :
    Calls Tryz.prog F #[.string a, .string b] w fun e w' => e = .returned (.tuple #[.string r, .int .i64 0]) ∧ Below w.heap.size w w' := by
  have := hc w (lit_cap ha hx) (lit_cap hb hy) hw
  rw [lit_nat ha hx, lit_nat hb hy] at this
  refine this.mono fun e w' h => ?_
  obtain ⟨he, hb⟩ := h
  rw [lit_nat hr hn] at he
  exact ⟨he, hb⟩

theorem head_A1 (w : World) (hw : LawW w) : Calls Tryz.prog 89 #[.string ⟨#[57, 57, 57]⟩, .string ⟨#[49]⟩] w fun e w' => e = .returned (.tuple #[.string ⟨#[49, 48, 48, 48]⟩, .int .i64 0]) ∧ Below w.heap.size w w' :=
  lit_ok (n := 999 + 1) (fun w hx hy hw => (nat_add 999 1 w hx hy hw).mono fun _ _ h => h.ok (lit_cap (b := ⟨#[49, 48, 48, 48]⟩) (by decide +kernel) (by decide +kernel))) (by decide +kernel) (by decide +kernel) (by decide +kernel) (by decide +kernel) (by decide +kernel) (by decide +kernel) w hw

theorem head_S1 (w : World) (hw : LawW w) : Calls Tryz.prog 65 #[.string ⟨#[49, 48, 48, 48]⟩, .string ⟨#[49]⟩] w fun e w' => e = .returned (.tuple #[.string ⟨#[57, 57, 57]⟩, .int .i64 0]) ∧ Below w.heap.size w w' :=
  lit_ok (n := 1000 - 1) (fun w hx hy hw => nat_sub 1000 1 w hx hy (by decide) hw) (by decide +kernel) (by decide +kernel) (by decide +kernel) (by decide +kernel) (by decide +kernel) (by decide +kernel) w hw

theorem head_M1 (w : World) (hw : LawW w) : Calls Tryz.prog 88 #[.string ⟨#[49, 50, 51, 52, 53, 54, 55, 56, 57, 48, 49, 50, 51, 52, 53, 54, 55, 56, 57, 48]⟩, .string ⟨#[49, 48]⟩] w fun e w' => e = .returned (.tuple #[.string ⟨#[49, 50, 51, 52, 53, 54, 55, 56, 57, 48, 49, 50, 51, 52, 53, 54, 55, 56, 57, 48, 48]⟩, .int .i64 0]) ∧ Below w.heap.size w w' :=
  lit_ok (n := 12345678901234567890 * 10) (fun w hx hy hw => (nat_mul 12345678901234567890 10 w hx hy hw).mono fun _ _ h => h.ok (lit_cap (b := ⟨#[49, 50, 51, 52, 53, 54, 55, 56, 57, 48, 49, 50, 51, 52, 53, 54, 55, 56, 57, 48, 48]⟩) (by decide +kernel) (by decide +kernel))) (by decide +kernel) (by decide +kernel) (by decide +kernel) (by decide +kernel) (by decide +kernel) (by decide +kernel) w hw

theorem head_G1 (w : World) (hw : LawW w) : Calls Tryz.prog 76 #[.string ⟨#[49, 50]⟩, .string ⟨#[49, 56]⟩] w fun e w' => e = .returned (.tuple #[.string ⟨#[54]⟩, .int .i64 0]) ∧ Below w.heap.size w w' :=
  lit_ok (n := Nat.gcd 12 18) (fun w hx hy hw => nat_gcd 12 18 w hx hy hw) (by decide +kernel) (by decide +kernel) (by decide +kernel) (by decide +kernel) (by decide +kernel) (by decide +kernel) w hw

theorem head_G2 (w : World) (hw : LawW w) : Calls Tryz.prog 76 #[.string ⟨#[48]⟩, .string ⟨#[53]⟩] w fun e w' => e = .returned (.tuple #[.string ⟨#[53]⟩, .int .i64 0]) ∧ Below w.heap.size w w' :=
  lit_ok (n := Nat.gcd 0 5) (fun w hx hy hw => nat_gcd 0 5 w hx hy hw) (by decide +kernel) (by decide +kernel) (by decide +kernel) (by decide +kernel) (by decide +kernel) (by decide +kernel) w hw

theorem head_S2 (w : World) : Calls Tryz.prog 65 #[.string ⟨#[49]⟩, .string ⟨#[50]⟩] w (RangePost w) := by
  have := nat_sub_less 1 2 w (lit_cap (b := ⟨#[49]⟩) (by decide +kernel) (by decide +kernel)) (lit_cap (b := ⟨#[50]⟩) (by decide +kernel) (by decide +kernel)) (by decide)
  rw [lit_nat (b := ⟨#[49]⟩) (by decide +kernel) (by decide +kernel), lit_nat (b := ⟨#[50]⟩) (by decide +kernel) (by decide +kernel)] at this
  exact this

theorem head_D1 (w : World) (hw : LawW w) : Calls Tryz.prog 57 #[.string ⟨#[49, 48, 48, 48]⟩, .string ⟨#[55]⟩] w fun e w' => e = .returned (.tuple #[.string ⟨#[49, 52, 50]⟩, .string ⟨#[54]⟩, .int .i64 0]) ∧ Below w.heap.size w w' := by
  have := nat_div 1000 7 w (lit_cap (b := ⟨#[49, 48, 48, 48]⟩) (by decide +kernel) (by decide +kernel)) (lit_cap (b := ⟨#[55]⟩) (by decide +kernel) (by decide +kernel)) (by decide) hw
  rw [lit_nat (b := ⟨#[49, 48, 48, 48]⟩) (by decide +kernel) (by decide +kernel), lit_nat (b := ⟨#[55]⟩) (by decide +kernel) (by decide +kernel)] at this
  refine this.mono fun e w' h => ?_
  obtain ⟨he, hb⟩ := h
  rw [lit_nat (b := ⟨#[49, 52, 50]⟩) (by decide +kernel) (by decide +kernel), lit_nat (b := ⟨#[54]⟩) (by decide +kernel) (by decide +kernel)] at he
  exact ⟨he, hb⟩

theorem head_D2 (w : World) : Calls Tryz.prog 57 #[.string ⟨#[55]⟩, .string ⟨#[48]⟩] w (Err3Post w 14) := by
  have := nat_div_zero 7 w (lit_cap (b := ⟨#[55]⟩) (by decide +kernel) (by decide +kernel))
  rw [lit_nat (b := ⟨#[55]⟩) (by decide +kernel) (by decide +kernel)] at this
  exact this

theorem head_C1 (w : World) : Calls Tryz.prog 58 #[.string ⟨#[57]⟩, .string ⟨#[49, 48]⟩] w fun e w' => e = .returned (.int .i64 (-1)) ∧ Below w.heap.size w w' := by
  have := nat_compare 9 10 w (lit_cap (b := ⟨#[57]⟩) (by decide +kernel) (by decide +kernel)) (lit_cap (b := ⟨#[49, 48]⟩) (by decide +kernel) (by decide +kernel))
  rw [lit_nat (b := ⟨#[57]⟩) (by decide +kernel) (by decide +kernel), lit_nat (b := ⟨#[49, 48]⟩) (by decide +kernel) (by decide +kernel), cmpN_lt (by decide)] at this
  exact this
theorem head_C2 (w : World) : Calls Tryz.prog 58 #[.string ⟨#[48, 55]⟩, .string ⟨#[56]⟩] w fun e w' => e = .returned (.int .i64 0) ∧ Below w.heap.size w w' :=
  nat_compare_bad _ _ w (by decide) (by decide) (.inl (by decide +kernel))

end Go.Proofs.YtblpnekjnaaeoaaGreatDoor
namespace Go.Proofs.YtblpnekjnaaeoaaGreatDoor
open Go.RowKit

def vSt (s : ByteArray) : List Value := [.string s]
theorem vSt_len (s : ByteArray) : (vSt s).length = 1 := rfl
def fewB (l : List ByteArray) : Bool := l.all fun s => decide (s.size ≤ 80)
theorem st_cell {w : World} {b off : Nat} {l : List ByteArray} (h : ∀ i (h : i < l.length) j u, (vSt l[i])[j]? = some u → w.cell? ⟨b, off + i * 1 + j, none⟩ = some u) {k : Nat} (hk : k < l.length) : w.cell? ⟨b, off + k, none⟩ = some (.string l[k]) := by
  have := h k hk 0 _ rfl
  simpa using this
theorem few_no {l : List ByteArray} {k : Nat} (h : k < l.length) (hs : 80 < l[k].size) : fewB l = false := by
  unfold fewB
  rw [List.all_eq_false]
  exact ⟨l[k], List.getElem_mem h, by simp; omega⟩
theorem few_yes {l : List ByteArray} (h : ∀ j (hj : j < l.length), l[j].size ≤ 80) : fewB l = true := by
  unfold fewB
  rw [List.all_eq_true]
  intro x hx
  obtain ⟨j, hj, rfl⟩ := List.mem_iff_getElem.1 hx
  simpa using h j hj

theorem few3_slice (w : World) (a b c : ByteArray) (T : TypeId) : SliceOf vSt 1 (w.alloc (.cells #[.string a, .string b, .string c] T)) (.slice (some ⟨w.heap.size, 0, none⟩) 3 3) [a, b, c] := slice_lit vSt_len w [a, b, c] T (by simp [maxLen])
theorem few2_slice (w : World) (a b : ByteArray) (T : TypeId) : SliceOf vSt 1 (w.alloc (.cells #[.string a, .string b] T)) (.slice (some ⟨w.heap.size, 0, none⟩) 2 2) [a, b] := slice_lit vSt_len w [a, b] T (by simp [maxLen])
theorem few1_slice (w : World) (a : ByteArray) (T : TypeId) : SliceOf vSt 1 (w.alloc (.cells #[.string a] T)) (.slice (some ⟨w.heap.size, 0, none⟩) 1 1) [a] := slice_lit vSt_len w [a] T (by simp [maxLen])

/-- Three valid strings of at most 80 bytes. -/
theorem few3_nat {a b c : ByteArray} (h : fewB [a, b, c] = true) (ha : vldN a = true) (hb : vldN b = true) (hc : vldN c = true) : ∃ x y z, a = natS x ∧ b = natS y ∧ c = natS z ∧ x < capK 80 ∧ y < capK 80 ∧ z < capK 80 := by
  obtain ⟨x, _, rfl⟩ := vldN_obtain ha
  obtain ⟨y, _, rfl⟩ := vldN_obtain hb
  obtain ⟨z, _, rfl⟩ := vldN_obtain hc
  simp only [fewB, List.all_cons, List.all_nil, Bool.and_true, Bool.and_eq_true, decide_eq_true_eq, natS_size] at h
  exact ⟨x, y, z, rfl, rfl, rfl, (capK_len (by decide)).1 h.1, (capK_len (by decide)).1 h.2.1, (capK_len (by decide)).1 h.2.2⟩
theorem capK_mul (a b : Nat) : capK a * capK b = capK (a + b) := by unfold capK; rw [Nat.pow_add]
theorem capK_le {a b : Nat} (h : a ≤ b) : capK a ≤ capK b := Nat.pow_le_pow_right (by decide) h
theorem capK_two (a : Nat) : capK a + capK a ≤ capK (a + 1) := by
  unfold capK; rw [Nat.pow_succ]; omega
theorem mul_capK {x y a b : Nat} (hx : x < capK a) (hy : y < capK b) : x * y < capK (a + b) := by
  rw [← capK_mul]
  exact Nat.mul_lt_mul_of_le_of_lt (Nat.le_of_lt hx) hy (Nat.lt_of_le_of_lt (Nat.zero_le _) hx)
theorem add_capK {x y a : Nat} (hx : x < capK a) (hy : y < capK a) : x + y < capK (a + 1) := by
  have := capK_two a; omega
theorem to_capN {x k : Nat} (h : x < capK k) (hk : k ≤ 1000) : x < capN := Nat.lt_of_lt_of_le h (capK_le hk)
end Go.Proofs.YtblpnekjnaaeoaaGreatDoor
namespace Go.Proofs.YtblpnekjnaaeoaaGreatDoor
open Go.Lib

theorem nval_at : ∀ (l : List UInt8), (∀ b ∈ l, isDg b = true) → ∀ p (h : p < l.length), dvN (l[l.length - 1 - p]'(by omega)) = nval l / 10 ^ p % 10 := by
  refine snocInd (by intro _ p h; simp at h) ?_
  intro l b ih hd p h
  have hb := dvN_lt (hd b (by simp))
  rw [nval_snoc]
  cases p with
  | zero =>
    simp only [List.length_append, List.length_cons, List.length_nil] at h ⊢
    rw [List.getElem_append_right (by omega)]
    simp only [Nat.pow_zero, Nat.div_one]
    simp
    omega
  | succ p =>
    simp only [List.length_append, List.length_cons, List.length_nil] at h ⊢
    rw [List.getElem_append_left (by omega)]
    have := ih (fun c hc => hd c (by simp [hc])) p (by omega)
    rw [Nat.pow_succ, Nat.mul_comm (10 ^ p) 10, ← Nat.div_div_eq_div_mul, show (nval l * 10 + dvN b) / 10 = nval l by omega, ← this]
    congr 1
    congr 1
    omega
/-- The digit of a numeral at a place from the right. -/
def atN (x p : Nat) : Nat := x / 10 ^ p % 10
theorem atN_lt (x p : Nat) : atN x p < 10 := Nat.mod_lt _ (by decide)
theorem atN_in {x p : Nat} (h : p < (decDigits x).length) : dvN ((decDigits x)[(decDigits x).length - 1 - p]'(by omega)) = atN x p := by
  rw [nval_at _ (dec_digit x) p h, nval_dec]; rfl
theorem dec_lt (x : Nat) : x < 10 ^ (decDigits x).length := (dec_len_le (dec_len_pos x)).1 (Nat.le_refl _)
theorem atN_out {x p : Nat} (h : (decDigits x).length ≤ p) : atN x p = 0 := by
  unfold atN
  rw [Nat.div_eq_of_lt (Nat.lt_of_lt_of_le (dec_lt x) (Nat.pow_le_pow_right (by decide) h))]
theorem atN_mod (x p : Nat) : x % 10 ^ (p + 1) = x % 10 ^ p + 10 ^ p * atN x p := Nat.mod_pow_succ
theorem mod_all {x p : Nat} (h : (decDigits x).length ≤ p) : x % 10 ^ p = x := Nat.mod_eq_of_lt (Nat.lt_of_lt_of_le (dec_lt x) (Nat.pow_le_pow_right (by decide) h))
/-- The value of digits, of which the first is the last of the number. -/
def le10 : List Nat → Nat
  | [] => 0
  | d :: l => d + 10 * le10 l
theorem le10_append (l m : List Nat) : le10 (l ++ m) = le10 l + 10 ^ l.length * le10 m := by
  induction l with
  | nil => simp [le10]
  | cons d l ih => simp only [List.cons_append, le10, ih, List.length_cons, Nat.pow_succ]; rw [Nat.mul_add, Nat.add_assoc, Nat.mul_comm (10 ^ l.length) 10, Nat.mul_assoc]
theorem le10_snoc (l : List Nat) (d : Nat) : le10 (l ++ [d]) = le10 l + 10 ^ l.length * d := by rw [le10_append]; simp [le10]
def D10 (l : List Nat) : Prop := ∀ d ∈ l, d < 10
/-- The bytes that 'text' lays down. -/
def revB (l : List Nat) : List UInt8 := (l.map fun d => UInt8.ofNat (48 + d)).reverse
theorem revB_len (l : List Nat) : (revB l).length = l.length := by simp [revB]
theorem revB_dg {l : List Nat} (h : D10 l) : ∀ b ∈ revB l, isDg b = true := by
  intro b hb
  simp only [revB, List.mem_reverse, List.mem_map] at hb
  obtain ⟨d, hd, rfl⟩ := hb
  exact isDg_ofNat (h d hd)
theorem nval_revB {l : List Nat} (h : D10 l) : nval (revB l) = le10 l := by
  induction l with
  | nil => rfl
  | cons d l ih =>
    have : revB (d :: l) = revB l ++ [UInt8.ofNat (48 + d)] := by simp [revB]
    rw [this, nval_snoc, ih (fun e he => h e (by simp [he])), dvN_ofNat (h d (by simp))]
    simp only [le10]; omega
/-- What 'trimmed' leaves. -/
theorem trim_end {L : List UInt8} (hd : ∀ b ∈ L, isDg b = true) {i : Nat} (hi : i < L.length) (hz : L.take i = List.replicate i 48) (h : L.length ≤ i + 1 ∨ L[i] ≠ 48) : L.drop i = decDigits (nval L) := by
  have e : nval L = nval (L.drop i) := by
    conv => lhs; rw [← List.take_append_drop i L]
    rw [nval_append, hz, nval_zeros]; simp
  rw [e, dec_nval]
  refine ⟨by intro e; have := congrArg List.length e; simp at this; omega, fun b hb => hd b (List.mem_of_mem_drop hb), ?_⟩
  intro hh
  rcases h with h | h
  · simp; omega
  · exfalso
    rw [List.head?_drop, List.getElem?_eq_getElem hi] at hh
    exact h (by simpa using hh)
theorem trim_step {L : List UInt8} {i : Nat} (hi : i < L.length) (hz : L.take i = List.replicate i 48) (h : L[i] = 48) : L.take (i + 1) = List.replicate (i + 1) 48 := by
  rw [List.take_add_one, hz, List.getElem?_eq_getElem hi, h, List.replicate_succ']; rfl
theorem add_step10 {x y i c : Nat} {o : List Nat} (hl : o.length = i) (h : le10 o + c * 10 ^ i = x % 10 ^ i + y % 10 ^ i) :
    le10 (o ++ [(atN x i + atN y i + c) % 10]) + (atN x i + atN y i + c) / 10 * 10 ^ (i + 1) = x % 10 ^ (i + 1) + y % 10 ^ (i + 1) := by
  rw [le10_snoc, hl, atN_mod, atN_mod, Nat.pow_succ]
  have e := Nat.div_add_mod (atN x i + atN y i + c) 10
  generalize (atN x i + atN y i + c) / 10 = q at *
  generalize (atN x i + atN y i + c) % 10 = r at *
  have : 10 ^ i * (10 * q + r) = 10 ^ i * (atN x i + atN y i + c) := by rw [e]
  rw [Nat.mul_add, Nat.mul_add, Nat.mul_add] at this
  rw [show q * (10 ^ i * 10) = 10 ^ i * (10 * q) by rw [Nat.mul_comm q, Nat.mul_assoc]]
  rw [Nat.mul_comm c] at h
  omega
/-- What text's row holds after i rounds. -/
def rowT (l : List Nat) (i : Nat) : List Nat := List.replicate (l.length - i) 0 ++ ((l.take i).map (48 + ·)).reverse
theorem rowT_zero (l : List Nat) : rowT l 0 = List.replicate l.length 0 := by simp [rowT]
theorem rowT_all (l : List Nat) : rowT l l.length = (l.map (48 + ·)).reverse := by simp [rowT]
theorem rowT_step {l : List Nat} {i : Nat} (h : i < l.length) : (rowT l i).set (l.length - 1 - i) (48 + l[i]) = rowT l (i + 1) := by
  unfold rowT
  rw [List.set_append_left _ _ (by simp; omega), List.take_add_one, List.getElem?_eq_getElem h]
  rw [show l.length - i = (l.length - (i + 1)) + 1 by omega, List.replicate_succ', List.set_append_right _ _ (by simp; omega)]
  rw [show l.length - 1 - i - (List.replicate (l.length - (i + 1)) 0).length = 0 by simp; omega]
  simp only [List.set_cons_zero, List.append_assoc, List.singleton_append, List.map_append, List.reverse_append, Option.toList_some, List.map_cons, List.map_nil, List.reverse_cons, List.reverse_nil, List.nil_append]
end Go.Proofs.YtblpnekjnaaeoaaGreatDoor
