/- NatU, NatV, NatX, NatH, NatJ, RfP in one text. -/
import Derived.Test.YtblpnekjnaaeoaaGreatDoorNatT
import Derived.Deep.LoopGhost
import Derived.Test.YtblpnekjnaaeoaaGreatDoorPkB
set_option linter.unusedVariables false
set_option linter.unusedSimpArgs false
namespace Go.Proofs.YtblpnekjnaaeoaaGreatDoor
open Go.RowKit

theorem capK_Bs {k j : Nat} (h : k ≤ 9 * j) : capK k ≤ Bs ^ j := by
  unfold capK
  rw [Bs_ten]
  exact Nat.pow_le_pow_right (by decide) h
theorem capN_Bs : capN ≤ Bs ^ 112 := capK_Bs (by decide)
theorem lim_cap {n : Nat} (h : n < capN) : (lim n).length ≤ 112 := lim_len_le (Nat.lt_of_lt_of_le h capN_Bs)
theorem nat_read (n : Nat) (w : World) (h : n < capN) : Calls Tryz.prog 84 #[.string (natS n)] w (LimPost w n) := by
  have h1 := capN_len.2 h
  have := read_any (natS n) w (by rw [natS_size]; omega) (fun b hb => dec_digit n b (by rw [← natS_toList]; exact hb))
  rw [natS_toList, nval_dec] at this
  exact this
theorem nat_valid (n : Nat) (w : World) (h : n < capN) : Calls Tryz.prog 75 #[.string (natS n)] w fun e w' => e = .returned (.bool true) ∧ Below w.heap.size w w' := by
  have h1 := capN_len.2 h
  have := valid_any (natS n) w (by rw [natS_size]; unfold maxLen; omega)
  rw [natS_vldN.2 h] at this
  exact this
theorem bad_valid (s : ByteArray) (w : World) (hs : s.size ≤ maxLen) (h : vldN s = false) : Calls Tryz.prog 75 #[.string s] w fun e w' => e = .returned (.bool false) ∧ Below w.heap.size w w' := by
  have := valid_any s w hs
  rw [h] at this
  exact this
/-- One of two strings is no natural number. -/
def bad2 (a b : ByteArray) : Prop := vldN a = false ∨ (vldN a = true ∧ vldN b = false)
theorem good_or_bad (a b : ByteArray) : (∃ x y, x < capN ∧ y < capN ∧ a = natS x ∧ b = natS y) ∨ bad2 a b := by
  cases ha : vldN a with
  | false => exact .inr (.inl ha)
  | true =>
    cases hb : vldN b with
    | false => exact .inr (.inr ⟨ha, hb⟩)
    | true =>
      obtain ⟨x, hx, rfl⟩ := vldN_obtain ha
      obtain ⟨y, hy, rfl⟩ := vldN_obtain hb
      exact .inl ⟨x, y, hx, hy, rfl, rfl⟩
set_option maxHeartbeats 1000000 in
set_option maxRecDepth 100000 in
theorem both_ok (F : FuncId) (x y V : Nat) (w : World) (hx : x < capN) (hy : y < capN) (hV : (lim V).length ≤ 100000) (hw : LawW w)
    (hE : ∀ args w, (callFunc F args).run Tryz.prog w = .ok (.enter F args) w)
    (hF : ∀ u v w', SliceOf vN 1 w' u (lim x) → SliceOf vN 1 w' v (lim y) → Calls Tryz.prog F #[u, v] w' (LimPost w' V)) :
    Calls Tryz.prog 90 #[.string (natS x), .string (natS y), .func (.func F) #[] #[]] w (TextPost w V) := by
  have HW := hide hw
  have HF := hide hF
  have HX := hide hx
  have HY := hide hy
  obtain ⟨sx, hsx⟩ : ∃ s, natS x = s := ⟨_, rfl⟩
  obtain ⟨sy, hsy⟩ : ∃ s, natS y = s := ⟨_, rfl⟩
  have HSX := hide hsx
  have HSY := hide hsy
  rw [hsx, hsy]
  clear hw hF hx hy hsx hsy
  go_enter Tryz.func90, Tryz.ntmps90
  go_wp2_with fail
  refine ((by rw [← HSX.out]; exact nat_valid x _ HX.out) : Calls _ _ #[.string sx] _ _).mono ?_
  rintro e w1 ⟨rfl, hb1⟩
  have HB1 := hide hb1
  clear hb1
  go_wp2_with fail
  refine ((by rw [← HSY.out]; exact nat_valid y _ HY.out) : Calls _ _ #[.string sy] _ _).mono ?_
  rintro e w2 ⟨rfl, hb2⟩
  have HB2 := hide (bStep HB1.out hb2)
  clear hb2 HB1
  go_wp2_with fail
  refine ((by rw [← HSX.out]; exact nat_read x _ HX.out) : Calls _ _ #[.string sx] _ _).mono ?_
  rintro e w3 ⟨v3, rfl, hs3, hb3⟩
  have HS3 := hide hs3
  have HB3 := hide (bStep HB2.out hb3)
  clear hs3 hb3 HB2
  go_wp2_with fail
  refine ((by rw [← HSY.out]; exact nat_read y _ HY.out) : Calls _ _ #[.string sy] _ _).mono ?_
  rintro e w4 ⟨v4, rfl, hs4, hb4⟩
  have HS4 := hide hs4
  have HS34 := hide (HS3.out.below hb4)
  have HB4 := hide (bStep HB3.out hb4)
  clear hs4 hb4 HB3
  go_wp2_with fail
  refine (HF.out _ _ _ HS34.out HS4.out).mono ?_
  rintro e w5 ⟨v5, rfl, hs5, hb5⟩
  have HS5 := hide hs5
  have HB5 := hide (bStep HB4.out hb5)
  have HW5 := hide (HW.out.below HB5.out)
  clear hs5 hb5 HB4
  go_wp2_with fail
  refine (text_any V _ _ HS5.out hV HW5.out).mono ?_
  rintro e w6 ⟨hb6, h6⟩
  have HB6 := hide (bStep HB5.out hb6)
  rcases h6 with ⟨h6, rfl⟩ | ⟨h6, rfl⟩
  · have H6 := hide h6
    clear h6 hb6
    go_wp2_with fail
    go_ret2
    exact ⟨HB6.out, .inl ⟨H6.out, rfl⟩⟩
  · have H6 := hide h6
    clear h6 hb6
    go_wp2_with fail
    go_ret2
    exact ⟨HB6.out, .inr ⟨H6.out, rfl⟩⟩

set_option maxHeartbeats 1000000 in
set_option maxRecDepth 100000 in
theorem gcdf_any (a b : Nat) (u v : Value) (w : World) (hu : SliceOf vN 1 w u (lim a)) (hv : SliceOf vN 1 w v (lim b)) (ha : (lim a).length ≤ 50000) (hb : (lim b).length ≤ 50000) :
    Calls Tryz.prog 101 #[u, v] w (LimPost w (Nat.gcd a b)) := by
  have HU := hide hu
  have HV := hide hv
  obtain ⟨ao, cp, rfl⟩ := hu.shape
  obtain ⟨bo, cq, rfl⟩ := hv.shape
  clear hu hv
  have HA := hide ha
  have HB := hide hb
  obtain ⟨m, hm⟩ : ∃ m, (lim a).length = m := ⟨_, rfl⟩
  obtain ⟨n, hn⟩ : ∃ m, (lim b).length = m := ⟨_, rfl⟩
  have HM := hide hm
  have HN := hide hn
  rw [hm, hn]
  clear hm hn ha hb
  go_enter Tryz.func101, Tryz.ntmps101
  go_wp2_with fail
  go_loopg [0, 1] b (fun g x y wx => ∃ p q : Nat, g = q ∧ SliceOf vN 1 wx x (lim p) ∧ SliceOf vN 1 wx y (lim q) ∧ Nat.gcd p q = Nat.gcd a b ∧ (lim p).length ≤ 50000 ∧ (lim q).length ≤ 50000 ∧ Below w.heap.size w wx)
  case atStart => exact ⟨a, b, rfl, by rw [← HM.out]; exact HU.out, by rw [← HN.out]; exact HV.out, rfl, HA.out, HB.out, Below.refl _ _⟩
  case round =>
    obtain ⟨p, q, rfl, hx, hy, hg, hp, hq, hbl⟩ := hrel
    have HX := hide hx
    have HY := hide hy
    have HG := hide hg
    have HBL := hide hbl
    obtain ⟨xo, xc, rfl⟩ := hx.shape
    obtain ⟨yo, yc, rfl⟩ := hy.shape
    clear hx hy hg hbl HU HV
    by_cases h0 : gk = 0
    · subst h0
      have hl0 : (lim 0).length = 0 := by rw [lim_zero]; rfl
      rw [hl0]
      rw [Nat.gcd_zero_right] at HG
      clear hl0
      go_wp2_with fail
      go_ret
      exact ⟨_, rfl, by rw [← HG.out]; exact HX.out, HBL.out⟩
    · have hpos : 0 < (lim gk).length := by rw [lim_step h0]; simp
      have hposI : (0 : Int) < ((lim gk).length : Int) := by omega
      have HP := hide hp
      have HQ := hide hq
      go_wp2_with fail
      refine (div_any (lim p) gk _ _ _ HX.out HY.out (by omega) (by omega) (lim_Lm p) (by omega)).mono ?_
      rintro e w1 ⟨qv, rv, rfl, _, hr, hb1⟩
      rw [lval_lim] at hr
      have HR := hide hr
      have HY1 := hide (HY.out.below hb1)
      have HB1 := hide (bStep HBL.out hb1)
      clear hr hb1
      have HGG : Hid (Nat.gcd gk (p % gk) = Nat.gcd a b) := by
        show _ = _
        rw [← HG.out, Nat.gcd_comm p gk, Nat.gcd_rec gk p, Nat.gcd_comm]
      have HLT : Hid (p % gk < gk) := Nat.mod_lt _ (by omega)
      have HLL : Hid ((lim (p % gk)).length ≤ 50000) := Nat.le_trans (lim_len_mono (Nat.le_of_lt HLT.out)) HQ.out
      go_wp2_with fail
      go_roundg (p % gk)
      case measure => exact HLT.out
      case rel => exact ⟨gk, p % gk, rfl, HY1.out, HR.out, HGG.out, HQ.out, HLL.out, HB1.out⟩
end Go.Proofs.YtblpnekjnaaeoaaGreatDoor
namespace Go.Proofs.YtblpnekjnaaeoaaGreatDoor
open Go.RowKit

/-- A call that hands on what both gave. -/
theorem LimF.post {w w' : World} {V : Nat} {e : Ending} (h : LimF w V e w') : LimPost w V e w' := by
  obtain ⟨v, he, hs, hb, _⟩ := h
  exact ⟨v, he, hs, hb⟩
set_option maxHeartbeats 1000000 in
set_option maxRecDepth 100000 in
theorem nat_add (x y : Nat) (w : World) (hx : x < capN) (hy : y < capN) (hw : LawW w) :
    Calls Tryz.prog 89 #[.string (natS x), .string (natS y)] w (TextPost w (x + y)) := by
  have h1 := lim_cap hx
  have h2 := lim_cap hy
  have HV : (lim (x + y)).length ≤ 100000 := by
    have := add_lt (lim_Lm x) (lim_Lm y) (n := 112) h1 h2
    rw [lval_lim, lval_lim] at this
    have := lim_len_le this
    omega
  have HC := hide (both_ok 115 x y (x + y) w hx hy HV hw (enters_of Tryz.func115 (by kernel_rfl) rfl) (fun u v w' hu hv => by
    have := add_any (lim x) (lim y) u v w' hu hv (by omega) (by omega) (lim_Lm x) (lim_Lm y)
    rw [lval_lim, lval_lim] at this
    exact this.mono fun _ _ h => h.post))
  obtain ⟨sx, hsx⟩ : ∃ s, natS x = s := ⟨_, rfl⟩
  obtain ⟨sy, hsy⟩ : ∃ s, natS y = s := ⟨_, rfl⟩
  rw [hsx, hsy] at HC ⊢
  obtain ⟨V, hVe⟩ : ∃ V, x + y = V := ⟨_, rfl⟩
  rw [hVe] at HC ⊢
  clear hx hy hw HV h1 h2 hsx hsy hVe
  go_enter Tryz.func89, Tryz.ntmps89
  go_wp2_with fail
  refine HC.out.mono ?_
  rintro e w1 ⟨hb, ⟨h6, rfl⟩ | ⟨h6, rfl⟩⟩
  · have HB := hide hb
    have H6 := hide h6
    clear hb h6
    go_wp2_with fail
    go_ret2
    exact ⟨HB.out, .inl ⟨H6.out, rfl⟩⟩
  · have HB := hide hb
    have H6 := hide h6
    clear hb h6
    go_wp2_with fail
    go_ret2
    exact ⟨HB.out, .inr ⟨H6.out, rfl⟩⟩
set_option maxHeartbeats 1000000 in
set_option maxRecDepth 100000 in
theorem nat_mul (x y : Nat) (w : World) (hx : x < capN) (hy : y < capN) (hw : LawW w) :
    Calls Tryz.prog 88 #[.string (natS x), .string (natS y)] w (TextPost w (x * y)) := by
  have h1 := lim_cap hx
  have h2 := lim_cap hy
  have HV : (lim (x * y)).length ≤ 100000 := by
    have := lim_prod_len x (lim_Lm y)
    rw [lval_lim] at this
    omega
  have HC := hide (both_ok 114 x y (x * y) w hx hy HV hw (enters_of Tryz.func114 (by kernel_rfl) rfl) (fun u v w' hu hv => mul_any x y u v w' hu hv (by omega) (by omega)))
  obtain ⟨sx, hsx⟩ : ∃ s, natS x = s := ⟨_, rfl⟩
  obtain ⟨sy, hsy⟩ : ∃ s, natS y = s := ⟨_, rfl⟩
  rw [hsx, hsy] at HC ⊢
  obtain ⟨V, hVe⟩ : ∃ V, x * y = V := ⟨_, rfl⟩
  rw [hVe] at HC ⊢
  clear hx hy hw HV h1 h2 hsx hsy hVe
  go_enter Tryz.func88, Tryz.ntmps88
  go_wp2_with fail
  refine HC.out.mono ?_
  rintro e w1 ⟨hb, ⟨h6, rfl⟩ | ⟨h6, rfl⟩⟩
  · have HB := hide hb
    have H6 := hide h6
    clear hb h6
    go_wp2_with fail
    go_ret2
    exact ⟨HB.out, .inl ⟨H6.out, rfl⟩⟩
  · have HB := hide hb
    have H6 := hide h6
    clear hb h6
    go_wp2_with fail
    go_ret2
    exact ⟨HB.out, .inr ⟨H6.out, rfl⟩⟩
/-- What is returned without an error. -/
def OkPost (w : World) (n : Nat) (e : Ending) (w' : World) : Prop := e = .returned (.tuple #[.string (natS n), .int .i64 0]) ∧ Below w.heap.size w w'
theorem TextPost.ok {w w' : World} {n : Nat} {e : Ending} (h : TextPost w n e w') (hn : n < capN) : OkPost w n e w' := by
  obtain ⟨hb, ⟨_, he⟩ | ⟨h6, _⟩⟩ := h
  · exact ⟨he, hb⟩
  · exact absurd hn h6
theorem gcd_cap {x y : Nat} (hx : x < capN) (hy : y < capN) : Nat.gcd x y < capN := by
  by_cases h : 0 < x
  · exact Nat.lt_of_le_of_lt (Nat.gcd_le_left _ h) hx
  · obtain rfl : x = 0 := by omega
    rw [Nat.gcd_zero_left]; exact hy
set_option maxHeartbeats 1000000 in
set_option maxRecDepth 100000 in
theorem nat_gcd (x y : Nat) (w : World) (hx : x < capN) (hy : y < capN) (hw : LawW w) :
    Calls Tryz.prog 76 #[.string (natS x), .string (natS y)] w (OkPost w (Nat.gcd x y)) := by
  have h1 := lim_cap hx
  have h2 := lim_cap hy
  have hg := gcd_cap hx hy
  have HV : (lim (Nat.gcd x y)).length ≤ 100000 := by have := lim_cap hg; omega
  have HC := hide ((both_ok 101 x y (Nat.gcd x y) w hx hy HV hw (enters_of Tryz.func101 (by kernel_rfl) rfl) (fun u v w' hu hv => gcdf_any x y u v w' hu hv (by omega) (by omega))).mono fun _ _ h => h.ok hg)
  obtain ⟨sx, hsx⟩ : ∃ s, natS x = s := ⟨_, rfl⟩
  obtain ⟨sy, hsy⟩ : ∃ s, natS y = s := ⟨_, rfl⟩
  rw [hsx, hsy] at HC ⊢
  obtain ⟨V, hVe⟩ : ∃ V, Nat.gcd x y = V := ⟨_, rfl⟩
  rw [hVe] at HC ⊢
  clear hx hy hw HV h1 h2 hg hsx hsy hVe
  go_enter Tryz.func76, Tryz.ntmps76
  go_wp2_with fail
  refine HC.out.mono ?_
  rintro e w1 ⟨rfl, hb⟩
  have HB := hide hb
  clear hb
  go_wp2_with fail
  go_ret2
  exact ⟨rfl, HB.out⟩
set_option maxHeartbeats 1000000 in
set_option maxRecDepth 100000 in
theorem nat_compare (x y : Nat) (w : World) (hx : x < capN) (hy : y < capN) :
    Calls Tryz.prog 58 #[.string (natS x), .string (natS y)] w fun e w' => e = .returned (.int .i64 (cmpN x y)) ∧ Below w.heap.size w w' := by
  have HX := hide hx
  have HY := hide hy
  have HLX := hide (lim_cap hx)
  have HLY := hide (lim_cap hy)
  obtain ⟨sx, hsx⟩ : ∃ s, natS x = s := ⟨_, rfl⟩
  obtain ⟨sy, hsy⟩ : ∃ s, natS y = s := ⟨_, rfl⟩
  have HSX := hide hsx
  have HSY := hide hsy
  rw [hsx, hsy]
  clear hx hy hsx hsy
  go_enter Tryz.func58, Tryz.ntmps58
  go_wp2_with fail
  refine ((by rw [← HSX.out]; exact nat_valid x _ HX.out) : Calls _ _ #[.string sx] _ _).mono ?_
  rintro e w1 ⟨rfl, hb1⟩
  have HB1 := hide hb1
  clear hb1
  go_wp2_with fail
  refine ((by rw [← HSY.out]; exact nat_valid y _ HY.out) : Calls _ _ #[.string sy] _ _).mono ?_
  rintro e w2 ⟨rfl, hb2⟩
  have HB2 := hide (bStep HB1.out hb2)
  clear hb2 HB1
  go_wp2_with fail
  refine ((by rw [← HSX.out]; exact nat_read x _ HX.out) : Calls _ _ #[.string sx] _ _).mono ?_
  rintro e w3 ⟨v3, rfl, hs3, hb3⟩
  have HS3 := hide hs3
  have HB3 := hide (bStep HB2.out hb3)
  clear hs3 hb3 HB2
  go_wp2_with fail
  refine ((by rw [← HSY.out]; exact nat_read y _ HY.out) : Calls _ _ #[.string sy] _ _).mono ?_
  rintro e w4 ⟨v4, rfl, hs4, hb4⟩
  have HS4 := hide hs4
  have HS34 := hide (HS3.out.below hb4)
  have HB4 := hide (bStep HB3.out hb4)
  clear hs4 hb4 HB3
  go_wp2_with fail
  refine (compare_any x y _ _ _ HS34.out HS4.out (by have := HLX.out; omega) (by have := HLY.out; omega)).mono ?_
  rintro e w5 ⟨rfl, m, rfl⟩
  have HB5 := hide (below_drewN HB4.out m)
  go_wp2_with fail
  go_ret
  exact ⟨rfl, HB5.out⟩
end Go.Proofs.YtblpnekjnaaeoaaGreatDoor
namespace Go.Proofs.YtblpnekjnaaeoaaGreatDoor
open Go.RowKit

set_option maxHeartbeats 1000000 in
set_option maxRecDepth 100000 in
theorem nat_sub (x y : Nat) (w : World) (hx : x < capN) (hy : y < capN) (hle : y ≤ x) (hw : LawW w) :
    Calls Tryz.prog 65 #[.string (natS x), .string (natS y)] w (OkPost w (x - y)) := by
  have h1 := lim_cap hx
  have h2 := lim_cap hy
  have hlt : x - y < capN := by omega
  have HV : (lim (x - y)).length ≤ 100000 := by have := lim_cap hlt; omega
  have HC : ∀ W, LawW W → Calls Tryz.prog 90 #[.string (natS x), .string (natS y), .func (.func 91) #[] #[]] W (OkPost W (x - y)) := fun W hW =>
    (both_ok 91 x y (x - y) W hx hy HV hW (enters_of Tryz.func91 (by kernel_rfl) rfl) (fun u v w' hu hv => by
      have := sub_any (lim x) (lim y) u v w' hu hv (by omega) (lim_len_mono hle) (lim_Lm x) (lim_Lm y) (by rw [lval_lim, lval_lim]; exact hle)
      rw [lval_lim, lval_lim] at this
      exact this.mono fun _ _ h => h.post)).mono fun _ _ h => h.ok hlt
  have HHC := hide HC
  have HW := hide hw
  have HVX : Hid (∀ W, Calls Tryz.prog 75 #[.string (natS x)] W fun e w' => e = .returned (.bool true) ∧ Below W.heap.size W w') := fun W => nat_valid x W hx
  have HVY : Hid (∀ W, Calls Tryz.prog 75 #[.string (natS y)] W fun e w' => e = .returned (.bool true) ∧ Below W.heap.size W w') := fun W => nat_valid y W hy
  have HCM : Hid (∀ W, Calls Tryz.prog 58 #[.string (natS x), .string (natS y)] W fun e w' => e = .returned (.int .i64 (cmpN x y)) ∧ Below W.heap.size W w') := fun W => nat_compare x y W hx hy
  have hcm : ¬ cmpN x y < 0 := fun h => by have := cmpN_neg.1 h; omega
  obtain ⟨c, hc⟩ : ∃ c, cmpN x y = c := ⟨_, rfl⟩
  rw [hc] at HCM hcm
  obtain ⟨sx, hsx⟩ : ∃ s, natS x = s := ⟨_, rfl⟩
  obtain ⟨sy, hsy⟩ : ∃ s, natS y = s := ⟨_, rfl⟩
  rw [hsx] at HVX
  rw [hsy] at HVY
  rw [hsx, hsy] at HHC HCM ⊢
  obtain ⟨V, hVe⟩ : ∃ V, x - y = V := ⟨_, rfl⟩
  rw [hVe] at HHC ⊢
  have hc0 : 0 ≤ c := by omega
  clear hx hy hw HV h1 h2 hsx hsy hVe HC hle hlt hc
  go_enter Tryz.func65, Tryz.ntmps65
  go_wp2_with fail
  refine (HVX.out _).mono ?_
  rintro e w1 ⟨rfl, hb1⟩
  have HB1 := hide hb1
  clear hb1
  go_wp2_with fail
  refine (HVY.out _).mono ?_
  rintro e w2 ⟨rfl, hb2⟩
  have HB2 := hide (bStep HB1.out hb2)
  clear hb2 HB1
  go_wp2_with fail
  refine (HCM.out _).mono ?_
  rintro e w3 ⟨rfl, hb3⟩
  have HB3 := hide (bStep HB2.out hb3)
  have HW3 := hide (HW.out.below HB3.out)
  clear hb3 HB2
  go_wp2_with fail
  refine (HHC.out _ HW3.out).mono ?_
  rintro e w4 ⟨rfl, hb4⟩
  have HB4 := hide (bStep HB3.out hb4)
  clear hb4 HB3
  go_wp2_with fail
  go_ret2
  exact ⟨rfl, HB4.out⟩
theorem natS_zero : natS 0 = ⟨#[48]⟩ := by unfold natS; rw [dec_small (by omega)]; rfl
theorem natS_ne_zero {y : Nat} (h : 0 < y) : natS y ≠ ⟨#[48]⟩ := fun e => by
  rw [← natS_zero] at e
  have := natS_inj e
  omega
theorem str_ne {s t : ByteArray} {l : List UInt8} (h : s ≠ t) (ht : t.data.toList = l) : (s.toList == l) = false := by
  rw [beq_eq_false_iff_ne, ByteArray.toList_eq]
  intro e
  exact h (ba_eq (e.trans ht.symm))
theorem str_eq {s : ByteArray} {l : List UInt8} (h : s.data.toList = l) : (s.toList == l) = true := by rw [ByteArray.toList_eq, h]; simp
/-- Results of a division. -/
def DivsPost (w : World) (q r : Nat) (e : Ending) (w' : World) : Prop := e = .returned (.tuple #[.string (natS q), .string (natS r), .int .i64 0]) ∧ Below w.heap.size w w'
set_option maxHeartbeats 2000000 in
set_option maxRecDepth 100000 in
theorem nat_div (x y : Nat) (w : World) (hx : x < capN) (hy : y < capN) (hy0 : 0 < y) (hw : LawW w) :
    Calls Tryz.prog 57 #[.string (natS x), .string (natS y)] w (DivsPost w (x / y) (x % y)) := by
  have h1 := lim_cap hx
  have h2 := lim_cap hy
  have hq : x / y < capN := Nat.lt_of_le_of_lt (Nat.div_le_self x y) hx
  have hr : x % y < capN := Nat.lt_trans (Nat.mod_lt _ hy0) hy
  have HW := hide hw
  have HVX : Hid (∀ W, Calls Tryz.prog 75 #[.string (natS x)] W fun e w' => e = .returned (.bool true) ∧ Below W.heap.size W w') := fun W => nat_valid x W hx
  have HVY : Hid (∀ W, Calls Tryz.prog 75 #[.string (natS y)] W fun e w' => e = .returned (.bool true) ∧ Below W.heap.size W w') := fun W => nat_valid y W hy
  have HRX : Hid (∀ W, Calls Tryz.prog 84 #[.string (natS x)] W (LimPost W x)) := fun W => nat_read x W hx
  have HRY : Hid (∀ W, Calls Tryz.prog 84 #[.string (natS y)] W (LimPost W y)) := fun W => nat_read y W hy
  have HDV : Hid (∀ W u v, SliceOf vN 1 W u (lim x) → SliceOf vN 1 W v (lim y) → Calls Tryz.prog 85 #[u, v] W (DivPost W x y)) := fun W u v hu hv => by
    have := div_any (lim x) y u v W hu hv (by omega) (by omega) (lim_Lm x) hy0
    rw [lval_lim] at this
    exact this
  have HT : ∀ n, n < capN → Hid (∀ W v, SliceOf vN 1 W v (lim n) → LawW W → Calls Tryz.prog 86 #[v] W (OkPost W n)) := fun n hn W v hv hw =>
    (text_any n v W hv (by have := lim_cap hn; omega) hw).mono fun _ _ h => h.ok hn
  have HTQ := HT _ hq
  have HTR := HT _ hr
  have hne := natS_ne_zero hy0
  obtain ⟨sx, hsx⟩ : ∃ s, natS x = s := ⟨_, rfl⟩
  obtain ⟨sy, hsy⟩ : ∃ s, natS y = s := ⟨_, rfl⟩
  rw [hsx] at HVX HRX ⊢
  rw [hsy] at HVY HRY hne ⊢
  have hne1 : (sy.toList == [48]) = false := str_ne hne (by rfl)
  clear hx hy hw h1 h2 hsx hsy hy0 hq hr HT
  go_enter Tryz.func57, Tryz.ntmps57
  go_wp2_with fail
  refine (HVX.out _).mono ?_
  rintro e w1 ⟨rfl, hb1⟩
  have HB1 := hide hb1
  clear hb1
  go_wp2_with fail
  refine (HVY.out _).mono ?_
  rintro e w2 ⟨rfl, hb2⟩
  have HB2 := hide (bStep HB1.out hb2)
  clear hb2 HB1
  go_wp2_with fail
  refine (HRX.out _).mono ?_
  rintro e w3 ⟨v3, rfl, hs3, hb3⟩
  have HS3 := hide hs3
  have HB3 := hide (bStep HB2.out hb3)
  clear hs3 hb3 HB2
  go_wp2_with fail
  refine (HRY.out _).mono ?_
  rintro e w4 ⟨v4, rfl, hs4, hb4⟩
  have HS4 := hide hs4
  have HS34 := hide (HS3.out.below hb4)
  have HB4 := hide (bStep HB3.out hb4)
  clear hs4 hb4 HB3
  go_wp2_with fail
  refine (HDV.out _ _ _ HS34.out HS4.out).mono ?_
  rintro e w5 ⟨qv, rv, rfl, hs5, ht5, hb5⟩
  have HS5 := hide hs5
  have HT5 := hide ht5
  have HB5 := hide (bStep HB4.out hb5)
  have HW5 := hide (HW.out.below HB5.out)
  clear hs5 ht5 hb5 HB4
  go_wp2_with fail
  refine (HTQ.out _ _ HS5.out HW5.out).mono ?_
  rintro e w6 ⟨rfl, hb6⟩
  have HT6 := hide (HT5.out.below hb6)
  have HW6 := hide (HW5.out.below hb6)
  have HB6 := hide (bStep HB5.out hb6)
  clear hb6
  go_wp2_with fail
  refine (HTR.out _ _ HT6.out HW6.out).mono ?_
  rintro e w7 ⟨rfl, hb7⟩
  have HB7 := hide (bStep HB6.out hb7)
  clear hb7
  go_wp2_with fail
  go_ret3
  exact ⟨rfl, HB7.out⟩
/-! ### Int -/
end Go.Proofs.YtblpnekjnaaeoaaGreatDoor
namespace Go.Proofs.YtblpnekjnaaeoaaGreatDoor
open Go.RowKit

theorem lit_nat {b : ByteArray} {n : Nat} (h : vldN b = true) (hn : nval b.data.toList = n) : natS n = b := by
  rw [← hn]; exact vldN_natS h
theorem lit_cap {b : ByteArray} {n : Nat} (h : vldN b = true) (hn : nval b.data.toList = n) : n < capN := natS_vldN.1 (by rw [lit_nat h hn]; exact h)
end Go.Proofs.YtblpnekjnaaeoaaGreatDoor
namespace Go.Proofs.YtblpnekjnaaeoaaGreatDoor
open Go.RowKit

theorem capK_mul (a b : Nat) : capK a * capK b = capK (a + b) := by unfold capK; rw [Nat.pow_add]
theorem capK_le {a b : Nat} (h : a ≤ b) : capK a ≤ capK b := Nat.pow_le_pow_right (by decide) h
theorem capK_two (a : Nat) : capK a + capK a ≤ capK (a + 1) := by
  unfold capK; rw [Nat.pow_succ]; omega
theorem mul_capK {x y a b : Nat} (hx : x < capK a) (hy : y < capK b) : x * y < capK (a + b) := by
  rw [← capK_mul]
  exact Nat.mul_lt_mul_of_le_of_lt (Nat.le_of_lt hx) hy (Nat.lt_of_le_of_lt (Nat.zero_le _) hx)
theorem to_capN {x k : Nat} (h : x < capK k) (hk : k ≤ 1000) : x < capN := Nat.lt_of_lt_of_le h (capK_le hk)
end Go.Proofs.YtblpnekjnaaeoaaGreatDoor
namespace Go.Proofs.YtblpnekjnaaeoaaGreatDoor
open Go.Lib

end Go.Proofs.YtblpnekjnaaeoaaGreatDoor
