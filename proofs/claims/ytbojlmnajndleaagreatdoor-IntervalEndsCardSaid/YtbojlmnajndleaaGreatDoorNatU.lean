/- natural: the exported functions. -/
import Derived.Test.YtbojlmnajndleaaGreatDoorNatT
import Derived.Deep.LoopGhost
set_option linter.unusedVariables false
set_option linter.unusedSimpArgs false
namespace Go.Proofs.YtbojlmnajndleaaGreatDoor
open Go.RowKit

theorem capK_Bs {k j : Nat} (h : k ≤ 9 * j) : capK k ≤ Bs ^ j := by
  unfold capK
  rw [Bs_ten]
  exact Nat.pow_le_pow_right (by decide) h
theorem capN_Bs : capN ≤ Bs ^ 112 := capK_Bs (by decide)
theorem lim_cap {n : Nat} (h : n < capN) : (lim n).length ≤ 112 := lim_len_le (Nat.lt_of_lt_of_le h capN_Bs)
theorem nat_read (n : Nat) (w : World) (h : n < capN) : Calls Tryz.prog 65 #[.string (natS n)] w (LimPost w n) := by
  have h1 := capN_len.2 h
  have := read_any (natS n) w (by rw [natS_size]; omega) (fun b hb => dec_digit n b (by rw [← natS_toList]; exact hb))
  rw [natS_toList, nval_dec] at this
  exact this
theorem nat_valid (n : Nat) (w : World) (h : n < capN) : Calls Tryz.prog 57 #[.string (natS n)] w fun e w' => e = .returned (.bool true) ∧ Below w.heap.size w w' := by
  have h1 := capN_len.2 h
  have := valid_any (natS n) w (by rw [natS_size]; unfold maxLen; omega)
  rw [natS_vldN.2 h] at this
  exact this
theorem bad_valid (s : ByteArray) (w : World) (hs : s.size ≤ maxLen) (h : vldN s = false) : Calls Tryz.prog 57 #[.string s] w fun e w' => e = .returned (.bool false) ∧ Below w.heap.size w w' := by
  have := valid_any s w hs
  rw [h] at this
  exact this
def ArgPost (w : World) (e : Ending) (w' : World) : Prop := e = .returned (.tuple #[.string ⟨#[]⟩, .int .i64 1]) ∧ Below w.heap.size w w'
/-- One of two strings is no natural number. -/
def bad2 (a b : ByteArray) : Prop := vldN a = false ∨ (vldN a = true ∧ vldN b = false)
theorem good_or_bad (a b : ByteArray) : (∃ x y, x < capN ∧ y < capN ∧ a = natS x ∧ b = natS y) ∨ bad2 a b := by
  cases ha : vldN a with
  | false => exact .inr (.inl ha)
  | true =>
    cases hb : vldN b with
    | false => exact .inr (.inr ⟨ha, hb⟩)
    | true =>
      obtain ⟨x, hx, rfl⟩ := vldN_obtain ha
      obtain ⟨y, hy, rfl⟩ := vldN_obtain hb
      exact .inl ⟨x, y, hx, hy, rfl, rfl⟩
theorem bad2_or {a b : ByteArray} (h : vldN a = false ∨ vldN b = false) : bad2 a b := by
  cases ha : vldN a with
  | false => exact .inl ha
  | true =>
    rcases h with h | h
    · rw [ha] at h; cases h
    · exact .inr ⟨ha, h⟩

set_option maxHeartbeats 1000000 in
set_option maxRecDepth 100000 in
theorem both_ok (F : FuncId) (x y V : Nat) (w : World) (hx : x < capN) (hy : y < capN) (hV : (lim V).length ≤ 100000) (hw : LawW w)
    (hE : ∀ args w, (callFunc F args).run Tryz.prog w = .ok (.enter F args) w)
    (hF : ∀ u v w', SliceOf vN 1 w' u (lim x) → SliceOf vN 1 w' v (lim y) → Calls Tryz.prog F #[u, v] w' (LimPost w' V)) :
    Calls Tryz.prog 67 #[.string (natS x), .string (natS y), .func (.func F) #[] #[]] w (TextPost w V) := by
  have HW := hide hw
  have HF := hide hF
  have HX := hide hx
  have HY := hide hy
  obtain ⟨sx, hsx⟩ : ∃ s, natS x = s := ⟨_, rfl⟩
  obtain ⟨sy, hsy⟩ : ∃ s, natS y = s := ⟨_, rfl⟩
  have HSX := hide hsx
  have HSY := hide hsy
  rw [hsx, hsy]
  clear hw hF hx hy hsx hsy
  go_enter Tryz.func67, Tryz.ntmps67
  go_wp2_with fail
  refine ((by rw [← HSX.out]; exact nat_valid x _ HX.out) : Calls _ _ #[.string sx] _ _).mono ?_
  rintro e w1 ⟨rfl, hb1⟩
  have HB1 := hide hb1
  clear hb1
  go_wp2_with fail
  refine ((by rw [← HSY.out]; exact nat_valid y _ HY.out) : Calls _ _ #[.string sy] _ _).mono ?_
  rintro e w2 ⟨rfl, hb2⟩
  have HB2 := hide (bStep HB1.out hb2)
  clear hb2 HB1
  go_wp2_with fail
  refine ((by rw [← HSX.out]; exact nat_read x _ HX.out) : Calls _ _ #[.string sx] _ _).mono ?_
  rintro e w3 ⟨v3, rfl, hs3, hb3⟩
  have HS3 := hide hs3
  have HB3 := hide (bStep HB2.out hb3)
  clear hs3 hb3 HB2
  go_wp2_with fail
  refine ((by rw [← HSY.out]; exact nat_read y _ HY.out) : Calls _ _ #[.string sy] _ _).mono ?_
  rintro e w4 ⟨v4, rfl, hs4, hb4⟩
  have HS4 := hide hs4
  have HS34 := hide (HS3.out.below hb4)
  have HB4 := hide (bStep HB3.out hb4)
  clear hs4 hb4 HB3
  go_wp2_with fail
  refine (HF.out _ _ _ HS34.out HS4.out).mono ?_
  rintro e w5 ⟨v5, rfl, hs5, hb5⟩
  have HS5 := hide hs5
  have HB5 := hide (bStep HB4.out hb5)
  have HW5 := hide (HW.out.below HB5.out)
  clear hs5 hb5 HB4
  go_wp2_with fail
  refine (text_any V _ _ HS5.out hV HW5.out).mono ?_
  rintro e w6 ⟨hb6, h6⟩
  have HB6 := hide (bStep HB5.out hb6)
  rcases h6 with ⟨h6, rfl⟩ | ⟨h6, rfl⟩
  · have H6 := hide h6
    clear h6 hb6
    go_wp2_with fail
    go_ret2
    exact ⟨HB6.out, .inl ⟨H6.out, rfl⟩⟩
  · have H6 := hide h6
    clear h6 hb6
    go_wp2_with fail
    go_ret2
    exact ⟨HB6.out, .inr ⟨H6.out, rfl⟩⟩

set_option maxHeartbeats 1000000 in
set_option maxRecDepth 100000 in
theorem both_bad (f : Value) (a b : ByteArray) (w : World) (ha : a.size ≤ maxLen) (hb : b.size ≤ maxLen) (h : bad2 a b) :
    Calls Tryz.prog 67 #[.string a, .string b, f] w (ArgPost w) := by
  rcases h with h | ⟨h, h'⟩
  · have H := hide h
    clear h
    go_enter Tryz.func67, Tryz.ntmps67
    go_wp2_with fail
    refine (bad_valid a _ ha H.out).mono ?_
    rintro e w1 ⟨rfl, hb1⟩
    have HB1 := hide hb1
    clear hb1
    go_wp2_with fail
    go_ret2
    exact ⟨rfl, HB1.out⟩
  · have H := hide h
    have H' := hide h'
    clear h h'
    go_enter Tryz.func67, Tryz.ntmps67
    go_wp2_with fail
    refine ((valid_any a _ ha)).mono ?_
    rintro e w1 ⟨rfl, hb1⟩
    rw [H.out]
    have HB1 := hide hb1
    clear hb1
    go_wp2_with fail
    refine (bad_valid b _ hb H'.out).mono ?_
    rintro e w2 ⟨rfl, hb2⟩
    have HB2 := hide (bStep HB1.out hb2)
    clear hb2
    go_wp2_with fail
    go_ret2
    exact ⟨rfl, HB2.out⟩

set_option maxHeartbeats 1000000 in
set_option maxRecDepth 100000 in
theorem gcdf_any (a b : Nat) (u v : Value) (w : World) (hu : SliceOf vN 1 w u (lim a)) (hv : SliceOf vN 1 w v (lim b)) (ha : (lim a).length ≤ 50000) (hb : (lim b).length ≤ 50000) :
    Calls Tryz.prog 79 #[u, v] w (LimPost w (Nat.gcd a b)) := by
  have HU := hide hu
  have HV := hide hv
  obtain ⟨ao, cp, rfl⟩ := hu.shape
  obtain ⟨bo, cq, rfl⟩ := hv.shape
  clear hu hv
  have HA := hide ha
  have HB := hide hb
  obtain ⟨m, hm⟩ : ∃ m, (lim a).length = m := ⟨_, rfl⟩
  obtain ⟨n, hn⟩ : ∃ m, (lim b).length = m := ⟨_, rfl⟩
  have HM := hide hm
  have HN := hide hn
  rw [hm, hn]
  clear hm hn ha hb
  go_enter Tryz.func79, Tryz.ntmps79
  go_wp2_with fail
  go_loopg [0, 1] b (fun g x y wx => ∃ p q : Nat, g = q ∧ SliceOf vN 1 wx x (lim p) ∧ SliceOf vN 1 wx y (lim q) ∧ Nat.gcd p q = Nat.gcd a b ∧ (lim p).length ≤ 50000 ∧ (lim q).length ≤ 50000 ∧ Below w.heap.size w wx)
  case atStart => exact ⟨a, b, rfl, by rw [← HM.out]; exact HU.out, by rw [← HN.out]; exact HV.out, rfl, HA.out, HB.out, Below.refl _ _⟩
  case round =>
    obtain ⟨p, q, rfl, hx, hy, hg, hp, hq, hbl⟩ := hrel
    have HX := hide hx
    have HY := hide hy
    have HG := hide hg
    have HBL := hide hbl
    obtain ⟨xo, xc, rfl⟩ := hx.shape
    obtain ⟨yo, yc, rfl⟩ := hy.shape
    clear hx hy hg hbl HU HV
    by_cases h0 : gk = 0
    · subst h0
      have hl0 : (lim 0).length = 0 := by rw [lim_zero]; rfl
      rw [hl0]
      rw [Nat.gcd_zero_right] at HG
      clear hl0
      go_wp2_with fail
      go_ret
      exact ⟨_, rfl, by rw [← HG.out]; exact HX.out, HBL.out⟩
    · have hpos : 0 < (lim gk).length := by rw [lim_step h0]; simp
      have hposI : (0 : Int) < ((lim gk).length : Int) := by omega
      have HP := hide hp
      have HQ := hide hq
      go_wp2_with fail
      refine (div_any (lim p) gk _ _ _ HX.out HY.out (by omega) (by omega) (lim_Lm p) (by omega)).mono ?_
      rintro e w1 ⟨qv, rv, rfl, _, hr, hb1⟩
      rw [lval_lim] at hr
      have HR := hide hr
      have HY1 := hide (HY.out.below hb1)
      have HB1 := hide (bStep HBL.out hb1)
      clear hr hb1
      have HGG : Hid (Nat.gcd gk (p % gk) = Nat.gcd a b) := by
        show _ = _
        rw [← HG.out, Nat.gcd_comm p gk, Nat.gcd_rec gk p, Nat.gcd_comm]
      have HLT : Hid (p % gk < gk) := Nat.mod_lt _ (by omega)
      have HLL : Hid ((lim (p % gk)).length ≤ 50000) := Nat.le_trans (lim_len_mono (Nat.le_of_lt HLT.out)) HQ.out
      go_wp2_with fail
      go_roundg (p % gk)
      case measure => exact HLT.out
      case rel => exact ⟨gk, p % gk, rfl, HY1.out, HR.out, HGG.out, HQ.out, HLL.out, HB1.out⟩
end Go.Proofs.YtbojlmnajndleaaGreatDoor
