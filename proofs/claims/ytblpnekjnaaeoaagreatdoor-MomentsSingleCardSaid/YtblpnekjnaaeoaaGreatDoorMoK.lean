/- moments: Insert; IndexFunc of collect. -/
import Derived.Test.YtblpnekjnaaeoaaGreatDoorMoJ
set_option linter.unusedVariables false
set_option linter.unusedSimpArgs false
namespace Go.Proofs.YtblpnekjnaaeoaaGreatDoor
open Go.RowKit

theorem mo_insert (B n k H : Nat) (M : List (T3 × T3)) (p : T3 × T3) (hM : M.length = n) (hn : n ≤ 1000000) (hk : k ≤ n) (u : Value) (w : World) (hown : OwnS w B 6 u n (flatV vPr M)) (hp : LitP w H p) (hB : B ≤ w.heap.size) (hH : ∀ j, u.ownBlock = some j → H ≠ j) :
    Calls Tryz.prog 72 #[u, .int .i64 (k : Int), .slice (some ⟨H, 0, none⟩) 1 1] w fun x w' => ∃ g o cap, x = .returned (.slice (some ⟨g, o, none⟩) (n + 1) cap) ∧ OwnS w' B 6 (.slice (some ⟨g, o, none⟩) (n + 1) cap) (n + 1) (flatV vPr (M.take k ++ p :: M.drop k)) ∧ w.grownBy w' u.ownBlock ∧ Below B w w' ∧ (u.ownBlock = some g ∨ w.heap.size ≤ g) := by
  by_cases h : k = n
  · subst h
    exact mo_insert_end B k H M p hM hn u w hown hp hB
  · have hkn : k < n := by omega
    have hHlt : H < w.heap.size := World.block_lt_of_cell? _ _ (hp.cell 0 _ rfl)
    rcases hown.2 with ⟨ao, h1, h2, h3⟩ | ⟨g, off, cap, hv, hb, hlt, hnc, hm, hc, hx⟩
    · omega
    · have hHg := hH g (by rw [hv]; rfl)
      have ho : u.ownBlock = some g := by rw [hv]; rfl
      by_cases hr : n + 1 ≤ cap
      · have h4 := mo_insert_shift B n k H g off cap M p hM hkn hr hm w hb hlt hHg hc hx hp
        rw [ho, hv]
        refine h4.mono ?_
        rintro x w' ⟨rfl, h5, h6⟩
        exact ⟨_, _, _, rfl, h5, h6, (Below.refl B w).grown h6 hB (fun j hj => by injection hj with hj; omega), .inl rfl⟩
      · have h4 := mo_insert_grow B n k H g off cap M p hM hn hkn hnc (by omega) w hB hlt hHlt hx hp
        rw [ho, hv]
        refine h4.mono ?_
        rintro x w' ⟨g', o', cap', rfl, h5, h6, h7, h8⟩
        exact ⟨g', o', cap', rfl, h5, h6, h7, .inr h8⟩

def z3 : T3 := (false, ⟨#[48]⟩, ⟨#[49]⟩)
def isZ (p : T3 × T3) : Bool := decide (p.2 = z3)
set_option maxHeartbeats 2000000 in
set_option maxRecDepth 100000 in
theorem mo_isz (p : T3 × T3) (w : World) (hL : LawM w) :
    Calls Tryz.prog 74 #[.agg #[.bool p.1.1, .string p.1.2.1, .string p.1.2.2, .bool p.2.1, .string p.2.2.1, .string p.2.2.2]] w fun x w' => x = .returned (.bool (isZ p)) ∧ Below w.heap.size w w' := by
  have hba := bAlloc (Below.refl w.heap.size w) (.cells #[.bool p.1.1, .string p.1.2.1, .string p.1.2.2, .bool p.2.1, .string p.2.2.1, .string p.2.2.2] 41)
  have HB := hide hba
  obtain ⟨z0, z1, z2⟩ := (hL.below hba).2.1
  clear hba hL
  obtain ⟨⟨g1, s1, t1⟩, g2, s2, t2⟩ := p
  simp only at HB z0 z1 z2
  cases g2 with
  | true =>
    have HZ : Hid (isZ ((g1, s1, t1), true, s2, t2) = false) := decide_eq_false (fun h => by cases h)
    rw [HZ.out]
    go_enter Tryz.func74, Tryz.ntmps74
    go_wp2_with fail
    all_goals
      go_ret
      exact ⟨by first | rfl | simp, HB.out⟩
  | false =>
    by_cases h2 : s2 = ⟨#[48]⟩
    · subst h2
      by_cases h3 : t2 = ⟨#[49]⟩
      · subst h3
        have HZ : Hid (isZ ((g1, s1, t1), false, ⟨#[48]⟩, ⟨#[49]⟩) = true) := decide_eq_true rfl
        rw [HZ.out]
        go_enter Tryz.func74, Tryz.ntmps74
        go_wp2_with fail
        all_goals
          go_ret
          exact ⟨by first | rfl | simp, HB.out⟩
      · have HZ : Hid (isZ ((g1, s1, t1), false, ⟨#[48]⟩, t2) = false) := decide_eq_false (fun h => h3 (by injection h with _ h; injection h))
        rw [HZ.out]
        have e3 : (t2.toList == [49]) = false := str_ne h3 rfl
        have e3' : ¬ t2.toList = [49] := fun h => by simp [h] at e3
        clear h3
        go_enter Tryz.func74, Tryz.ntmps74
        go_wp2_with fail
        all_goals
          go_ret
          exact ⟨by first | rfl | simp, HB.out⟩
    · have HZ : Hid (isZ ((g1, s1, t1), false, s2, t2) = false) := decide_eq_false (fun h => h2 (by injection h with _ h; injection h))
      rw [HZ.out]
      have e3 : (s2.toList == [48]) = false := str_ne h2 rfl
      have e3' : ¬ s2.toList = [48] := fun h => by simp [h] at e3
      clear h2
      go_enter Tryz.func74, Tryz.ntmps74
      go_wp2_with fail
      all_goals
        go_ret
        exact ⟨by first | rfl | simp, HB.out⟩
def zIdx (M : List (T3 × T3)) (k : Nat) : Prop := k ≤ M.length ∧ (∀ j (h : j < M.length), j < k → isZ M[j] = false) ∧ ∀ h : k < M.length, isZ M[k] = true
set_option maxHeartbeats 4000000 in
set_option maxRecDepth 100000 in
theorem mo_index (M : List (T3 × T3)) (hn : M.length ≤ 1000000) (v : Value) (w : World) (hv : SliceOf vPr 6 w v M) (hL : LawM w) :
    Calls Tryz.prog 99 #[v, .func (.func 74) #[] #[]] w fun x w' => ∃ k, zIdx M k ∧ x = .returned (.int .i64 (if k < M.length then (k : Int) else -1)) ∧ Below w.heap.size w w' := by
  have HS := hide hv
  have HL := hide hL
  have hnI : (M.length : Int) ≤ 1000000 := by omega
  obtain ⟨ao, cp, rfl⟩ := hv.shape
  clear hv hL
  go_enter Tryz.func99, Tryz.ntmps99
  go_wp2_with fail
  go_loopw [8] (fun i wx => ∃ k : Nat, k ≤ M.length ∧ i = .int .i64 (k : Int) ∧ (∀ j (h : j < M.length), j < k → isZ M[j] = false) ∧ Below w.heap.size w wx) (fun i _ => M.length - (intOf i).toNat)
  case atStart => exact ⟨0, Nat.zero_le _, rfl, (fun j _ h => absurd h (Nat.not_lt_zero _)), Below.refl _ _⟩
  case round =>
    obtain ⟨k, hk, rfl, hall, hb⟩ := hrel
    have HA := hide hall
    have HB := hide hb
    clear hall hb
    by_cases hlt : k < M.length
    · have hki : (k : Int) < (M.length : Int) := by omega
      have hk0 : (0 : Int) ≤ (k : Int) := by omega
      obtain ⟨b, op, rfl, g1, g2, hp⟩ := HS.out.ptAt HB.out hlt
      have HP := hide hp
      obtain ⟨d0, d1, d2, d3, d4, d5⟩ := hp
      have HX := hide (mo_isz M[k] wr (HL.out.below HB.out))
      obtain ⟨q, hq⟩ : ∃ q, isZ M[k] = q := ⟨_, rfl⟩
      have HQ := hide hq
      rw [hq] at HX
      obtain ⟨p, hpe⟩ : ∃ p, M[k] = p := ⟨_, rfl⟩
      rw [hpe] at d0 d1 d2 d3 d4 d5 HX
      clear hq hpe
      go_upto_region 5 with fail
      all_goals (refine HX.out.mono ?_)
      all_goals
        rintro e w5 ⟨rfl, hb5⟩
        have HB5 := hide (bStepM HB.out hb5)
        clear hb5
        cases q with
        | true =>
          have HT : Hid (zIdx M k) := ⟨hk, HA.out, fun h => HQ.out⟩
          go_wp2_with fail
          go_ret
          exact ⟨k, HT.out, by rw [if_pos hlt]; rfl, HB5.out⟩
        | false =>
          have HN : Hid (∀ j (hj : j < M.length), j < k + 1 → isZ M[j] = false) := fun j hj h => by
            by_cases e : j = k
            · subst e; exact HQ.out
            · exact HA.out j hj (by omega)
          go_wp2_with fail
          go_roundw
          case rel => exact ⟨k + 1, by omega, by go_num, HN.out, HB5.out⟩
          case measure => (simp [intOf]; omega)
    · have hk' : k = M.length := by omega
      subst hk'
      have HT : Hid (zIdx M M.length) := ⟨Nat.le_refl _, HA.out, fun h => absurd h (by omega)⟩
      go_wp2_with fail
      go_ret
      exact ⟨M.length, HT.out, by rw [if_neg (by omega)]; rfl, HB.out⟩
end Go.Proofs.YtblpnekjnaaeoaaGreatDoor
