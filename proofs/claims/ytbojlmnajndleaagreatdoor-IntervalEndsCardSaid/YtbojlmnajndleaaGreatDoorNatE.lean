/- natural: mul. -/
import Derived.Test.YtbojlmnajndleaaGreatDoorNatD
set_option linter.unusedVariables false
set_option linter.unusedSimpArgs false
namespace Go.Proofs.YtbojlmnajndleaaGreatDoor
open Go.RowKit

/-- What 'append(make(limbs, i), x.times(y[i])...)' leaves. -/
structure PartP (w w' : World) (v : Value) (l : List Nat) : Prop where
  s : SliceOf vN 1 w' v l
  b : Below w.heap.size w w'
theorem part_of {w w5 w7 : World} {B i V cap g : Nat} {ao : Option Addr} {off cp n : Nat} (hb : Below w.heap.size w w5) (ho : OwnS w7 B 1 (.slice ao (i + (lim V).length) cap) (i + (lim V).length) (flatV vN (List.replicate i 0) ++ flatV vN (lim V)))
    (hg : w5.grownBy w7 (Value.slice (some ⟨g, off, none⟩) n cp).ownBlock) (hgB : w.heap.size ≤ g) : PartP w w7 (.slice ao (i + (lim V).length) cap) (List.replicate i 0 ++ lim V) := by
  refine ⟨OwnS.slice vN_len (B := B) ?_, hb.grown hg hb.size fun k hk => ?_⟩
  · rw [flatV_append, List.length_append, List.length_replicate]; exact ho
  · have : g = k := by simpa [Value.ownBlock] using hk
    omega
theorem lval_shift (i V : Nat) : lval (List.replicate i 0 ++ lim V) = Bs ^ i * V := by
  rw [lval_append, lval_zeros, lval_lim, List.length_replicate, Nat.zero_add]
theorem Lm.shift (i V : Nat) : Lm (List.replicate i 0 ++ lim V) := (Lm.zeros i).append (lim_Lm V)
theorem shift_len (i V : Nat) : (List.replicate i 0 ++ lim V).length = i + (lim V).length := by simp
theorem lim_mul_len {a y : Nat} (hy : y < 1000000000) : (lim (y * a)).length ≤ (lim a).length + 1 := by
  apply lim_len_le
  have := mul_lt (lim_Lm a) hy
  rw [lval_lim] at this
  exact this
theorem lim_prod_len (a : Nat) {m : List Nat} (hm : Lm m) : (lim (a * lval m)).length ≤ (lim a).length + m.length := by
  apply lim_len_le
  have h1 := lim_lt a
  have h2 := lval_lt hm
  rw [Nat.pow_add]
  exact Nat.mul_lt_mul_of_le_of_lt (Nat.le_of_lt h1) h2 (Bs_pow_pos _)
theorem bStep {w0 w1 w2 : World} (h : Below w0.heap.size w0 w1) (k : Below w1.heap.size w1 w2) : Below w0.heap.size w0 w2 := btrans h h.size k

set_option maxHeartbeats 4000000 in
set_option maxRecDepth 100000 in
theorem mul_any (a b : Nat) (u v : Value) (w : World) (hu : SliceOf vN 1 w u (lim a)) (hv : SliceOf vN 1 w v (lim b)) (ha : (lim a).length ≤ 100000) (hb : (lim b).length ≤ 100000) :
    Calls Tryz.prog 83 #[u, v] w (LimPost w (a * b)) := by
  have HHB : Hid (∀ k (h : k < (lim b).length), ∃ bb off cap, v = .slice (some ⟨bb, off, none⟩) (lim b).length cap ∧ w.cell? ⟨bb, off + k, none⟩ = some (.int .i64 ((lim b)[k] : Int))) := fun k h => by
    obtain ⟨bb, off, cap, e, _, _, _, hc⟩ := hv.some_of_pos (by omega)
    exact ⟨bb, off, cap, e, nat_cell hc h⟩
  have HU := hide hu
  obtain ⟨ao, cp, rfl⟩ := hu.shape
  obtain ⟨ao', cp', rfl⟩ := hv.shape
  clear hu hv
  obtain ⟨i0, hi, hz0, hz1, hz2⟩ := info_parts Tryz.infoInt
  have HI := hide hi
  have HZ0 := hide hz0
  have HZ1 := hide hz1
  have HZ2 := hide hz2
  clear hi hz0 hz1 hz2
  obtain ⟨n, hn⟩ : ∃ n, (lim b).length = n := ⟨_, rfl⟩
  have HN := hide hn
  rw [hn] at hb ⊢
  clear hn
  have H0 : Hid (SliceOf vN 1 w (.slice none 0 0) (lim (a * lval ((lim b).take 0)))) := by
    show SliceOf _ _ _ _ _
    rw [List.take_zero]
    show SliceOf vN 1 w _ (lim (a * 0))
    rw [Nat.mul_zero, lim_zero]; exact slice_nil w
  go_enter Tryz.func83, Tryz.ntmps83
  go_wp2_with fail
  go_loopw [5, 10] (fun z x wx => ∃ k : Nat, k ≤ n ∧ x = .int .i64 (k : Int) ∧ SliceOf vN 1 wx z (lim (a * lval ((lim b).take k))) ∧ Below w.heap.size w wx) (fun _ x _ => n - (intOf x).toNat)
  case atStart => exact ⟨0, Nat.zero_le _, rfl, H0.out, Below.refl _ _⟩
  case round =>
    obtain ⟨k, hk, rfl, hs, hbl⟩ := hrel
    have HS := hide hs
    have HB := hide hbl
    obtain ⟨zo, zc, rfl⟩ := hs.shape
    clear hs hbl H0
    by_cases hkn : k < n
    · have hkI : (k : Int) < (n : Int) := by omega
      have hk0 : (0 : Int) ≤ (k : Int) := by omega
      have hkb : k < (lim b).length := by have := HN.out; omega
      obtain ⟨b1, o1, cp1, e1, c1⟩ := HHB.out k hkb
      simp only [Value.slice.injEq] at e1
      obtain ⟨rfl, _, rfl⟩ := e1
      have hy : (lim b)[k] < 1000000000 := lim_Lm b _ (List.getElem_mem hkb)
      have HT : Hid (a * lval ((lim b).take (k + 1)) = a * lval ((lim b).take k) + Bs ^ k * ((lim b)[k] * a)) := by
        show _ = _
        rw [lval_take_succ hkb, Nat.mul_add, Nat.mul_comm a (Bs ^ k * _), Nat.mul_assoc]
      obtain ⟨y, hye⟩ : ∃ y, (lim b)[k] = y := ⟨_, rfl⟩
      rw [hye] at c1 hy HT
      clear hye
      have c1' := keep_cell HB.out c1
      have HC1 : Hid (∀ W, Below wr.heap.size wr W → W.cell? ⟨b1, o1 + k, none⟩ = some (.int .i64 (y : Int))) := fun W hW => keep_cell hW c1'
      have HA := hide (HU.out.below HB.out)
      have hLL : (lim (y * a)).length ≤ (lim a).length + 1 := lim_mul_len hy
      have hmk := run_make_row' (P := Tryz.prog) 79 3 (.int .i64 0) 8 Tryz.underlying79 Tryz.infoInt rfl .i64 .i64 k (by omega) (by omega)
      have HMK := hide (OwnS.made0 wr k 3 (by unfold maxLen; omega))
      have hx63 : k + (lim (y * a)).length ≤ maxLen := by unfold maxLen; omega
      have hxby : (k + (lim (y * a)).length) * 8 ≤ 140737488355328 := by omega
      have hkm : k ≤ maxLen := by unfold maxLen; omega
      have hla9 : (lim a).length ≤ 900000 := by omega
      have HX63 := hide hx63
      have HXBY := hide hxby
      have HKM := hide hkm
      clear hx63 hxby hkm c1
      have HLY : Hid (y * lval (lim a) = y * a) := by show _ = _; rw [lval_lim]
      go_wp2_with fail
      go_region_held3 (fun w' => w'.cell? ⟨b1, o1 + k, none⟩ = some (.int .i64 (y : Int)))
        (first | exact HC1.out _ HP.out.b | exact HC1.out _ (bAlloc HB5.out _) | exact HC1.out _ HB5.out | exact HC1.out _ (bDraw (Below.refl _ wr)) | exact HC1.out _ (bAlloc (bDraw (Below.refl _ wr)) _))
        ((first
          | (go_at_call 101; refine (times_any (lim a) _ y _ (by first | exact HA.out.below (bDraw (Below.refl _ wr)) | exact HA.out.below (bAlloc (bDraw (Below.refl _ wr)) _)) hla9 (lim_Lm a) hy).mono ?_; rintro e w5 ⟨v5, rfl, hs5, hb5, _⟩; rw [HLY.out] at hs5; have HS5 := hide hs5; have HBB5 := hide hb5; have HB5 : Hid (Below wr.heap.size wr w5) := (by first | exact bStep (bDraw (Below.refl _ wr)) hb5 | exact bStep (bAlloc (bDraw (Below.refl _ wr)) _) hb5); clear hs5 hb5)
          | (refine step_append_slice rfl _ _ 79 rfl wr.heap.size 3 i0 (.int .i64 0) 1 8 Tryz.underlying79 HI.out HZ0.out HZ1.out HZ2.out rfl (by decide) vN_len vN_one _ k (flatV vN (List.replicate k 0)) rfl (by first | exact HMK.out.drew.below HBB5.out | exact HMK.out.below HBB5.out) _ (lim (y * a)) rfl HS5.out HX63.out HXBY.out HB5.out.size ?_; intro ao2 cap2 w7 hown7 hg7; have HP := hide (part_of HB5.out hown7 hg7 (Nat.le_refl _)); clear hown7 hg7)
          | (refine step_append_slice rfl _ _ 79 rfl w5.heap.size 3 i0 (.int .i64 0) 1 8 Tryz.underlying79 HI.out HZ0.out HZ1.out HZ2.out rfl (by decide) vN_len vN_one _ k (flatV vN (List.replicate k 0)) rfl (OwnS.made0 w5 k _ HKM.out) _ (lim (y * a)) rfl (HS5.out.below (bAlloc (Below.refl _ w5) _)) HX63.out HXBY.out (by simp) ?_; intro ao2 cap2 w7 hown7 hg7; have HP := hide (part_of (bAlloc HB5.out _) hown7 hg7 HB5.out.size); clear hown7 hg7)))
      all_goals
        have HSS := hide (HS.out.below HP.out.b)
        have HPS := hide HP.out.s
        have HB7 := hide (bStep HB.out HP.out.b)
        have hlen1 : (lim (a * lval ((lim b).take k))).length ≤ 900000 := by
          have h1 := lim_prod_len a ((lim_Lm b).take k)
          have h2 : ((lim b).take k).length ≤ k := List.length_take_le _ _
          omega
        have hlen2 : (List.replicate k 0 ++ lim (y * a)).length ≤ 900000 := by rw [shift_len]; omega
        have HV : Hid (lval (lim (a * lval ((lim b).take k))) + lval (List.replicate k 0 ++ lim (y * a)) = a * lval ((lim b).take (k + 1))) := by
          show _ = _
          rw [lval_lim, lval_shift, HT.out]
        clear HP HB5 HBB5 HS5 HMK hmk
        go_wp2_with fail
        refine (add_any _ _ _ _ _ HSS.out HPS.out hlen1 hlen2 (lim_Lm _) (Lm.shift k (y * a))).mono ?_
        rintro e w8 ⟨v8, rfl, hs8, hb8, _⟩
        rw [HV.out] at hs8
        have HS8 := hide hs8
        have HB8 := hide (bStep HB7.out hb8)
        clear hs8 hb8
        go_wp2_with fail
        go_roundw
        case rel => exact ⟨k + 1, by omega, by go_num, HS8.out, HB8.out⟩
        case measure => (simp [intOf]; try omega)
    · obtain rfl : k = n := by omega
      have HV : Hid (lval (lim (a * lval ((lim b).take k))) = a * b) := by
        show _ = _
        rw [lval_lim, List.take_of_length_le (by have := HN.out; omega), lval_lim]
      have hlen1 : (lim (a * lval ((lim b).take k))).length ≤ 1000000 := by
        have h1 := lim_prod_len a ((lim_Lm b).take k)
        have h2 : ((lim b).take k).length ≤ k := List.length_take_le _ _
        omega
      go_wp2_with fail
      refine (trimmed_any _ _ _ HS.out hlen1 (lim_Lm _)).mono ?_
      rintro e w1 ⟨⟨v', rfl, hs, _⟩, rfl⟩
      rw [HV.out] at hs
      have HS2 := hide hs
      clear hs
      go_wp2_with fail
      go_ret
      exact ⟨_, rfl, HS2.out, HB.out⟩
end Go.Proofs.YtbojlmnajndleaaGreatDoor
