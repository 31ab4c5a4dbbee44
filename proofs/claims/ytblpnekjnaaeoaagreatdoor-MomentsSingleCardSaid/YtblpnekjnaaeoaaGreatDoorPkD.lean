/- NatD, NatE, NatF, NatG in one text. -/
import Derived.Test.YtblpnekjnaaeoaaGreatDoorNatC
import Derived.Shelf.Abstract
set_option linter.unusedVariables false
set_option linter.unusedSimpArgs false
namespace Go.Proofs.YtblpnekjnaaeoaaGreatDoor
open Go.RowKit

theorem collect_at (F : FuncId) (c1 c2 : Value) (f : Nat → Int) (z : Int) (n V : Nat) (w : World) (hz : z = (n : Int)) (hn : n ≤ 1000000)
    (hE : ∀ args w, (callFunc F args).run Tryz.prog w = .ok (.enter F args) w)
    (hF : ∀ i w', i < n → Below w.heap.size w w' → Calls Tryz.prog F #[.int .i64 (i : Int), c1, c2] w' fun e w'' => e = .returned (.int .i64 (f i)) ∧ ∃ m, w'.drewN m = w'')
    (hf0 : ∀ i, i < n → -2000000000000000000 ≤ f i) (hf1 : ∀ i, i < n → f i ≤ 2000000000000000000) (hV : sumB f n = (V : Int)) (hlt : V < Bs ^ n) :
    Calls Tryz.prog 116 #[.int .i64 z, .func (.func F) #[] #[c1, c2]] w (LimF w V) := by
  subst hz; exact collect_any F c1 c2 f n V w hn hE hF hf0 hf1 hV hlt
theorem LimF.from {w w1 : World} {V : Nat} (hb : Below w.heap.size w w1) {e : Ending} {w' : World} (h : LimF w1 V e w') : LimF w V e w' := by
  obtain ⟨v, he, hs, h2, h3⟩ := h
  exact ⟨v, he, hs, hb.trans (h2.mono hb.size), fun k hk => Nat.le_trans hb.size (h3 k hk)⟩
theorem two_boxes (w : World) (o1 o2 : Obj) : Below w.heap.size w ((w.alloc o1).alloc o2) := ((Below.refl _ w).alloc (Nat.le_refl _) _).alloc (by simp) _
theorem box_cell1 (w : World) (u : Value) (T : TypeId) (o : Obj) : ((w.alloc (.cells #[u] T)).alloc o).cell? ⟨w.heap.size, 0, none⟩ = some u := by
  rw [World.cell?_alloc_lt _ _ _ (by simp), World.cell?_alloc_at _ _ _ _ rfl]; rfl
theorem box_cell2 (w : World) (u : Value) (T : TypeId) (o : Obj) : ((w.alloc o).alloc (.cells #[u] T)).cell? ⟨w.heap.size + 1, 0, none⟩ = some u := by
  rw [World.cell?_alloc_at _ _ _ _ (by simp)]; rfl
theorem add_lt {l m : List Nat} (hl : Lm l) (hm : Lm m) {n : Nat} (h1 : l.length ≤ n) (h2 : m.length ≤ n) : lval l + lval m < Bs ^ (n + 1) := by
  have a := lval_lt hl
  have b := lval_lt hm
  have c : Bs ^ l.length ≤ Bs ^ n := Nat.pow_le_pow_right Bs_pos h1
  have d : Bs ^ m.length ≤ Bs ^ n := Nat.pow_le_pow_right Bs_pos h2
  rw [Nat.pow_succ, Bs_eq] at *
  omega
theorem sum_add (l m : List Nat) {n : Nat} (h1 : l.length ≤ n) (h2 : m.length ≤ n) : sumB (fun i => limbN l i + limbN m i) n = ((lval l + lval m : Nat) : Int) := by
  rw [sumB_add, sumB_all h1, sumB_all h2]; simp

set_option maxHeartbeats 1000000 in
set_option maxRecDepth 100000 in
theorem add_any (l m : List Nat) (u v : Value) (w : World) (hu : SliceOf vN 1 w u l) (hv : SliceOf vN 1 w v m) (hl : l.length ≤ 900000) (hm : m.length ≤ 900000) (hL : Lm l) (hM : Lm m) :
    Calls Tryz.prog 115 #[u, v] w (LimF w (lval l + lval m)) := by
  have HC : ∀ (z : Int) (n : Nat), z = (n : Int) + 1 → l.length ≤ n → m.length ≤ n → n ≤ 900000 →
      Calls Tryz.prog 116 #[.int .i64 z, .func (.func 142) #[] #[.pointer (some ⟨w.heap.size, 0, none⟩), .pointer (some ⟨w.heap.size + 1, 0, none⟩)]]
        ((w.alloc (.cells #[u] 103)).alloc (.cells #[v] 103)) (LimF w (lval l + lval m)) := by
    intro z n hz h1 h2 h3
    refine (collect_at 142 _ _ (fun i => limbN l i + limbN m i) z (n + 1) (lval l + lval m) _ (by rw [hz]; simp) (by omega) (enters_of Tryz.func142 (by kernel_rfl) rfl) ?_ (fun i _ => ?_) (fun i _ => ?_) (sum_add l m (by omega) (by omega)) (add_lt hL hM h1 h2)).mono ?_
    · intro i w' hi hb
      have hb0 := (two_boxes w (.cells #[u] 103) (.cells #[v] 103)).trans (hb.mono (by simp; omega))
      exact addf_any l m u v i _ _ w' (hu.below hb0) (hv.below hb0) (by omega) (by omega) (by omega) hL hM (keep_cell hb (box_cell1 w u _ _)) (keep_cell hb (box_cell2 w v _ _))
    · have := limbN_bd hL i; have := limbN_bd hM i; omega
    · have := limbN_bd hL i; have := limbN_bd hM i; omega
    · intro e w' h
      exact LimF.from (two_boxes w _ _) h
  have HHC := hide HC
  clear HC
  obtain ⟨ao, cp, rfl⟩ := hu.shape
  obtain ⟨ao', cp', rfl⟩ := hv.shape
  clear hu hv hL hM
  rcases Nat.lt_trichotomy l.length m.length with h | h | h
  · have h1 : (l.length : Int) < (m.length : Int) := by omega
    have q1 : IntKind.i64.wrap ((m.length : Int) + 1) = (m.length : Int) + 1 := IntWalk.i64_in _ (by omega)
    go_enter Tryz.func115, Tryz.ntmps115
    go_wp2_with fail
    refine (HHC.out _ m.length rfl (by omega) (by omega) hm).mono ?_
    rintro e w1 ⟨v', rfl, hs, hb, hf⟩
    have HS := hide hs
    have HB := hide hb
    have HF := hide hf
    clear hs hb hf
    go_wp2_with fail
    go_ret
    exact ⟨_, rfl, HS.out, HB.out, HF.out⟩
  · have HLM := hide h
    have q1 : IntKind.i64.wrap ((m.length : Int) + 1) = (m.length : Int) + 1 := IntWalk.i64_in _ (by omega)
    have h1 : (l.length : Int) ≤ (m.length : Int) := by omega
    have h2 : (m.length : Int) ≤ (l.length : Int) := by omega
    rw [h] at HHC hl ⊢
    clear h
    go_enter Tryz.func115, Tryz.ntmps115
    go_wp2_with fail
    refine (HHC.out _ m.length rfl (by omega) (by omega) hm).mono ?_
    rintro e w1 ⟨v', rfl, hs, hb, hf⟩
    have HS := hide hs
    have HB := hide hb
    have HF := hide hf
    clear hs hb hf
    go_wp2_with fail
    go_ret
    exact ⟨_, rfl, HS.out, HB.out, HF.out⟩
  · have h1 : (m.length : Int) < (l.length : Int) := by omega
    have q1 : IntKind.i64.wrap ((l.length : Int) + 1) = (l.length : Int) + 1 := IntWalk.i64_in _ (by omega)
    go_enter Tryz.func115, Tryz.ntmps115
    go_wp2_with fail
    refine (HHC.out _ l.length rfl (by omega) (by omega) hl).mono ?_
    rintro e w1 ⟨v', rfl, hs, hb, hf⟩
    have HS := hide hs
    have HB := hide hb
    have HF := hide hf
    clear hs hb hf
    go_wp2_with fail
    go_ret
    exact ⟨_, rfl, HS.out, HB.out, HF.out⟩
theorem sum_sub (l m : List Nat) (h2 : m.length ≤ l.length) (h : lval m ≤ lval l) : sumB (fun i => limbN l i - limbN m i) l.length = ((lval l - lval m : Nat) : Int) := by
  rw [sumB_sub, sumB_all (Nat.le_refl _), sumB_all h2]; omega
set_option maxHeartbeats 1000000 in
set_option maxRecDepth 100000 in
theorem sub_any (l m : List Nat) (u v : Value) (w : World) (hu : SliceOf vN 1 w u l) (hv : SliceOf vN 1 w v m) (hl : l.length ≤ 900000) (hm : m.length ≤ l.length) (hL : Lm l) (hM : Lm m) (hle : lval m ≤ lval l) :
    Calls Tryz.prog 91 #[u, v] w (LimF w (lval l - lval m)) := by
  have HC : Calls Tryz.prog 116 #[.int .i64 (l.length : Int), .func (.func 117) #[] #[.pointer (some ⟨w.heap.size, 0, none⟩), .pointer (some ⟨w.heap.size + 1, 0, none⟩)]]
        ((w.alloc (.cells #[u] 103)).alloc (.cells #[v] 103)) (LimF w (lval l - lval m)) := by
    refine (collect_at 117 _ _ (fun i => limbN l i - limbN m i) _ l.length (lval l - lval m) _ rfl (by omega) (enters_of Tryz.func117 (by kernel_rfl) rfl) ?_ (fun i _ => ?_) (fun i _ => ?_) (sum_sub l m hm hle) (by have := lval_lt hL; omega)).mono ?_
    · intro i w' hi hb
      have hb0 := (two_boxes w (.cells #[u] 103) (.cells #[v] 103)).trans (hb.mono (by simp; omega))
      exact subf_any l m u v i _ _ w' (hu.below hb0) (hv.below hb0) (by omega) (by omega) hi hL hM (keep_cell hb (box_cell1 w u _ _)) (keep_cell hb (box_cell2 w v _ _))
    · have := limbN_bd hL i; have := limbN_bd hM i; omega
    · have := limbN_bd hL i; have := limbN_bd hM i; omega
    · intro e w' h
      exact LimF.from (two_boxes w _ _) h
  have HHC := hide HC
  clear HC
  obtain ⟨ao, cp, rfl⟩ := hu.shape
  obtain ⟨ao', cp', rfl⟩ := hv.shape
  clear hu hv hL hM
  go_enter Tryz.func91, Tryz.ntmps91
  go_wp2_with fail
  refine HHC.out.mono ?_
  rintro e w1 ⟨v', rfl, hs, hb, hf⟩
  have HS := hide hs
  have HB := hide hb
  have HF := hide hf
  clear hs hb hf
  go_wp2_with fail
  go_ret
  exact ⟨_, rfl, HS.out, HB.out, HF.out⟩
theorem mul_lt {l : List Nat} (hl : Lm l) {q : Nat} (hq : q < 1000000000) : q * lval l < Bs ^ (l.length + 1) := by
  have a := lval_lt hl
  have b : q * lval l ≤ q * Bs ^ l.length := Nat.mul_le_mul_left _ (by omega)
  have c : q * Bs ^ l.length < 1000000000 * Bs ^ l.length := Nat.mul_lt_mul_of_pos_right hq (Bs_pow_pos _)
  rw [Nat.pow_succ, Bs_eq, Nat.mul_comm (1000000000 ^ l.length)]
  rw [Bs_eq] at b c
  omega
theorem sum_mul (l : List Nat) (q : Nat) {n : Nat} (h1 : l.length ≤ n) : sumB (fun i => (q : Int) * limbN l i) n = ((q * lval l : Nat) : Int) := by
  rw [sumB_mul, sumB_all h1]; simp
set_option maxHeartbeats 1000000 in
set_option maxRecDepth 100000 in
theorem times_any (l : List Nat) (u : Value) (q : Nat) (w : World) (hu : SliceOf vN 1 w u l) (hl : l.length ≤ 900000) (hL : Lm l) (hq : q < 1000000000) :
    Calls Tryz.prog 108 #[u, .int .i64 (q : Int)] w (LimF w (q * lval l)) := by
  have HC : Calls Tryz.prog 116 #[.int .i64 ((l.length : Int) + 1), .func (.func 136) #[] #[.pointer (some ⟨w.heap.size + 1, 0, none⟩), .pointer (some ⟨w.heap.size, 0, none⟩)]]
        ((w.alloc (.cells #[u] 103)).alloc (.cells #[.int .i64 (q : Int)] 3)) (LimF w (q * lval l)) := by
    refine (collect_at 136 _ _ (fun i => (q : Int) * limbN l i) _ (l.length + 1) (q * lval l) _ (by simp) (by omega) (enters_of Tryz.func136 (by kernel_rfl) rfl) ?_ (fun i _ => ?_) (fun i _ => ?_) (sum_mul l q (by omega)) (mul_lt hL hq)).mono ?_
    · intro i w' hi hb
      have hb0 := (two_boxes w (.cells #[u] 103) (.cells #[.int .i64 (q : Int)] 3)).trans (hb.mono (by simp; omega))
      exact timesf_any l u q i _ _ w' (hu.below hb0) (by omega) (by omega) hL hq (keep_cell hb (box_cell2 w (.int .i64 (q : Int)) _ _)) (keep_cell hb (box_cell1 w u _ _))
    · have q1 := limbN_bd hL i
      have h3 : 0 ≤ (q : Int) * limbN l i := Int.mul_nonneg (by omega) q1.1
      omega
    · have q1 := limbN_bd hL i
      have h4 : (q : Int) * limbN l i ≤ 1000000000 * 1000000000 := Int.mul_le_mul (by omega) (by omega) q1.1 (by omega)
      omega
    · intro e w' h
      exact LimF.from (two_boxes w _ _) h
  have HHC := hide HC
  clear HC
  obtain ⟨ao, cp, rfl⟩ := hu.shape
  clear hu hL
  have q1 : IntKind.i64.wrap ((l.length : Int) + 1) = (l.length : Int) + 1 := IntWalk.i64_in _ (by omega)
  go_enter Tryz.func108, Tryz.ntmps108
  go_wp2_with fail
  refine HHC.out.mono ?_
  rintro e w1 ⟨v', rfl, hs, hb, hf⟩
  have HS := hide hs
  have HB := hide hb
  have HF := hide hf
  clear hs hb hf
  go_wp2_with fail
  go_ret
  exact ⟨_, rfl, HS.out, HB.out, HF.out⟩
end Go.Proofs.YtblpnekjnaaeoaaGreatDoor
namespace Go.Proofs.YtblpnekjnaaeoaaGreatDoor
open Go.RowKit

/-- What 'append(make(limbs, i), x.times(y[i])...)' leaves. -/
structure PartP (w w' : World) (v : Value) (l : List Nat) : Prop where
  s : SliceOf vN 1 w' v l
  b : Below w.heap.size w w'
theorem part_of {w w5 w7 : World} {B i V cap g : Nat} {ao : Option Addr} {off cp n : Nat} (hb : Below w.heap.size w w5) (ho : OwnS w7 B 1 (.slice ao (i + (lim V).length) cap) (i + (lim V).length) (flatV vN (List.replicate i 0) ++ flatV vN (lim V)))
    (hg : w5.grownBy w7 (Value.slice (some ⟨g, off, none⟩) n cp).ownBlock) (hgB : w.heap.size ≤ g) : PartP w w7 (.slice ao (i + (lim V).length) cap) (List.replicate i 0 ++ lim V) := by
  refine ⟨OwnS.slice vN_len (B := B) ?_, hb.grown hg hb.size fun k hk => ?_⟩
  · rw [flatV_append, List.length_append, List.length_replicate]; exact ho
  · have : g = k := by simpa [Value.ownBlock] using hk
    omega
theorem lval_shift (i V : Nat) : lval (List.replicate i 0 ++ lim V) = Bs ^ i * V := by
  rw [lval_append, lval_zeros, lval_lim, List.length_replicate, Nat.zero_add]
theorem Lm.shift (i V : Nat) : Lm (List.replicate i 0 ++ lim V) := (Lm.zeros i).append (lim_Lm V)
theorem shift_len (i V : Nat) : (List.replicate i 0 ++ lim V).length = i + (lim V).length := by simp
theorem lim_mul_len {a y : Nat} (hy : y < 1000000000) : (lim (y * a)).length ≤ (lim a).length + 1 := by
  apply lim_len_le
  have := mul_lt (lim_Lm a) hy
  rw [lval_lim] at this
  exact this
theorem lim_prod_len (a : Nat) {m : List Nat} (hm : Lm m) : (lim (a * lval m)).length ≤ (lim a).length + m.length := by
  apply lim_len_le
  have h1 := lim_lt a
  have h2 := lval_lt hm
  rw [Nat.pow_add]
  exact Nat.mul_lt_mul_of_le_of_lt (Nat.le_of_lt h1) h2 (Bs_pow_pos _)
theorem bStep {w0 w1 w2 : World} (h : Below w0.heap.size w0 w1) (k : Below w1.heap.size w1 w2) : Below w0.heap.size w0 w2 := btrans h h.size k

set_option maxHeartbeats 4000000 in
set_option maxRecDepth 100000 in
theorem mul_any (a b : Nat) (u v : Value) (w : World) (hu : SliceOf vN 1 w u (lim a)) (hv : SliceOf vN 1 w v (lim b)) (ha : (lim a).length ≤ 100000) (hb : (lim b).length ≤ 100000) :
    Calls Tryz.prog 114 #[u, v] w (LimPost w (a * b)) := by
  have HHB : Hid (∀ k (h : k < (lim b).length), ∃ bb off cap, v = .slice (some ⟨bb, off, none⟩) (lim b).length cap ∧ w.cell? ⟨bb, off + k, none⟩ = some (.int .i64 ((lim b)[k] : Int))) := fun k h => by
    obtain ⟨bb, off, cap, e, _, _, _, hc⟩ := hv.some_of_pos (by omega)
    exact ⟨bb, off, cap, e, nat_cell hc h⟩
  have HU := hide hu
  obtain ⟨ao, cp, rfl⟩ := hu.shape
  obtain ⟨ao', cp', rfl⟩ := hv.shape
  clear hu hv
  obtain ⟨i0, hi, hz0, hz1, hz2⟩ := info_parts Tryz.infoInt
  have HI := hide hi
  have HZ0 := hide hz0
  have HZ1 := hide hz1
  have HZ2 := hide hz2
  clear hi hz0 hz1 hz2
  obtain ⟨n, hn⟩ : ∃ n, (lim b).length = n := ⟨_, rfl⟩
  have HN := hide hn
  rw [hn] at hb ⊢
  clear hn
  have H0 : Hid (SliceOf vN 1 w (.slice none 0 0) (lim (a * lval ((lim b).take 0)))) := by
    show SliceOf _ _ _ _ _
    rw [List.take_zero]
    show SliceOf vN 1 w _ (lim (a * 0))
    rw [Nat.mul_zero, lim_zero]; exact slice_nil w
  go_enter Tryz.func114, Tryz.ntmps114
  go_wp2_with fail
  go_loopw [5, 10] (fun z x wx => ∃ k : Nat, k ≤ n ∧ x = .int .i64 (k : Int) ∧ SliceOf vN 1 wx z (lim (a * lval ((lim b).take k))) ∧ Below w.heap.size w wx) (fun _ x _ => n - (intOf x).toNat)
  case atStart => exact ⟨0, Nat.zero_le _, rfl, H0.out, Below.refl _ _⟩
  case round =>
    obtain ⟨k, hk, rfl, hs, hbl⟩ := hrel
    have HS := hide hs
    have HB := hide hbl
    obtain ⟨zo, zc, rfl⟩ := hs.shape
    clear hs hbl H0
    by_cases hkn : k < n
    · have hkI : (k : Int) < (n : Int) := by omega
      have hk0 : (0 : Int) ≤ (k : Int) := by omega
      have hkb : k < (lim b).length := by have := HN.out; omega
      obtain ⟨b1, o1, cp1, e1, c1⟩ := HHB.out k hkb
      simp only [Value.slice.injEq] at e1
      obtain ⟨rfl, _, rfl⟩ := e1
      have hy : (lim b)[k] < 1000000000 := lim_Lm b _ (List.getElem_mem hkb)
      have HT : Hid (a * lval ((lim b).take (k + 1)) = a * lval ((lim b).take k) + Bs ^ k * ((lim b)[k] * a)) := by
        show _ = _
        rw [lval_take_succ hkb, Nat.mul_add, Nat.mul_comm a (Bs ^ k * _), Nat.mul_assoc]
      obtain ⟨y, hye⟩ : ∃ y, (lim b)[k] = y := ⟨_, rfl⟩
      rw [hye] at c1 hy HT
      clear hye
      have c1' := keep_cell HB.out c1
      have HC1 : Hid (∀ W, Below wr.heap.size wr W → W.cell? ⟨b1, o1 + k, none⟩ = some (.int .i64 (y : Int))) := fun W hW => keep_cell hW c1'
      have HA := hide (HU.out.below HB.out)
      have hLL : (lim (y * a)).length ≤ (lim a).length + 1 := lim_mul_len hy
      have hmk := run_make_row' (P := Tryz.prog) 103 3 (.int .i64 0) 8 Tryz.underlying103 Tryz.infoInt rfl .i64 .i64 k (by omega) (by omega)
      have HMK := hide (OwnS.made0 wr k 3 (by unfold maxLen; omega))
      have hx63 : k + (lim (y * a)).length ≤ maxLen := by unfold maxLen; omega
      have hxby : (k + (lim (y * a)).length) * 8 ≤ 140737488355328 := by omega
      have hkm : k ≤ maxLen := by unfold maxLen; omega
      have hla9 : (lim a).length ≤ 900000 := by omega
      have HX63 := hide hx63
      have HXBY := hide hxby
      have HKM := hide hkm
      clear hx63 hxby hkm c1
      have HLY : Hid (y * lval (lim a) = y * a) := by show _ = _; rw [lval_lim]
      go_wp2_with fail
      go_region_held3 (fun w' => w'.cell? ⟨b1, o1 + k, none⟩ = some (.int .i64 (y : Int)))
        (first | exact HC1.out _ HP.out.b | exact HC1.out _ (bAlloc HB5.out _) | exact HC1.out _ HB5.out | exact HC1.out _ (bDraw (Below.refl _ wr)) | exact HC1.out _ (bAlloc (bDraw (Below.refl _ wr)) _))
        ((first
          | (go_at_call 108; refine (times_any (lim a) _ y _ (by first | exact HA.out.below (bDraw (Below.refl _ wr)) | exact HA.out.below (bAlloc (bDraw (Below.refl _ wr)) _)) hla9 (lim_Lm a) hy).mono ?_; rintro e w5 ⟨v5, rfl, hs5, hb5, _⟩; rw [HLY.out] at hs5; have HS5 := hide hs5; have HBB5 := hide hb5; have HB5 : Hid (Below wr.heap.size wr w5) := (by first | exact bStep (bDraw (Below.refl _ wr)) hb5 | exact bStep (bAlloc (bDraw (Below.refl _ wr)) _) hb5); clear hs5 hb5)
          | (refine step_append_slice rfl _ _ 103 rfl wr.heap.size 3 i0 (.int .i64 0) 1 8 Tryz.underlying103 HI.out HZ0.out HZ1.out HZ2.out rfl (by decide) vN_len vN_one _ k (flatV vN (List.replicate k 0)) rfl (by first | exact HMK.out.drew.below HBB5.out | exact HMK.out.below HBB5.out) _ (lim (y * a)) rfl HS5.out HX63.out HXBY.out HB5.out.size ?_; intro ao2 cap2 w7 hown7 hg7; have HP := hide (part_of HB5.out hown7 hg7 (Nat.le_refl _)); clear hown7 hg7)
          | (refine step_append_slice rfl _ _ 103 rfl w5.heap.size 3 i0 (.int .i64 0) 1 8 Tryz.underlying103 HI.out HZ0.out HZ1.out HZ2.out rfl (by decide) vN_len vN_one _ k (flatV vN (List.replicate k 0)) rfl (OwnS.made0 w5 k _ HKM.out) _ (lim (y * a)) rfl (HS5.out.below (bAlloc (Below.refl _ w5) _)) HX63.out HXBY.out (by simp) ?_; intro ao2 cap2 w7 hown7 hg7; have HP := hide (part_of (bAlloc HB5.out _) hown7 hg7 HB5.out.size); clear hown7 hg7)))
      all_goals
        have HSS := hide (HS.out.below HP.out.b)
        have HPS := hide HP.out.s
        have HB7 := hide (bStep HB.out HP.out.b)
        have hlen1 : (lim (a * lval ((lim b).take k))).length ≤ 900000 := by
          have h1 := lim_prod_len a ((lim_Lm b).take k)
          have h2 : ((lim b).take k).length ≤ k := List.length_take_le _ _
          omega
        have hlen2 : (List.replicate k 0 ++ lim (y * a)).length ≤ 900000 := by rw [shift_len]; omega
        have HV : Hid (lval (lim (a * lval ((lim b).take k))) + lval (List.replicate k 0 ++ lim (y * a)) = a * lval ((lim b).take (k + 1))) := by
          show _ = _
          rw [lval_lim, lval_shift, HT.out]
        clear HP HB5 HBB5 HS5 HMK hmk
        go_wp2_with fail
        refine (add_any _ _ _ _ _ HSS.out HPS.out hlen1 hlen2 (lim_Lm _) (Lm.shift k (y * a))).mono ?_
        rintro e w8 ⟨v8, rfl, hs8, hb8, _⟩
        rw [HV.out] at hs8
        have HS8 := hide hs8
        have HB8 := hide (bStep HB7.out hb8)
        clear hs8 hb8
        go_wp2_with fail
        go_roundw
        case rel => exact ⟨k + 1, by omega, by go_num, HS8.out, HB8.out⟩
        case measure => (simp [intOf]; try omega)
    · obtain rfl : k = n := by omega
      have HV : Hid (lval (lim (a * lval ((lim b).take k))) = a * b) := by
        show _ = _
        rw [lval_lim, List.take_of_length_le (by have := HN.out; omega), lval_lim]
      have hlen1 : (lim (a * lval ((lim b).take k))).length ≤ 1000000 := by
        have h1 := lim_prod_len a ((lim_Lm b).take k)
        have h2 : ((lim b).take k).length ≤ k := List.length_take_le _ _
        omega
      go_wp2_with fail
      refine (trimmed_any _ _ _ HS.out hlen1 (lim_Lm _)).mono ?_
      rintro e w1 ⟨⟨v', rfl, hs, _⟩, rfl⟩
      rw [HV.out] at hs
      have HS2 := hide hs
      clear hs
      go_wp2_with fail
      go_ret
      exact ⟨_, rfl, HS2.out, HB.out⟩
end Go.Proofs.YtblpnekjnaaeoaaGreatDoor
namespace Go.Proofs.YtblpnekjnaaeoaaGreatDoor
open Go.RowKit

/-- Binary search for a quotient's limb. -/
def SearchI (y r lo hi : Nat) : Prop := lo * y ≤ r ∧ r < (hi + 1) * y ∧ 1 ≤ lo ∧ lo ≤ hi ∧ hi ≤ 999999999
theorem SearchI.start {y r : Nat} (h1 : y ≤ r) (h2 : r < Bs * y) : SearchI y r 1 999999999 := by
  refine ⟨by omega, ?_, by omega, by omega, by omega⟩
  rw [Bs_eq] at h2; omega
theorem SearchI.up {y r lo hi mid : Nat} (h : SearchI y r lo hi) (h1 : mid * y ≤ r) (h2 : lo ≤ mid) (h3 : mid ≤ hi) : SearchI y r mid hi := by
  obtain ⟨a, b, c, d, e⟩ := h
  exact ⟨h1, b, by omega, h3, e⟩
theorem SearchI.down {y r lo hi mid : Nat} (h : SearchI y r lo hi) (h1 : r < mid * y) (h2 : lo < mid) (h3 : mid ≤ hi) : SearchI y r lo (mid - 1) := by
  obtain ⟨a, b, c, d, e⟩ := h
  refine ⟨a, ?_, c, by omega, by omega⟩
  have : mid - 1 + 1 = mid := by omega
  rw [this]; exact h1
theorem SearchI.done {y r lo hi : Nat} (h : SearchI y r lo hi) (e : ¬ lo < hi) : lo * y ≤ r ∧ r < (lo + 1) * y ∧ lo < 1000000000 := by
  obtain ⟨a, b, c, d, e'⟩ := h
  obtain rfl : lo = hi := by omega
  exact ⟨a, b, by omega⟩

/-- What div's loop keeps: above place k the quotient is known, and the rest. -/
structure DivI (w : World) (B : Nat) (x : List Nat) (y : Nat) (k : Nat) (q : Value) (qs : List Nat) (r : Nat) : Prop where
  own : OwnS w B 1 q x.length (flatV vN qs)
  lm : Lm qs
  eq : lval (qs.drop k) * y + r = lval (x.drop k)
  lt : r < y
theorem DivI.len {w : World} {B : Nat} {x : List Nat} {y k : Nat} {q : Value} {qs : List Nat} {r : Nat} (h : DivI w B x y k q qs r) : qs.length = x.length := by
  have := h.own.1; rw [flat_vN_len, Nat.mul_one] at this; exact this
theorem DivI.below {w w' : World} {B : Nat} {x : List Nat} {y k : Nat} {q : Value} {qs : List Nat} {r : Nat} (h : DivI w B x y k q qs r) (hb : Below w.heap.size w w') : DivI w' B x y k q qs r :=
  ⟨h.own.below hb, h.lm, h.eq, h.lt⟩
theorem zeros_drop_at (n k : Nat) : lval ((List.replicate n 0).drop k) = 0 := by rw [List.drop_replicate, lval_zeros]
/-- The limb is 0. -/
theorem DivI.skip {w w' : World} {B : Nat} {x : List Nat} {y k : Nat} {q : Value} {qs : List Nat} {r : Nat} (h : DivI w B x y (k + 1) q qs r) (hk : k < x.length) (hb : Below w.heap.size w w') (hz : qs.drop k = 0 :: qs.drop (k + 1)) (hlt : x[k] + Bs * r < y) : DivI w' B x y k q qs (x[k] + Bs * r) := by
  refine ⟨h.own.below hb, h.lm, ?_, hlt⟩
  rw [hz, lval_drop hk, ← h.eq]
  show (0 + Bs * lval (qs.drop (k + 1))) * y + (x[k] + Bs * r) = _
  rw [Nat.zero_add, Nat.mul_add, Nat.mul_assoc]; omega
/-- The limb is t. -/
theorem DivI.put {w : World} {B : Nat} {x : List Nat} {y k : Nat} {g off cap : Nat} {qs : List Nat} {r : Nat} (h : DivI w B x y (k + 1) (.slice (some ⟨g, off, none⟩) x.length cap) qs r) (hk : k < x.length) {t : Nat} (ht : t < 1000000000) (h1 : t * y ≤ x[k] + Bs * r) (h2 : x[k] + Bs * r < (t + 1) * y) :
    DivI (w.setCell ⟨g, off + k, none⟩ (.int .i64 (t : Int))) B x y k (.slice (some ⟨g, off, none⟩) x.length cap) (qs.set k t) (x[k] + Bs * r - t * y) := by
  refine ⟨by rw [flat_vN_set]; exact h.own.setOwn hk _, h.lm.set ht k, ?_, ?_⟩
  · rw [set_drop (by rw [h.len]; exact hk), lval_drop hk]
    exact div_step h.eq rfl h1
  · rw [Nat.add_mul] at h2; omega
theorem DivI.start (w : World) (x : List Nat) (y : Nat) (hy : 0 < y) (hx : x.length ≤ maxLen) : DivI (w.alloc (.cells (madeCells #[.int .i64 0] x.length) 3)) w.heap.size x y x.length (.slice (some ⟨w.heap.size, 0, none⟩) x.length x.length) (List.replicate x.length 0) 0 :=
  ⟨OwnS.made0 w _ _ hx, Lm.zeros _, by rw [zeros_drop_at, List.drop_eq_nil_of_le (Nat.le_refl _)]; simp [lval], hy⟩
theorem DivI.finish {w : World} {B : Nat} {x : List Nat} {y : Nat} {q : Value} {qs : List Nat} {r : Nat} (h : DivI w B x y 0 q qs r) : SliceOf vN 1 w q qs ∧ lval qs = lval x / y ∧ r = lval x % y := by
  have := div_end h.eq h.lt
  rw [List.drop_zero, List.drop_zero] at this
  exact ⟨OwnS.slice vN_len (B := B) (by rw [h.len]; exact h.own), this⟩
/-- Below place k the quotient's row holds zeros. -/
def ZerosTo (qs : List Nat) (k : Nat) : Prop := ∀ j (h : j < qs.length), j < k → qs[j] = 0
theorem zeros_at {qs : List Nat} {k : Nat} (h : ZerosTo qs (k + 1)) (hk : k < qs.length) : qs.drop k = 0 :: qs.drop (k + 1) := by
  rw [List.drop_eq_getElem_cons hk, h k hk (by omega)]
theorem ZerosTo.less {qs : List Nat} {k : Nat} (h : ZerosTo qs (k + 1)) : ZerosTo qs k := fun j hj hk => h j hj (by omega)
theorem ZerosTo.set {qs : List Nat} {k : Nat} (h : ZerosTo qs (k + 1)) (t : Nat) : ZerosTo (qs.set k t) k := fun j hj hk => by
  rw [List.getElem_set_ne (by omega)]; exact h j (by simpa using hj) (by omega)
theorem ZerosTo.start (n : Nat) : ZerosTo (List.replicate n 0) n := fun j hj _ => by simp
def DivPost (w : World) (X y : Nat) (e : Ending) (w' : World) : Prop := ∃ q r, e = .returned (.tuple #[q, r]) ∧ SliceOf vN 1 w' q (lim (X / y)) ∧ SliceOf vN 1 w' r (lim (X % y)) ∧ Below w.heap.size w w'
theorem cons_lim {d r : Nat} : lval (d :: lim r) = d + Bs * r := by show d + Bs * lval (lim r) = _; rw [lval_lim]
end Go.Proofs.YtblpnekjnaaeoaaGreatDoor
namespace Go.Proofs.YtblpnekjnaaeoaaGreatDoor
open Go.RowKit

theorem times_at (l : List Nat) (u : Value) (z : Int) (q : Nat) (w : World) (hz : z = (q : Int)) (hu : SliceOf vN 1 w u l) (hl : l.length ≤ 900000) (hL : Lm l) (hq : q < 1000000000) :
    Calls Tryz.prog 108 #[u, .int .i64 z] w (LimF w (q * lval l)) := by
  subst hz; exact times_any l u q w hu hl hL hq
theorem OwnS.lit1 (w : World) (x : Nat) (T : TypeId) : OwnS (w.alloc (.cells #[.int .i64 (x : Int)] T)) w.heap.size 1 (.slice (some ⟨w.heap.size, 0, none⟩) 1 1) 1 (flatV vN [x]) := by
  refine ⟨rfl, .inr ⟨w.heap.size, 0, 1, rfl, Nat.le_refl _, by simp, Nat.le_refl _, by unfold maxLen; omega, fun j hj => ⟨?_, by simp [go_sem]⟩, fun j u hu => ?_⟩⟩
  · obtain rfl : j = 0 := by omega
    rw [World.cell?_alloc_at _ _ _ _ rfl]; rfl
  · have hj : j < 1 := (List.getElem?_eq_some_iff.1 hu).1
    obtain rfl : j = 0 := by omega
    rw [World.cell?_alloc_at _ _ _ _ rfl]
    have : (Value.int .i64 (x : Int)) = u := by simpa [flatV, vN] using hu
    rw [← this]; rfl
theorem lim_len_mono {a b : Nat} (h : a ≤ b) : (lim a).length ≤ (lim b).length := lim_len_le (Nat.lt_of_le_of_lt h (lim_lt b))
theorem lim_len_up {y r : Nat} (h : r < Bs * y) : (lim r).length ≤ (lim y).length + 1 := by
  apply lim_len_le
  have h1 := lim_lt y
  rw [Nat.pow_succ, Nat.mul_comm]
  exact Nat.lt_of_lt_of_le h (Nat.mul_le_mul_left _ (Nat.le_of_lt h1))
theorem rest_lt {x r y : Nat} (hx : x < Bs) (hr : r < y) : x + Bs * r < Bs * y := by
  have : Bs * r + Bs ≤ Bs * y := by rw [← Nat.mul_succ]; exact Nat.mul_le_mul_left _ hr
  omega
theorem cons_own {w w' : World} {B : Nat} {ao : Option Addr} {cap x : Nat} {r : Nat} (h : OwnS w' B 1 (.slice ao (1 + (lim r).length) cap) (1 + (lim r).length) (flatV vN [x] ++ flatV vN (lim r))) : SliceOf vN 1 w' (.slice ao (1 + (lim r).length) cap) (x :: lim r) := by
  refine OwnS.slice vN_len (B := B) ?_
  have e : (x :: lim r).length = 1 + (lim r).length := by simp; omega
  rw [e]
  have e2 : flatV vN (x :: lim r) = flatV vN [x] ++ flatV vN (lim r) := by rw [← flatV_append]; rfl
  rw [e2]; exact h
theorem own_cell {w : World} {B n : Nat} {g off cap : Nat} {vs : List Value} (h : OwnS w B 1 (.slice (some ⟨g, off, none⟩) n cap) n vs) {i : Nat} (hi : i < n) : (∃ u, w.cell? ⟨g, off + i, none⟩ = some u) ∧ w.frozen? ⟨g, off + i, none⟩ = false := by
  rcases h.2 with ⟨ao, h1, h2, _⟩ | ⟨g', off', cap', hv, hb, hlt, hn, hm, hc, hx⟩
  · omega
  · simp only [Value.slice.injEq, Option.some.injEq, Addr.mk.injEq, and_true, true_and] at hv
    obtain ⟨⟨rfl, rfl⟩, rfl⟩ := hv
    have := hc i (by omega)
    exact ⟨Option.isSome_iff_exists.1 this.1, this.2⟩

theorem SliceOf.set_away {α : Type} {f : α → List Value} {size : Nat} {w : World} {v : Value} {l : List α} (h : SliceOf f size w v l) {b : Nat} (hb : v.ownBlock ≠ some b) (o : Nat) (u : Value) : SliceOf f size (w.setCell ⟨b, o, none⟩ u) v l := by
  rcases h with h | ⟨g, off, cap, h1, h2, h3, h5, h4⟩
  · exact .inl h
  · have hne : g ≠ b := fun e => hb (by rw [h1, e]; rfl)
    exact .inr ⟨g, off, cap, h1, by simpa using h2, h3, h5, fun i hi j u' hu => by rw [World.cell?_setCell_other _ _ _ _ (by intro e; injection e; omega)]; exact h4 i hi j u' hu⟩

set_option maxHeartbeats 8000000 in
set_option maxRecDepth 100000 in
theorem div_any (l : List Nat) (y : Nat) (u v : Value) (w : World) (hu : SliceOf vN 1 w u l) (hv : SliceOf vN 1 w v (lim y)) (hl : l.length ≤ 100000) (hyl : (lim y).length ≤ 100000) (hL : Lm l) (hy : 0 < y) :
    Calls Tryz.prog 85 #[u, v] w (DivPost w (lval l) y) := by
  have HHB : Hid (∀ k (h : k < l.length), ∃ bb off cap, u = .slice (some ⟨bb, off, none⟩) l.length cap ∧ w.cell? ⟨bb, off + k, none⟩ = some (.int .i64 (l[k] : Int))) := fun k h => by
    obtain ⟨bb, off, cap, e, _, _, _, hc⟩ := hu.some_of_pos (by omega)
    exact ⟨bb, off, cap, e, nat_cell hc h⟩
  have HY := hide hv
  obtain ⟨ao, cp, rfl⟩ := hu.shape
  obtain ⟨yo, yc, rfl⟩ := hv.shape
  clear hu hv
  obtain ⟨i0, hi, hz0, hz1, hz2⟩ := info_parts Tryz.infoInt
  have HI := hide hi
  have HZ0 := hide hz0
  have HZ1 := hide hz1
  have HZ2 := hide hz2
  have HLm := hide hL
  clear hi hz0 hz1 hz2 hL
  obtain ⟨n, hn⟩ : ∃ n, l.length = n := ⟨_, rfl⟩
  have HN := hide hn
  have HD0 := hide (DivI.start w l y hy (by unfold maxLen; omega))
  have HZT := hide (ZerosTo.start l.length)
  rw [hn] at hl HD0 HZT ⊢
  clear hn
  have hmk := run_make_row' (P := Tryz.prog) 103 3 (.int .i64 0) 8 Tryz.underlying103 Tryz.infoInt rfl .i64 .i64 n (by omega) (by omega)
  have hs : IntKind.i64.wrap ((n : Int) - 1) = (n : Int) - 1 := IntWalk.i64_in _ (by omega)
  have H0 : Hid (lim 0 = []) := lim_zero
  go_enter Tryz.func85, Tryz.ntmps85
  go_wp2_with fail
  clear hmk hs
  go_loopw [7, 8] (fun z x wx => ∃ (k : Nat) (qs : List Nat) (r : Nat), k ≤ n ∧ x = .int .i64 ((k : Int) - 1) ∧ SliceOf vN 1 wx z (lim r) ∧ DivI wx w.heap.size l y k (.slice (some ⟨w.heap.size, 0, none⟩) n n) qs r ∧ ZerosTo qs k ∧ Below w.heap.size w wx) (fun _ x _ => (intOf x + 1).toNat)
  case atStart =>
    refine ⟨n, _, 0, Nat.le_refl _, rfl, ?_, HD0.out.below (by first | exact Below.refl _ _ | exact bAlloc (Below.refl _ _) _), HZT.out, by first | exact bAlloc (Below.refl _ _) _ | exact bAlloc (bAlloc (Below.refl _ _) _) _⟩
    rw [H0.out]; exact .inl ⟨_, rfl, rfl⟩
  case round =>
    obtain ⟨k, qs, r, hk, rfl, hs, hd, hzt, hbl⟩ := hrel
    have HS := hide hs
    have HD := hide hd
    have HZ := hide hzt
    have HB := hide hbl
    obtain ⟨zo, zc, rfl⟩ := hs.shape
    clear hs hd hzt hbl HD0 HZT
    by_cases hk0 : 0 < k
    · obtain ⟨j, rfl⟩ : ∃ j, k = j + 1 := ⟨k - 1, by omega⟩
      have hjc : ((j + 1 : Nat) : Int) - 1 = (j : Int) := by omega
      rw [hjc]
      have hj0 : (0 : Int) ≤ (j : Int) := by omega
      have hj1 : (j : Int) < (n : Int) := by omega
      have hjl : j < l.length := by have := HN.out; omega
      obtain ⟨b1, o1, cp1, e1, c1⟩ := HHB.out j hjl
      simp only [Value.slice.injEq] at e1
      obtain ⟨rfl, _, rfl⟩ := e1
      have HQB : Hid (w.heap.size < wr.heap.size) := by
        have hown := HD.out.own
        rw [HN.out] at hown
        exact (hown.lt _ rfl).2
      have hx : l[j] < Bs := HLm.out _ (List.getElem_mem hjl)
      have c1' := keep_cell HB.out c1
      obtain ⟨x, hxe⟩ : ∃ x, l[j] = x := ⟨_, rfl⟩
      have HX := hide hxe
      rw [hxe] at c1' hx
      clear hxe c1
      have hrlt := HD.out.lt
      have hr1 := lim_len_mono (Nat.le_of_lt hrlt)
      have hr2 : x + Bs * r < Bs * y := rest_lt hx hrlt
      have hr3 := lim_len_up hr2
      have HR2 := hide hr2
      have HXB := hide hx
      have hx63 : 1 + (lim r).length ≤ maxLen := by unfold maxLen; omega
      have hxby : (1 + (lim r).length) * 8 ≤ 140737488355328 := by omega
      have HX63 := hide hx63
      have HXBY := hide hxby
      have HOL := hide (OwnS.lit1 wr x 3)
      have HSL := hide (HS.out.below (bAlloc (Below.refl _ wr) (.cells #[.int .i64 (x : Int)] 3)))
      clear hx63 hxby hx hr2
      go_wp2_with (at_builtin; refine wpList_append_slice rfl _ _ 103 rfl wr.heap.size 3 i0 (.int .i64 0) 1 8 Tryz.underlying103 HI.out HZ0.out HZ1.out HZ2.out rfl (by decide) vN_len vN_one _ 1 (flatV vN [x]) rfl HOL.out _ (lim r) rfl HSL.out HX63.out HXBY.out (by simp) ?_)
      intro ao2 cap2 w3 hown3 hg3 hb3
      have HS3 := hide (cons_own (w := wr) hown3)
      have HB3 : Hid (Below wr.heap.size wr w3) := (Below.refl _ wr).alloc (Nat.le_refl _) _ |>.trans hb3
      have hl3 : (x :: lim r).length ≤ 1000000 := by simp; omega
      have HLM3 : Hid (Lm (x :: lim r)) := fun d hd => by
        rcases List.mem_cons.1 hd with e | e
        · rw [e]; exact HXB.out
        · exact lim_Lm r d e
      clear hown3 hg3 hb3 HOL HSL
      go_wp2_with fail
      refine (trimmed_any (x :: lim r) _ _ HS3.out hl3 HLM3.out).mono ?_
      rintro e w4 ⟨⟨v4, rfl, hs4, _⟩, rfl⟩
      rw [cons_lim] at hs4
      have HS4 := hide hs4
      obtain ⟨ro, rc, rfl⟩ := hs4.shape
      clear hs4 HS3 HLM3
      obtain ⟨R, hR⟩ : ∃ R, x + Bs * r = R := ⟨_, rfl⟩
      have HR := hide hR
      rw [hR] at HS4 HR2 hr3 ⊢
      clear hR
      have HY3 := hide (HY.out.below (bStep HB.out HB3.out))
      go_wp2_with fail
      refine (compare_any R y _ _ _ HS4.out HY3.out (by omega) (by omega)).mono ?_
      rintro e w5 ⟨rfl, m5, rfl⟩
      have HB5 := hide (below_drewN HB3.out m5)
      have HS5 := hide (HS4.out.below (below_drewN (Below.refl _ _) m5))
      clear HS4 HY3 HB3
      by_cases hlt : R < y
      · rw [cmpN_lt hlt]
        have HLT := hide hlt
        have hz : qs.drop j = 0 :: qs.drop (j + 1) := zeros_at HZ.out (by rw [HD.out.len]; exact hjl)
        have HD6 := hide (HD.out.skip hjl HB5.out hz (by rw [HX.out, HR.out]; exact hlt))
        rw [HX.out, HR.out] at HD6
        have HB6 := hide (bStep HB.out HB5.out)
        have q5 : IntKind.i64.wrap ((j : Int) - 1) = (j : Int) - 1 := IntWalk.i64_in _ (by omega)
        clear hlt hz
        go_wp2_with fail
        go_roundw
        case rel => exact ⟨j, qs, R, by omega, by first | rfl | go_num, HS5.out, HD6.out, HZ.out.less, HB6.out⟩
        case measure => (simp [intOf]; try omega)
      · have hcm : ¬ cmpN R y < 0 := by rw [cmpN_neg]; exact hlt
        have hcm2 : decide (cmpN R y < 0) = false := by simp [hcm]
        have hcm3 : 0 ≤ cmpN R y := by omega
        obtain ⟨cm, hcme⟩ : ∃ c, cmpN R y = c := ⟨_, rfl⟩
        rw [hcme] at hcm hcm2 hcm3 ⊢
        have HSE := hide (SearchI.start (by omega : y ≤ R) HR2.out)
        clear hcme hlt
        go_wp2_with fail
        go_loopw [9, 10] (fun a b wx => ∃ lo hi : Nat, a = .int .i64 (lo : Int) ∧ b = .int .i64 (hi : Int) ∧ SearchI y R lo hi ∧ Below wr.heap.size wr wx ∧ SliceOf vN 1 wx (.slice ro (lim R).length rc) (lim R)) (fun a b _ => (intOf b - intOf a).toNat)
        case atStart => exact ⟨1, 999999999, rfl, rfl, HSE.out, HB5.out, HS5.out⟩
        case round =>
          obtain ⟨lo, hi, rfl, rfl, hse, hb6, hs6⟩ := hrel
          have HSE6 := hide hse
          have HB6 := hide hb6
          have HS6 := hide hs6
          obtain ⟨_, _, g1, g2, g3⟩ := hse
          clear hb6 hs6 HSE HB5 HS5
          have g1I : (1 : Int) ≤ (lo : Int) := by omega
          have g3I : (hi : Int) ≤ 999999999 := by omega
          have g2I : (lo : Int) ≤ (hi : Int) := by omega
          by_cases hlh : lo < hi
          · have hlI : (lo : Int) < (hi : Int) := by omega
            obtain ⟨mid, hmid⟩ : ∃ mid, (lo + hi + 1) / 2 = mid := ⟨_, rfl⟩
            have hm1 : ((lo : Int) + (hi : Int) + 1) / 2 = (mid : Int) := by omega
            have hm1' : (((lo + hi + 1) / 2 : Nat) : Int) = (mid : Int) := by omega
            have hm2 : lo < mid := by omega
            have hm3 : mid ≤ hi := by omega
            clear hmid
            have HYr := hide (HY.out.below (bStep HB.out HB6.out))
            have hyl9 : (lim y).length ≤ 900000 := by omega
            have HLV : Hid (mid * lval (lim y) = mid * y) := by show _ = _; rw [lval_lim]
            have hmq : mid < 1000000000 := by omega
            have hll := lim_mul_len (a := y) hmq
            go_wp2_with fail
            refine (times_at (lim y) _ _ mid _ (by first | exact hm1 | rfl | omega) HYr.out hyl9 (lim_Lm y) hmq).mono ?_
            rintro e w7 ⟨v7, rfl, hs7, hb7, _⟩
            rw [HLV.out] at hs7
            have HS7 := hide hs7
            have HB7 := hide (bStep HB6.out hb7)
            have HSR7 := hide (HS6.out.below hb7)
            clear hs7 hb7 HYr
            go_wp2_with fail
            refine (compare_any (mid * y) R _ _ _ HS7.out HSR7.out (by omega) (by omega)).mono ?_
            rintro e w8 ⟨rfl, m8, rfl⟩
            have HB8 := hide (below_drewN HB7.out m8)
            have HSR8 := hide (HSR7.out.below (below_drewN (Below.refl _ _) m8))
            clear HS7 HSR7 HB7
            by_cases hle : mid * y ≤ R
            · have hc1 : cmpN (mid * y) R ≤ 0 := cmpN_le.2 hle
              obtain ⟨c, hc⟩ : ∃ c, cmpN (mid * y) R = c := ⟨_, rfl⟩
              rw [hc] at hc1 ⊢
              have HU := hide (HSE6.out.up hle (by omega) hm3)
              clear hc hle
              go_wp2_with fail
              go_roundw
              case rel => exact ⟨mid, hi, by first | rfl | (rw [hm1]) | (rw [hm1']), rfl, HU.out, HB8.out, HSR8.out⟩
              case measure => (simp [intOf]; try omega)
            · have hc1 : ¬ cmpN (mid * y) R ≤ 0 := fun h => hle (cmpN_le.1 h)
              obtain ⟨c, hc⟩ : ∃ c, cmpN (mid * y) R = c := ⟨_, rfl⟩
              rw [hc] at hc1 ⊢
              have hc2 : 0 < c := by omega
              have HU := hide (HSE6.out.down (by omega) hm2 hm3)
              have hw1 : IntKind.i64.wrap ((mid : Int) - 1) = (mid : Int) - 1 := IntWalk.i64_in _ (by omega)
              clear hc hle
              go_wp2_with fail
              go_roundw
              case rel => exact ⟨lo, mid - 1, rfl, by first | (congr 1; omega) | go_num, HU.out, HB8.out, HSR8.out⟩
              case measure => (simp [intOf]; try omega)
          · obtain ⟨d1, d2, d3⟩ := HSE6.out.done hlh
            have hlI : (hi : Int) ≤ (lo : Int) := by omega
            have HYr := hide (HY.out.below (bStep HB.out HB6.out))
            have hyl9 : (lim y).length ≤ 900000 := by omega
            have HLV : Hid (lo * lval (lim y) = lo * y) := by show _ = _; rw [lval_lim]
            have HD1 := hide d1
            have HD2 := hide d2
            have hll := lim_len_mono d1
            clear d1 d2
            go_wp2_with fail
            refine (times_any (lim y) _ lo _ HYr.out hyl9 (lim_Lm y) d3).mono ?_
            rintro e w7 ⟨v7, rfl, hs7, hb7, _⟩
            rw [HLV.out] at hs7
            have HS7 := hide hs7
            have HB7 := hide (bStep HB6.out hb7)
            have HSR7 := hide (HS6.out.below hb7)
            clear hs7 hb7 HYr
            go_wp2_with fail
            refine (sub_any (lim R) (lim (lo * y)) _ _ _ HSR7.out HS7.out (by omega) hll (lim_Lm _) (lim_Lm _) (by rw [lval_lim, lval_lim]; exact HD1.out)).mono ?_
            rintro e w8 ⟨v8, rfl, hs8, hb8, hf8⟩
            rw [lval_lim, lval_lim] at hs8
            have HS8 := hide hs8
            have HB8 := hide (bStep HB7.out hb8)
            have HD8 := hide (HD.out.below HB8.out)
            have HSF : Hid (SliceOf vN 1 (w8.setCell ⟨w.heap.size, j, none⟩ (.int .i64 (lo : Int))) v8 (lim (R - lo * y))) := HS8.out.set_away (fun e => by have h1 := hf8 _ e; have h2 := World.block_lt_of_cell? _ _ c1'; have h3 := HB7.out.size; have h4 := HQB.out; omega) _ _
            clear hs8 hb8 hf8 HS7 HSR7 HB7 HS6
            have hown := HD8.out.own
            rw [HN.out] at hown
            obtain ⟨⟨u8, cu⟩, fu⟩ := own_cell hown (show j < n by omega)
            rw [Nat.zero_add] at cu fu
            clear hown
            have HDF : Hid (DivI (w8.setCell ⟨w.heap.size, j, none⟩ (.int .i64 (lo : Int))) w.heap.size l y j (.slice (some ⟨w.heap.size, 0, none⟩) n n) (qs.set j lo) (R - lo * y)) := by
              have h8 := HD8.out
              have e := HN.out
              subst e
              have := h8.put hjl d3 (by rw [HX.out, HR.out]; exact HD1.out) (by rw [HX.out, HR.out]; exact HD2.out)
              rw [HX.out, HR.out, Nat.zero_add] at this
              exact this
            have HBF : Hid (Below w.heap.size w (w8.setCell ⟨w.heap.size, j, none⟩ (.int .i64 (lo : Int)))) := (bStep HB.out HB8.out).setCell (p := ⟨w.heap.size, j, none⟩) (Nat.le_refl _) _
            have HZF := hide (HZ.out.set lo)
            have q5 : IntKind.i64.wrap ((j : Int) - 1) = (j : Int) - 1 := IntWalk.i64_in _ (by omega)
            go_wp2_with fail
            go_roundw
            case rel => exact ⟨j, _, _, by omega, by first | rfl | go_num, HSF.out, HDF.out, HZF.out, HBF.out⟩
            case measure => (simp [intOf]; try omega)
    · obtain rfl : k = 0 := by omega
      obtain ⟨f1, f2, f3⟩ := HD.out.finish
      have HF1 := hide f1
      have hql : qs.length ≤ 1000000 := by rw [HD.out.len, HN.out]; omega
      have HF2 := hide f2
      have HF3 := hide f3
      clear f1 f2 f3
      go_wp2_with fail
      refine (trimmed_any qs _ _ HF1.out hql HD.out.lm).mono ?_
      rintro e w1 ⟨⟨v', rfl, hs, _⟩, rfl⟩
      rw [HF2.out] at hs
      have HQ := hide hs
      have HRR : Hid (SliceOf vN 1 wr (.slice zo (lim r).length zc) (lim (lval l % y))) := by
        show SliceOf _ _ _ _ _
        rw [← HF3.out]; exact HS.out
      clear hs
      go_wp2_with fail
      go_ret2
      exact ⟨_, _, rfl, HQ.out, HRR.out, HB.out⟩
end Go.Proofs.YtblpnekjnaaeoaaGreatDoor
