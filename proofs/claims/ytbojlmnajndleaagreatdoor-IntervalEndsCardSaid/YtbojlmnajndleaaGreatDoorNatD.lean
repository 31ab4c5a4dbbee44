/- natural: add, sub, times. -/
import Derived.Test.YtbojlmnajndleaaGreatDoorNatC
import Derived.Shelf.Abstract
set_option linter.unusedVariables false
set_option linter.unusedSimpArgs false
namespace Go.Proofs.YtbojlmnajndleaaGreatDoor
open Go.RowKit

theorem collect_at (F : FuncId) (c1 c2 : Value) (f : Nat → Int) (z : Int) (n V : Nat) (w : World) (hz : z = (n : Int)) (hn : n ≤ 1000000)
    (hE : ∀ args w, (callFunc F args).run Tryz.prog w = .ok (.enter F args) w)
    (hF : ∀ i w', i < n → Below w.heap.size w w' → Calls Tryz.prog F #[.int .i64 (i : Int), c1, c2] w' fun e w'' => e = .returned (.int .i64 (f i)) ∧ ∃ m, w'.drewN m = w'')
    (hf0 : ∀ i, i < n → -2000000000000000000 ≤ f i) (hf1 : ∀ i, i < n → f i ≤ 2000000000000000000) (hV : sumB f n = (V : Int)) (hlt : V < Bs ^ n) :
    Calls Tryz.prog 87 #[.int .i64 z, .func (.func F) #[] #[c1, c2]] w (LimF w V) := by
  subst hz; exact collect_any F c1 c2 f n V w hn hE hF hf0 hf1 hV hlt
theorem LimF.from {w w1 : World} {V : Nat} (hb : Below w.heap.size w w1) {e : Ending} {w' : World} (h : LimF w1 V e w') : LimF w V e w' := by
  obtain ⟨v, he, hs, h2, h3⟩ := h
  exact ⟨v, he, hs, hb.trans (h2.mono hb.size), fun k hk => Nat.le_trans hb.size (h3 k hk)⟩
theorem two_boxes (w : World) (o1 o2 : Obj) : Below w.heap.size w ((w.alloc o1).alloc o2) := ((Below.refl _ w).alloc (Nat.le_refl _) _).alloc (by simp) _
theorem box_cell1 (w : World) (u : Value) (T : TypeId) (o : Obj) : ((w.alloc (.cells #[u] T)).alloc o).cell? ⟨w.heap.size, 0, none⟩ = some u := by
  rw [World.cell?_alloc_lt _ _ _ (by simp), World.cell?_alloc_at _ _ _ _ rfl]; rfl
theorem box_cell2 (w : World) (u : Value) (T : TypeId) (o : Obj) : ((w.alloc o).alloc (.cells #[u] T)).cell? ⟨w.heap.size + 1, 0, none⟩ = some u := by
  rw [World.cell?_alloc_at _ _ _ _ (by simp)]; rfl
theorem add_lt {l m : List Nat} (hl : Lm l) (hm : Lm m) {n : Nat} (h1 : l.length ≤ n) (h2 : m.length ≤ n) : lval l + lval m < Bs ^ (n + 1) := by
  have a := lval_lt hl
  have b := lval_lt hm
  have c : Bs ^ l.length ≤ Bs ^ n := Nat.pow_le_pow_right Bs_pos h1
  have d : Bs ^ m.length ≤ Bs ^ n := Nat.pow_le_pow_right Bs_pos h2
  rw [Nat.pow_succ, Bs_eq] at *
  omega
theorem sum_add (l m : List Nat) {n : Nat} (h1 : l.length ≤ n) (h2 : m.length ≤ n) : sumB (fun i => limbN l i + limbN m i) n = ((lval l + lval m : Nat) : Int) := by
  rw [sumB_add, sumB_all h1, sumB_all h2]; simp

set_option maxHeartbeats 1000000 in
set_option maxRecDepth 100000 in
theorem add_any (l m : List Nat) (u v : Value) (w : World) (hu : SliceOf vN 1 w u l) (hv : SliceOf vN 1 w v m) (hl : l.length ≤ 900000) (hm : m.length ≤ 900000) (hL : Lm l) (hM : Lm m) :
    Calls Tryz.prog 84 #[u, v] w (LimF w (lval l + lval m)) := by
  have HC : ∀ (z : Int) (n : Nat), z = (n : Int) + 1 → l.length ≤ n → m.length ≤ n → n ≤ 900000 →
      Calls Tryz.prog 87 #[.int .i64 z, .func (.func 108) #[] #[.pointer (some ⟨w.heap.size, 0, none⟩), .pointer (some ⟨w.heap.size + 1, 0, none⟩)]]
        ((w.alloc (.cells #[u] 79)).alloc (.cells #[v] 79)) (LimF w (lval l + lval m)) := by
    intro z n hz h1 h2 h3
    refine (collect_at 108 _ _ (fun i => limbN l i + limbN m i) z (n + 1) (lval l + lval m) _ (by rw [hz]; simp) (by omega) (enters_of Tryz.func108 (by kernel_rfl) rfl) ?_ (fun i _ => ?_) (fun i _ => ?_) (sum_add l m (by omega) (by omega)) (add_lt hL hM h1 h2)).mono ?_
    · intro i w' hi hb
      have hb0 := (two_boxes w (.cells #[u] 79) (.cells #[v] 79)).trans (hb.mono (by simp; omega))
      exact addf_any l m u v i _ _ w' (hu.below hb0) (hv.below hb0) (by omega) (by omega) (by omega) hL hM (keep_cell hb (box_cell1 w u _ _)) (keep_cell hb (box_cell2 w v _ _))
    · have := limbN_bd hL i; have := limbN_bd hM i; omega
    · have := limbN_bd hL i; have := limbN_bd hM i; omega
    · intro e w' h
      exact LimF.from (two_boxes w _ _) h
  have HHC := hide HC
  clear HC
  obtain ⟨ao, cp, rfl⟩ := hu.shape
  obtain ⟨ao', cp', rfl⟩ := hv.shape
  clear hu hv hL hM
  rcases Nat.lt_trichotomy l.length m.length with h | h | h
  · have h1 : (l.length : Int) < (m.length : Int) := by omega
    have q1 : IntKind.i64.wrap ((m.length : Int) + 1) = (m.length : Int) + 1 := IntWalk.i64_in _ (by omega)
    go_enter Tryz.func84, Tryz.ntmps84
    go_wp2_with fail
    refine (HHC.out _ m.length rfl (by omega) (by omega) hm).mono ?_
    rintro e w1 ⟨v', rfl, hs, hb, hf⟩
    have HS := hide hs
    have HB := hide hb
    have HF := hide hf
    clear hs hb hf
    go_wp2_with fail
    go_ret
    exact ⟨_, rfl, HS.out, HB.out, HF.out⟩
  · have HLM := hide h
    have q1 : IntKind.i64.wrap ((m.length : Int) + 1) = (m.length : Int) + 1 := IntWalk.i64_in _ (by omega)
    have h1 : (l.length : Int) ≤ (m.length : Int) := by omega
    have h2 : (m.length : Int) ≤ (l.length : Int) := by omega
    rw [h] at HHC hl ⊢
    clear h
    go_enter Tryz.func84, Tryz.ntmps84
    go_wp2_with fail
    refine (HHC.out _ m.length rfl (by omega) (by omega) hm).mono ?_
    rintro e w1 ⟨v', rfl, hs, hb, hf⟩
    have HS := hide hs
    have HB := hide hb
    have HF := hide hf
    clear hs hb hf
    go_wp2_with fail
    go_ret
    exact ⟨_, rfl, HS.out, HB.out, HF.out⟩
  · have h1 : (m.length : Int) < (l.length : Int) := by omega
    have q1 : IntKind.i64.wrap ((l.length : Int) + 1) = (l.length : Int) + 1 := IntWalk.i64_in _ (by omega)
    go_enter Tryz.func84, Tryz.ntmps84
    go_wp2_with fail
    refine (HHC.out _ l.length rfl (by omega) (by omega) hl).mono ?_
    rintro e w1 ⟨v', rfl, hs, hb, hf⟩
    have HS := hide hs
    have HB := hide hb
    have HF := hide hf
    clear hs hb hf
    go_wp2_with fail
    go_ret
    exact ⟨_, rfl, HS.out, HB.out, HF.out⟩
theorem sum_sub (l m : List Nat) (h2 : m.length ≤ l.length) (h : lval m ≤ lval l) : sumB (fun i => limbN l i - limbN m i) l.length = ((lval l - lval m : Nat) : Int) := by
  rw [sumB_sub, sumB_all (Nat.le_refl _), sumB_all h2]; omega
set_option maxHeartbeats 1000000 in
set_option maxRecDepth 100000 in
theorem sub_any (l m : List Nat) (u v : Value) (w : World) (hu : SliceOf vN 1 w u l) (hv : SliceOf vN 1 w v m) (hl : l.length ≤ 900000) (hm : m.length ≤ l.length) (hL : Lm l) (hM : Lm m) (hle : lval m ≤ lval l) :
    Calls Tryz.prog 68 #[u, v] w (LimF w (lval l - lval m)) := by
  have HC : Calls Tryz.prog 87 #[.int .i64 (l.length : Int), .func (.func 88) #[] #[.pointer (some ⟨w.heap.size, 0, none⟩), .pointer (some ⟨w.heap.size + 1, 0, none⟩)]]
        ((w.alloc (.cells #[u] 79)).alloc (.cells #[v] 79)) (LimF w (lval l - lval m)) := by
    refine (collect_at 88 _ _ (fun i => limbN l i - limbN m i) _ l.length (lval l - lval m) _ rfl (by omega) (enters_of Tryz.func88 (by kernel_rfl) rfl) ?_ (fun i _ => ?_) (fun i _ => ?_) (sum_sub l m hm hle) (by have := lval_lt hL; omega)).mono ?_
    · intro i w' hi hb
      have hb0 := (two_boxes w (.cells #[u] 79) (.cells #[v] 79)).trans (hb.mono (by simp; omega))
      exact subf_any l m u v i _ _ w' (hu.below hb0) (hv.below hb0) (by omega) (by omega) hi hL hM (keep_cell hb (box_cell1 w u _ _)) (keep_cell hb (box_cell2 w v _ _))
    · have := limbN_bd hL i; have := limbN_bd hM i; omega
    · have := limbN_bd hL i; have := limbN_bd hM i; omega
    · intro e w' h
      exact LimF.from (two_boxes w _ _) h
  have HHC := hide HC
  clear HC
  obtain ⟨ao, cp, rfl⟩ := hu.shape
  obtain ⟨ao', cp', rfl⟩ := hv.shape
  clear hu hv hL hM
  go_enter Tryz.func68, Tryz.ntmps68
  go_wp2_with fail
  refine HHC.out.mono ?_
  rintro e w1 ⟨v', rfl, hs, hb, hf⟩
  have HS := hide hs
  have HB := hide hb
  have HF := hide hf
  clear hs hb hf
  go_wp2_with fail
  go_ret
  exact ⟨_, rfl, HS.out, HB.out, HF.out⟩
theorem mul_lt {l : List Nat} (hl : Lm l) {q : Nat} (hq : q < 1000000000) : q * lval l < Bs ^ (l.length + 1) := by
  have a := lval_lt hl
  have b : q * lval l ≤ q * Bs ^ l.length := Nat.mul_le_mul_left _ (by omega)
  have c : q * Bs ^ l.length < 1000000000 * Bs ^ l.length := Nat.mul_lt_mul_of_pos_right hq (Bs_pow_pos _)
  rw [Nat.pow_succ, Bs_eq, Nat.mul_comm (1000000000 ^ l.length)]
  rw [Bs_eq] at b c
  omega
theorem sum_mul (l : List Nat) (q : Nat) {n : Nat} (h1 : l.length ≤ n) : sumB (fun i => (q : Int) * limbN l i) n = ((q * lval l : Nat) : Int) := by
  rw [sumB_mul, sumB_all h1]; simp
set_option maxHeartbeats 1000000 in
set_option maxRecDepth 100000 in
theorem times_any (l : List Nat) (u : Value) (q : Nat) (w : World) (hu : SliceOf vN 1 w u l) (hl : l.length ≤ 900000) (hL : Lm l) (hq : q < 1000000000) :
    Calls Tryz.prog 101 #[u, .int .i64 (q : Int)] w (LimF w (q * lval l)) := by
  have HC : Calls Tryz.prog 87 #[.int .i64 ((l.length : Int) + 1), .func (.func 117) #[] #[.pointer (some ⟨w.heap.size + 1, 0, none⟩), .pointer (some ⟨w.heap.size, 0, none⟩)]]
        ((w.alloc (.cells #[u] 79)).alloc (.cells #[.int .i64 (q : Int)] 3)) (LimF w (q * lval l)) := by
    refine (collect_at 117 _ _ (fun i => (q : Int) * limbN l i) _ (l.length + 1) (q * lval l) _ (by simp) (by omega) (enters_of Tryz.func117 (by kernel_rfl) rfl) ?_ (fun i _ => ?_) (fun i _ => ?_) (sum_mul l q (by omega)) (mul_lt hL hq)).mono ?_
    · intro i w' hi hb
      have hb0 := (two_boxes w (.cells #[u] 79) (.cells #[.int .i64 (q : Int)] 3)).trans (hb.mono (by simp; omega))
      exact timesf_any l u q i _ _ w' (hu.below hb0) (by omega) (by omega) hL hq (keep_cell hb (box_cell2 w (.int .i64 (q : Int)) _ _)) (keep_cell hb (box_cell1 w u _ _))
    · have q1 := limbN_bd hL i
      have h3 : 0 ≤ (q : Int) * limbN l i := Int.mul_nonneg (by omega) q1.1
      omega
    · have q1 := limbN_bd hL i
      have h4 : (q : Int) * limbN l i ≤ 1000000000 * 1000000000 := Int.mul_le_mul (by omega) (by omega) q1.1 (by omega)
      omega
    · intro e w' h
      exact LimF.from (two_boxes w _ _) h
  have HHC := hide HC
  clear HC
  obtain ⟨ao, cp, rfl⟩ := hu.shape
  clear hu hL
  have q1 : IntKind.i64.wrap ((l.length : Int) + 1) = (l.length : Int) + 1 := IntWalk.i64_in _ (by omega)
  go_enter Tryz.func101, Tryz.ntmps101
  go_wp2_with fail
  refine HHC.out.mono ?_
  rintro e w1 ⟨v', rfl, hs, hb, hf⟩
  have HS := hide hs
  have HB := hide hb
  have HF := hide hf
  clear hs hb hf
  go_wp2_with fail
  go_ret
  exact ⟨_, rfl, HS.out, HB.out, HF.out⟩
end Go.Proofs.YtbojlmnajndleaaGreatDoor
