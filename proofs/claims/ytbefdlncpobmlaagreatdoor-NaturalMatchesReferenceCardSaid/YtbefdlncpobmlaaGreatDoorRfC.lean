/- observatoryref03: add. -/
import Derived.Test.YtbefdlncpobmlaaGreatDoorRfB
import Derived.Test.YtbefdlncpobmlaaGreatDoorAppend
import Derived.Test.YtbefdlncpobmlaaGreatDoorNatJ
namespace Go.Proofs.YtbefdlncpobmlaaGreatDoor
open Go.RowKit

theorem Bld.grow {α : Type} {f : α → List Value} {size : Nat} {w wr : World} {M : List α} {u : Value} (h : Bld f size w wr M u M.length) (x : α) : Bld f size w wr (M ++ [x]) u M.length := by
  refine ⟨?_, h.below⟩
  have := h.own
  rw [List.take_of_length_le (Nat.le_refl _)] at this
  rw [List.take_left']
  · exact this
  · rfl
theorem Bld.own_all {α : Type} {f : α → List Value} {size : Nat} {w wr : World} {M : List α} {u : Value} (h : Bld f size w wr M u M.length) : OwnS wr w.heap.size size u M.length (flatV f M) := by
  have := h.own
  rwa [List.take_of_length_le (Nat.le_refl _)] at this
theorem Bld.snoc {α : Type} {f : α → List Value} {size : Nat} {w wr W : World} {M : List α} {u : Value} {g off cap : Nat} {x : α} {cs : List Value} (h : Bld f size w wr M u M.length) (hcs : cs = f x)
    (ho : OwnS W w.heap.size size (.slice (some ⟨g, off, none⟩) (M.length + 1) cap) (M.length + 1) (flatV f M ++ cs)) (hg : wr.grownBy W u.ownBlock) :
    Bld f size w W (M ++ [x]) (.slice (some ⟨g, off, none⟩) (M.length + 1) cap) (M ++ [x]).length := by
  have e : (M ++ [x]).length = M.length + 1 := by simp
  rw [e]
  refine (h.grow x).step (Below.refl _ _) (by simp) (by simp) hcs ?_ hg
  rw [List.take_left']
  · exact ho
  · rfl
theorem capK_lt {a b : Nat} (h : capK a < capK b) : a < b := (Nat.pow_lt_pow_iff_right (a := 10) (by decide)).1 h
/-- What add's loop keeps. -/
structure AddI (w wx : World) (x y : Nat) (u : Value) (c k : Nat) (o : List Nat) : Prop where
  bld : Bld vY 1 w wx o u o.length
  len : o.length = k
  dig : D10 o
  sum : le10 o + c * 10 ^ k = x % 10 ^ k + y % 10 ^ k
  c1 : c ≤ 1
theorem AddI.bound {w wx : World} {x y c k : Nat} {u : Value} {o : List Nat} (h : AddI w wx x y u c k o) (hx : x < capN) (hy : y < capN) (hc : 0 < c) : k ≤ 1000 := by
  have h1 := h.sum
  have h2 := Nat.mod_le x (10 ^ k)
  have h3 := Nat.mod_le y (10 ^ k)
  have h4 : x + y < capK 1001 := add_capK (a := 1000) hx hy
  have h5 : 1 * 10 ^ k ≤ c * 10 ^ k := Nat.mul_le_mul_right _ hc
  have h6 : capK k < capK 1001 := by
    show 10 ^ k < _
    omega
  have := capK_lt h6
  omega
theorem AddI.next {w wx w4 : World} {x y c k m : Nat} {u u' : Value} {o : List Nat} (h : AddI w wx x y u c k o) (hb : Bld vY 1 w w4 (o ++ [m % 10]) u' (o ++ [m % 10]).length) (hm : atN x k + atN y k + c = m) : AddI w w4 x y u' (m / 10) (k + 1) (o ++ [m % 10]) := by
  have a := atN_lt x k
  have b := atN_lt y k
  have hc := h.c1
  refine ⟨hb, by simp [h.len], fun d hd => ?_, ?_, by omega⟩
  · rcases List.mem_append.1 hd with hd | hd
    · exact h.dig d hd
    · simp at hd; omega
  · have := add_step10 h.len h.sum
    rw [hm] at this
    exact this
theorem add_le {d e c : Nat} (h1 : d < 10) (h2 : e < 10) (h3 : c ≤ 1) : (d + e + c) / 10 ≤ 1 := by omega
set_option maxHeartbeats 2000000 in
set_option maxRecDepth 100000 in
theorem ref_add (x y : Nat) (w : World) (hx : x < capN) (hy : y < capN) :
    Calls Tryz.prog 29 #[.string (natS x), .string (natS y)] w fun e w' => e = .returned (.string (natS (x + y))) ∧ Below w.heap.size w w' := by
  have sx : 1 ≤ (natS x).size ∧ (natS x).size ≤ 1000 := by rw [natS_size]; exact ⟨dec_len_pos x, capN_len.2 hx⟩
  have sy : 1 ≤ (natS y).size ∧ (natS y).size ≤ 1000 := by rw [natS_size]; exact ⟨dec_len_pos y, capN_len.2 hy⟩
  have HX := hide hx
  have HY := hide hy
  obtain ⟨i0, hi, hz0, hz1, hz2⟩ := info_parts Tryz.infoU8
  clear hx hy
  go_enter Tryz.func29, Tryz.ntmps29
  go_wp2_with fail
  go_loopw [5, 6, 7] (fun u c i wx => ∃ (k c' : Nat) (o : List Nat), k ≤ 1001 ∧ c = .int .i64 (c' : Int) ∧ i = .int .i64 (k : Int) ∧ AddI w wx x y u c' k o) (fun _ _ i _ => 1001 - (intOf i).toNat)
  case atStart => exact ⟨0, 0, [], by omega, rfl, rfl, ⟨Bld.nil _ _ _ _, rfl, by intro d hd; simp at hd, by simp [le10, Nat.mod_one], by omega⟩⟩
  case round =>
    obtain ⟨k, c, o, hk, rfl, rfl, ha⟩ := hrel
    have hc1 := ha.c1
    by_cases hgo : k < (natS x).size ∨ k < (natS y).size ∨ 0 < c
    · have hk1 : k ≤ 1000 := by
        rcases hgo with h | h | h
        · omega
        · omega
        · exact ha.bound HX.out HY.out h
      have q1 : IntKind.i64.wrap ((k : Int) + 1) = (k : Int) + 1 := IntWalk.i64_in _ (by omega)
      obtain ⟨d, hd⟩ : ∃ d, atN x k = d := ⟨_, rfl⟩
      obtain ⟨e, he⟩ : ∃ e, atN y k = e := ⟨_, rfl⟩
      have hd10 : d < 10 := by rw [← hd]; exact atN_lt x k
      have he10 : e < 10 := by rw [← he]; exact atN_lt y k
      have A1 : ∀ W, Calls Tryz.prog 48 #[.string (natS x), .int .i64 (k : Int)] W fun r w' => r = .returned (.int .i64 (d : Int)) ∧ w' = W := fun W => by rw [← hd]; exact ref_at x k W HX.out
      have A2 : ∀ W, Calls Tryz.prog 48 #[.string (natS y), .int .i64 (k : Int)] W fun r w' => r = .returned (.int .i64 (e : Int)) ∧ w' = W := fun W => by rw [← he]; exact ref_at y k W HY.out
      have HA1 := hide A1
      have HA2 := hide A2
      have HA := hide ha
      have q2 : IntKind.i64.wrap ((d : Int) + (e : Int)) = (d : Int) + (e : Int) := IntWalk.i64_in _ (by omega)
      have q3 : IntKind.i64.wrap ((d : Int) + (e : Int) + (c : Int)) = ((d + e + c : Nat) : Int) := by rw [show (d : Int) + (e : Int) + (c : Int) = ((d + e + c : Nat) : Int) by omega]; exact IntWalk.i64_in _ (by omega)
      have hm0 : atN x k + atN y k + c = d + e + c := by rw [hd, he]
      clear A1 A2 ha hd he
      obtain ⟨m, hm⟩ : ∃ m, d + e + c = m := ⟨_, rfl⟩
      have HM := hide (hm0.trans hm)
      have hm20 : m < 20 := by omega
      rw [hm] at q3
      clear hm hm0
      have q4 : IntKind.i64.wrap ((m : Int).tmod 10) = ((m % 10 : Nat) : Int) := by
        rw [show ((m : Int).tmod 10) = ((m % 10 : Nat) : Int) from (Int.ofNat_tmod m 10).symm]; exact IntWalk.i64_in _ (by omega)
      have q5 : IntKind.i64.wrap ((m : Int).tdiv 10) = ((m / 10 : Nat) : Int) := by
        rw [show ((m : Int).tdiv 10) = ((m / 10 : Nat) : Int) from (Int.ofNat_tdiv m 10).symm]; exact IntWalk.i64_in _ (by omega)
      have q6 : IntKind.u8.wrap ((m % 10 : Nat) : Int) = ((m % 10 : Nat) : Int) := IntWalk.u8_in _ (by omega)
      have HGR := hide HA.out.bld
      have HOW := hide HGR.out.own_all
      have HSZ := hide HGR.out.below.size
      have hol := HA.out.len
      have H1c : Hid (∀ u ∈ (#[Value.int .u8 ((m % 10 : Nat) : Int)] : Array Value).toList, u.oneCell' = true) := by
        intro u hu
        simp at hu
        rcases hu with rfl
        rfl
      have hbytes : (o.length + 1) * 1 ≤ 140737488355328 := by omega
      have HOL := hide hol
      clear hol
      rcases hgo with h | h | h
      · have f1 : decide ((k : Int) < ((natS x).size : Int)) = true := decide_eq_true (by omega)
        go_wp2_with fail
        refine (HA1.out _).mono ?_
        rintro r w1 ⟨rfl, rfl⟩
        go_wp2_with fail
        refine (HA2.out _).mono ?_
        rintro r w1 ⟨rfl, rfl⟩
        go_wp2_with (at_builtin; refine wpList_appendS rfl _ _ 54 rfl w.heap.size 5 i0 (.int .u8 0) 1 1 Tryz.underlying54 hi hz0 hz1 hz2 rfl (by decide) _ o.length (flatV vY o) rfl HOW.out #[.int .u8 ((m % 10 : Nat) : Int)] 5 1 rfl rfl H1c.out hbytes (by decide) HSZ.out ?_)
        intro g off' cap' w4 hown4 hg4 hb4 hat4
        have HN := hide (HGR.out.snoc (x := m % 10) rfl hown4 hg4)
        clear hown4 hg4 hb4 hat4
        go_wp2_with fail
        go_roundw
        case rel => exact ⟨k + 1, m / 10, o ++ [m % 10], by omega, by first | rfl | go_num, by first | rfl | go_num, HA.out.next HN.out HM.out⟩
        case measure => (simp [intOf]; try omega)
      · by_cases h' : k < (natS x).size
        · have f1 : decide ((k : Int) < ((natS x).size : Int)) = true := decide_eq_true (by omega)
          go_wp2_with fail
          refine (HA1.out _).mono ?_
          rintro r w1 ⟨rfl, rfl⟩
          go_wp2_with fail
          refine (HA2.out _).mono ?_
          rintro r w1 ⟨rfl, rfl⟩
          go_wp2_with (at_builtin; refine wpList_appendS rfl _ _ 54 rfl w.heap.size 5 i0 (.int .u8 0) 1 1 Tryz.underlying54 hi hz0 hz1 hz2 rfl (by decide) _ o.length (flatV vY o) rfl HOW.out #[.int .u8 ((m % 10 : Nat) : Int)] 5 1 rfl rfl H1c.out hbytes (by decide) HSZ.out ?_)
          intro g off' cap' w4 hown4 hg4 hb4 hat4
          have HN := hide (HGR.out.snoc (x := m % 10) rfl hown4 hg4)
          clear hown4 hg4 hb4 hat4
          go_wp2_with fail
          go_roundw
          case rel => exact ⟨k + 1, m / 10, o ++ [m % 10], by omega, by first | rfl | go_num, by first | rfl | go_num, HA.out.next HN.out HM.out⟩
          case measure => (simp [intOf]; try omega)
        · have f1 : decide ((k : Int) < ((natS x).size : Int)) = false := decide_eq_false (by omega)
          have f2 : decide ((k : Int) < ((natS y).size : Int)) = true := decide_eq_true (by omega)
          go_wp2_with fail
          refine (HA1.out _).mono ?_
          rintro r w1 ⟨rfl, rfl⟩
          go_wp2_with fail
          refine (HA2.out _).mono ?_
          rintro r w1 ⟨rfl, rfl⟩
          go_wp2_with (at_builtin; refine wpList_appendS rfl _ _ 54 rfl w.heap.size 5 i0 (.int .u8 0) 1 1 Tryz.underlying54 hi hz0 hz1 hz2 rfl (by decide) _ o.length (flatV vY o) rfl HOW.out #[.int .u8 ((m % 10 : Nat) : Int)] 5 1 rfl rfl H1c.out hbytes (by decide) HSZ.out ?_)
          intro g off' cap' w4 hown4 hg4 hb4 hat4
          have HN := hide (HGR.out.snoc (x := m % 10) rfl hown4 hg4)
          clear hown4 hg4 hb4 hat4
          go_wp2_with fail
          go_roundw
          case rel => exact ⟨k + 1, m / 10, o ++ [m % 10], by omega, by first | rfl | go_num, by first | rfl | go_num, HA.out.next HN.out HM.out⟩
          case measure => (simp [intOf]; try omega)
      · by_cases h' : k < (natS x).size
        · have f1 : decide ((k : Int) < ((natS x).size : Int)) = true := decide_eq_true (by omega)
          go_wp2_with fail
          refine (HA1.out _).mono ?_
          rintro r w1 ⟨rfl, rfl⟩
          go_wp2_with fail
          refine (HA2.out _).mono ?_
          rintro r w1 ⟨rfl, rfl⟩
          go_wp2_with (at_builtin; refine wpList_appendS rfl _ _ 54 rfl w.heap.size 5 i0 (.int .u8 0) 1 1 Tryz.underlying54 hi hz0 hz1 hz2 rfl (by decide) _ o.length (flatV vY o) rfl HOW.out #[.int .u8 ((m % 10 : Nat) : Int)] 5 1 rfl rfl H1c.out hbytes (by decide) HSZ.out ?_)
          intro g off' cap' w4 hown4 hg4 hb4 hat4
          have HN := hide (HGR.out.snoc (x := m % 10) rfl hown4 hg4)
          clear hown4 hg4 hb4 hat4
          go_wp2_with fail
          go_roundw
          case rel => exact ⟨k + 1, m / 10, o ++ [m % 10], by omega, by first | rfl | go_num, by first | rfl | go_num, HA.out.next HN.out HM.out⟩
          case measure => (simp [intOf]; try omega)
        · have f1 : decide ((k : Int) < ((natS x).size : Int)) = false := decide_eq_false (by omega)
          by_cases h2 : k < (natS y).size
          · have f2 : decide ((k : Int) < ((natS y).size : Int)) = true := decide_eq_true (by omega)
            go_wp2_with fail
            refine (HA1.out _).mono ?_
            rintro r w1 ⟨rfl, rfl⟩
            go_wp2_with fail
            refine (HA2.out _).mono ?_
            rintro r w1 ⟨rfl, rfl⟩
            go_wp2_with (at_builtin; refine wpList_appendS rfl _ _ 54 rfl w.heap.size 5 i0 (.int .u8 0) 1 1 Tryz.underlying54 hi hz0 hz1 hz2 rfl (by decide) _ o.length (flatV vY o) rfl HOW.out #[.int .u8 ((m % 10 : Nat) : Int)] 5 1 rfl rfl H1c.out hbytes (by decide) HSZ.out ?_)
            intro g off' cap' w4 hown4 hg4 hb4 hat4
            have HN := hide (HGR.out.snoc (x := m % 10) rfl hown4 hg4)
            clear hown4 hg4 hb4 hat4
            go_wp2_with fail
            go_roundw
            case rel => exact ⟨k + 1, m / 10, o ++ [m % 10], by omega, by first | rfl | go_num, by first | rfl | go_num, HA.out.next HN.out HM.out⟩
            case measure => (simp [intOf]; try omega)
          · have f2 : decide ((k : Int) < ((natS y).size : Int)) = false := decide_eq_false (by omega)
            have f3 : decide ((0 : Int) < (c : Int)) = true := decide_eq_true (by omega)
            go_wp2_with fail
            refine (HA1.out _).mono ?_
            rintro r w1 ⟨rfl, rfl⟩
            go_wp2_with fail
            refine (HA2.out _).mono ?_
            rintro r w1 ⟨rfl, rfl⟩
            go_wp2_with (at_builtin; refine wpList_appendS rfl _ _ 54 rfl w.heap.size 5 i0 (.int .u8 0) 1 1 Tryz.underlying54 hi hz0 hz1 hz2 rfl (by decide) _ o.length (flatV vY o) rfl HOW.out #[.int .u8 ((m % 10 : Nat) : Int)] 5 1 rfl rfl H1c.out hbytes (by decide) HSZ.out ?_)
            intro g off' cap' w4 hown4 hg4 hb4 hat4
            have HN := hide (HGR.out.snoc (x := m % 10) rfl hown4 hg4)
            clear hown4 hg4 hb4 hat4
            go_wp2_with fail
            go_roundw
            case rel => exact ⟨k + 1, m / 10, o ++ [m % 10], by omega, by first | rfl | go_num, by first | rfl | go_num, HA.out.next HN.out HM.out⟩
            case measure => (simp [intOf]; try omega)
    · have f1 : decide ((k : Int) < ((natS x).size : Int)) = false := decide_eq_false (by omega)
      have f2 : decide ((k : Int) < ((natS y).size : Int)) = false := decide_eq_false (by omega)
      obtain rfl : c = 0 := by omega
      have hol := ha.len
      have hv : le10 o = x + y := by
        have := ha.sum
        rw [mod_all (x := x) (by rw [← natS_size]; omega), mod_all (x := y) (by rw [← natS_size]; omega)] at this
        omega
      have HV := hide hv
      have HA := hide ha
      have HB := hide ha.bld.below
      have hsl := Bld.to_slice vY_len ha.bld
      have HSL := hide hsl
      have ho0 : 0 < o.length := by omega
      have ho1 : o.length ≤ 100000 := by omega
      clear ha hv hsl hol
      go_wp2_with fail
      refine (ref_text o _ _ HSL.out ho0 ho1 HA.out.dig).mono ?_
      rintro e w1 ⟨rfl, hb⟩
      rw [HV.out]
      have HB1 := hide (bStep HB.out hb)
      clear hb
      go_wp2_with fail
      go_ret
      exact ⟨rfl, HB1.out⟩
end Go.Proofs.YtbefdlncpobmlaaGreatDoor
