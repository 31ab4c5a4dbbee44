/- observatoryref03: sub. -/
import Derived.Test.YtbefdlncpobmlaaGreatDoorRfQ
import Derived.Test.YtbefdlncpobmlaaGreatDoorRfC
namespace Go.Proofs.YtbefdlncpobmlaaGreatDoor
open Go.RowKit

/-- What sub's loop keeps. -/
structure SubI (w wx : World) (x y : Nat) (u : Value) (c k : Nat) (o : List Nat) : Prop where
  bld : Bld vY 1 w wx o u o.length
  len : o.length = k
  dig : D10 o
  sum : le10 o + y % 10 ^ k = x % 10 ^ k + c * 10 ^ k
  c1 : c ≤ 1
theorem SubI.next {w wx w4 : World} {x y c k m : Nat} {u u' : Value} {o : List Nat} (h : SubI w wx x y u c k o) (hb : Bld vY 1 w w4 (o ++ [m % 10]) u' (o ++ [m % 10]).length) (hm : m + atN y k + c = atN x k + 10) : SubI w w4 x y u' (1 - m / 10) (k + 1) (o ++ [m % 10]) := by
  refine ⟨hb, by simp [h.len], fun d hd => ?_, sub_step10 h.len h.c1 h.sum hm, by omega⟩
  rcases List.mem_append.1 hd with hd | hd
  · exact h.dig d hd
  · simp at hd; omega
set_option maxHeartbeats 2000000 in
set_option maxRecDepth 100000 in
theorem ref_sub (x y : Nat) (w : World) (hx : x < capN) (hle : y ≤ x) :
    Calls Tryz.prog 32 #[.string (natS x), .string (natS y)] w fun e w' => e = .returned (.string (natS (x - y))) ∧ Below w.heap.size w w' := by
  have sx : 1 ≤ (natS x).size ∧ (natS x).size ≤ 1000 := by rw [natS_size]; exact ⟨dec_len_pos x, capN_len.2 hx⟩
  have hy : y < capN := Nat.lt_of_le_of_lt hle hx
  have HX := hide hx
  have HY := hide hy
  have HLE := hide hle
  obtain ⟨i0, hi, hz0, hz1, hz2⟩ := info_parts Tryz.infoU8
  clear hx hy hle
  go_enter Tryz.func32, Tryz.ntmps32
  go_wp2_with fail
  go_loopw [5, 6, 7] (fun u c i wx => ∃ (k c' : Nat) (o : List Nat), k ≤ (natS x).size ∧ c = .int .i64 (c' : Int) ∧ i = .int .i64 (k : Int) ∧ SubI w wx x y u c' k o) (fun _ _ i _ => (natS x).size - (intOf i).toNat)
  case atStart => exact ⟨0, 0, [], by omega, rfl, rfl, ⟨Bld.nil _ _ _ _, rfl, by intro d hd; simp at hd, by simp [le10, Nat.mod_one], by omega⟩⟩
  case round =>
    obtain ⟨k, c, o, hk, rfl, rfl, ha⟩ := hrel
    have hc1 := ha.c1
    by_cases h : k < (natS x).size
    · have q1 : IntKind.i64.wrap ((k : Int) + 1) = (k : Int) + 1 := IntWalk.i64_in _ (by omega)
      obtain ⟨d, hd⟩ : ∃ d, atN x k = d := ⟨_, rfl⟩
      obtain ⟨e, he⟩ : ∃ e, atN y k = e := ⟨_, rfl⟩
      have hd10 : d < 10 := by rw [← hd]; exact atN_lt x k
      have he10 : e < 10 := by rw [← he]; exact atN_lt y k
      have A1 : ∀ W, Calls Tryz.prog 48 #[.string (natS x), .int .i64 (k : Int)] W fun r w' => r = .returned (.int .i64 (d : Int)) ∧ w' = W := fun W => by rw [← hd]; exact ref_at x k W HX.out
      have A2 : ∀ W, Calls Tryz.prog 48 #[.string (natS y), .int .i64 (k : Int)] W fun r w' => r = .returned (.int .i64 (e : Int)) ∧ w' = W := fun W => by rw [← he]; exact ref_at y k W HY.out
      have HA1 := hide A1
      have HA2 := hide A2
      have HA := hide ha
      have q2 : IntKind.i64.wrap ((d : Int) - (e : Int)) = (d : Int) - (e : Int) := IntWalk.i64_in _ (by omega)
      have q3 : IntKind.i64.wrap ((d : Int) - (e : Int) - (c : Int)) = (d : Int) - (e : Int) - (c : Int) := IntWalk.i64_in _ (by omega)
      obtain ⟨m, hm⟩ : ∃ m, m + e + c = d + 10 := ⟨d + 10 - e - c, by omega⟩
      have q4 : IntKind.i64.wrap ((d : Int) - (e : Int) - (c : Int) + 10) = (m : Int) := by rw [show (d : Int) - (e : Int) - (c : Int) + 10 = (m : Int) by omega]; exact IntWalk.i64_in _ (by omega)
      have HM : Hid (m + atN y k + c = atN x k + 10) := by rw [hd, he]; exact hm
      have hm20 : m < 20 := by omega
      clear A1 A2 ha hd he
      have q5 : IntKind.i64.wrap ((m : Int).tmod 10) = ((m % 10 : Nat) : Int) := by
        rw [show ((m : Int).tmod 10) = ((m % 10 : Nat) : Int) from (Int.ofNat_tmod m 10).symm]; exact IntWalk.i64_in _ (by omega)
      have q6 : IntKind.i64.wrap ((m : Int).tdiv 10) = ((m / 10 : Nat) : Int) := by
        rw [show ((m : Int).tdiv 10) = ((m / 10 : Nat) : Int) from (Int.ofNat_tdiv m 10).symm]; exact IntWalk.i64_in _ (by omega)
      have q7 : IntKind.u8.wrap ((m % 10 : Nat) : Int) = ((m % 10 : Nat) : Int) := IntWalk.u8_in _ (by omega)
      have q8 : IntKind.i64.wrap (1 - ((m / 10 : Nat) : Int)) = ((1 - m / 10 : Nat) : Int) := by rw [show 1 - ((m / 10 : Nat) : Int) = ((1 - m / 10 : Nat) : Int) by omega]; exact IntWalk.i64_in _ (by omega)
      have f1 : decide ((k : Int) < ((natS x).size : Int)) = true := decide_eq_true (by omega)
      have HGR := hide HA.out.bld
      have HOW := hide HGR.out.own_all
      have HSZ := hide HGR.out.below.size
      have hol := HA.out.len
      have H1c : Hid (∀ u ∈ (#[Value.int .u8 ((m % 10 : Nat) : Int)] : Array Value).toList, u.oneCell' = true) := by
        intro u hu
        simp at hu
        rcases hu with rfl
        rfl
      have hbytes : (o.length + 1) * 1 ≤ 140737488355328 := by omega
      clear hol hm
      go_wp2_with fail
      refine (HA1.out _).mono ?_
      rintro r w1 ⟨rfl, rfl⟩
      go_wp2_with fail
      refine (HA2.out _).mono ?_
      rintro r w1 ⟨rfl, rfl⟩
      go_wp2_with (at_builtin; refine wpList_appendS rfl _ _ 54 rfl w.heap.size 5 i0 (.int .u8 0) 1 1 Tryz.underlying54 hi hz0 hz1 hz2 rfl (by decide) _ o.length (flatV vY o) rfl HOW.out #[.int .u8 ((m % 10 : Nat) : Int)] 5 1 rfl rfl H1c.out hbytes (by decide) HSZ.out ?_)
      intro g off' cap' w4 hown4 hg4 hb4 hat4
      have HN := hide (HGR.out.snoc (x := m % 10) rfl hown4 hg4)
      clear hown4 hg4 hb4 hat4
      go_wp2_with fail
      go_roundw
      case rel => exact ⟨k + 1, 1 - m / 10, o ++ [m % 10], by omega, by first | rfl | go_num, by first | rfl | go_num, HA.out.next HN.out HM.out⟩
      case measure => (simp [intOf]; try omega)
    · have f1 : decide ((k : Int) < ((natS x).size : Int)) = false := decide_eq_false (by omega)
      have hol := ha.len
      have hv : le10 o = x - y := sub_end10 ha.dig rfl (by rw [hol]; exact ha.sum) (mod_all (x := x) (by rw [← natS_size]; omega)) HLE.out
      have HV := hide hv
      have HA := hide ha
      have HB := hide ha.bld.below
      have hsl := Bld.to_slice vY_len ha.bld
      have HSL := hide hsl
      have ho0 : 0 < o.length := by omega
      have ho1 : o.length ≤ 100000 := by omega
      clear ha hv hsl hol
      go_wp2_with fail
      refine (ref_text o _ _ HSL.out ho0 ho1 HA.out.dig).mono ?_
      rintro e w1 ⟨rfl, hb⟩
      rw [HV.out]
      have HB1 := hide (bStep HB.out hb)
      clear hb
      go_wp2_with fail
      go_ret
      exact ⟨rfl, HB1.out⟩
end Go.Proofs.YtbefdlncpobmlaaGreatDoor
