/- RfB, RfC, RfD, RfE, RfF, RfG, RfH in one text. -/
import Derived.Test.YtlagoiaiodjmhaaGreatDoorPkG
import Derived.Laws.IdiomStrings
import Derived.Test.YtlagoiaiodjmhaaGreatDoorPkA
import Derived.Test.YtlagoiaiodjmhaaGreatDoorPkF
import Derived.StillTailTactics
set_option linter.unusedVariables false
set_option linter.unusedSimpArgs false
/- observatoryref03: text. -/
namespace Go.Proofs.YtlagoiaiodjmhaaGreatDoor
open Go.RowKit

/-- One byte of a row. -/
def vY (d : Nat) : List Value := [.int .u8 (d : Int)]
theorem vY_len (d : Nat) : (vY d).length = 1 := rfl
theorem byte_cell {w : World} {b off : Nat} {l : List Nat} (h : ∀ i (h : i < l.length) j u, (vY l[i])[j]? = some u → w.cell? ⟨b, off + i * 1 + j, none⟩ = some u) {k : Nat} (hk : k < l.length) : w.cell? ⟨b, off + k, none⟩ = some (.int .u8 (l[k] : Int)) := by
  have := h k hk 0 _ rfl
  simpa using this
theorem flat_vY_set (o : List Nat) (i d : Nat) : flatV vY (o.set i d) = (flatV vY o).set i (.int .u8 (d : Int)) := by
  induction o generalizing i with
  | nil => rfl
  | cons a o ih =>
    cases i with
    | zero => rfl
    | succ i =>
      show vY a ++ flatV vY (o.set i d) = (vY a ++ flatV vY o).set (i + 1) _
      rw [ih]; rfl
theorem Tryz.infoU8 : (Tryz.prog.info? 5).map (fun i => (i.zero, i.size, i.bytes)) = some (some (.int .u8 0), 1, 1) := by kernel_rfl
theorem flat_vY_len (o : List Nat) : (flatV vY o).length = o.length := by rw [flatV_length vY_len, Nat.mul_one]
theorem flatY_zeros (n : Nat) : flatV vY (List.replicate n 0) = List.replicate n (.int .u8 0) := by
  induction n with
  | zero => rfl
  | succ n ih =>
    rw [List.replicate_succ, List.replicate_succ]
    show vY 0 ++ flatV vY (List.replicate n 0) = _
    rw [ih]; rfl
theorem madeY_cell (w : World) (n : Nat) (T : TypeId) (j : Nat) (h : j < n) : (w.alloc (.cells (madeCells #[.int .u8 0] n) T)).cell? ⟨w.heap.size, 0 + j, none⟩ = some (.int .u8 0) := by
  rw [World.cell?_alloc_at _ _ _ _ rfl]; simp [madeCells, h, Nat.mod_one]
theorem OwnS.madeY0 (w : World) (n : Nat) (T : TypeId) (hn : n ≤ maxLen) : OwnS (w.alloc (.cells (madeCells #[.int .u8 0] n) T)) w.heap.size 1 (.slice (some ⟨w.heap.size, 0, none⟩) n n) n (flatV vY (List.replicate n 0)) := by
  refine ⟨by rw [flatY_zeros]; simp, .inr ⟨w.heap.size, 0, n, rfl, Nat.le_refl _, by simp, Nat.le_refl _, hn, fun j hj => ⟨?_, by simp [go_sem]⟩, fun j u hu => ?_⟩⟩
  · rw [madeY_cell w n T j (by omega)]; rfl
  · rw [flatY_zeros] at hu
    have hj : j < n := by
      have := (List.getElem?_eq_some_iff.1 hu).1
      simpa using this
    rw [madeY_cell w n T j hj]
    simp [hj] at hu
    rw [hu]
/-- The row that text lays, behind its first i rounds. -/
structure TxtI (w : World) (B n : Nat) (o : List Nat) : Prop where
  o : OwnS w B 1 (.slice (some ⟨B, 0, none⟩) n n) n (flatV vY o)
theorem TxtI.cell {w : World} {B n : Nat} {o : List Nat} (h : TxtI w B n o) {i : Nat} (hi : i < n) : ∃ u, w.cell? ⟨B, 0 + i, none⟩ = some u ∧ w.frozen? ⟨B, 0 + i, none⟩ = false := by
  rcases h.o.2 with ⟨ao, h1, h2, _⟩ | ⟨g, off, cap, hv, hb, hlt, hn, hm, hc, hx⟩
  · omega
  · simp only [Value.slice.injEq, Option.some.injEq, Addr.mk.injEq, and_true, true_and] at hv
    obtain ⟨⟨rfl, rfl⟩, rfl⟩ := hv
    have := hc i (by omega)
    obtain ⟨u, hu⟩ := Option.isSome_iff_exists.1 this.1
    exact ⟨u, hu, this.2⟩
theorem TxtI.set {w : World} {B n : Nat} {o : List Nat} (h : TxtI w B n o) {i : Nat} (hi : i < n) (d : Nat) : TxtI (w.setCell ⟨B, 0 + i, none⟩ (.int .u8 (d : Int))) B n (o.set i d) :=
  ⟨by rw [flat_vY_set]; exact h.o.setOwn hi _⟩
theorem flatY (o : List Nat) : flatV vY o = o.map fun d => .int .u8 (d : Int) := by
  induction o with
  | nil => rfl
  | cons a o ih => show vY a ++ flatV vY o = _; rw [ih]; rfl
theorem revB_row (l : List Nat) : revB l = (rowT l l.length).map UInt8.ofNat := by
  rw [rowT_all]; unfold revB; rw [List.map_reverse, List.map_map]; rfl
theorem rowT_lt {l : List Nat} (hd : D10 l) : ∀ r ∈ rowT l l.length, r < 58 := by
  intro r hr
  rw [rowT_all] at hr
  simp only [List.mem_reverse, List.mem_map] at hr
  obtain ⟨d, hdm, rfl⟩ := hr
  have := hd d hdm
  omega
theorem TxtI.bytes {w : World} {B : Nat} {l : List Nat} (h : TxtI w B l.length (rowT l l.length)) (hd : D10 l) : ∀ j (hj : j < (revB l).length), w.cell? (Addr.add ⟨B, 0, none⟩ j) = some (.int .u8 ((revB l)[j].toNat : Int)) := by
  intro j hj
  have hj' : j < l.length := by rw [revB_len] at hj; exact hj
  have hR : (rowT l l.length).length = l.length := by rw [rowT_all]; simp
  rcases h.o.2 with ⟨ao, h1, h2, _⟩ | ⟨g, off, cap, hv, hb, hlt, hn, hm, hc, hx⟩
  · omega
  · simp only [Value.slice.injEq, Option.some.injEq, Addr.mk.injEq, and_true, true_and] at hv
    obtain ⟨⟨rfl, rfl⟩, rfl⟩ := hv
    have ea : Addr.add ⟨B, 0, none⟩ j = ⟨B, 0 + j, none⟩ := by simp [Addr.add]; intro h; omega
    rw [ea]
    refine hx j _ ?_
    rw [flatY, List.getElem?_map, List.getElem?_eq_getElem (by rw [hR]; exact hj')]
    simp only [revB_row, List.getElem_map, Option.map_some]
    have hm := rowT_lt hd _ (List.getElem_mem (l := rowT l l.length) (n := j) (by rw [hR]; exact hj'))
    congr 2
    rw [UInt8.toNat_ofNat']
    omega
set_option maxHeartbeats 2000000 in
set_option maxRecDepth 100000 in
theorem ref_text (l : List Nat) (v : Value) (w : World) (h : SliceOf vY 1 w v l) (h0 : 0 < l.length) (hl : l.length ≤ 100000) (hd : D10 l) :
    Calls Tryz.prog 98 #[v] w fun e w' => e = .returned (.string (natS (le10 l))) ∧ Below w.heap.size w w' := by
  obtain ⟨b, off, cap, rfl, hb, h1, h2, hc⟩ := h.some_of_pos h0
  have hmk := run_make_row' (P := Tryz.prog) 118 5 (.int .u8 0) 1 Tryz.underlying118 Tryz.infoU8 rfl .i64 .i64 l.length (by omega) (by omega)
  have HC := hide hc
  have HD := hide hd
  clear hc hd h
  go_enter Tryz.func98, Tryz.ntmps98
  go_wp2_with fail
  clear hmk
  go_loopw [4] (fun x wx => ∃ k : Nat, k ≤ l.length ∧ x = .int .i64 (k : Int) ∧ TxtI wx w.heap.size l.length (rowT l k) ∧ Below w.heap.size w wx) (fun x _ => l.length - (intOf x).toNat)
  case atStart => exact ⟨0, Nat.zero_le _, rfl, ⟨by rw [rowT_zero]; exact OwnS.madeY0 w _ _ (by unfold maxLen; omega)⟩, (Below.refl _ w).alloc (Nat.le_refl _) _⟩
  case round =>
    obtain ⟨k, hk, rfl, ht, hbl⟩ := hrel
    have HT := hide ht
    have HB := hide hbl
    by_cases hkn : k < l.length
    · have c1 := (hbl.cell (p := ⟨b, off + k, none⟩) hb).trans (byte_cell (w := w) HC.out hkn)
      obtain ⟨j, hj⟩ : ∃ j, l.length - 1 - k = j := ⟨_, rfl⟩
      have hjn : j < l.length := by omega
      obtain ⟨u, s0, s1⟩ := ht.cell hjn
      rw [Nat.zero_add] at s0 s1
      have q1 : IntKind.i64.wrap ((l.length : Int) - 1) = (l.length : Int) - 1 := IntWalk.i64_in _ (by omega)
      have q2 : IntKind.i64.wrap ((l.length : Int) - 1 - (k : Int)) = (j : Int) := by rw [show (l.length : Int) - 1 - (k : Int) = (j : Int) by omega]; exact IntWalk.i64_in _ (by omega)
      have hx10 := HD.out _ (List.getElem_mem hkn)
      have HS := hide (rowT_step hkn)
      obtain ⟨x, hx⟩ : ∃ x, l[k] = x := ⟨_, rfl⟩
      rw [hx] at c1 hx10
      have HX := hide hx
      have HJ := hide hj
      have q3 : IntKind.u8.wrap ((x : Int) + 48) = ((48 + x : Nat) : Int) := by rw [show (x : Int) + 48 = ((48 + x : Nat) : Int) by omega]; exact IntWalk.u8_in _ (by omega)
      have q4 : decide ((k : Int) < (l.length : Int)) = true := decide_eq_true (by omega)
      have q5 : IntKind.i64.wrap ((k : Int) + 1) = (k : Int) + 1 := IntWalk.i64_in _ (by omega)
      clear ht hbl hx hj
      go_wp2_with fail
      go_roundw
      case rel =>
        refine ⟨k + 1, by omega, by go_num, ?_, HB.out.setCell (p := ⟨w.heap.size, j, none⟩) (Nat.le_refl _) _⟩
        have := HT.out.set hjn (48 + x)
        rw [Nat.zero_add] at this
        have hs := HS.out
        rw [HX.out, HJ.out] at hs
        rw [← hs]
        exact this
      case measure => (simp [intOf]; try omega)
    · obtain rfl : k = l.length := by omega
      have q4 : decide ((l.length : Int) < (l.length : Int)) = false := decide_eq_false (by omega)
      have hcv := run_convert_bytes_back (P := Tryz.prog) wr 118 9 5 ⟨w.heap.size, 0, none⟩ l.length (revB l) Tryz.underlying118 Tryz.underlying5 Tryz.underlying9 (ht.bytes HD.out)
      rw [revB_len] at hcv
      clear ht hbl
      go_wp2_with fail
      refine (ref_trimmed ⟨(revB l).toArray⟩ _ (by show (revB l).toArray.size ≤ maxLen; rw [List.size_toArray, revB_len]; unfold maxLen; omega) (by show 0 < (revB l).toArray.size; rw [List.size_toArray, revB_len]; exact h0) (revB_dg HD.out)).mono ?_
      rintro e w1 ⟨rfl, rfl⟩
      go_wp2_with fail
      go_ret
      exact ⟨congrArg (fun n => Ending.returned (.string (natS n))) (nval_revB HD.out), HB.out⟩
end Go.Proofs.YtlagoiaiodjmhaaGreatDoor
/- observatoryref03: add. -/
namespace Go.Proofs.YtlagoiaiodjmhaaGreatDoor
open Go.RowKit

theorem Bld.grow {α : Type} {f : α → List Value} {size : Nat} {w wr : World} {M : List α} {u : Value} (h : Bld f size w wr M u M.length) (x : α) : Bld f size w wr (M ++ [x]) u M.length := by
  refine ⟨?_, h.below⟩
  have := h.own
  rw [List.take_of_length_le (Nat.le_refl _)] at this
  rw [List.take_left']
  · exact this
  · rfl
theorem Bld.own_all {α : Type} {f : α → List Value} {size : Nat} {w wr : World} {M : List α} {u : Value} (h : Bld f size w wr M u M.length) : OwnS wr w.heap.size size u M.length (flatV f M) := by
  have := h.own
  rwa [List.take_of_length_le (Nat.le_refl _)] at this
theorem Bld.snoc {α : Type} {f : α → List Value} {size : Nat} {w wr W : World} {M : List α} {u : Value} {g off cap : Nat} {x : α} {cs : List Value} (h : Bld f size w wr M u M.length) (hcs : cs = f x)
    (ho : OwnS W w.heap.size size (.slice (some ⟨g, off, none⟩) (M.length + 1) cap) (M.length + 1) (flatV f M ++ cs)) (hg : wr.grownBy W u.ownBlock) :
    Bld f size w W (M ++ [x]) (.slice (some ⟨g, off, none⟩) (M.length + 1) cap) (M ++ [x]).length := by
  have e : (M ++ [x]).length = M.length + 1 := by simp
  rw [e]
  refine (h.grow x).step (Below.refl _ _) (by simp) (by simp) hcs ?_ hg
  rw [List.take_left']
  · exact ho
  · rfl
theorem capK_lt {a b : Nat} (h : capK a < capK b) : a < b := (Nat.pow_lt_pow_iff_right (a := 10) (by decide)).1 h
/-- What add's loop keeps. -/
structure AddI (w wx : World) (x y : Nat) (u : Value) (c k : Nat) (o : List Nat) : Prop where
  bld : Bld vY 1 w wx o u o.length
  len : o.length = k
  dig : D10 o
  sum : le10 o + c * 10 ^ k = x % 10 ^ k + y % 10 ^ k
  c1 : c ≤ 1
theorem AddI.bound {w wx : World} {x y c k : Nat} {u : Value} {o : List Nat} (h : AddI w wx x y u c k o) (hx : x < capN) (hy : y < capN) (hc : 0 < c) : k ≤ 1000 := by
  have h1 := h.sum
  have h2 := Nat.mod_le x (10 ^ k)
  have h3 := Nat.mod_le y (10 ^ k)
  have h4 : x + y < capK 1001 := add_capK (a := 1000) hx hy
  have h5 : 1 * 10 ^ k ≤ c * 10 ^ k := Nat.mul_le_mul_right _ hc
  have h6 : capK k < capK 1001 := by
    show 10 ^ k < _
    omega
  have := capK_lt h6
  omega
theorem AddI.next {w wx w4 : World} {x y c k m : Nat} {u u' : Value} {o : List Nat} (h : AddI w wx x y u c k o) (hb : Bld vY 1 w w4 (o ++ [m % 10]) u' (o ++ [m % 10]).length) (hm : atN x k + atN y k + c = m) : AddI w w4 x y u' (m / 10) (k + 1) (o ++ [m % 10]) := by
  have a := atN_lt x k
  have b := atN_lt y k
  have hc := h.c1
  refine ⟨hb, by simp [h.len], fun d hd => ?_, ?_, by omega⟩
  · rcases List.mem_append.1 hd with hd | hd
    · exact h.dig d hd
    · simp at hd; omega
  · have := add_step10 h.len h.sum
    rw [hm] at this
    exact this
theorem add_le {d e c : Nat} (h1 : d < 10) (h2 : e < 10) (h3 : c ≤ 1) : (d + e + c) / 10 ≤ 1 := by omega
set_option maxHeartbeats 2000000 in
set_option maxRecDepth 100000 in
theorem ref_add (x y : Nat) (w : World) (hx : x < capN) (hy : y < capN) :
    Calls Tryz.prog 77 #[.string (natS x), .string (natS y)] w fun e w' => e = .returned (.string (natS (x + y))) ∧ Below w.heap.size w w' := by
  have sx : 1 ≤ (natS x).size ∧ (natS x).size ≤ 1000 := by rw [natS_size]; exact ⟨dec_len_pos x, capN_len.2 hx⟩
  have sy : 1 ≤ (natS y).size ∧ (natS y).size ≤ 1000 := by rw [natS_size]; exact ⟨dec_len_pos y, capN_len.2 hy⟩
  have HX := hide hx
  have HY := hide hy
  obtain ⟨i0, hi, hz0, hz1, hz2⟩ := info_parts Tryz.infoU8
  clear hx hy
  go_enter Tryz.func77, Tryz.ntmps77
  go_wp2_with fail
  go_loopw [5, 6, 7] (fun u c i wx => ∃ (k c' : Nat) (o : List Nat), k ≤ 1001 ∧ c = .int .i64 (c' : Int) ∧ i = .int .i64 (k : Int) ∧ AddI w wx x y u c' k o) (fun _ _ i _ => 1001 - (intOf i).toNat)
  case atStart => exact ⟨0, 0, [], by omega, rfl, rfl, ⟨Bld.nil _ _ _ _, rfl, by intro d hd; simp at hd, by simp [le10, Nat.mod_one], by omega⟩⟩
  case round =>
    obtain ⟨k, c, o, hk, rfl, rfl, ha⟩ := hrel
    have hc1 := ha.c1
    by_cases hgo : k < (natS x).size ∨ k < (natS y).size ∨ 0 < c
    · have hk1 : k ≤ 1000 := by
        rcases hgo with h | h | h
        · omega
        · omega
        · exact ha.bound HX.out HY.out h
      have q1 : IntKind.i64.wrap ((k : Int) + 1) = (k : Int) + 1 := IntWalk.i64_in _ (by omega)
      obtain ⟨d, hd⟩ : ∃ d, atN x k = d := ⟨_, rfl⟩
      obtain ⟨e, he⟩ : ∃ e, atN y k = e := ⟨_, rfl⟩
      have hd10 : d < 10 := by rw [← hd]; exact atN_lt x k
      have he10 : e < 10 := by rw [← he]; exact atN_lt y k
      have A1 : ∀ W, Calls Tryz.prog 97 #[.string (natS x), .int .i64 (k : Int)] W fun r w' => r = .returned (.int .i64 (d : Int)) ∧ w' = W := fun W => by rw [← hd]; exact ref_at x k W HX.out
      have A2 : ∀ W, Calls Tryz.prog 97 #[.string (natS y), .int .i64 (k : Int)] W fun r w' => r = .returned (.int .i64 (e : Int)) ∧ w' = W := fun W => by rw [← he]; exact ref_at y k W HY.out
      have HA1 := hide A1
      have HA2 := hide A2
      have HA := hide ha
      have q2 : IntKind.i64.wrap ((d : Int) + (e : Int)) = (d : Int) + (e : Int) := IntWalk.i64_in _ (by omega)
      have q3 : IntKind.i64.wrap ((d : Int) + (e : Int) + (c : Int)) = ((d + e + c : Nat) : Int) := by rw [show (d : Int) + (e : Int) + (c : Int) = ((d + e + c : Nat) : Int) by omega]; exact IntWalk.i64_in _ (by omega)
      have hm0 : atN x k + atN y k + c = d + e + c := by rw [hd, he]
      clear A1 A2 ha hd he
      obtain ⟨m, hm⟩ : ∃ m, d + e + c = m := ⟨_, rfl⟩
      have HM := hide (hm0.trans hm)
      have hm20 : m < 20 := by omega
      rw [hm] at q3
      clear hm hm0
      have q4 : IntKind.i64.wrap ((m : Int).tmod 10) = ((m % 10 : Nat) : Int) := by
        rw [show ((m : Int).tmod 10) = ((m % 10 : Nat) : Int) from (Int.ofNat_tmod m 10).symm]; exact IntWalk.i64_in _ (by omega)
      have q5 : IntKind.i64.wrap ((m : Int).tdiv 10) = ((m / 10 : Nat) : Int) := by
        rw [show ((m : Int).tdiv 10) = ((m / 10 : Nat) : Int) from (Int.ofNat_tdiv m 10).symm]; exact IntWalk.i64_in _ (by omega)
      have q6 : IntKind.u8.wrap ((m % 10 : Nat) : Int) = ((m % 10 : Nat) : Int) := IntWalk.u8_in _ (by omega)
      have HGR := hide HA.out.bld
      have HOW := hide HGR.out.own_all
      have HSZ := hide HGR.out.below.size
      have hol := HA.out.len
      have H1c : Hid (∀ u ∈ (#[Value.int .u8 ((m % 10 : Nat) : Int)] : Array Value).toList, u.oneCell' = true) := by
        intro u hu
        simp at hu
        rcases hu with rfl
        rfl
      have hbytes : (o.length + 1) * 1 ≤ 140737488355328 := by omega
      have HOL := hide hol
      clear hol
      rcases hgo with h | h | h
      · have f1 : decide ((k : Int) < ((natS x).size : Int)) = true := decide_eq_true (by omega)
        go_wp2_with fail
        refine (HA1.out _).mono ?_
        rintro r w1 ⟨rfl, rfl⟩
        go_wp2_with fail
        refine (HA2.out _).mono ?_
        rintro r w1 ⟨rfl, rfl⟩
        go_wp2_with (at_builtin; refine wpList_appendS rfl _ _ 118 rfl w.heap.size 5 i0 (.int .u8 0) 1 1 Tryz.underlying118 hi hz0 hz1 hz2 rfl (by decide) _ o.length (flatV vY o) rfl HOW.out #[.int .u8 ((m % 10 : Nat) : Int)] 5 1 rfl rfl H1c.out hbytes (by decide) HSZ.out ?_)
        intro g off' cap' w4 hown4 hg4 hb4 hat4
        have HN := hide (HGR.out.snoc (x := m % 10) rfl hown4 hg4)
        clear hown4 hg4 hb4 hat4
        go_wp2_with fail
        go_roundw
        case rel => exact ⟨k + 1, m / 10, o ++ [m % 10], by omega, by first | rfl | go_num, by first | rfl | go_num, HA.out.next HN.out HM.out⟩
        case measure => (simp [intOf]; try omega)
      · by_cases h' : k < (natS x).size
        · have f1 : decide ((k : Int) < ((natS x).size : Int)) = true := decide_eq_true (by omega)
          go_wp2_with fail
          refine (HA1.out _).mono ?_
          rintro r w1 ⟨rfl, rfl⟩
          go_wp2_with fail
          refine (HA2.out _).mono ?_
          rintro r w1 ⟨rfl, rfl⟩
          go_wp2_with (at_builtin; refine wpList_appendS rfl _ _ 118 rfl w.heap.size 5 i0 (.int .u8 0) 1 1 Tryz.underlying118 hi hz0 hz1 hz2 rfl (by decide) _ o.length (flatV vY o) rfl HOW.out #[.int .u8 ((m % 10 : Nat) : Int)] 5 1 rfl rfl H1c.out hbytes (by decide) HSZ.out ?_)
          intro g off' cap' w4 hown4 hg4 hb4 hat4
          have HN := hide (HGR.out.snoc (x := m % 10) rfl hown4 hg4)
          clear hown4 hg4 hb4 hat4
          go_wp2_with fail
          go_roundw
          case rel => exact ⟨k + 1, m / 10, o ++ [m % 10], by omega, by first | rfl | go_num, by first | rfl | go_num, HA.out.next HN.out HM.out⟩
          case measure => (simp [intOf]; try omega)
        · have f1 : decide ((k : Int) < ((natS x).size : Int)) = false := decide_eq_false (by omega)
          have f2 : decide ((k : Int) < ((natS y).size : Int)) = true := decide_eq_true (by omega)
          go_wp2_with fail
          refine (HA1.out _).mono ?_
          rintro r w1 ⟨rfl, rfl⟩
          go_wp2_with fail
          refine (HA2.out _).mono ?_
          rintro r w1 ⟨rfl, rfl⟩
          go_wp2_with (at_builtin; refine wpList_appendS rfl _ _ 118 rfl w.heap.size 5 i0 (.int .u8 0) 1 1 Tryz.underlying118 hi hz0 hz1 hz2 rfl (by decide) _ o.length (flatV vY o) rfl HOW.out #[.int .u8 ((m % 10 : Nat) : Int)] 5 1 rfl rfl H1c.out hbytes (by decide) HSZ.out ?_)
          intro g off' cap' w4 hown4 hg4 hb4 hat4
          have HN := hide (HGR.out.snoc (x := m % 10) rfl hown4 hg4)
          clear hown4 hg4 hb4 hat4
          go_wp2_with fail
          go_roundw
          case rel => exact ⟨k + 1, m / 10, o ++ [m % 10], by omega, by first | rfl | go_num, by first | rfl | go_num, HA.out.next HN.out HM.out⟩
          case measure => (simp [intOf]; try omega)
      · by_cases h' : k < (natS x).size
        · have f1 : decide ((k : Int) < ((natS x).size : Int)) = true := decide_eq_true (by omega)
          go_wp2_with fail
          refine (HA1.out _).mono ?_
          rintro r w1 ⟨rfl, rfl⟩
          go_wp2_with fail
          refine (HA2.out _).mono ?_
          rintro r w1 ⟨rfl, rfl⟩
          go_wp2_with (at_builtin; refine wpList_appendS rfl _ _ 118 rfl w.heap.size 5 i0 (.int .u8 0) 1 1 Tryz.underlying118 hi hz0 hz1 hz2 rfl (by decide) _ o.length (flatV vY o) rfl HOW.out #[.int .u8 ((m % 10 : Nat) : Int)] 5 1 rfl rfl H1c.out hbytes (by decide) HSZ.out ?_)
          intro g off' cap' w4 hown4 hg4 hb4 hat4
          have HN := hide (HGR.out.snoc (x := m % 10) rfl hown4 hg4)
          clear hown4 hg4 hb4 hat4
          go_wp2_with fail
          go_roundw
          case rel => exact ⟨k + 1, m / 10, o ++ [m % 10], by omega, by first | rfl | go_num, by first | rfl | go_num, HA.out.next HN.out HM.out⟩
          case measure => (simp [intOf]; try omega)
        · have f1 : decide ((k : Int) < ((natS x).size : Int)) = false := decide_eq_false (by omega)
          by_cases h2 : k < (natS y).size
          · have f2 : decide ((k : Int) < ((natS y).size : Int)) = true := decide_eq_true (by omega)
            go_wp2_with fail
            refine (HA1.out _).mono ?_
            rintro r w1 ⟨rfl, rfl⟩
            go_wp2_with fail
            refine (HA2.out _).mono ?_
            rintro r w1 ⟨rfl, rfl⟩
            go_wp2_with (at_builtin; refine wpList_appendS rfl _ _ 118 rfl w.heap.size 5 i0 (.int .u8 0) 1 1 Tryz.underlying118 hi hz0 hz1 hz2 rfl (by decide) _ o.length (flatV vY o) rfl HOW.out #[.int .u8 ((m % 10 : Nat) : Int)] 5 1 rfl rfl H1c.out hbytes (by decide) HSZ.out ?_)
            intro g off' cap' w4 hown4 hg4 hb4 hat4
            have HN := hide (HGR.out.snoc (x := m % 10) rfl hown4 hg4)
            clear hown4 hg4 hb4 hat4
            go_wp2_with fail
            go_roundw
            case rel => exact ⟨k + 1, m / 10, o ++ [m % 10], by omega, by first | rfl | go_num, by first | rfl | go_num, HA.out.next HN.out HM.out⟩
            case measure => (simp [intOf]; try omega)
          · have f2 : decide ((k : Int) < ((natS y).size : Int)) = false := decide_eq_false (by omega)
            have f3 : decide ((0 : Int) < (c : Int)) = true := decide_eq_true (by omega)
            go_wp2_with fail
            refine (HA1.out _).mono ?_
            rintro r w1 ⟨rfl, rfl⟩
            go_wp2_with fail
            refine (HA2.out _).mono ?_
            rintro r w1 ⟨rfl, rfl⟩
            go_wp2_with (at_builtin; refine wpList_appendS rfl _ _ 118 rfl w.heap.size 5 i0 (.int .u8 0) 1 1 Tryz.underlying118 hi hz0 hz1 hz2 rfl (by decide) _ o.length (flatV vY o) rfl HOW.out #[.int .u8 ((m % 10 : Nat) : Int)] 5 1 rfl rfl H1c.out hbytes (by decide) HSZ.out ?_)
            intro g off' cap' w4 hown4 hg4 hb4 hat4
            have HN := hide (HGR.out.snoc (x := m % 10) rfl hown4 hg4)
            clear hown4 hg4 hb4 hat4
            go_wp2_with fail
            go_roundw
            case rel => exact ⟨k + 1, m / 10, o ++ [m % 10], by omega, by first | rfl | go_num, by first | rfl | go_num, HA.out.next HN.out HM.out⟩
            case measure => (simp [intOf]; try omega)
    · have f1 : decide ((k : Int) < ((natS x).size : Int)) = false := decide_eq_false (by omega)
      have f2 : decide ((k : Int) < ((natS y).size : Int)) = false := decide_eq_false (by omega)
      obtain rfl : c = 0 := by omega
      have hol := ha.len
      have hv : le10 o = x + y := by
        have := ha.sum
        rw [mod_all (x := x) (by rw [← natS_size]; omega), mod_all (x := y) (by rw [← natS_size]; omega)] at this
        omega
      have HV := hide hv
      have HA := hide ha
      have HB := hide ha.bld.below
      have hsl := Bld.to_slice vY_len ha.bld
      have HSL := hide hsl
      have ho0 : 0 < o.length := by omega
      have ho1 : o.length ≤ 100000 := by omega
      clear ha hv hsl hol
      go_wp2_with fail
      refine (ref_text o _ _ HSL.out ho0 ho1 HA.out.dig).mono ?_
      rintro e w1 ⟨rfl, hb⟩
      rw [HV.out]
      have HB1 := hide (bStep HB.out hb)
      clear hb
      go_wp2_with fail
      go_ret
      exact ⟨rfl, HB1.out⟩
end Go.Proofs.YtlagoiaiodjmhaaGreatDoor
/- observatoryref03: sub. -/
namespace Go.Proofs.YtlagoiaiodjmhaaGreatDoor
open Go.RowKit

/-- What sub's loop keeps. -/
structure SubI (w wx : World) (x y : Nat) (u : Value) (c k : Nat) (o : List Nat) : Prop where
  bld : Bld vY 1 w wx o u o.length
  len : o.length = k
  dig : D10 o
  sum : le10 o + y % 10 ^ k = x % 10 ^ k + c * 10 ^ k
  c1 : c ≤ 1
theorem SubI.next {w wx w4 : World} {x y c k m : Nat} {u u' : Value} {o : List Nat} (h : SubI w wx x y u c k o) (hb : Bld vY 1 w w4 (o ++ [m % 10]) u' (o ++ [m % 10]).length) (hm : m + atN y k + c = atN x k + 10) : SubI w w4 x y u' (1 - m / 10) (k + 1) (o ++ [m % 10]) := by
  refine ⟨hb, by simp [h.len], fun d hd => ?_, sub_step10 h.len h.c1 h.sum hm, by omega⟩
  rcases List.mem_append.1 hd with hd | hd
  · exact h.dig d hd
  · simp at hd; omega
set_option maxHeartbeats 2000000 in
set_option maxRecDepth 100000 in
theorem ref_sub (x y : Nat) (w : World) (hx : x < capN) (hle : y ≤ x) :
    Calls Tryz.prog 79 #[.string (natS x), .string (natS y)] w fun e w' => e = .returned (.string (natS (x - y))) ∧ Below w.heap.size w w' := by
  have sx : 1 ≤ (natS x).size ∧ (natS x).size ≤ 1000 := by rw [natS_size]; exact ⟨dec_len_pos x, capN_len.2 hx⟩
  have hy : y < capN := Nat.lt_of_le_of_lt hle hx
  have HX := hide hx
  have HY := hide hy
  have HLE := hide hle
  obtain ⟨i0, hi, hz0, hz1, hz2⟩ := info_parts Tryz.infoU8
  clear hx hy hle
  go_enter Tryz.func79, Tryz.ntmps79
  go_wp2_with fail
  go_loopw [5, 6, 7] (fun u c i wx => ∃ (k c' : Nat) (o : List Nat), k ≤ (natS x).size ∧ c = .int .i64 (c' : Int) ∧ i = .int .i64 (k : Int) ∧ SubI w wx x y u c' k o) (fun _ _ i _ => (natS x).size - (intOf i).toNat)
  case atStart => exact ⟨0, 0, [], by omega, rfl, rfl, ⟨Bld.nil _ _ _ _, rfl, by intro d hd; simp at hd, by simp [le10, Nat.mod_one], by omega⟩⟩
  case round =>
    obtain ⟨k, c, o, hk, rfl, rfl, ha⟩ := hrel
    have hc1 := ha.c1
    by_cases h : k < (natS x).size
    · have q1 : IntKind.i64.wrap ((k : Int) + 1) = (k : Int) + 1 := IntWalk.i64_in _ (by omega)
      obtain ⟨d, hd⟩ : ∃ d, atN x k = d := ⟨_, rfl⟩
      obtain ⟨e, he⟩ : ∃ e, atN y k = e := ⟨_, rfl⟩
      have hd10 : d < 10 := by rw [← hd]; exact atN_lt x k
      have he10 : e < 10 := by rw [← he]; exact atN_lt y k
      have A1 : ∀ W, Calls Tryz.prog 97 #[.string (natS x), .int .i64 (k : Int)] W fun r w' => r = .returned (.int .i64 (d : Int)) ∧ w' = W := fun W => by rw [← hd]; exact ref_at x k W HX.out
      have A2 : ∀ W, Calls Tryz.prog 97 #[.string (natS y), .int .i64 (k : Int)] W fun r w' => r = .returned (.int .i64 (e : Int)) ∧ w' = W := fun W => by rw [← he]; exact ref_at y k W HY.out
      have HA1 := hide A1
      have HA2 := hide A2
      have HA := hide ha
      have q2 : IntKind.i64.wrap ((d : Int) - (e : Int)) = (d : Int) - (e : Int) := IntWalk.i64_in _ (by omega)
      have q3 : IntKind.i64.wrap ((d : Int) - (e : Int) - (c : Int)) = (d : Int) - (e : Int) - (c : Int) := IntWalk.i64_in _ (by omega)
      obtain ⟨m, hm⟩ : ∃ m, m + e + c = d + 10 := ⟨d + 10 - e - c, by omega⟩
      have q4 : IntKind.i64.wrap ((d : Int) - (e : Int) - (c : Int) + 10) = (m : Int) := by rw [show (d : Int) - (e : Int) - (c : Int) + 10 = (m : Int) by omega]; exact IntWalk.i64_in _ (by omega)
      have HM : Hid (m + atN y k + c = atN x k + 10) := by rw [hd, he]; exact hm
      have hm20 : m < 20 := by omega
      clear A1 A2 ha hd he
      have q5 : IntKind.i64.wrap ((m : Int).tmod 10) = ((m % 10 : Nat) : Int) := by
        rw [show ((m : Int).tmod 10) = ((m % 10 : Nat) : Int) from (Int.ofNat_tmod m 10).symm]; exact IntWalk.i64_in _ (by omega)
      have q6 : IntKind.i64.wrap ((m : Int).tdiv 10) = ((m / 10 : Nat) : Int) := by
        rw [show ((m : Int).tdiv 10) = ((m / 10 : Nat) : Int) from (Int.ofNat_tdiv m 10).symm]; exact IntWalk.i64_in _ (by omega)
      have q7 : IntKind.u8.wrap ((m % 10 : Nat) : Int) = ((m % 10 : Nat) : Int) := IntWalk.u8_in _ (by omega)
      have q8 : IntKind.i64.wrap (1 - ((m / 10 : Nat) : Int)) = ((1 - m / 10 : Nat) : Int) := by rw [show 1 - ((m / 10 : Nat) : Int) = ((1 - m / 10 : Nat) : Int) by omega]; exact IntWalk.i64_in _ (by omega)
      have f1 : decide ((k : Int) < ((natS x).size : Int)) = true := decide_eq_true (by omega)
      have HGR := hide HA.out.bld
      have HOW := hide HGR.out.own_all
      have HSZ := hide HGR.out.below.size
      have hol := HA.out.len
      have H1c : Hid (∀ u ∈ (#[Value.int .u8 ((m % 10 : Nat) : Int)] : Array Value).toList, u.oneCell' = true) := by
        intro u hu
        simp at hu
        rcases hu with rfl
        rfl
      have hbytes : (o.length + 1) * 1 ≤ 140737488355328 := by omega
      clear hol hm
      go_wp2_with fail
      refine (HA1.out _).mono ?_
      rintro r w1 ⟨rfl, rfl⟩
      go_wp2_with fail
      refine (HA2.out _).mono ?_
      rintro r w1 ⟨rfl, rfl⟩
      go_wp2_with (at_builtin; refine wpList_appendS rfl _ _ 118 rfl w.heap.size 5 i0 (.int .u8 0) 1 1 Tryz.underlying118 hi hz0 hz1 hz2 rfl (by decide) _ o.length (flatV vY o) rfl HOW.out #[.int .u8 ((m % 10 : Nat) : Int)] 5 1 rfl rfl H1c.out hbytes (by decide) HSZ.out ?_)
      intro g off' cap' w4 hown4 hg4 hb4 hat4
      have HN := hide (HGR.out.snoc (x := m % 10) rfl hown4 hg4)
      clear hown4 hg4 hb4 hat4
      go_wp2_with fail
      go_roundw
      case rel => exact ⟨k + 1, 1 - m / 10, o ++ [m % 10], by omega, by first | rfl | go_num, by first | rfl | go_num, HA.out.next HN.out HM.out⟩
      case measure => (simp [intOf]; try omega)
    · have f1 : decide ((k : Int) < ((natS x).size : Int)) = false := decide_eq_false (by omega)
      have hol := ha.len
      have hv : le10 o = x - y := sub_end10 ha.dig rfl (by rw [hol]; exact ha.sum) (mod_all (x := x) (by rw [← natS_size]; omega)) HLE.out
      have HV := hide hv
      have HA := hide ha
      have HB := hide ha.bld.below
      have hsl := Bld.to_slice vY_len ha.bld
      have HSL := hide hsl
      have ho0 : 0 < o.length := by omega
      have ho1 : o.length ≤ 100000 := by omega
      clear ha hv hsl hol
      go_wp2_with fail
      refine (ref_text o _ _ HSL.out ho0 ho1 HA.out.dig).mono ?_
      rintro e w1 ⟨rfl, hb⟩
      rw [HV.out]
      have HB1 := hide (bStep HB.out hb)
      clear hb
      go_wp2_with fail
      go_ret
      exact ⟨rfl, HB1.out⟩
end Go.Proofs.YtlagoiaiodjmhaaGreatDoor
/- observatoryref03: Valid, less. -/
namespace Go.Proofs.YtlagoiaiodjmhaaGreatDoor
open Go.RowKit

theorem dg_get {s : ByteArray} {k : Nat} (h : k < s.size) : s.data.toList[k]'h = s[k] := rfl
theorem vldN_bad_at {s : ByteArray} {k : Nat} (h : k < s.size) (hb : isDg s[k] = false) : vldN s = false := by
  refine vldN_nodigit fun h2 => ?_
  rw [List.all_eq_true] at h2
  have := h2 s[k] (by rw [← dg_get h]; exact List.getElem_mem _)
  rw [hb] at this; exact absurd this (by decide)
theorem all_dg {s : ByteArray} (h : ∀ j (hj : j < s.size), isDg s[j] = true) : s.data.toList.all isDg = true := by
  rw [List.all_eq_true]
  intro b hb
  obtain ⟨j, hj, rfl⟩ := List.mem_iff_getElem.1 hb
  exact h j hj
set_option maxHeartbeats 1000000 in
set_option maxRecDepth 100000 in
theorem ref_valid_loop (s : ByteArray) (w : World) (h0 : 0 < s.size) (h1000 : s.size ≤ 1000) (h3 : s[0].toNat ≠ 48 ∨ s.size = 1) :
    Calls Tryz.prog 74 #[.string s] w fun e w' => e = .returned (.bool (vldN s)) ∧ w = w' := by
  have h1 : decide ((s.size : Int) < 1) = false := decide_eq_false (by omega)
  have h2 : decide ((1000 : Int) < (s.size : Int)) = false := decide_eq_false (by omega)
  have H3 := hide h3
  have f0 : decide ((1 : Int) < (s.size : Int)) = false ∨ (decide ((1 : Int) < (s.size : Int)) = true ∧ ((s[0].toNat : Int) == 48) = false) := by
    by_cases hs : s.size = 1
    · exact .inl (decide_eq_false (by omega))
    · refine .inr ⟨decide_eq_true (by omega), ?_⟩
      rcases h3 with h | h
      · simp; omega
      · exact absurd h hs
  clear h3
  rcases f0 with f1 | ⟨f1, f2⟩
  all_goals
    go_enter Tryz.func74, Tryz.ntmps74
    go_wp2_with fail
    go_loop [3] (fun x => ∃ k : Nat, k ≤ s.size ∧ x = .int .i64 (k : Int) ∧ ∀ j (hj : j < s.size), j < k → isDg s[j] = true) (fun x => s.size - (intOf x).toNat)
    case atStart => exact ⟨0, Nat.zero_le _, rfl, fun j hj h => by omega⟩
    case round =>
      obtain ⟨k, hk, rfl, hall⟩ := hrel
      have HA := hide hall
      clear hall
      by_cases hkl : k < s.size
      · have g1 : decide ((k : Int) < (s.size : Int)) = true := decide_eq_true (by omega)
        by_cases hd : isDg s[k] = true
        · have HD := hide hd
          have hd' := isDg_iff.1 hd
          have g2 : decide ((s[k].toNat : Int) < 48) = false := decide_eq_false (by omega)
          have g3 : decide ((57 : Int) < (s[k].toNat : Int)) = false := decide_eq_false (by omega)
          clear hd hd'
          go_wp2_with fail
          go_round
          case rel => exact ⟨k + 1, by omega, by go_num, fun j hj hlt => by
            by_cases e : j = k
            · subst e; exact HD.out
            · exact HA.out j hj (by omega)⟩
          case measure => (simp [intOf]; try omega)
        · have hd0 : isDg s[k] = false := by simpa using hd
          have HR := hide (vldN_bad_at hkl hd0)
          have hd' : s[k].toNat < 48 ∨ 57 < s[k].toNat := by
            rcases Nat.lt_or_ge s[k].toNat 48 with h | h
            · exact .inl h
            · right
              rcases Nat.lt_or_ge 57 s[k].toNat with h' | h'
              · exact h'
              · exact absurd (isDg_iff.2 ⟨h, h'⟩) hd
          clear hd hd0
          rcases hd' with h | h
          · have g2 : decide ((s[k].toNat : Int) < 48) = true := decide_eq_true (by omega)
            go_wp2_with fail
            go_ret
            exact ⟨ret_bool HR.out.symm, rfl⟩
          · have g2 : decide ((s[k].toNat : Int) < 48) = false := decide_eq_false (by omega)
            have g3 : decide ((57 : Int) < (s[k].toNat : Int)) = true := decide_eq_true (by omega)
            go_wp2_with fail
            go_ret
            exact ⟨ret_bool HR.out.symm, rfl⟩
      · have g1 : decide ((k : Int) < (s.size : Int)) = false := decide_eq_false (by omega)
        have HR := hide (vldN_ok h0 h1000 (all_dg fun j hj => HA.out j hj (by omega)) H3.out)
        go_wp2_with fail
        go_ret
        exact ⟨ret_bool HR.out.symm, rfl⟩
set_option maxHeartbeats 1000000 in
set_option maxRecDepth 100000 in
theorem ref_valid (s : ByteArray) (w : World) (hs : s.size ≤ maxLen) :
    Calls Tryz.prog 74 #[.string s] w fun e w' => e = .returned (.bool (vldN s)) ∧ w = w' := by
  unfold maxLen at hs
  by_cases h0 : s.size = 0
  · have H := hide (vldN_size0 h0)
    have h1 : decide ((s.size : Int) < 1) = true := decide_eq_true (by omega)
    clear h0
    go_enter Tryz.func74, Tryz.ntmps74
    go_wp2_with fail
    go_ret
    exact ⟨ret_bool H.out.symm, rfl⟩
  by_cases hL : 1000 < s.size
  · have H := hide (vldN_long hL)
    have h1 : decide ((s.size : Int) < 1) = false := decide_eq_false (by omega)
    have h2 : decide ((1000 : Int) < (s.size : Int)) = true := decide_eq_true (by omega)
    go_enter Tryz.func74, Tryz.ntmps74
    go_wp2_with fail
    go_ret
    exact ⟨ret_bool H.out.symm, rfl⟩
  have h5 : 0 < s.size := by omega
  by_cases hz : s.size ≠ 1 ∧ s[0].toNat = 48
  · have H := hide (vldN_zero (s := s) (by omega) hz.2)
    have h1 : decide ((s.size : Int) < 1) = false := decide_eq_false (by omega)
    have h2 : decide ((1000 : Int) < (s.size : Int)) = false := decide_eq_false (by omega)
    have h3 : decide ((1 : Int) < (s.size : Int)) = true := decide_eq_true (by omega)
    have h4 : ((s[0].toNat : Int) == 48) = true := by rw [hz.2]; rfl
    clear hz
    go_enter Tryz.func74, Tryz.ntmps74
    go_wp2_with fail
    go_ret
    exact ⟨ret_bool H.out.symm, rfl⟩
  · refine ref_valid_loop s w (by omega) (by omega) ?_
    by_cases h1 : s.size = 1
    · exact .inr h1
    · exact .inl fun e => hz ⟨h1, e⟩
theorem bytes_list (s : ByteArray) : s.toList = s.data.toList := by
  rw [ByteArray.toList_eq]
set_option maxHeartbeats 1000000 in
set_option maxRecDepth 100000 in
theorem ref_less (x y : Nat) (w : World) (hx : x < capN) (hy : y < capN) :
    Calls Tryz.prog 78 #[.string (natS x), .string (natS y)] w fun e w' => e = .returned (.bool (decide (x < y))) ∧ w = w' := by
  have sx : 1 ≤ (natS x).size ∧ (natS x).size ≤ 1000 := by rw [natS_size]; exact ⟨dec_len_pos x, capN_len.2 hx⟩
  have sy : 1 ≤ (natS y).size ∧ (natS y).size ≤ 1000 := by rw [natS_size]; exact ⟨dec_len_pos y, capN_len.2 hy⟩
  by_cases h : (natS x).size = (natS y).size
  · have h1 : ((((natS x).size : Nat) : Int) != ((natS y).size : Int)) = false := by rw [h]; simp
    have HL : Hid (Op.bytesLess (natS x).toList (natS y).toList = decide (x < y)) := by
      show _ = _
      rw [bytes_list, bytes_list]
      have := less_digits (Lib.decDigits x) (Lib.decDigits y) (by rw [← natS_size, ← natS_size]; exact h) (dec_digit x) (dec_digit y)
      rw [nval_dec, nval_dec] at this
      exact this
    clear h
    go_enter Tryz.func78, Tryz.ntmps78
    go_wp2_with fail
    go_ret
    exact ⟨ret_bool HL.out, rfl⟩
  · have h1 : ((((natS x).size : Nat) : Int) != ((natS y).size : Int)) = true := by simp; omega
    by_cases hlt : (natS x).size < (natS y).size
    · have h2 : decide ((((natS x).size : Nat) : Int) < ((natS y).size : Int)) = true := decide_eq_true (by omega)
      have HR : Hid (decide (x < y) = true) := decide_eq_true (len_lt_lt (by rw [← natS_size, ← natS_size]; exact hlt))
      clear h
      go_enter Tryz.func78, Tryz.ntmps78
      go_wp2_with fail
      go_ret
      exact ⟨ret_bool HR.out.symm, rfl⟩
    · have h2 : decide ((((natS x).size : Nat) : Int) < ((natS y).size : Int)) = false := decide_eq_false (by omega)
      have HR : Hid (decide (x < y) = false) := by
        have := len_lt_lt (x := y) (y := x) (by rw [← natS_size, ← natS_size]; omega)
        exact decide_eq_false (by omega)
      clear h
      go_enter Tryz.func78, Tryz.ntmps78
      go_wp2_with fail
      go_ret
      exact ⟨ret_bool HR.out.symm, rfl⟩
end Go.Proofs.YtlagoiaiodjmhaaGreatDoor
/- observatoryref03: mul. -/
namespace Go.Proofs.YtlagoiaiodjmhaaGreatDoor
open Go.RowKit

/-- The sums of mul. -/
structure MulI (w wx : World) (N : Nat) (S : List Nat) (V M : Nat) : Prop where
  o : OwnS wx w.heap.size 1 (.slice (some ⟨w.heap.size, 0, none⟩) N N) N (flatV vN S)
  bl : Below w.heap.size w wx
  val : le10 S = V
  bd : ∀ s ∈ S, s ≤ M
theorem MulI.len {w wx : World} {N V M : Nat} {S : List Nat} (h : MulI w wx N S V M) : S.length = N := by
  have := h.o.1; rw [flat_vN_len, Nat.mul_one] at this; exact this
theorem MulI.cell {w wx : World} {N V M : Nat} {S : List Nat} (h : MulI w wx N S V M) {j : Nat} (hj : j < N) : ∃ s, S[j]? = some s ∧ s ≤ M ∧ wx.cell? ⟨w.heap.size, j, none⟩ = some (.int .i64 (s : Int)) ∧ wx.frozen? ⟨w.heap.size, j, none⟩ = false := by
  have hl := h.len
  have hg : S[j]? = some (S[j]'(by omega)) := List.getElem?_eq_getElem (by omega)
  refine ⟨S[j]'(by omega), hg, h.bd _ (List.getElem_mem _), ?_⟩
  rcases h.o.2 with ⟨ao, h1, h2, _⟩ | ⟨g, off, cap, hv, hb, hlt, hn, hm, hc, hx⟩
  · omega
  · simp only [Value.slice.injEq, Option.some.injEq, Addr.mk.injEq, and_true, true_and] at hv
    obtain ⟨⟨rfl, rfl⟩, rfl⟩ := hv
    have hf := (hc j (by omega)).2
    have hx' := hx j (.int .i64 ((S[j]'(by omega) : Nat) : Int)) (by
      have := flatV_get vN_len S j (by omega) 0 (by omega)
      simp only [Nat.mul_one, Nat.add_zero] at this
      rw [this]; rfl)
    rw [Nat.zero_add] at hf hx'
    exact ⟨hx', hf⟩
theorem MulI.set {w wx wy : World} {N V M j s v : Nat} {S : List Nat} (h : MulI w wx N S V M) (hb : Below wx.heap.size wx wy) (hj : j < N) (hs : S[j]? = some s) (hv : v ≤ 81) : MulI w (wy.setCell ⟨w.heap.size, j, none⟩ (.int .i64 ((s + v : Nat) : Int))) N (S.set j (s + v)) (V + v * 10 ^ j) (M + 81) := by
  have hl := h.len
  have e : S[j]'(by omega) = s := by
    rw [List.getElem?_eq_getElem (by omega)] at hs
    injection hs
  refine ⟨?_, ?_, ?_, ?_⟩
  · rw [flat_vN_set]
    have := (h.o.below hb).setOwn hj (.int .i64 ((s + v : Nat) : Int))
    rw [Nat.zero_add] at this
    exact this
  · exact (h.bl.trans (hb.mono h.bl.size)).setCell (p := ⟨w.heap.size, j, none⟩) (Nat.le_refl _) _
  · rw [← e, le10_set, h.val]
  · intro t ht
    rcases List.mem_or_eq_of_mem_set ht with h1 | h1
    · have := h.bd t h1; omega
    · have := h.bd s (by rw [← e]; exact List.getElem_mem _)
      omega
theorem MulI.up {w wx : World} {N V V' M M' : Nat} {S : List Nat} (h : MulI w wx N S V M) (hV : V = V') (hM : M ≤ M') : MulI w wx N S V' M' := ⟨h.o, h.bl, h.val.trans hV, fun s hs => Nat.le_trans (h.bd s hs) hM⟩
theorem MulI.start (w : World) (N : Nat) (T : TypeId) (hN : N ≤ maxLen) : MulI w (w.alloc (.cells (madeCells #[.int .i64 0] N) T)) N (List.replicate N 0) 0 0 :=
  ⟨OwnS.made0 w N T hN, (Below.refl _ _).alloc (Nat.le_refl _) _, le10_zeros N, fun s hs => by rw [List.eq_of_mem_replicate hs]; exact Nat.le_refl _⟩
theorem MulI.slice {w wx : World} {N V M : Nat} {S : List Nat} (h : MulI w wx N S V M) : SliceOf vN 1 wx (.slice (some ⟨w.heap.size, 0, none⟩) N N) S :=
  OwnS.slice vN_len (B := w.heap.size) (by rw [h.len]; exact h.o)
theorem zrow_set (o : List Nat) (n d : Nat) : (o ++ List.replicate (n + 1) 0).set o.length d = (o ++ [d]) ++ List.replicate n 0 := by
  rw [List.set_append_right _ _ (Nat.le_refl _), Nat.sub_self, List.replicate_succ, List.set_cons_zero, List.append_assoc]; rfl
/-- The digits that mul lays down. -/
structure OutI (w wx : World) (S : List Nat) (c k : Nat) (o : List Nat) : Prop where
  row : TxtI wx w.heap.size S.length (o ++ List.replicate (S.length - k) 0)
  bl : Below w.heap.size w wx
  len : o.length = k
  dig : D10 o
  sum : le10 o + c * 10 ^ k = le10 (S.take k)
  cb : c ≤ 100000000
theorem OutI.next {w wx : World} {S o : List Nat} {c k s : Nat} (h : OutI w wx S c k o) (hk : k < S.length) (hs : S[k]? = some s) (hb : s ≤ 100000000) :
    OutI w (wx.setCell ⟨w.heap.size, k, none⟩ (.int .u8 (((s + c) % 10 : Nat) : Int))) S ((s + c) / 10) (k + 1) (o ++ [(s + c) % 10]) := by
  have e : S[k] = s := by
    rw [List.getElem?_eq_getElem hk] at hs
    injection hs
  have hcb := h.cb
  refine ⟨?_, h.bl.setCell (p := ⟨w.heap.size, k, none⟩) (Nat.le_refl _) _, by simp [h.len], fun d hd => ?_, ?_, by omega⟩
  · have := h.row.set hk ((s + c) % 10)
    rw [Nat.zero_add] at this
    have e2 : (o ++ List.replicate (S.length - k) 0).set k ((s + c) % 10) = (o ++ [(s + c) % 10]) ++ List.replicate (S.length - (k + 1)) 0 := by
      rw [show S.length - k = (S.length - (k + 1)) + 1 by omega, ← h.len]
      exact zrow_set o _ _
    rw [e2] at this
    exact this
  · rcases List.mem_append.1 hd with hd | hd
    · exact h.dig d hd
    · simp at hd; omega
  · have := out_step10 hk h.len h.sum
    rw [e] at this
    exact this
theorem OutI.slice {w wx : World} {S o : List Nat} {c : Nat} (h : OutI w wx S c S.length o) : SliceOf vY 1 wx (.slice (some ⟨w.heap.size, 0, none⟩) S.length S.length) o := by
  have hr := h.row.o
  rw [Nat.sub_self, List.replicate_zero, List.append_nil] at hr
  have hl := h.len
  refine OwnS.slice vY_len (B := w.heap.size) ?_
  rw [hl]
  exact hr
theorem OutI.cell {w wx : World} {S o : List Nat} {c k : Nat} (h : OutI w wx S c k o) (hk : k < S.length) : ∃ u, wx.cell? ⟨w.heap.size, k, none⟩ = some u ∧ wx.frozen? ⟨w.heap.size, k, none⟩ = false := by
  obtain ⟨u, h1, h2⟩ := h.row.cell hk
  rw [Nat.zero_add] at h1 h2
  exact ⟨u, h1, h2⟩
theorem OutI.start (w : World) (S : List Nat) (T : TypeId) (hN : S.length ≤ maxLen) : OutI w (w.alloc (.cells (madeCells #[.int .u8 0] S.length) T)) S 0 0 [] :=
  ⟨⟨by rw [Nat.sub_zero, List.nil_append]; exact OwnS.madeY0 w _ T hN⟩, (Below.refl _ _).alloc (Nat.le_refl _) _, rfl, by intro d hd; simp at hd, by simp [le10], by omega⟩
theorem mul_lt_pow {x y a b : Nat} (hx : x < 10 ^ a) (hy : y < 10 ^ b) : x * y < 10 ^ (a + b + 1) := by
  rw [Nat.pow_succ, Nat.pow_add]
  have h1 : x * y ≤ 10 ^ a * 10 ^ b := Nat.mul_le_mul (Nat.le_of_lt hx) (Nat.le_of_lt hy)
  have h2 : 0 < 10 ^ a * 10 ^ b := Nat.mul_pos (Nat.pow_pos (by decide)) (Nat.pow_pos (by decide))
  omega
theorem slice_at {w : World} {b cap : Nat} {l : List Nat} (h : SliceOf vN 1 w (.slice (some ⟨b, 0, none⟩) l.length cap) l) {k : Nat} (hk : k < l.length) : w.cell? ⟨b, k, none⟩ = some (.int .i64 (l[k] : Int)) := by
  obtain ⟨b', off, cap', hv, _, _, _, hc⟩ := h.some_of_pos (by omega)
  simp only [Value.slice.injEq, Option.some.injEq, Addr.mk.injEq, and_true, true_and] at hv
  obtain ⟨⟨rfl, rfl⟩, rfl⟩ := hv
  have := nat_cell hc hk
  rwa [Nat.zero_add] at this
set_option maxHeartbeats 4000000 in
set_option maxRecDepth 100000 in
theorem ref_mul (x y : Nat) (w : World) (hx : x < capN) (hy : y < capN) :
    Calls Tryz.prog 76 #[.string (natS x), .string (natS y)] w fun e w' => e = .returned (.string (natS (x * y))) ∧ Below w.heap.size w w' := by
  have sx : 1 ≤ (natS x).size ∧ (natS x).size ≤ 1000 := by rw [natS_size]; exact ⟨dec_len_pos x, capN_len.2 hx⟩
  have sy : 1 ≤ (natS y).size ∧ (natS y).size ≤ 1000 := by rw [natS_size]; exact ⟨dec_len_pos y, capN_len.2 hy⟩
  have HX := hide hx
  have HY := hide hy
  have HDX : Hid (∀ k, (natS x).size ≤ k → x % 10 ^ k = x) := fun k hk => mod_all (by rw [← natS_size]; exact hk)
  have HDY : Hid (∀ k, (natS y).size ≤ k → y % 10 ^ k = y) := fun k hk => mod_all (by rw [← natS_size]; exact hk)
  have HPL : Hid (x * y < 10 ^ ((natS x).size + (natS y).size + 1)) := by
    have h1 := dec_lt x
    have h2 := dec_lt y
    rw [← natS_size] at h1 h2
    exact mul_lt_pow h1 h2
  clear hx hy
  obtain ⟨la, hla⟩ : ∃ n, (natS x).size = n := ⟨_, rfl⟩
  obtain ⟨lb, hlb⟩ : ∃ n, (natS y).size = n := ⟨_, rfl⟩
  rw [hla] at sx HDX HPL
  rw [hlb] at sy HDY HPL
  have HLA := hide hla
  have HLB := hide hlb
  have q1 : IntKind.i64.wrap ((la : Int) + (lb : Int)) = (la : Int) + (lb : Int) := IntWalk.i64_in _ (by omega)
  have q2 : IntKind.i64.wrap ((la : Int) + (lb : Int) + 1) = ((la + lb + 1 : Nat) : Int) := by rw [show (la : Int) + (lb : Int) + 1 = ((la + lb + 1 : Nat) : Int) by omega]; exact IntWalk.i64_in _ (by omega)
  obtain ⟨N, hN⟩ : ∃ n, la + lb + 1 = n := ⟨_, rfl⟩
  rw [hN] at q2 HPL
  have hmk := run_make_row' (P := Tryz.prog) 33 3 (.int .i64 0) 8 Tryz.underlying33 Tryz.infoInt rfl .i64 .i64 N (by omega) (by omega)
  have HS0 := hide (MulI.start w N 3 (by unfold maxLen; omega))
  have HZ : Hid (0 = x % 10 ^ 0 * y) := by show 0 = _; rw [Nat.pow_zero, Nat.mod_one, Nat.zero_mul]
  go_enter Tryz.func76, Tryz.ntmps76
  go_wp2_with fail
  clear hmk
  go_loopw [6] (fun x1 wx => ∃ (i : Nat) (S : List Nat), i ≤ la ∧ x1 = .int .i64 (i : Int) ∧ MulI w wx N S (x % 10 ^ i * y) (81 * (1000 * i))) (fun x1 _ => la - (intOf x1).toNat)
  case atStart => exact ⟨0, _, Nat.zero_le _, rfl, HS0.out.up HZ.out (Nat.zero_le _)⟩
  case round =>
    obtain ⟨i, S, hi, rfl, hm⟩ := hrel
    have HM := hide hm
    clear hm HS0 HZ
    by_cases hil : i < la
    · have f1 : decide ((i : Int) < (la : Int)) = true := decide_eq_true (by omega)
      obtain ⟨d, hd⟩ : ∃ d, atN x i = d := ⟨_, rfl⟩
      have hd10 : d < 10 := by rw [← hd]; exact atN_lt x i
      have A1 : ∀ W, Calls Tryz.prog 97 #[.string (natS x), .int .i64 (i : Int)] W fun r w' => r = .returned (.int .i64 (d : Int)) ∧ w' = W := fun W => by rw [← hd]; exact ref_at x i W HX.out
      have HA1 := hide A1
      have HD := hide hd
      have HM0 : Hid (MulI w wr N S (x % 10 ^ i * y + 10 ^ i * (d * (y % 10 ^ 0))) (81 * (1000 * i + 0))) := by
        refine HM.out.up ?_ (Nat.le_refl _)
        rw [Nat.pow_zero, Nat.mod_one, Nat.mul_zero, Nat.mul_zero]; rfl
      clear A1 hd
      obtain ⟨wo, rfl⟩ : ∃ wo : World, wo = wr := ⟨_, rfl⟩
      go_wp2_with fail
      go_loopw [7] (fun x1 wx => ∃ (k : Nat) (S : List Nat), k ≤ lb ∧ x1 = .int .i64 (k : Int) ∧ MulI w wx N S (x % 10 ^ i * y + 10 ^ i * (d * (y % 10 ^ k))) (81 * (1000 * i + k))) (fun x1 _ => lb - (intOf x1).toNat)
      case atStart => exact ⟨0, S, Nat.zero_le _, rfl, HM0.out⟩
      case round =>
        obtain ⟨k, S2, hk, rfl, hm2⟩ := hrel
        have HM2 := hide hm2
        clear HM0
        by_cases hkl : k < lb
        · have f2 : decide ((k : Int) < (lb : Int)) = true := decide_eq_true (by omega)
          obtain ⟨e, he⟩ : ∃ e, atN y k = e := ⟨_, rfl⟩
          have he10 : e < 10 := by rw [← he]; exact atN_lt y k
          have A2 : ∀ W, Calls Tryz.prog 97 #[.string (natS y), .int .i64 (k : Int)] W fun r w' => r = .returned (.int .i64 (e : Int)) ∧ w' = W := fun W => by rw [← he]; exact ref_at y k W HY.out
          have HA2 := hide A2
          have HE := hide he
          have hde : d * e ≤ 81 := Nat.mul_le_mul (show d ≤ 9 by omega) (show e ≤ 9 by omega)
          have q0 : IntKind.i64.wrap ((i : Int) + (k : Int)) = ((i + k : Nat) : Int) := by rw [show (i : Int) + (k : Int) = ((i + k : Nat) : Int) by omega]; exact IntWalk.i64_in _ (by omega)
          obtain ⟨j, hj⟩ : ∃ j, i + k = j := ⟨_, rfl⟩
          have hjN : j < N := by omega
          obtain ⟨s, hs, hsM, c1, c2⟩ := hm2.cell hjN
          have HSJ := hide hs
          obtain ⟨p, hp⟩ : ∃ p, d * e = p := ⟨_, rfl⟩
          have q3 : IntKind.i64.wrap ((d : Int) * (e : Int)) = (p : Int) := by rw [← Int.natCast_mul, hp]; exact IntWalk.i64_in _ (by omega)
          have q4 : IntKind.i64.wrap ((s : Int) + (p : Int)) = ((s + p : Nat) : Int) := by rw [show (s : Int) + (p : Int) = ((s + p : Nat) : Int) by omega]; exact IntWalk.i64_in _ (by omega)
          rw [hj] at q0
          have HJ := hide hj
          have HP := hide hp
          have hj0 : (0 : Int) ≤ (j : Int) := by omega
          have hjI : (j : Int) < (N : Int) := by omega
          have hp81 : p ≤ 81 := by omega
          clear A2 he hs hp hj hde hm2
          go_wp2_with fail
          refine wp_region_still_tail 19 (by kernel_rfl) (by kernel_rfl) ?_
          simp only [List.take_succ_cons, List.take_zero, List.drop_succ_cons, List.drop_zero]
          repeat still_step
          still_call (HA1.out _)
          repeat still_step
          still_call (HA2.out _)
          repeat still_step
          refine wpStill_nil ?_
          change wpList _ _ _ _ _ wr.drew
          go_wp2_with fail
          go_roundw
          case rel => exact ⟨k + 1, S2.set j (s + p), by omega, by go_num, by
            have h1 := HM2.out.set (Below.refl _ _).drew hjN HSJ.out hp81
            refine h1.up ?_ (by omega)
            rw [← HJ.out, ← HP.out]
            exact mul_step10 rfl HE.out⟩
          case measure => (simp [intOf]; try omega)
        · obtain rfl : k = lb := by omega
          have f2 : decide ((k : Int) < (k : Int)) = false := decide_eq_false (by omega)
          have HN := hide (hm2.up (V' := x % 10 ^ (i + 1) * y) (M' := 81 * (1000 * (i + 1))) (mul_row10 (by rw [HDY.out _ (Nat.le_refl _)]) HD.out) (by omega))
          clear hm2
          go_wp2_with fail
          go_roundw
          case rel => exact ⟨i + 1, S2, by omega, by go_num, HN.out⟩
          case measure => (simp [intOf]; try omega)
    · obtain rfl : i = la := by omega
      have f1 : decide ((i : Int) < (i : Int)) = false := decide_eq_false (by omega)
      have HSL := hide HM.out.slice
      have hSN := HM.out.len
      subst hSN
      have HV : Hid (le10 S = x * y) := by show _ = _; rw [HM.out.val, HDX.out _ (Nat.le_refl _)]
      have HBD : Hid (∀ (k : Nat) (h : k < S.length), S[k] ≤ 100000000) := fun k h => by have := HM.out.bd _ (List.getElem_mem h); omega
      have HB := hide HM.out.bl
      have hmk := run_make_row' (P := Tryz.prog) 118 5 (.int .u8 0) 1 Tryz.underlying118 Tryz.infoU8 rfl .i64 .i64 S.length (by omega) (by omega)
      have HO0 := hide (OutI.start wr S 5 (by unfold maxLen; omega))
      clear HM
      go_wp2_with fail
      clear hmk
      obtain ⟨wo, rfl⟩ : ∃ wo : World, wo = wr := ⟨_, rfl⟩
      go_loopw [9, 10] (fun c1 x1 wx => ∃ (c k : Nat) (o : List Nat), k ≤ S.length ∧ c1 = .int .i64 (c : Int) ∧ x1 = .int .i64 (k : Int) ∧ OutI wo wx S c k o) (fun _ x1 _ => S.length - (intOf x1).toNat)
      case atStart => exact ⟨0, 0, [], Nat.zero_le _, rfl, rfl, HO0.out⟩
      case round =>
        obtain ⟨c, k, o, hk, rfl, rfl, ho⟩ := hrel
        have HO := hide ho
        clear HO0
        by_cases hkl : k < S.length
        · have f2 : decide ((k : Int) < (S.length : Int)) = true := decide_eq_true (by omega)
          have c1 := keep_cell ho.bl (slice_at HSL.out hkl)
          obtain ⟨u, c2, c3⟩ := ho.cell hkl
          have hsb := HBD.out k hkl
          have hcb := ho.cb
          have hsk : S[k]? = some S[k] := List.getElem?_eq_getElem hkl
          obtain ⟨s, hs⟩ : ∃ s, S[k] = s := ⟨_, rfl⟩
          rw [hs] at c1 hsb hsk
          have HSK := hide hsk
          clear hs hsk ho
          have hk0 : (0 : Int) ≤ (k : Int) := by omega
          have hkI : (k : Int) < (S.length : Int) := by omega
          have q3 : IntKind.i64.wrap ((s : Int) + (c : Int)) = ((s + c : Nat) : Int) := by rw [show (s : Int) + (c : Int) = ((s + c : Nat) : Int) by omega]; exact IntWalk.i64_in _ (by omega)
          obtain ⟨m, hm⟩ : ∃ m, s + c = m := ⟨_, rfl⟩
          have HMM := hide hm
          rw [hm] at q3
          have q5 : IntKind.i64.wrap ((m : Int).tmod 10) = ((m % 10 : Nat) : Int) := by
            rw [show ((m : Int).tmod 10) = ((m % 10 : Nat) : Int) from (Int.ofNat_tmod m 10).symm]; exact IntWalk.i64_in _ (by omega)
          have q6 : IntKind.i64.wrap ((m : Int).tdiv 10) = ((m / 10 : Nat) : Int) := by
            rw [show ((m : Int).tdiv 10) = ((m / 10 : Nat) : Int) from (Int.ofNat_tdiv m 10).symm]; exact IntWalk.i64_in _ (by omega)
          have q7 : IntKind.u8.wrap ((m % 10 : Nat) : Int) = ((m % 10 : Nat) : Int) := IntWalk.u8_in _ (by omega)
          have hm9 : m ≤ 300000000 := by omega
          clear hm
          go_wp2_with fail
          go_roundw
          case rel => exact ⟨m / 10, k + 1, o ++ [m % 10], by omega, by first | rfl | go_num, by first | rfl | go_num, by
            have h1 := HO.out.next hkl HSK.out hsb
            rw [HMM.out] at h1
            exact h1⟩
          case measure => (simp [intOf]; try omega)
        · obtain rfl : k = S.length := by omega
          have f2 : decide ((S.length : Int) < (S.length : Int)) = false := decide_eq_false (by omega)
          have hv : le10 o = x * y := out_end10 ho.len ho.sum HV.out HPL.out
          have HVV := hide hv
          have hsl := ho.slice
          have hol := ho.len
          rw [← hol] at hsl
          have HSL2 := hide hsl
          have ho0 : 0 < o.length := by omega
          have ho1 : o.length ≤ 100000 := by omega
          have HBB := hide (bStep HB.out ho.bl)
          have HOL := hide hol
          clear hv hsl ho hol
          go_wp2_with fail
          rw [← HOL.out]
          refine (ref_text o _ _ HSL2.out ho0 ho1 HO.out.dig).mono ?_
          rintro e w1 ⟨rfl, hb⟩
          rw [HVV.out]
          have HB1 := hide (bStep HBB.out hb)
          clear hb
          go_wp2_with fail
          go_ret
          exact ⟨rfl, HB1.out⟩
end Go.Proofs.YtlagoiaiodjmhaaGreatDoor
/- observatoryref03: div. -/
namespace Go.Proofs.YtlagoiaiodjmhaaGreatDoor
open Go.RowKit

def bLs (l : List UInt8) : ByteArray := ⟨l.toArray⟩
theorem bLs_list (l : List UInt8) : (bLs l).data.toList = l := rfl
theorem bLs_size (l : List UInt8) : (bLs l).size = l.length := rfl
theorem bLs_nil : bLs [] = ⟨#[]⟩ := rfl
theorem ba_append (a b : ByteArray) : (a ++ b).data.toList = a.data.toList ++ b.data.toList := by
  rw [ByteArray.data_append, Array.toList_append]
theorem ba_one {s : ByteArray} {i : Nat} (h : i < s.size) : (s.extract i (i + 1)).data.toList = [s[i]] := by
  rw [ByteArray.data_extract, Array.toList_extract]
  simp only [List.extract]
  rw [show i + 1 - i = 1 by omega, List.take_one, List.head?_drop, List.getElem?_eq_getElem (by exact h)]
  rfl
theorem digits_at {n : Nat} (h : n < 10) : (⟨#[48, 49, 50, 51, 52, 53, 54, 55, 56, 57]⟩ : ByteArray)[n]'(by show n < 10; exact h) = UInt8.ofNat (48 + n) := by
  have : ∀ n : Fin 10, (⟨#[48, 49, 50, 51, 52, 53, 54, 55, 56, 57]⟩ : ByteArray)[n.val]'(by show n.val < 10; exact n.isLt) = UInt8.ofNat (48 + n.val) := by decide +kernel
  exact this ⟨n, h⟩
/-- What div's loop keeps. -/
structure QuoI (x y k : Nat) (Q : List UInt8) (q r : Nat) : Prop where
  len : Q.length = k
  dig : ∀ b ∈ Q, isDg b = true
  val : nval Q = q
  eq : q * y + r = nval ((Lib.decDigits x).take k)
  lt : r < y
theorem QuoI.start (x y : Nat) (h : 0 < y) : QuoI x y 0 [] 0 0 := ⟨rfl, by simp, rfl, by simp [nval], h⟩
theorem QuoI.next {x y k q r n : Nat} {Q : List UInt8} (h : QuoI x y k Q q r) (hk : k < (Lib.decDigits x).length) {d : Nat} (hd : dvN (Lib.decDigits x)[k] = d) (h1 : n * y ≤ r * 10 + d) (h2 : r * 10 + d - n * y < y) (h9 : n < 10) :
    QuoI x y (k + 1) (Q ++ [UInt8.ofNat (48 + n)]) (q * 10 + n) (r * 10 + d - n * y) := by
  refine ⟨by simp [h.len], fun b hb => ?_, ?_, ?_, h2⟩
  · rcases List.mem_append.1 hb with hb | hb
    · exact h.dig b hb
    · simp at hb; have := isDg_ofNat (d := n) h9; rw [hb]; simpa using this
  · rw [nval_snoc, h.val, dvN_ofNat h9]
  · rw [nval_take_succ hk, hd]
    exact quo_step h.eq h1
theorem QuoI.done {x y q r : Nat} {Q : List UInt8} (h : QuoI x y (Lib.decDigits x).length Q q r) : q = x / y ∧ r = x % y := by
  have := h.eq
  rw [nval_take_all] at this
  exact div_end this h.lt
/-- The number that a rest and a digit spell. -/
theorem rest_digit {s t : ByteArray} {r : Nat} {b : UInt8} (hs : s = natS r) (ht : t.data.toList = [b]) (hb : isDg b = true) :
    (s ++ t).size = (natS r).size + 1 ∧ (∀ c ∈ (s ++ t).data.toList, isDg c = true) ∧ nval (s ++ t).data.toList = r * 10 + dvN b := by
  subst hs
  have e : (natS r ++ t).data.toList = Lib.decDigits r ++ [b] := by rw [ba_append, ht]; rfl
  refine ⟨?_, ?_, ?_⟩
  · rw [ba_size, e, List.length_append, natS_size]; rfl
  · rw [e]
    intro c hc
    rcases List.mem_append.1 hc with hc | hc
    · exact dec_digit r c hc
    · simp at hc; rw [hc]; exact hb
  · rw [e, nval_snoc, nval_dec]
set_option maxHeartbeats 4000000 in
set_option maxRecDepth 100000 in
theorem ref_div (x y : Nat) (w : World) (hx : x < capN) (hy : y < capK 999) (h0 : 0 < y) :
    Calls Tryz.prog 96 #[.string (natS x), .string (natS y)] w fun e w' => e = .returned (.tuple #[.string (natS (x / y)), .string (natS (x % y))]) ∧ Below w.heap.size w w' := by
  have sx : 1 ≤ (natS x).size ∧ (natS x).size ≤ 1000 := by rw [natS_size]; exact ⟨dec_len_pos x, capN_len.2 hx⟩
  have sy : 1 ≤ (natS y).size ∧ (natS y).size ≤ 999 := by rw [natS_size]; exact ⟨dec_len_pos y, (capK_len (by decide)).2 hy⟩
  have hyN : y < capN := to_capN hy (by decide)
  have HYN := hide hyN
  have H10 : Hid (∀ r, r < 10 * y → r < capN) := fun r hr => by
    have : capK 999 * capK 1 = capK 1000 := capK_mul 999 1
    have e1 : capK 1 = 10 := by decide +kernel
    rw [e1] at this
    show r < capK 1000
    omega
  have HQ0 := hide (QuoI.start x y h0)
  clear hx hy hyN
  obtain ⟨la, hla⟩ : ∃ n, (natS x).size = n := ⟨_, rfl⟩
  have HLA := hide hla
  rw [hla] at sx
  have HZ0 : Hid (natS 0 = ⟨#[48]⟩) := natS_zero
  go_enter Tryz.func96, Tryz.ntmps96
  go_wp2_with fail
  go_loopw [6, 7, 8] (fun z1 z2 z3 wx => ∃ (k : Nat) (Q : List UInt8) (q r : Nat), k ≤ la ∧ z1 = .string (bLs Q) ∧ z2 = .string (natS r) ∧ z3 = .int .i64 (k : Int) ∧ QuoI x y k Q q r ∧ Below w.heap.size w wx) (fun _ _ z3 _ => la - (intOf z3).toNat)
  case atStart => exact ⟨0, [], 0, 0, Nat.zero_le _, rfl, by rw [HZ0.out], rfl, HQ0.out, Below.refl _ _⟩
  case round =>
    obtain ⟨k, Q, q, r, hk, rfl, rfl, rfl, hq, hbl⟩ := hrel
    have HQ := hide hq
    have HB := hide hbl
    have hrl : r < y := hq.lt
    have hql : Q.length = k := hq.len
    clear hq hbl HQ0
    by_cases hkl : k < la
    · have f1 : decide ((k : Int) < (la : Int)) = true := decide_eq_true (by omega)
      have q1 : IntKind.i64.wrap ((k : Int) + 1) = ((k + 1 : Nat) : Int) := IntWalk.i64_in _ (by omega)
      have hkx : k < (natS x).size := by omega
      have hkd : k < (Lib.decDigits x).length := by rw [← natS_size]; exact hkx
      have hdg : isDg (natS x)[k] = true := dec_digit x _ (List.getElem_mem hkd)
      obtain ⟨d, hd⟩ : ∃ d, dvN (Lib.decDigits x)[k] = d := ⟨_, rfl⟩
      have hd10 : d < 10 := by rw [← hd]; exact dvN_lt (dec_digit x _ (List.getElem_mem hkd))
      have HD := hide hd
      have HT : Hid (∀ W, Calls Tryz.prog 120 #[.string (natS r ++ (natS x).extract k (k + 1))] W fun e w' => e = .returned (.string (natS (r * 10 + d))) ∧ w' = W) := fun W => by
        obtain ⟨t1, t2, t3⟩ := rest_digit (s := natS r) (t := (natS x).extract k (k + 1)) rfl (ba_one hkx) hdg
        have hr1000 : (natS r).size ≤ 1000 := by
          rw [natS_size]
          exact capN_len.2 (Nat.lt_trans hrl HYN.out)
        have := ref_trimmed (natS r ++ (natS x).extract k (k + 1)) W (by rw [t1]; unfold maxLen; omega) (by rw [t1]; omega) t2
        rw [t3] at this
        rw [← HD.out]
        exact this
      have hr10 : r * 10 + d < 10 * y := by omega
      have hadd : ∀ W, (Op.stringOp .add (natS r) ((natS x).extract k (k + 1))).run Tryz.prog W = .ok (.string (natS r ++ (natS x).extract k (k + 1))) W := fun W => by
        refine run_string_add_sum W _ _ ?_
        have hr1000 : (natS r).size ≤ 1000 := by
          rw [natS_size]
          exact capN_len.2 (Nat.lt_trans hrl HYN.out)
        have := ba_size ((natS x).extract k (k + 1))
        rw [ba_one hkx] at this
        simp only [List.length_cons, List.length_nil] at this
        omega
      clear hdg hd
      go_wp2_with fail
      refine (HT.out _).mono ?_
      rintro e w1 ⟨rfl, rfl⟩
      clear HT hadd
      obtain ⟨R, hR⟩ : ∃ R, r * 10 + d = R := ⟨_, rfl⟩
      rw [hR] at hr10
      have HR0 : Hid (natS (r * 10 + d) = natS (R - 0 * y)) := by show _ = _; rw [hR, Nat.zero_mul]; rfl
      have HR := hide hR
      clear hR
      obtain ⟨wo, rfl⟩ : ∃ wo : World, wo = w1 := ⟨_, rfl⟩
      go_wp2_with fail
      go_loopw [7, 9] (fun z2 z4 wx => ∃ n : Nat, n * y ≤ R ∧ n ≤ 9 ∧ z2 = .string (natS (R - n * y)) ∧ z4 = .int .i64 (n : Int) ∧ Below w.heap.size w wx) (fun _ z4 _ => 9 - (intOf z4).toNat)
      case atStart => exact ⟨0, by omega, by omega, by rw [HR0.out], rfl, HB.out⟩
      case round =>
        obtain ⟨n, hn, hn9, rfl, rfl, hbl⟩ := hrel
        have HB2 := hide hbl
        clear hbl HR0
        have hcap : R - n * y < capN := H10.out _ (Nat.lt_of_le_of_lt (Nat.sub_le _ _) hr10)
        by_cases hlt : R - n * y < y
        · have HL : Hid (∀ W, Calls Tryz.prog 78 #[.string (natS (R - n * y)), .string (natS y)] W fun e w' => e = .returned (.bool true) ∧ W = w') := fun W => by
            have := ref_less (R - n * y) y W hcap HYN.out
            rw [decide_eq_true hlt] at this
            exact this
          have HN : Hid (QuoI x y (k + 1) (Q ++ [UInt8.ofNat (48 + n)]) (q * 10 + n) (R - n * y)) := by
            have := HQ.out.next hkd HD.out (n := n) (by rw [HR.out]; exact hn) (by rw [HR.out]; exact hlt) (by omega)
            rw [HR.out] at this
            exact this
          have hadd : ∀ W, (Op.stringOp .add (bLs Q) ((⟨#[48, 49, 50, 51, 52, 53, 54, 55, 56, 57]⟩ : ByteArray).extract n (n + 1))).run Tryz.prog W = .ok (.string (bLs (Q ++ [UInt8.ofNat (48 + n)]))) W := fun W => by
            have hsz : n < (⟨#[48, 49, 50, 51, 52, 53, 54, 55, 56, 57]⟩ : ByteArray).size := by show n < 10; omega
            have h1 := ba_one hsz
            rw [digits_at (show n < 10 by omega)] at h1
            have e : bLs Q ++ (⟨#[48, 49, 50, 51, 52, 53, 54, 55, 56, 57]⟩ : ByteArray).extract n (n + 1) = bLs (Q ++ [UInt8.ofNat (48 + n)]) := by
              apply ba_eq
              rw [ba_append, h1]; rfl
            rw [← e]
            refine run_string_add_sum W _ _ ?_
            have h2 := ba_size ((⟨#[48, 49, 50, 51, 52, 53, 54, 55, 56, 57]⟩ : ByteArray).extract n (n + 1))
            rw [h1] at h2
            simp only [List.length_cons, List.length_nil] at h2
            have h3 := bLs_size Q
            omega
          obtain ⟨Q2, hQ2⟩ : ∃ Q2, Q ++ [UInt8.ofNat (48 + n)] = Q2 := ⟨_, rfl⟩
          rw [hQ2] at HN hadd
          have q2 : IntKind.i64.wrap ((n : Int) + 1) = (n : Int) + 1 := IntWalk.i64_in _ (by omega)
          have hn0 : (0 : Int) ≤ (n : Int) := by omega
          have hn10 : (n : Int) + 1 ≤ 10 := by omega
          clear hlt hcap hQ2
          go_wp2_with fail
          refine (HL.out _).mono ?_
          rintro e w2 ⟨rfl, rfl⟩
          go_wp2_with fail
          go_roundw
          case rel => exact ⟨k + 1, _, _, _, by omega, rfl, rfl, by go_num, HN.out, HB2.out⟩
          case measure => (simp [intOf]; try omega)
        · have HL : Hid (∀ W, Calls Tryz.prog 78 #[.string (natS (R - n * y)), .string (natS y)] W fun e w' => e = .returned (.bool false) ∧ W = w') := fun W => by
            have := ref_less (R - n * y) y W hcap HYN.out
            rw [decide_eq_false hlt] at this
            exact this
          have e1 : (n + 1) * y = n * y + y := by rw [Nat.add_mul, Nat.one_mul]
          have HS : Hid (∀ W, Calls Tryz.prog 79 #[.string (natS (R - n * y)), .string (natS y)] W fun e w' => e = .returned (.string (natS (R - (n + 1) * y))) ∧ Below W.heap.size W w') := fun W => by
            have := ref_sub (R - n * y) y W hcap (by omega)
            rw [show R - n * y - y = R - (n + 1) * y by omega] at this
            exact this
          have hn1 : (n + 1) * y ≤ R := by omega
          have hn8 : n + 1 ≤ 9 := by
            have h2 : (n + 1) * y < 10 * y := Nat.lt_of_le_of_lt hn1 hr10
            have := Nat.lt_of_mul_lt_mul_right h2
            omega
          clear hlt hcap e1
          go_wp2_with fail
          refine (HL.out _).mono ?_
          rintro e w2 ⟨rfl, rfl⟩
          go_wp2_with fail
          refine (HS.out _).mono ?_
          rintro e w3 ⟨rfl, hb⟩
          have HB3 := hide (bStep HB2.out hb)
          clear hb
          go_wp2_with fail
          go_roundw
          case rel => exact ⟨n + 1, hn1, hn8, rfl, by go_num, HB3.out⟩
          case measure => (simp [intOf]; try omega)
    · obtain rfl : k = la := by omega
      have f1 : decide ((k : Int) < (k : Int)) = false := decide_eq_false (by omega)
      have hkd : k = (Lib.decDigits x).length := by rw [← natS_size]; exact hla.symm
      have hdone : q = x / y ∧ r = x % y := by
        have := HQ.out
        rw [hkd] at this
        exact this.done
      obtain ⟨rfl, rfl⟩ := hdone
      have HT : Hid (∀ W, Calls Tryz.prog 120 #[.string (bLs Q)] W fun e w' => e = .returned (.string (natS (x / y))) ∧ w' = W) := fun W => by
        have := ref_trimmed (bLs Q) W (by rw [bLs_size]; unfold maxLen; omega) (by rw [bLs_size]; omega) HQ.out.dig
        rw [bLs_list, HQ.out.val] at this
        exact this
      clear hkd
      go_wp2_with fail
      refine (HT.out _).mono ?_
      rintro e w1 ⟨rfl, rfl⟩
      go_wp2_with fail
      go_ret2
      exact ⟨rfl, HB.out⟩
end Go.Proofs.YtlagoiaiodjmhaaGreatDoor
/- observatoryref03: the exported functions. -/
namespace Go.Proofs.YtlagoiaiodjmhaaGreatDoor
open Go.RowKit

theorem ref_vt (s : ByteArray) (w : World) (hs : s.size ≤ maxLen) (h : vldN s = true) : Calls Tryz.prog 74 #[.string s] w fun e w' => e = .returned (.bool true) ∧ w = w' := by
  have := ref_valid s w hs
  rw [h] at this
  exact this
theorem ref_vf (s : ByteArray) (w : World) (hs : s.size ≤ maxLen) (h : vldN s = false) : Calls Tryz.prog 74 #[.string s] w fun e w' => e = .returned (.bool false) ∧ w = w' := by
  have := ref_valid s w hs
  rw [h] at this
  exact this
theorem natS_maxR {x : Nat} (h : x < capN) : (natS x).size ≤ maxLen := by
  have := capN_len.2 h
  rw [natS_size]; unfold maxLen; omega
theorem natS_ok {x : Nat} (h : x < capN) : vldN (natS x) = true := natS_vldN.2 h
theorem ref_vn (x : Nat) (w : World) (h : x < capN) : Calls Tryz.prog 74 #[.string (natS x)] w fun e w' => e = .returned (.bool true) ∧ w = w' := ref_vt _ w (natS_maxR h) (natS_ok h)
set_option maxHeartbeats 1000000 in
set_option maxRecDepth 100000 in
theorem ref_within (n : Nat) (w : World) (h : (natS n).size ≤ 1000000) :
    Calls Tryz.prog 75 #[.string (natS n)] w fun e w' => ((n < capN ∧ e = .returned (.tuple #[.string (natS n), .int .i64 0])) ∨ (¬ n < capN ∧ e = .returned (.tuple #[.string ⟨#[]⟩, .int .i64 2]))) ∧ w = w' := by
  have e := capN_len (n := n)
  rw [← natS_size] at e
  obtain ⟨s, hs⟩ : ∃ s, natS n = s := ⟨_, rfl⟩
  rw [hs] at h e ⊢
  clear hs
  by_cases hc : n < capN
  · have h1 := e.2 hc
    have HC := hide hc
    have f : decide ((1000 : Int) < (s.size : Int)) = false := decide_eq_false (by omega)
    clear e hc
    go_enter Tryz.func75, Tryz.ntmps75
    go_wp2_with fail
    go_ret2
    exact ⟨.inl ⟨HC.out, rfl⟩, rfl⟩
  · have h1 : 1000 < s.size := by
      rcases Nat.lt_or_ge 1000 s.size with h | h
      · exact h
      · exact absurd (e.1 h) hc
    have HC := hide hc
    have f : decide ((1000 : Int) < (s.size : Int)) = true := decide_eq_true (by omega)
    clear e hc
    go_enter Tryz.func75, Tryz.ntmps75
    go_wp2_with fail
    go_ret2
    exact ⟨.inr ⟨HC.out, rfl⟩, rfl⟩
theorem natS_sum {x y : Nat} (hx : x < capN) (hy : y < capN) : (natS (x + y)).size ≤ 1000000 := by
  have := (capK_len (n := x + y) (k := 1001) (by decide)).2 (add_capK (a := 1000) hx hy)
  rw [natS_size]; omega
theorem natS_prod {x y : Nat} (hx : x < capN) (hy : y < capN) : (natS (x * y)).size ≤ 1000000 := by
  have := (capK_len (n := x * y) (k := 2000) (by decide)).2 (mul_capK (a := 1000) (b := 1000) hx hy)
  rw [natS_size]; omega
set_option maxHeartbeats 2000000 in
set_option maxRecDepth 100000 in
theorem ref_Add (x y : Nat) (w : World) (hx : x < capN) (hy : y < capN) :
    Calls Tryz.prog 56 #[.string (natS x), .string (natS y)] w (TextPost w (x + y)) := by
  have HVX : Hid (∀ W, Calls Tryz.prog 74 #[.string (natS x)] W fun e w' => e = .returned (.bool true) ∧ W = w') := fun W => ref_vn x W hx
  have HVY : Hid (∀ W, Calls Tryz.prog 74 #[.string (natS y)] W fun e w' => e = .returned (.bool true) ∧ W = w') := fun W => ref_vn y W hy
  have HF : Hid (∀ W, Calls Tryz.prog 77 #[.string (natS x), .string (natS y)] W fun e w' => e = .returned (.string (natS (x + y))) ∧ Below W.heap.size W w') := fun W => ref_add x y W hx hy
  have HS := hide (natS_sum hx hy)
  obtain ⟨sx, hsx⟩ : ∃ s, natS x = s := ⟨_, rfl⟩
  obtain ⟨sy, hsy⟩ : ∃ s, natS y = s := ⟨_, rfl⟩
  rw [hsx] at HVX HF ⊢
  rw [hsy] at HVY HF ⊢
  clear hsx hsy hx hy
  go_enter Tryz.func56, Tryz.ntmps56
  go_wp2_with fail
  refine (HVX.out _).mono ?_
  rintro e w1 ⟨rfl, rfl⟩
  go_wp2_with fail
  refine (HVY.out _).mono ?_
  rintro e w2 ⟨rfl, rfl⟩
  go_wp2_with fail
  refine (HF.out _).mono ?_
  rintro e w3 ⟨rfl, hb⟩
  have HB := hide hb
  clear hb
  go_wp2_with fail
  refine (ref_within _ _ HS.out).mono ?_
  rintro e w4 ⟨h, rfl⟩
  rcases h with ⟨hc, rfl⟩ | ⟨hc, rfl⟩
  · have HC := hide hc
    clear hc
    go_wp2_with fail
    go_ret2
    exact ⟨HB.out, .inl ⟨HC.out, rfl⟩⟩
  · have HC := hide hc
    clear hc
    go_wp2_with fail
    go_ret2
    exact ⟨HB.out, .inr ⟨HC.out, rfl⟩⟩
set_option maxHeartbeats 2000000 in
set_option maxRecDepth 100000 in
theorem ref_Mul (x y : Nat) (w : World) (hx : x < capN) (hy : y < capN) :
    Calls Tryz.prog 55 #[.string (natS x), .string (natS y)] w (TextPost w (x * y)) := by
  have HVX : Hid (∀ W, Calls Tryz.prog 74 #[.string (natS x)] W fun e w' => e = .returned (.bool true) ∧ W = w') := fun W => ref_vn x W hx
  have HVY : Hid (∀ W, Calls Tryz.prog 74 #[.string (natS y)] W fun e w' => e = .returned (.bool true) ∧ W = w') := fun W => ref_vn y W hy
  have HF : Hid (∀ W, Calls Tryz.prog 76 #[.string (natS x), .string (natS y)] W fun e w' => e = .returned (.string (natS (x * y))) ∧ Below W.heap.size W w') := fun W => ref_mul x y W hx hy
  have HS := hide (natS_prod hx hy)
  obtain ⟨sx, hsx⟩ : ∃ s, natS x = s := ⟨_, rfl⟩
  obtain ⟨sy, hsy⟩ : ∃ s, natS y = s := ⟨_, rfl⟩
  rw [hsx] at HVX HF ⊢
  rw [hsy] at HVY HF ⊢
  clear hsx hsy hx hy
  go_enter Tryz.func55, Tryz.ntmps55
  go_wp2_with fail
  refine (HVX.out _).mono ?_
  rintro e w1 ⟨rfl, rfl⟩
  go_wp2_with fail
  refine (HVY.out _).mono ?_
  rintro e w2 ⟨rfl, rfl⟩
  go_wp2_with fail
  refine (HF.out _).mono ?_
  rintro e w3 ⟨rfl, hb⟩
  have HB := hide hb
  clear hb
  go_wp2_with fail
  refine (ref_within _ _ HS.out).mono ?_
  rintro e w4 ⟨h, rfl⟩
  rcases h with ⟨hc, rfl⟩ | ⟨hc, rfl⟩
  · have HC := hide hc
    clear hc
    go_wp2_with fail
    go_ret2
    exact ⟨HB.out, .inl ⟨HC.out, rfl⟩⟩
  · have HC := hide hc
    clear hc
    go_wp2_with fail
    go_ret2
    exact ⟨HB.out, .inr ⟨HC.out, rfl⟩⟩
set_option maxHeartbeats 2000000 in
set_option maxRecDepth 100000 in
theorem ref_Sub (x y : Nat) (w : World) (hx : x < capN) (hy : y < capN) (hle : y ≤ x) :
    Calls Tryz.prog 58 #[.string (natS x), .string (natS y)] w (OkPost w (x - y)) := by
  have HVX : Hid (∀ W, Calls Tryz.prog 74 #[.string (natS x)] W fun e w' => e = .returned (.bool true) ∧ W = w') := fun W => ref_vn x W hx
  have HVY : Hid (∀ W, Calls Tryz.prog 74 #[.string (natS y)] W fun e w' => e = .returned (.bool true) ∧ W = w') := fun W => ref_vn y W hy
  have HL : Hid (∀ W, Calls Tryz.prog 78 #[.string (natS x), .string (natS y)] W fun e w' => e = .returned (.bool false) ∧ W = w') := fun W => by
    have := ref_less x y W hx hy
    rw [decide_eq_false (by omega)] at this
    exact this
  have HF : Hid (∀ W, Calls Tryz.prog 79 #[.string (natS x), .string (natS y)] W fun e w' => e = .returned (.string (natS (x - y))) ∧ Below W.heap.size W w') := fun W => ref_sub x y W hx hle
  obtain ⟨sx, hsx⟩ : ∃ s, natS x = s := ⟨_, rfl⟩
  obtain ⟨sy, hsy⟩ : ∃ s, natS y = s := ⟨_, rfl⟩
  rw [hsx] at HVX HL HF ⊢
  rw [hsy] at HVY HL HF ⊢
  clear hsx hsy hx hy hle
  go_enter Tryz.func58, Tryz.ntmps58
  go_wp2_with fail
  refine (HVX.out _).mono ?_
  rintro e w1 ⟨rfl, rfl⟩
  go_wp2_with fail
  refine (HVY.out _).mono ?_
  rintro e w2 ⟨rfl, rfl⟩
  go_wp2_with fail
  refine (HL.out _).mono ?_
  rintro e w3 ⟨rfl, rfl⟩
  go_wp2_with fail
  refine (HF.out _).mono ?_
  rintro e w3 ⟨rfl, hb⟩
  have HB := hide hb
  clear hb
  go_wp2_with fail
  go_ret2
  exact ⟨rfl, HB.out⟩
set_option maxHeartbeats 2000000 in
set_option maxRecDepth 100000 in
theorem ref_Sub_less (x y : Nat) (w : World) (hx : x < capN) (hy : y < capN) (hle : x < y) :
    Calls Tryz.prog 58 #[.string (natS x), .string (natS y)] w (RangePost w) := by
  have HVX : Hid (∀ W, Calls Tryz.prog 74 #[.string (natS x)] W fun e w' => e = .returned (.bool true) ∧ W = w') := fun W => ref_vn x W hx
  have HVY : Hid (∀ W, Calls Tryz.prog 74 #[.string (natS y)] W fun e w' => e = .returned (.bool true) ∧ W = w') := fun W => ref_vn y W hy
  have HL : Hid (∀ W, Calls Tryz.prog 78 #[.string (natS x), .string (natS y)] W fun e w' => e = .returned (.bool true) ∧ W = w') := fun W => by
    have := ref_less x y W hx hy
    rw [decide_eq_true (by omega)] at this
    exact this
  obtain ⟨sx, hsx⟩ : ∃ s, natS x = s := ⟨_, rfl⟩
  obtain ⟨sy, hsy⟩ : ∃ s, natS y = s := ⟨_, rfl⟩
  rw [hsx] at HVX HL ⊢
  rw [hsy] at HVY HL ⊢
  clear hsx hsy hx hy hle
  go_enter Tryz.func58, Tryz.ntmps58
  go_wp2_with fail
  refine (HVX.out _).mono ?_
  rintro e w1 ⟨rfl, rfl⟩
  go_wp2_with fail
  refine (HVY.out _).mono ?_
  rintro e w2 ⟨rfl, rfl⟩
  go_wp2_with fail
  refine (HL.out _).mono ?_
  rintro e w3 ⟨rfl, rfl⟩
  go_wp2_with fail
  go_ret2
  exact ⟨rfl, Below.refl _ _⟩
set_option maxHeartbeats 2000000 in
set_option maxRecDepth 100000 in
theorem ref_Div (x y : Nat) (w : World) (hx : x < capN) (hy : y < capK 999) (h0 : 0 < y) :
    Calls Tryz.prog 73 #[.string (natS x), .string (natS y)] w (DivsPost w (x / y) (x % y)) := by
  have hyN : y < capN := to_capN hy (by decide)
  have HVX : Hid (∀ W, Calls Tryz.prog 74 #[.string (natS x)] W fun e w' => e = .returned (.bool true) ∧ W = w') := fun W => ref_vn x W hx
  have HVY : Hid (∀ W, Calls Tryz.prog 74 #[.string (natS y)] W fun e w' => e = .returned (.bool true) ∧ W = w') := fun W => ref_vn y W hyN
  have HF : Hid (∀ W, Calls Tryz.prog 96 #[.string (natS x), .string (natS y)] W fun e w' => e = .returned (.tuple #[.string (natS (x / y)), .string (natS (x % y))]) ∧ Below W.heap.size W w') := fun W => ref_div x y W hx hy h0
  have hne := natS_ne_zero h0
  obtain ⟨sx, hsx⟩ : ∃ s, natS x = s := ⟨_, rfl⟩
  obtain ⟨sy, hsy⟩ : ∃ s, natS y = s := ⟨_, rfl⟩
  rw [hsx] at HVX HF ⊢
  rw [hsy] at HVY HF hne ⊢
  have hne1 : (sy.toList == [48]) = false := str_ne hne (by rfl)
  clear hsx hsy hx hy hyN h0 hne
  go_enter Tryz.func73, Tryz.ntmps73
  go_wp2_with fail
  refine (HVX.out _).mono ?_
  rintro e w1 ⟨rfl, rfl⟩
  go_wp2_with fail
  refine (HVY.out _).mono ?_
  rintro e w2 ⟨rfl, rfl⟩
  go_wp2_with fail
  refine (HF.out _).mono ?_
  rintro e w3 ⟨rfl, hb⟩
  have HB := hide hb
  clear hb
  go_wp2_with fail
  go_ret3
  exact ⟨rfl, HB.out⟩
set_option maxHeartbeats 2000000 in
set_option maxRecDepth 100000 in
theorem ref_Div_zero (x : Nat) (w : World) (hx : x < capN) :
    Calls Tryz.prog 73 #[.string (natS x), .string ⟨#[48]⟩] w (Err3Post w 14) := by
  have HVX : Hid (∀ W, Calls Tryz.prog 74 #[.string (natS x)] W fun e w' => e = .returned (.bool true) ∧ W = w') := fun W => ref_vn x W hx
  have HVY : Hid (∀ W, Calls Tryz.prog 74 #[.string ⟨#[48]⟩] W fun e w' => e = .returned (.bool true) ∧ W = w') := fun W => by
    have := ref_vn 0 W capN_pos
    rw [natS_zero] at this
    exact this
  obtain ⟨sx, hsx⟩ : ∃ s, natS x = s := ⟨_, rfl⟩
  rw [hsx] at HVX ⊢
  clear hsx hx
  go_enter Tryz.func73, Tryz.ntmps73
  go_wp2_with fail
  refine (HVX.out _).mono ?_
  rintro e w1 ⟨rfl, rfl⟩
  go_wp2_with fail
  refine (HVY.out _).mono ?_
  rintro e w2 ⟨rfl, rfl⟩
  go_wp2_with fail
  go_ret3
  exact ⟨rfl, Below.refl _ _⟩
set_option maxHeartbeats 2000000 in
set_option maxRecDepth 100000 in
theorem ref_Compare (x y : Nat) (w : World) (hx : x < capN) (hy : y < capN) :
    Calls Tryz.prog 57 #[.string (natS x), .string (natS y)] w fun e w' => e = .returned (.int .i64 (cmpN x y)) ∧ Below w.heap.size w w' := by
  have HVX : Hid (∀ W, Calls Tryz.prog 74 #[.string (natS x)] W fun e w' => e = .returned (.bool true) ∧ W = w') := fun W => ref_vn x W hx
  have HVY : Hid (∀ W, Calls Tryz.prog 74 #[.string (natS y)] W fun e w' => e = .returned (.bool true) ∧ W = w') := fun W => ref_vn y W hy
  have HL : Hid (∀ W, Calls Tryz.prog 78 #[.string (natS x), .string (natS y)] W fun e w' => e = .returned (.bool (decide (x < y))) ∧ W = w') := fun W => ref_less x y W hx hy
  have HQ : Hid (x ≠ y → ((natS x).toList == (natS y).toList) = false) := fun h => str_ne (fun e => h (natS_inj e)) rfl |> fun h => by rw [ByteArray.toList_eq (natS y)]; exact h
  obtain ⟨sx, hsx⟩ : ∃ s, natS x = s := ⟨_, rfl⟩
  obtain ⟨sy, hsy⟩ : ∃ s, natS y = s := ⟨_, rfl⟩
  rw [hsx] at HVX HL HQ ⊢
  rw [hsy] at HVY HL HQ ⊢
  rcases Nat.lt_trichotomy x y with h | h | h
  · have hd : decide (x < y) = true := decide_eq_true h
    rw [hd] at HL
    have hq := HQ.out (by omega)
    have HR := hide (cmpN_lt h)
    clear hsx hsy hx hy h hd HQ
    go_enter Tryz.func57, Tryz.ntmps57
    go_wp2_with fail
    refine (HVX.out _).mono ?_
    rintro e w1 ⟨rfl, rfl⟩
    go_wp2_with fail
    refine (HVY.out _).mono ?_
    rintro e w2 ⟨rfl, rfl⟩
    go_wp2_with fail
    refine (HL.out _).mono ?_
    rintro e w3 ⟨rfl, rfl⟩
    go_wp2_with fail
    go_ret
    exact ⟨by rw [HR.out]; rfl, Below.refl _ _⟩
  · subst h
    have hss : sx = sy := hsx.symm.trans hsy
    subst hss
    have HR := hide (cmpN_eq x)
    have hq : (sx.toList == sx.toList) = true := by simp
    clear hsx hsy hx hy HQ HL
    go_enter Tryz.func57, Tryz.ntmps57
    go_wp2_with fail
    refine (HVX.out _).mono ?_
    rintro e w1 ⟨rfl, rfl⟩
    go_wp2_with fail
    refine (HVY.out _).mono ?_
    rintro e w2 ⟨rfl, rfl⟩
    go_wp2_with fail
    go_ret
    exact ⟨by rw [HR.out]; rfl, Below.refl _ _⟩
  · have hd : decide (x < y) = false := decide_eq_false (by omega)
    rw [hd] at HL
    have hq := HQ.out (by omega)
    have HR := hide (cmpN_gt h)
    clear hsx hsy hx hy h hd HQ
    go_enter Tryz.func57, Tryz.ntmps57
    go_wp2_with fail
    refine (HVX.out _).mono ?_
    rintro e w1 ⟨rfl, rfl⟩
    go_wp2_with fail
    refine (HVY.out _).mono ?_
    rintro e w2 ⟨rfl, rfl⟩
    go_wp2_with fail
    refine (HL.out _).mono ?_
    rintro e w3 ⟨rfl, rfl⟩
    go_wp2_with fail
    go_ret
    exact ⟨by rw [HR.out]; rfl, Below.refl _ _⟩
set_option maxHeartbeats 2000000 in
set_option maxRecDepth 100000 in
theorem ref_Gcd (x y : Nat) (w : World) (hx : x < capK 999) (hy : y < capK 999) :
    Calls Tryz.prog 72 #[.string (natS x), .string (natS y)] w (OkPost w (Nat.gcd x y)) := by
  have HVX : Hid (∀ W, Calls Tryz.prog 74 #[.string (natS x)] W fun e w' => e = .returned (.bool true) ∧ W = w') := fun W => ref_vn x W (to_capN hx (by decide))
  have HVY : Hid (∀ W, Calls Tryz.prog 74 #[.string (natS y)] W fun e w' => e = .returned (.bool true) ∧ W = w') := fun W => ref_vn y W (to_capN hy (by decide))
  obtain ⟨sx, hsx⟩ : ∃ s, natS x = s := ⟨_, rfl⟩
  obtain ⟨sy, hsy⟩ : ∃ s, natS y = s := ⟨_, rfl⟩
  have HSX := hide hsx.symm
  have HSY := hide hsy.symm
  rw [hsx] at HVX ⊢
  rw [hsy] at HVY ⊢
  have HX := hide hx
  have HY := hide hy
  clear hsx hsy hx hy
  go_enter Tryz.func72, Tryz.ntmps72
  go_wp2_with fail
  refine (HVX.out _).mono ?_
  rintro e w1 ⟨rfl, rfl⟩
  go_wp2_with fail
  refine (HVY.out _).mono ?_
  rintro e w2 ⟨rfl, rfl⟩
  go_wp2_with fail
  go_loopw [6, 7] (fun z1 z2 wx => ∃ (s t : ByteArray) (a b : Nat), z1 = .string s ∧ z2 = .string t ∧ s = natS a ∧ t = natS b ∧ a < capK 999 ∧ b < capK 999 ∧ Nat.gcd a b = Nat.gcd x y ∧ Below w.heap.size w wx) (fun _ z2 _ => (match z2 with | .string t => nval t.data.toList | _ => 0))
  case atStart => exact ⟨_, _, x, y, rfl, rfl, HSX.out, HSY.out, HX.out, HY.out, rfl, Below.refl _ _⟩
  case round =>
    obtain ⟨s, t, a, b, rfl, rfl, hs, ht, ha, hb, hg, hbl⟩ := hrel
    have HA := hide ha
    have HG := hide hg
    have HB := hide hbl
    have HS := hide hs
    by_cases h0 : 0 < b
    · have hne := natS_ne_zero h0
      rw [← ht] at hne
      have hne1 : (t.toList == [48]) = false := str_ne hne (by rfl)
      have hne2 : (t.toList != [48]) = true := by rw [bne, hne1]; rfl
      have HF : Hid (∀ W, Calls Tryz.prog 96 #[.string s, .string t] W fun e w' => e = .returned (.tuple #[.string (natS (a / b)), .string (natS (a % b))]) ∧ Below W.heap.size W w') := fun W => by
        rw [hs, ht]; exact ref_div a b W (to_capN ha (by decide)) hb h0
      have HR := hide (Nat.lt_trans (Nat.mod_lt a h0) hb)
      have HT := hide ht
      have HBB := hide hb
      have HG2 : Hid (Nat.gcd b (a % b) = Nat.gcd x y) := by
        show _ = _
        rw [← HG.out, Nat.gcd_comm a b, Nat.gcd_rec b a, Nat.gcd_comm]
      have HM : Hid (nval (natS (a % b)).data.toList < nval t.data.toList) := by
        show _ < _
        rw [ht, natS_toList, natS_toList, nval_dec, nval_dec]
        exact Nat.mod_lt a h0
      obtain ⟨q, hq⟩ : ∃ q, natS (a / b) = q := ⟨_, rfl⟩
      obtain ⟨m, hm⟩ : ∃ m, natS (a % b) = m := ⟨_, rfl⟩
      rw [hq, hm] at HF
      rw [hm] at HM
      have HMM := hide hm.symm
      clear hs ht ha hb hg hbl hne hq hm h0
      go_wp2_with fail
      refine (HF.out _).mono ?_
      rintro e w3 ⟨rfl, hb⟩
      have HB3 := hide (bStep HB.out hb)
      clear hb
      go_wp2_with fail
      go_roundw
      case rel => exact ⟨_, _, b, a % b, rfl, rfl, HT.out, HMM.out, HBB.out, HR.out, HG2.out, HB3.out⟩
      case measure => exact HM.out
    · obtain rfl : b = 0 := by omega
      have he : (t.toList == [48]) = true := str_eq (by rw [ht, natS_zero])
      have he2 : (t.toList != [48]) = false := by rw [bne, he]; rfl
      have HG2 : Hid (a = Nat.gcd x y) := by
        show _ = _
        rw [← HG.out, Nat.gcd_zero_right]
      clear hs ht ha hb hg hbl h0
      go_wp2_with fail
      go_ret2
      exact ⟨by rw [HS.out, HG2.out]; rfl, HB.out⟩
structure OfI (w wx : World) (n : Nat) (u : Value) (m k : Nat) (o : List Nat) : Prop where
  bld : Bld vY 1 w wx o u o.length
  len : o.length = k
  dig : D10 o
  sum : le10 o + m * 10 ^ k = n
  low : n < 10 ^ 19
  pos : 0 < k ∨ m = n
theorem OfI.bound {w wx : World} {n m k : Nat} {u : Value} {o : List Nat} (h : OfI w wx n u m k o) (hm : 0 < m) : k ≤ 18 := by
  have h1 := h.sum
  have h2 : 1 * 10 ^ k ≤ m * 10 ^ k := Nat.mul_le_mul_right _ hm
  have h3 : 10 ^ k < 10 ^ 19 := by have := h.low; omega
  have := (Nat.pow_lt_pow_iff_right (a := 10) (by decide)).1 h3
  omega
theorem OfI.next {w wx w4 : World} {n m k : Nat} {u u' : Value} {o : List Nat} (h : OfI w wx n u m k o) (hb : Bld vY 1 w w4 (o ++ [m % 10]) u' (o ++ [m % 10]).length) : OfI w w4 n u' (m / 10) (k + 1) (o ++ [m % 10]) := by
  refine ⟨hb, by simp [h.len], fun d hd => ?_, of_step10 h.len h.sum, h.low, .inl (by omega)⟩
  rcases List.mem_append.1 hd with hd | hd
  · exact h.dig d hd
  · simp at hd; omega
theorem tera : natS 1000000000000 = ⟨#[49, 48, 48, 48, 48, 48, 48, 48, 48, 48, 48, 48, 48]⟩ := lit_nat (by decide +kernel) (by decide +kernel)
theorem tera_cap : 1000000000000 < capN := lit_cap (b := ⟨#[49, 48, 48, 48, 48, 48, 48, 48, 48, 48, 48, 48, 48]⟩) (by decide +kernel) (by decide +kernel)
theorem take_le (x k : Nat) : nval ((Lib.decDigits x).take k) ≤ x := by
  have h : nval ((Lib.decDigits x).take k) * 10 ^ ((Lib.decDigits x).drop k).length + nval ((Lib.decDigits x).drop k) = x := by
    rw [← nval_append, List.take_append_drop, nval_dec]
  have h1 : nval ((Lib.decDigits x).take k) * 1 ≤ nval ((Lib.decDigits x).take k) * 10 ^ ((Lib.decDigits x).drop k).length := Nat.mul_le_mul_left _ (Nat.pow_pos (by decide))
  omega
set_option maxHeartbeats 2000000 in
set_option maxRecDepth 100000 in
theorem ref_Add_bad (a b : ByteArray) (w : World) (ha : a.size ≤ maxLen) (hb : b.size ≤ maxLen) (h : bad2 a b) :
    Calls Tryz.prog 56 #[.string a, .string b] w (ArgPost w) := by
  rcases h with h | ⟨h, h'⟩
  · have HVX : Hid (∀ W, Calls Tryz.prog 74 #[.string a] W fun e w' => e = .returned (.bool false) ∧ W = w') := fun W => ref_vf a W ha h
    clear h
    go_enter Tryz.func56, Tryz.ntmps56
    go_wp2_with fail
    refine (HVX.out _).mono ?_
    rintro e w1 ⟨rfl, rfl⟩
    go_wp2_with fail
    go_ret2
    exact ⟨rfl, Below.refl _ _⟩
  · have HVX : Hid (∀ W, Calls Tryz.prog 74 #[.string a] W fun e w' => e = .returned (.bool true) ∧ W = w') := fun W => ref_vt a W ha h
    have HVY : Hid (∀ W, Calls Tryz.prog 74 #[.string b] W fun e w' => e = .returned (.bool false) ∧ W = w') := fun W => ref_vf b W hb h'
    clear h h'
    go_enter Tryz.func56, Tryz.ntmps56
    go_wp2_with fail
    refine (HVX.out _).mono ?_
    rintro e w1 ⟨rfl, rfl⟩
    go_wp2_with fail
    refine (HVY.out _).mono ?_
    rintro e w2 ⟨rfl, rfl⟩
    go_wp2_with fail
    go_ret2
    exact ⟨rfl, Below.refl _ _⟩
set_option maxHeartbeats 2000000 in
set_option maxRecDepth 100000 in
theorem ref_Sub_bad (a b : ByteArray) (w : World) (ha : a.size ≤ maxLen) (hb : b.size ≤ maxLen) (h : bad2 a b) :
    Calls Tryz.prog 58 #[.string a, .string b] w (ArgPost w) := by
  rcases h with h | ⟨h, h'⟩
  · have HVX : Hid (∀ W, Calls Tryz.prog 74 #[.string a] W fun e w' => e = .returned (.bool false) ∧ W = w') := fun W => ref_vf a W ha h
    clear h
    go_enter Tryz.func58, Tryz.ntmps58
    go_wp2_with fail
    refine (HVX.out _).mono ?_
    rintro e w1 ⟨rfl, rfl⟩
    go_wp2_with fail
    go_ret2
    exact ⟨rfl, Below.refl _ _⟩
  · have HVX : Hid (∀ W, Calls Tryz.prog 74 #[.string a] W fun e w' => e = .returned (.bool true) ∧ W = w') := fun W => ref_vt a W ha h
    have HVY : Hid (∀ W, Calls Tryz.prog 74 #[.string b] W fun e w' => e = .returned (.bool false) ∧ W = w') := fun W => ref_vf b W hb h'
    clear h h'
    go_enter Tryz.func58, Tryz.ntmps58
    go_wp2_with fail
    refine (HVX.out _).mono ?_
    rintro e w1 ⟨rfl, rfl⟩
    go_wp2_with fail
    refine (HVY.out _).mono ?_
    rintro e w2 ⟨rfl, rfl⟩
    go_wp2_with fail
    go_ret2
    exact ⟨rfl, Below.refl _ _⟩
set_option maxHeartbeats 2000000 in
set_option maxRecDepth 100000 in
theorem ref_Mul_bad (a b : ByteArray) (w : World) (ha : a.size ≤ maxLen) (hb : b.size ≤ maxLen) (h : bad2 a b) :
    Calls Tryz.prog 55 #[.string a, .string b] w (ArgPost w) := by
  rcases h with h | ⟨h, h'⟩
  · have HVX : Hid (∀ W, Calls Tryz.prog 74 #[.string a] W fun e w' => e = .returned (.bool false) ∧ W = w') := fun W => ref_vf a W ha h
    clear h
    go_enter Tryz.func55, Tryz.ntmps55
    go_wp2_with fail
    refine (HVX.out _).mono ?_
    rintro e w1 ⟨rfl, rfl⟩
    go_wp2_with fail
    go_ret2
    exact ⟨rfl, Below.refl _ _⟩
  · have HVX : Hid (∀ W, Calls Tryz.prog 74 #[.string a] W fun e w' => e = .returned (.bool true) ∧ W = w') := fun W => ref_vt a W ha h
    have HVY : Hid (∀ W, Calls Tryz.prog 74 #[.string b] W fun e w' => e = .returned (.bool false) ∧ W = w') := fun W => ref_vf b W hb h'
    clear h h'
    go_enter Tryz.func55, Tryz.ntmps55
    go_wp2_with fail
    refine (HVX.out _).mono ?_
    rintro e w1 ⟨rfl, rfl⟩
    go_wp2_with fail
    refine (HVY.out _).mono ?_
    rintro e w2 ⟨rfl, rfl⟩
    go_wp2_with fail
    go_ret2
    exact ⟨rfl, Below.refl _ _⟩
set_option maxHeartbeats 2000000 in
set_option maxRecDepth 100000 in
theorem ref_Gcd_bad (a b : ByteArray) (w : World) (ha : a.size ≤ maxLen) (hb : b.size ≤ maxLen) (h : bad2 a b) :
    Calls Tryz.prog 72 #[.string a, .string b] w (ArgPost w) := by
  rcases h with h | ⟨h, h'⟩
  · have HVX : Hid (∀ W, Calls Tryz.prog 74 #[.string a] W fun e w' => e = .returned (.bool false) ∧ W = w') := fun W => ref_vf a W ha h
    clear h
    go_enter Tryz.func72, Tryz.ntmps72
    go_wp2_with fail
    refine (HVX.out _).mono ?_
    rintro e w1 ⟨rfl, rfl⟩
    go_wp2_with fail
    go_ret2
    exact ⟨rfl, Below.refl _ _⟩
  · have HVX : Hid (∀ W, Calls Tryz.prog 74 #[.string a] W fun e w' => e = .returned (.bool true) ∧ W = w') := fun W => ref_vt a W ha h
    have HVY : Hid (∀ W, Calls Tryz.prog 74 #[.string b] W fun e w' => e = .returned (.bool false) ∧ W = w') := fun W => ref_vf b W hb h'
    clear h h'
    go_enter Tryz.func72, Tryz.ntmps72
    go_wp2_with fail
    refine (HVX.out _).mono ?_
    rintro e w1 ⟨rfl, rfl⟩
    go_wp2_with fail
    refine (HVY.out _).mono ?_
    rintro e w2 ⟨rfl, rfl⟩
    go_wp2_with fail
    go_ret2
    exact ⟨rfl, Below.refl _ _⟩
set_option maxHeartbeats 2000000 in
set_option maxRecDepth 100000 in
theorem ref_Div_bad (a b : ByteArray) (w : World) (ha : a.size ≤ maxLen) (hb : b.size ≤ maxLen) (h : bad2 a b) :
    Calls Tryz.prog 73 #[.string a, .string b] w (Err3Post w 1) := by
  rcases h with h | ⟨h, h'⟩
  · have HVX : Hid (∀ W, Calls Tryz.prog 74 #[.string a] W fun e w' => e = .returned (.bool false) ∧ W = w') := fun W => ref_vf a W ha h
    clear h
    go_enter Tryz.func73, Tryz.ntmps73
    go_wp2_with fail
    refine (HVX.out _).mono ?_
    rintro e w1 ⟨rfl, rfl⟩
    go_wp2_with fail
    go_ret3
    exact ⟨rfl, Below.refl _ _⟩
  · have HVX : Hid (∀ W, Calls Tryz.prog 74 #[.string a] W fun e w' => e = .returned (.bool true) ∧ W = w') := fun W => ref_vt a W ha h
    have HVY : Hid (∀ W, Calls Tryz.prog 74 #[.string b] W fun e w' => e = .returned (.bool false) ∧ W = w') := fun W => ref_vf b W hb h'
    clear h h'
    go_enter Tryz.func73, Tryz.ntmps73
    go_wp2_with fail
    refine (HVX.out _).mono ?_
    rintro e w1 ⟨rfl, rfl⟩
    go_wp2_with fail
    refine (HVY.out _).mono ?_
    rintro e w2 ⟨rfl, rfl⟩
    go_wp2_with fail
    go_ret3
    exact ⟨rfl, Below.refl _ _⟩
set_option maxHeartbeats 2000000 in
set_option maxRecDepth 100000 in
theorem ref_Compare_bad (a b : ByteArray) (w : World) (ha : a.size ≤ maxLen) (hb : b.size ≤ maxLen) (h : bad2 a b) :
    Calls Tryz.prog 57 #[.string a, .string b] w fun e w' => e = .returned (.int .i64 0) ∧ Below w.heap.size w w' := by
  rcases h with h | ⟨h, h'⟩
  · have HVX : Hid (∀ W, Calls Tryz.prog 74 #[.string a] W fun e w' => e = .returned (.bool false) ∧ W = w') := fun W => ref_vf a W ha h
    clear h
    go_enter Tryz.func57, Tryz.ntmps57
    go_wp2_with fail
    refine (HVX.out _).mono ?_
    rintro e w1 ⟨rfl, rfl⟩
    go_wp2_with fail
    go_ret
    exact ⟨rfl, Below.refl _ _⟩
  · have HVX : Hid (∀ W, Calls Tryz.prog 74 #[.string a] W fun e w' => e = .returned (.bool true) ∧ W = w') := fun W => ref_vt a W ha h
    have HVY : Hid (∀ W, Calls Tryz.prog 74 #[.string b] W fun e w' => e = .returned (.bool false) ∧ W = w') := fun W => ref_vf b W hb h'
    clear h h'
    go_enter Tryz.func57, Tryz.ntmps57
    go_wp2_with fail
    refine (HVX.out _).mono ?_
    rintro e w1 ⟨rfl, rfl⟩
    go_wp2_with fail
    refine (HVY.out _).mono ?_
    rintro e w2 ⟨rfl, rfl⟩
    go_wp2_with fail
    go_ret
    exact ⟨rfl, Below.refl _ _⟩
end Go.Proofs.YtlagoiaiodjmhaaGreatDoor
