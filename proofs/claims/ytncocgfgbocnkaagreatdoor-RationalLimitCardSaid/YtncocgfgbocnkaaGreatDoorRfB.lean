/- observatoryref03: text. -/
import Derived.Test.YtncocgfgbocnkaaGreatDoorRfA
import Derived.Laws.IdiomStrings
set_option linter.unusedVariables false
set_option linter.unusedSimpArgs false
namespace Go.Proofs.YtncocgfgbocnkaaGreatDoor
open Go.RowKit

/-- One byte of a row. -/
def vY (d : Nat) : List Value := [.int .u8 (d : Int)]
theorem vY_len (d : Nat) : (vY d).length = 1 := rfl
theorem byte_cell {w : World} {b off : Nat} {l : List Nat} (h : ∀ i (h : i < l.length) j u, (vY l[i])[j]? = some u → w.cell? ⟨b, off + i * 1 + j, none⟩ = some u) {k : Nat} (hk : k < l.length) : w.cell? ⟨b, off + k, none⟩ = some (.int .u8 (l[k] : Int)) := by
  have := h k hk 0 _ rfl
  simpa using this
theorem flat_vY_set (o : List Nat) (i d : Nat) : flatV vY (o.set i d) = (flatV vY o).set i (.int .u8 (d : Int)) := by
  induction o generalizing i with
  | nil => rfl
  | cons a o ih =>
    cases i with
    | zero => rfl
    | succ i =>
      show vY a ++ flatV vY (o.set i d) = (vY a ++ flatV vY o).set (i + 1) _
      rw [ih]; rfl
theorem Tryz.infoU8 : (Tryz.prog.info? 5).map (fun i => (i.zero, i.size, i.bytes)) = some (some (.int .u8 0), 1, 1) := by kernel_rfl
theorem flat_vY_len (o : List Nat) : (flatV vY o).length = o.length := by rw [flatV_length vY_len, Nat.mul_one]
theorem flatY_zeros (n : Nat) : flatV vY (List.replicate n 0) = List.replicate n (.int .u8 0) := by
  induction n with
  | zero => rfl
  | succ n ih =>
    rw [List.replicate_succ, List.replicate_succ]
    show vY 0 ++ flatV vY (List.replicate n 0) = _
    rw [ih]; rfl
theorem madeY_cell (w : World) (n : Nat) (T : TypeId) (j : Nat) (h : j < n) : (w.alloc (.cells (madeCells #[.int .u8 0] n) T)).cell? ⟨w.heap.size, 0 + j, none⟩ = some (.int .u8 0) := by
  rw [World.cell?_alloc_at _ _ _ _ rfl]; simp [madeCells, h, Nat.mod_one]
theorem OwnS.madeY0 (w : World) (n : Nat) (T : TypeId) (hn : n ≤ maxLen) : OwnS (w.alloc (.cells (madeCells #[.int .u8 0] n) T)) w.heap.size 1 (.slice (some ⟨w.heap.size, 0, none⟩) n n) n (flatV vY (List.replicate n 0)) := by
  refine ⟨by rw [flatY_zeros]; simp, .inr ⟨w.heap.size, 0, n, rfl, Nat.le_refl _, by simp, Nat.le_refl _, hn, fun j hj => ⟨?_, by simp [go_sem]⟩, fun j u hu => ?_⟩⟩
  · rw [madeY_cell w n T j (by omega)]; rfl
  · rw [flatY_zeros] at hu
    have hj : j < n := by
      have := (List.getElem?_eq_some_iff.1 hu).1
      simpa using this
    rw [madeY_cell w n T j hj]
    simp [hj] at hu
    rw [hu]
/-- The row that text lays, behind its first i rounds. -/
structure TxtI (w : World) (B n : Nat) (o : List Nat) : Prop where
  o : OwnS w B 1 (.slice (some ⟨B, 0, none⟩) n n) n (flatV vY o)
theorem TxtI.cell {w : World} {B n : Nat} {o : List Nat} (h : TxtI w B n o) {i : Nat} (hi : i < n) : ∃ u, w.cell? ⟨B, 0 + i, none⟩ = some u ∧ w.frozen? ⟨B, 0 + i, none⟩ = false := by
  rcases h.o.2 with ⟨ao, h1, h2, _⟩ | ⟨g, off, cap, hv, hb, hlt, hn, hm, hc, hx⟩
  · omega
  · simp only [Value.slice.injEq, Option.some.injEq, Addr.mk.injEq, and_true, true_and] at hv
    obtain ⟨⟨rfl, rfl⟩, rfl⟩ := hv
    have := hc i (by omega)
    obtain ⟨u, hu⟩ := Option.isSome_iff_exists.1 this.1
    exact ⟨u, hu, this.2⟩
theorem TxtI.set {w : World} {B n : Nat} {o : List Nat} (h : TxtI w B n o) {i : Nat} (hi : i < n) (d : Nat) : TxtI (w.setCell ⟨B, 0 + i, none⟩ (.int .u8 (d : Int))) B n (o.set i d) :=
  ⟨by rw [flat_vY_set]; exact h.o.setOwn hi _⟩
theorem flatY (o : List Nat) : flatV vY o = o.map fun d => .int .u8 (d : Int) := by
  induction o with
  | nil => rfl
  | cons a o ih => show vY a ++ flatV vY o = _; rw [ih]; rfl
theorem revB_row (l : List Nat) : revB l = (rowT l l.length).map UInt8.ofNat := by
  rw [rowT_all]; unfold revB; rw [List.map_reverse, List.map_map]; rfl
theorem rowT_lt {l : List Nat} (hd : D10 l) : ∀ r ∈ rowT l l.length, r < 58 := by
  intro r hr
  rw [rowT_all] at hr
  simp only [List.mem_reverse, List.mem_map] at hr
  obtain ⟨d, hdm, rfl⟩ := hr
  have := hd d hdm
  omega
theorem TxtI.bytes {w : World} {B : Nat} {l : List Nat} (h : TxtI w B l.length (rowT l l.length)) (hd : D10 l) : ∀ j (hj : j < (revB l).length), w.cell? (Addr.add ⟨B, 0, none⟩ j) = some (.int .u8 ((revB l)[j].toNat : Int)) := by
  intro j hj
  have hj' : j < l.length := by rw [revB_len] at hj; exact hj
  have hR : (rowT l l.length).length = l.length := by rw [rowT_all]; simp
  rcases h.o.2 with ⟨ao, h1, h2, _⟩ | ⟨g, off, cap, hv, hb, hlt, hn, hm, hc, hx⟩
  · omega
  · simp only [Value.slice.injEq, Option.some.injEq, Addr.mk.injEq, and_true, true_and] at hv
    obtain ⟨⟨rfl, rfl⟩, rfl⟩ := hv
    have ea : Addr.add ⟨B, 0, none⟩ j = ⟨B, 0 + j, none⟩ := by simp [Addr.add]; intro h; omega
    rw [ea]
    refine hx j _ ?_
    rw [flatY, List.getElem?_map, List.getElem?_eq_getElem (by rw [hR]; exact hj')]
    simp only [revB_row, List.getElem_map, Option.map_some]
    have hm := rowT_lt hd _ (List.getElem_mem (l := rowT l l.length) (n := j) (by rw [hR]; exact hj'))
    congr 2
    rw [UInt8.toNat_ofNat']
    omega
set_option maxHeartbeats 2000000 in
set_option maxRecDepth 100000 in
theorem ref_text (l : List Nat) (v : Value) (w : World) (h : SliceOf vY 1 w v l) (h0 : 0 < l.length) (hl : l.length ≤ 100000) (hd : D10 l) :
    Calls Tryz.prog 109 #[v] w fun e w' => e = .returned (.string (natS (le10 l))) ∧ Below w.heap.size w w' := by
  obtain ⟨b, off, cap, rfl, hb, h1, h2, hc⟩ := h.some_of_pos h0
  have hmk := run_make_row' (P := Tryz.prog) 73 5 (.int .u8 0) 1 Tryz.underlying73 Tryz.infoU8 rfl .i64 .i64 l.length (by omega) (by omega)
  have HC := hide hc
  have HD := hide hd
  clear hc hd h
  go_enter Tryz.func109, Tryz.ntmps109
  go_wp2_with fail
  clear hmk
  go_loopw [4] (fun x wx => ∃ k : Nat, k ≤ l.length ∧ x = .int .i64 (k : Int) ∧ TxtI wx w.heap.size l.length (rowT l k) ∧ Below w.heap.size w wx) (fun x _ => l.length - (intOf x).toNat)
  case atStart => exact ⟨0, Nat.zero_le _, rfl, ⟨by rw [rowT_zero]; exact OwnS.madeY0 w _ _ (by unfold maxLen; omega)⟩, (Below.refl _ w).alloc (Nat.le_refl _) _⟩
  case round =>
    obtain ⟨k, hk, rfl, ht, hbl⟩ := hrel
    have HT := hide ht
    have HB := hide hbl
    by_cases hkn : k < l.length
    · have c1 := (hbl.cell (p := ⟨b, off + k, none⟩) hb).trans (byte_cell (w := w) HC.out hkn)
      obtain ⟨j, hj⟩ : ∃ j, l.length - 1 - k = j := ⟨_, rfl⟩
      have hjn : j < l.length := by omega
      obtain ⟨u, s0, s1⟩ := ht.cell hjn
      rw [Nat.zero_add] at s0 s1
      have q1 : IntKind.i64.wrap ((l.length : Int) - 1) = (l.length : Int) - 1 := IntWalk.i64_in _ (by omega)
      have q2 : IntKind.i64.wrap ((l.length : Int) - 1 - (k : Int)) = (j : Int) := by rw [show (l.length : Int) - 1 - (k : Int) = (j : Int) by omega]; exact IntWalk.i64_in _ (by omega)
      have hx10 := HD.out _ (List.getElem_mem hkn)
      have HS := hide (rowT_step hkn)
      obtain ⟨x, hx⟩ : ∃ x, l[k] = x := ⟨_, rfl⟩
      rw [hx] at c1 hx10
      have HX := hide hx
      have HJ := hide hj
      have q3 : IntKind.u8.wrap ((x : Int) + 48) = ((48 + x : Nat) : Int) := by rw [show (x : Int) + 48 = ((48 + x : Nat) : Int) by omega]; exact IntWalk.u8_in _ (by omega)
      have q4 : decide ((k : Int) < (l.length : Int)) = true := decide_eq_true (by omega)
      have q5 : IntKind.i64.wrap ((k : Int) + 1) = (k : Int) + 1 := IntWalk.i64_in _ (by omega)
      clear ht hbl hx hj
      go_wp2_with fail
      go_roundw
      case rel =>
        refine ⟨k + 1, by omega, by go_num, ?_, HB.out.setCell (p := ⟨w.heap.size, j, none⟩) (Nat.le_refl _) _⟩
        have := HT.out.set hjn (48 + x)
        rw [Nat.zero_add] at this
        have hs := HS.out
        rw [HX.out, HJ.out] at hs
        rw [← hs]
        exact this
      case measure => (simp [intOf]; try omega)
    · obtain rfl : k = l.length := by omega
      have q4 : decide ((l.length : Int) < (l.length : Int)) = false := decide_eq_false (by omega)
      have hcv := run_convert_bytes_back (P := Tryz.prog) wr 73 9 5 ⟨w.heap.size, 0, none⟩ l.length (revB l) Tryz.underlying73 Tryz.underlying5 Tryz.underlying9 (ht.bytes HD.out)
      rw [revB_len] at hcv
      clear ht hbl
      go_wp2_with fail
      refine (ref_trimmed ⟨(revB l).toArray⟩ _ (by show (revB l).toArray.size ≤ maxLen; rw [List.size_toArray, revB_len]; unfold maxLen; omega) (by show 0 < (revB l).toArray.size; rw [List.size_toArray, revB_len]; exact h0) (revB_dg HD.out)).mono ?_
      rintro e w1 ⟨rfl, rfl⟩
      go_wp2_with fail
      go_ret
      exact ⟨congrArg (fun n => Ending.returned (.string (natS n))) (nval_revB HD.out), HB.out⟩
end Go.Proofs.YtncocgfgbocnkaaGreatDoor
