/- NatW, NatR in one text. -/
import Derived.Test.YtblpnekjnaaeoaaGreatDoorPkA
import Derived.Test.YtblpnekjnaaeoaaGreatDoorShelf
import Derived.Shelf.Abstract
import Derived.Lib.Builder
import Derived.Lib.AppendStr
import Derived.Laws.Externs
import Derived.Shelf.Strings.Builder1
import Derived.Test.YtblpnekjnaaeoaaGreatDoorPkD
set_option linter.unusedVariables false
set_option linter.unusedSimpArgs false
namespace Go.Proofs.YtblpnekjnaaeoaaGreatDoor
open Go.RowKit Go.Shelf

theorem Tryz.bSize : (Tryz.prog.info? 132).map (·.size) = some 2 := by kernel_rfl
theorem Tryz.bLies : liesAt Tryz.prog Tryz.prog.depth 132 (2 / Tryz.prog.cellsOf 132) 0 132 1 = true := by kernel_rfl
theorem Tryz.infoByte : (Tryz.prog.info? 5).map (fun i => (i.zero, i.size, i.bytes)) = some (some (.int .u8 0), 1, 1) := by kernel_rfl

set_option maxHeartbeats 1000000 in
set_option maxRecDepth 100000 in
theorem copyCheck_used (b : Nat) (w : World) (h0 : w.cell? ⟨b, 0, none⟩ = some (.pointer (some ⟨b, 0, none⟩))) :
    Calls Tryz.prog 138 #[.pointer (some ⟨b, 0, none⟩)] w fun e w' => e = .returned (.tuple #[]) ∧ w' = w := by
  obtain ⟨j, hj, _⟩ := Option.map_eq_some_iff.1 Tryz.bSize
  go_enter Tryz.func138, Tryz.ntmps138
  go_wp2
  try rw [Lib.run_neq_ptr_same w _ Tryz.underlying129 hj]
  try go_wp2
  go_end0
  exact ⟨rfl, rfl⟩

set_option maxHeartbeats 1000000 in
set_option maxRecDepth 100000 in
theorem copyCheck_fresh (b : Nat) (w : World) (h0 : w.cell? ⟨b, 0, none⟩ = some (.pointer none)) (hsh : w.shape? b = some (132, 2)) (hfz : w.frozen? ⟨b, 0, none⟩ = false) :
    Calls Tryz.prog 138 #[.pointer (some ⟨b, 0, none⟩)] w fun e w' => e = .returned (.tuple #[]) ∧ w' = w.setCell ⟨b, 0, none⟩ (.pointer (some ⟨b, 0, none⟩)) := by
  obtain ⟨j, hj, hjs⟩ := Option.map_eq_some_iff.1 Tryz.bSize
  go_enter Tryz.func138, Tryz.ntmps138
  go_wp2
  rw [Lib.run_to_unsafe w ⟨b, 0, none⟩ Tryz.underlying129 Tryz.underlying174 hj (by rw [hjs]; decide) hsh (Nat.zero_lt_succ 1)]
  simp only [Result.andThen]
  rw [Oper.upon_value]
  go_wp2
  rw [run_callFunc_extern Tryz.func161 (by kernel_rfl) (by kernel_rfl) (by kernel_rfl) (e := Extern.AbiNoEscape.same) (by kernel_rfl)]
  rw [Lib.run_noEscape]
  simp only [Result.andThen]
  rw [Oper.upon_value]
  go_wp2
  rw [Lib.run_from_unsafe w ⟨b, 0, none⟩ Tryz.underlying174 Tryz.underlying129 hj hsh Tryz.bLies]
  simp only [Result.andThen]
  rw [Oper.upon_value]
  go_wp2
  go_end0
  exact ⟨rfl, rfl⟩

theorem copyCheck_any (B b : Nat) (bs : List Value) (w : World) (h : Lib.IsBuilder 132 5 B b bs w) :
    Calls Tryz.prog 138 #[.pointer (some ⟨b, 0, none⟩)] w fun e w' => e = .returned (.tuple #[]) ∧ (Lib.BuilderAt 132 5 B b (.pointer (some ⟨b, 0, none⟩)) bs w' ∧ Below B w w') := by
  rcases h with h | h
  · refine (copyCheck_fresh b w h.cell0 h.shape h.frozen0).mono ?_
    rintro e w' ⟨rfl, rfl⟩
    exact ⟨rfl, h.used _, (Below.refl B w).setCell (p := ⟨b, 0, none⟩) h.1 _⟩
  · refine (copyCheck_used b w h.cell0).mono ?_
    rintro e w' ⟨rfl, rfl⟩
    exact ⟨rfl, h, Below.refl B _⟩

set_option maxHeartbeats 2000000 in
set_option maxRecDepth 100000 in
theorem write_any (B b : Nat) (bs : List Value) (s : ByteArray) (w : World) (h : Lib.IsBuilder 132 5 B b bs w) (hlen : bs.length + s.size ≤ 140737488355328) (hBw : B ≤ w.heap.size) :
    Calls Tryz.prog 110 #[.pointer (some ⟨b, 0, none⟩), .string s] w fun e w' => e = .returned (.tuple #[.int .i64 s.size, .nilIface]) ∧ (Lib.BuilderAt 132 5 B b (.pointer (some ⟨b, 0, none⟩)) (bs ++ Lib.strCells s) w' ∧ Below B w w') := by
  obtain ⟨i0, hi, hz0, hz1, hz2⟩ := info_parts Tryz.infoByte
  go_enter Tryz.func110, Tryz.ntmps110
  go_wp2_with (go_at_call 138; refine (copyCheck_any B b bs _ h).mono ?_)
  rintro e w1 ⟨rfl, h1, hb1⟩
  obtain ⟨hB, v, hbk, hown, hne⟩ := h1
  have c0 : w1.cell? ⟨b, 0, none⟩ = some (.pointer (some ⟨b, 0, none⟩)) := by rw [Lib.cell_of_heap hbk]; rfl
  have c1 : w1.cell? ⟨b, 1, none⟩ = some v := by rw [Lib.cell_of_heap hbk]; rfl
  go_wp2_with (at_builtin; refine Lib.wpList_append_own_string _ rfl _ _ 130 9 rfl B 5 i0 Tryz.underlying130 Tryz.underlying9 hi hz0 hz1 hz2 _ _ _ rfl hown s rfl ?c3 ?c4 ?c5 ?_)
  case c3 => unfold maxLen; omega
  case c4 => omega
  case c5 => have := hb1.size; omega
  intro v' w2 hown' hgrow _
  have hlt : b < w1.heap.size := by
    rcases Nat.lt_or_ge b w1.heap.size with h' | h'
    · exact h'
    · simp [Array.getElem?_eq_none h'] at hbk
  have hb2 : w2.heap[b]? = some (.cells #[.pointer (some ⟨b, 0, none⟩), v] 132 (0, 0)) := by
    rw [hgrow.block b hlt (fun e => hne e.symm)]
    exact hbk
  have d0 : w2.cell? ⟨b, 0, none⟩ = some (.pointer (some ⟨b, 0, none⟩)) := by rw [Lib.cell_of_heap hb2]; rfl
  have d1 : w2.cell? ⟨b, 1, none⟩ = some v := by rw [Lib.cell_of_heap hb2]; rfl
  have f1 : w2.frozen? ⟨b, 1, none⟩ = false := Lib.frozen_of_heap hb2 1
  obtain ⟨ao, n', cap, rfl⟩ : ∃ ao n' cap, v' = .slice ao n' cap := by
    rcases hown'.2 with ⟨hv, _⟩ | ⟨g, cap, cur, hv, _⟩
    · exact ⟨_, _, _, hv⟩
    · exact ⟨_, _, _, hv⟩
  go_wp2
  go_ret2
  refine ⟨rfl, ?_, ?_⟩
  · exact Lib.BuilderAt.put (T := 132) (e := 5) hB hb2 (bs' := bs ++ Lib.strCells s) (by simpa [Lib.strCells_length] using hown') (by decide)
  · exact (hb1.grown hgrow (by have := hb1.size; omega) (fun k hk => (hown.lt k hk).1)).setCell (p := ⟨b, 1, none⟩) hB _
end Go.Proofs.YtblpnekjnaaeoaaGreatDoor
namespace Go.Proofs.YtblpnekjnaaeoaaGreatDoor
open Go.RowKit

def digs : ByteArray := ⟨#[48, 49, 50, 51, 52, 53, 54, 55, 56, 57]⟩
theorem digs_all : ∀ (j : Nat) b, digs.data.toList[j]? = some b → b.toNat < 128 := Go.Proofs.ascii_of_all (by decide)
theorem digs_mem (b : UInt8) : digs.data.toList.contains b = isDg b := by
  show [48, 49, 50, 51, 52, 53, 54, 55, 56, 57].contains b = _
  have key : ∀ n : Fin 256, [48, 49, 50, 51, 52, 53, 54, 55, 56, 57].contains (UInt8.ofNat n.val) = isDg (UInt8.ofNat n.val) := by decide +kernel
  have := key ⟨b.toNat, UInt8.toNat_lt b⟩
  simpa using this
theorem dropWhile_nil {α : Type} (p : α → Bool) (l : List α) : l.dropWhile p = [] ↔ ∀ b ∈ l, p b = true := by
  induction l with
  | nil => simp
  | cons a l ih =>
    rw [List.dropWhile_cons]
    by_cases h : p a = true
    · rw [if_pos h, ih]; simp [h]
    · rw [if_neg h]; simp [h]
theorem trim_nil (l : List UInt8) : Lib.trimS l digs.data.toList = [] ↔ l.all isDg = true := by
  unfold Lib.trimS Lib.trimLeftS Lib.trimRightS
  rw [dropWhile_nil, List.all_eq_true]
  have e : ∀ m : List UInt8, (m.reverse.dropWhile (digs.data.toList.contains ·)).reverse = [] ∨ True := fun _ => .inr trivial
  constructor
  · intro h
    have h2 : ∀ b ∈ (l.reverse.dropWhile (digs.data.toList.contains ·)).reverse, isDg b = true := fun b hb => by rw [← digs_mem]; exact h b hb
    have h3 : l.reverse.dropWhile (digs.data.toList.contains ·) = [] := by
      cases hd : l.reverse.dropWhile (digs.data.toList.contains ·) with
      | nil => rfl
      | cons a t =>
        exfalso
        have h4 := List.head?_dropWhile_not (digs.data.toList.contains ·) l.reverse
        rw [hd] at h4
        simp only [List.head?_cons] at h4
        have h5 := h2 a (by rw [hd]; simp)
        rw [← digs_mem] at h5
        simp_all
    rw [dropWhile_nil] at h3
    intro b hb
    rw [← digs_mem]; exact h3 b (by simpa using hb)
  · intro h b hb
    rw [digs_mem]
    refine h b ?_
    have h1 : b ∈ l.reverse.dropWhile (digs.data.toList.contains ·) := by simpa using hb
    have h2 := (List.dropWhile_sublist (digs.data.toList.contains ·) (l := l.reverse)).mem h1
    simpa using h2
theorem vldN_size0 {s : ByteArray} (h : s.size = 0) : vldN s = false := by unfold vldN; simp [h]
theorem vldN_long {s : ByteArray} (h : 1000 < s.size) : vldN s = false := by
  unfold vldN
  have : decide (s.size ≤ 1000) = false := decide_eq_false (by omega)
  rw [this]; simp
theorem vldN_nodigit {s : ByteArray} (h : ¬ s.data.toList.all isDg = true) : vldN s = false := by
  unfold vldN
  have : s.data.toList.all isDg = false := by simpa using h
  rw [this]; simp
theorem head_at {s : ByteArray} (h : 0 < s.size) : s.data.toList.head? = some s[0] := by
  have h' : 0 < s.data.toList.length := by rw [← ba_size]; exact h
  rw [List.head?_eq_getElem?, List.getElem?_eq_getElem h']
  rfl
theorem vldN_zero {s : ByteArray} (h : 1 < s.size) (h0 : s[0].toNat = 48) : vldN s = false := by
  have hh := head_at (s := s) (by omega)
  have : s[0] = 48 := UInt8.toNat_inj.1 (by rw [h0]; rfl)
  rw [this] at hh
  unfold vldN
  rw [hh]
  have : decide (s.size = 1) = false := decide_eq_false (by omega)
  rw [this]; simp
theorem vldN_ok {s : ByteArray} (h0 : 0 < s.size) (h1 : s.size ≤ 1000) (h2 : s.data.toList.all isDg = true) (h3 : s[0].toNat ≠ 48 ∨ s.size = 1) : vldN s = true := by
  unfold vldN
  rw [h2, head_at h0]
  have a : decide (1 ≤ s.size) = true := decide_eq_true (by omega)
  have b : decide (s.size ≤ 1000) = true := decide_eq_true (by omega)
  rw [a, b]
  rcases h3 with h3 | h3
  · have : decide (some s[0] ≠ some 48) = true := by
      simp only [ne_eq, Option.some.injEq, decide_eq_true_eq]
      intro e; apply h3; rw [e]; rfl
    rw [this]; rfl
  · have : decide (s.size = 1) = true := by simp [h3]
    rw [this]; simp
set_option maxHeartbeats 1000000 in
set_option maxRecDepth 100000 in
theorem valid_any (s : ByteArray) (w : World) (hs : s.size ≤ maxLen) :
    Calls Tryz.prog 75 #[.string s] w fun e w' => e = .returned (.bool (vldN s)) ∧ Below w.heap.size w w' := by
  unfold maxLen at hs
  by_cases h0 : s.size = 0
  · have H := hide (vldN_size0 h0)
    have h1 : (s.size : Int) < 1 := by omega
    have h2 : decide (1 ≤ s.size) = false := decide_eq_false (by omega)
    have h3 : decide ((1 : Int) ≤ (s.size : Int)) = false := decide_eq_false (by omega)
    clear h0
    go_enter Tryz.func75, Tryz.ntmps75
    go_wp2_with fail
    go_ret
    exact ⟨ret_bool H.out.symm, Below.refl _ _⟩
  by_cases hL : 1000 < s.size
  · have H := hide (vldN_long hL)
    have h1 : (1000 : Int) < (s.size : Int) := by omega
    have h2 : decide (s.size ≤ 1000) = false := decide_eq_false (by omega)
    have h3 : decide ((s.size : Int) ≤ 1000) = false := decide_eq_false (by omega)
    have h4 : decide ((1 : Int) ≤ (s.size : Int)) = true := decide_eq_true (by omega)
    go_enter Tryz.func75, Tryz.ntmps75
    go_wp2_with fail
    go_ret
    exact ⟨ret_bool H.out.symm, Below.refl _ _⟩
  have h1 : (1 : Int) ≤ (s.size : Int) := by omega
  have h2 : (s.size : Int) ≤ 1000 := by omega
  have h0' : 0 < s.size := by omega
  have hc := Tryz.strings_Trim_laid s digs
  have HC := hide hc
  clear hc
  by_cases hd : s.data.toList.all isDg = true
  · have ht := (trim_nil s.data.toList).2 hd
    have HT := hide ht
    clear ht
    by_cases hz : s[0].toNat = 48
    · by_cases h1s : s.size = 1
      · have H := hide (vldN_ok h0' (by omega) hd (.inr h1s))
        have q3 : ((s.size : Int) == 1) = true := by simp; omega
        clear h1s
        clear hd
        go_enter Tryz.func75, Tryz.ntmps75
        go_wp2_with fail
        refine (HC.out _ hs (by decide) digs_all).mono ?_
        rintro e w1 ⟨rfl, hb1⟩
        rw [HT.out]
        have HB1 := hide hb1
        clear hb1
        go_wp2_with fail
        go_ret
        exact ⟨ret_bool H.out.symm, HB1.out⟩
      · have H := hide (vldN_zero (by omega) hz)
        have q3 : ((s.size : Int) == 1) = false := by simp; omega
        clear hd
        go_enter Tryz.func75, Tryz.ntmps75
        go_wp2_with fail
        refine (HC.out _ hs (by decide) digs_all).mono ?_
        rintro e w1 ⟨rfl, hb1⟩
        rw [HT.out]
        have HB1 := hide hb1
        clear hb1
        go_wp2_with fail
        go_ret
        exact ⟨ret_bool H.out.symm, HB1.out⟩
    · have H := hide (vldN_ok h0' (by omega) hd (.inl hz))
      have q1 : ((s[0].toNat : Int) != 48) = true := by simp; omega
      have q2 : ((s[0].toNat : Int) == 48) = false := by simp; omega
      clear hd
      go_enter Tryz.func75, Tryz.ntmps75
      go_wp2_with fail
      refine (HC.out _ hs (by decide) digs_all).mono ?_
      rintro e w1 ⟨rfl, hb1⟩
      rw [HT.out]
      have HB1 := hide hb1
      clear hb1
      go_wp2_with fail
      go_ret
      exact ⟨ret_bool H.out.symm, HB1.out⟩
  · have H := hide (vldN_nodigit hd)
    have ht : Lib.trimS s.data.toList digs.data.toList ≠ [] := fun e => hd ((trim_nil _).1 e)
    obtain ⟨c, t, hte⟩ : ∃ c t, Lib.trimS s.data.toList digs.data.toList = c :: t := by
      cases hx : Lib.trimS s.data.toList digs.data.toList with
      | nil => exact absurd hx ht
      | cons c t => exact ⟨c, t, rfl⟩
    have HTE := hide hte
    clear ht hd hte
    go_enter Tryz.func75, Tryz.ntmps75
    go_wp2_with fail
    refine (HC.out _ hs (by decide) digs_all).mono ?_
    rintro e w1 ⟨rfl, hb1⟩
    rw [HTE.out]
    have HB1 := hide hb1
    clear hb1
    go_wp2_with fail
    go_ret
    exact ⟨ret_bool H.out.symm, HB1.out⟩
end Go.Proofs.YtblpnekjnaaeoaaGreatDoor
