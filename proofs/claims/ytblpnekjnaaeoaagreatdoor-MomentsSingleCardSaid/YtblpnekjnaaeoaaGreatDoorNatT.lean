/- natural: text; the worlds in which the library's variables lie as laid. -/
import Derived.Test.YtblpnekjnaaeoaaGreatDoorNatS
import Derived.Lib.AppendIntMem
import Derived.Lib.Repeat
set_option linter.unusedVariables false
set_option linter.unusedSimpArgs false
namespace Go.Proofs.YtblpnekjnaaeoaaGreatDoor
open Go.RowKit

theorem var_keep {P : Program} {w w' : World} {nm : String} {cs : Array Value} (h : w.var? P nm = some cs) (hb : Below w.heap.size w w') : w'.var? P nm = some cs := by
  unfold World.var? at h ⊢
  cases hg : P.globalNamed nm with
  | none => rw [hg] at h; cases h
  | some g =>
    rw [hg] at h
    simp only [Option.bind_some] at h ⊢
    cases hx : w.heap[g]? with
    | none => rw [hx] at h; cases h
    | some o =>
      have hlt : g < w.heap.size := (Array.getElem?_eq_some_iff.1 hx).1
      rw [hb.block g hlt]
      exact h
/-- The library's table and its sentinel. -/
def LawW (w : World) : Prop := Lib.TabIs Tryz.prog w "internal/strconv.uint64pow10" .u64 Lib.pow10Tab ∧ ∃ tp p, w.var? Tryz.prog "strconv.ErrRange" = some #[.iface tp p]
theorem LawW.below {w w' : World} (h : LawW w) (hb : Below w.heap.size w w') : LawW w' := by
  obtain ⟨h1, tp, p, h2⟩ := h
  exact ⟨var_keep h1 hb, tp, p, var_keep h2 hb⟩
theorem itoa_nat (n : Nat) : Lib.itoa (n : Int) = Lib.decDigits n := by
  unfold Lib.itoa
  rw [if_neg (by omega), Int.toNat_natCast]
theorem itoa_any (n : Nat) (w : World) (hn : n ≤ 9223372036854775807) (hw : LawW w) :
    Calls Tryz.prog 109 #[.int .i64 (n : Int)] w fun e w' => e = .returned (.string (natS n)) ∧ Below w.heap.size w w' := by
  refine (Tryz.strconv_Itoa (n : Int) (by omega) (by omega) w hw.1).mono ?_
  rintro e w' ⟨rfl, k, os, rfl⟩
  rw [itoa_nat]
  exact ⟨rfl, Lib.below_grow _ _ (Nat.le_refl _) _ _⟩
theorem repeat_zero (c : Nat) : Lib.repeatL [48] c = List.replicate c 48 := by
  induction c with
  | zero => rfl
  | succ c ih => rw [List.replicate_succ, ← ih]; rfl
theorem repeat_any (c : Nat) (z : Int) (w : World) (hz : z = (c : Int)) (hc : c ≤ 9) :
    Calls Tryz.prog 111 #[.string ⟨#[48]⟩, .int .i64 z] w fun e w' => e = .returned (.string ⟨(List.replicate c 48).toArray⟩) ∧ Below w.heap.size w w' := by
  subst hz
  have e1 : (⟨#[48]⟩ : ByteArray).size = 1 := rfl
  refine (Tryz.strings_Repeat ⟨#[48]⟩ c w (by omega) (by rw [e1]; omega)).mono ?_
  rintro e w' ⟨rfl, hb⟩
  exact ⟨by rw [← repeat_zero], hb⟩
/-- What text's loop keeps: behind i rounds the builder holds the numeral of the i greatest limbs. -/
def topN (l : List Nat) (i : Nat) : Nat := lval (l.drop (l.length - i))
def topS (l : List Nat) (i : Nat) : List UInt8 := if i = 0 then [] else Lib.decDigits (topN l i)
theorem topN_succ {l : List Nat} {i : Nat} (h : i < l.length) : topN l (i + 1) = l[l.length - 1 - i] + Bs * topN l i := by
  unfold topN
  have e : l.length - (i + 1) = l.length - 1 - i := by omega
  have e2 : l.length - 1 - i + 1 = l.length - i := by omega
  rw [e, lval_drop (by omega), e2]
theorem topN_pos {n i : Nat} (hi : 0 < i) (h : i ≤ (lim n).length) : 1 ≤ topN (lim n) i := by
  unfold topN
  have h1 : Lm ((lim n).drop ((lim n).length - i)) := (lim_Lm n).drop _
  have h2 : ((lim n).drop ((lim n).length - i)).getLast? ≠ some 0 := by
    rw [List.getLast?_drop, if_neg (by omega)]; exact lim_last
  have h3 := lim_lval h1 h2
  by_cases h0 : lval ((lim n).drop ((lim n).length - i)) = 0
  · exfalso
    rw [h0, lim_zero] at h3
    have := congrArg List.length h3
    rw [List.length_drop, List.length_nil] at this
    omega
  · omega
theorem topS_first {n : Nat} (h : 0 < (lim n).length) : topS (lim n) 1 = [] ++ Lib.decDigits (lim n)[(lim n).length - 1 - 0] := by
  have := topN_succ (l := lim n) (i := 0) h
  have e : topN (lim n) 0 = 0 := by unfold topN; rw [Nat.sub_zero, List.drop_eq_nil_of_le (Nat.le_refl _)]; rfl
  rw [e, Nat.mul_zero] at this
  have h2 : topN (lim n) 1 = (lim n)[(lim n).length - 1 - 0] := this
  unfold topS
  rw [if_neg (by omega), h2, List.nil_append]
theorem topS_next {n i : Nat} (h : i < (lim n).length) (hi : 0 < i) : topS (lim n) (i + 1) = topS (lim n) i ++ (List.replicate (9 - (Lib.decDigits (lim n)[(lim n).length - 1 - i]).length) 48 ++ Lib.decDigits (lim n)[(lim n).length - 1 - i]) := by
  unfold topS
  rw [if_neg (by omega), if_neg (by omega), topN_succ h, Bs_eq, show (1000000000 : Nat) = 10 ^ 9 by rfl, Nat.add_comm, Nat.mul_comm]
  exact dec_join (topN_pos hi (by omega)) (lim_Lm n _ (List.getElem_mem _)) (by omega)
theorem topS_all {n : Nat} (h : 0 < (lim n).length) : topS (lim n) (lim n).length = Lib.decDigits n := by
  unfold topS topN
  rw [if_neg (by omega), Nat.sub_self, List.drop_zero, lval_lim]
theorem topS_len (l : List Nat) (hl : Lm l) (i : Nat) (hi : i ≤ l.length) : (topS l i).length ≤ 9 * i := by
  unfold topS
  by_cases h0 : i = 0
  · rw [if_pos h0]; simp
  · rw [if_neg h0, dec_len_le (by omega)]
    have := lval_lt (hl.drop (l.length - i))
    rw [List.length_drop, Bs_ten] at this
    have e : l.length - (l.length - i) = i := by omega
    rw [e] at this
    exact this
theorem ba' (w : World) (o : Obj) : Below w.heap.size w (w.alloc o) := bAlloc (Below.refl _ w) o
theorem isB_below {T e : TypeId} {B b : Nat} {bs : List Value} {w w' : World} (h : Lib.IsBuilder T e B b bs w) (hb : Below w.heap.size w w') : Lib.IsBuilder T e B b bs w' := by
  have key : ∀ p, Lib.BuilderAt T e B b p bs w → Lib.BuilderAt T e B b p bs w' := fun p h => by
    obtain ⟨h1, v, h2, h3, h4⟩ := h
    exact ⟨h1, v, by rw [hb.block b (Array.getElem?_eq_some_iff.1 h2).1]; exact h2, owns_below h3 hb, h4⟩
  rcases h with h | h
  · exact .inl (key _ h)
  · exact .inr (key _ h)
theorem byte_app (l m : List UInt8) : Lib.byteCells (l ++ m) = Lib.byteCells l ++ Lib.byteCells m := by simp [Lib.byteCells]
theorem ret_sn {a b : ByteArray} {k : IntKind} {c d : Int} (h : a = b) (h' : c = d) : Ending.returned (.tuple #[.string a, .int k c]) = .returned (.tuple #[.string b, .int k d]) := by rw [h, h']
def TextPost (w : World) (n : Nat) (e : Ending) (w' : World) : Prop :=
  Below w.heap.size w w' ∧ ((n < capN ∧ e = .returned (.tuple #[.string (natS n), .int .i64 0])) ∨ (¬ n < capN ∧ e = .returned (.tuple #[.string ⟨#[]⟩, .int .i64 2])))

set_option maxHeartbeats 4000000 in
set_option maxRecDepth 100000 in
theorem text_any (n : Nat) (v : Value) (w : World) (hv : SliceOf vN 1 w v (lim n)) (hl : (lim n).length ≤ 100000) (hw : LawW w) :
    Calls Tryz.prog 86 #[v] w (TextPost w n) := by
  have HW := hide hw
  clear hw
  by_cases h0 : n = 0
  · subst h0
    rw [lim_zero] at hv
    obtain ⟨ao, cp, rfl⟩ := hv.shape
    have HP := hide capN_pos
    have HN : Hid (natS 0 = ⟨#[48]⟩) := by show _ = _; unfold natS; rw [dec_small (by omega)]; rfl
    clear hv
    go_enter Tryz.func86, Tryz.ntmps86
    go_wp2_with fail
    go_ret2
    exact ⟨Below.refl _ _, .inl ⟨HP.out, ret_sn HN.out.symm rfl⟩⟩
  · have hpos : 0 < (lim n).length := by
      rw [lim_step h0]; simp
    have HHB : Hid (∀ k (h : k < (lim n).length), ∃ bb off cap, v = .slice (some ⟨bb, off, none⟩) (lim n).length cap ∧ w.cell? ⟨bb, off + k, none⟩ = some (.int .i64 ((lim n)[k] : Int))) := fun k h => by
      obtain ⟨bb, off, cap, e, _, _, _, hc⟩ := hv.some_of_pos (by omega)
      exact ⟨bb, off, cap, e, nat_cell hc h⟩
    obtain ⟨ao, cp, rfl⟩ := hv.shape
    clear hv
    have HT0 : Hid (topS (lim n) 0 = []) := rfl
    have HB0 := hide (Lib.fresh_isBuilder 132 5 w)
    have HS1 := hide (topS_first hpos)
    have HSA := hide (topS_all hpos)
    obtain ⟨m, hm⟩ : ∃ m, (lim n).length = m := ⟨_, rfl⟩
    have HM := hide hm
    rw [hm] at hl hpos ⊢
    clear hm h0
    have hm1 : ((m : Int) == 0) = false := by simp; omega
    have hm2 : (m == 0) = false := by simp; omega
    go_enter Tryz.func86, Tryz.ntmps86
    go_wp2_with fail
    go_loopw [12] (fun x wx => ∃ i : Nat, i ≤ m ∧ x = .int .i64 (i : Int) ∧ Lib.IsBuilder 132 5 w.heap.size w.heap.size (Lib.byteCells (topS (lim n) i)) wx ∧ Below w.heap.size w wx ∧ w.heap.size < wx.heap.size) (fun x _ => m - (intOf x).toNat)
    case atStart => exact ⟨0, Nat.zero_le _, rfl, HB0.out, ba' w _, by simp⟩
    case round =>
      obtain ⟨i, hi, rfl, hbd, hbl, hsz⟩ := hrel
      have HBD := hide hbd
      have HB := hide hbl
      have hlen := topS_len (lim n) (lim_Lm n) i (by rw [HM.out]; exact hi)
      have HLW := hide (HW.out.below HB.out)
      clear hbd hbl HB0 HT0
      by_cases him : i < m
      · have hiI : (i : Int) < (m : Int) := by omega
        have hi0 : (0 : Int) ≤ (i : Int) := by omega
        have q1 : IntKind.i64.wrap ((m : Int) - 1) = (m : Int) - 1 := IntWalk.i64_in _ (by omega)
        have q2 : IntKind.i64.wrap ((m : Int) - 1 - (i : Int)) = (m : Int) - 1 - (i : Int) := IntWalk.i64_in _ (by omega)
        have hk : m - 1 - i < (lim n).length := by rw [HM.out]; omega
        obtain ⟨b1, o1, cp1, e1, c1⟩ := HHB.out (m - 1 - i) hk
        simp only [Value.slice.injEq] at e1
        obtain ⟨rfl, _, rfl⟩ := e1
        have c1' := keep_cell HB.out c1
        have hd := lim_Lm n _ (List.getElem_mem hk)
        have HNX : 0 < i → Hid (topS (lim n) (i + 1) = topS (lim n) i ++ (List.replicate (9 - (Lib.decDigits (lim n)[m - 1 - i]).length) 48 ++ Lib.decDigits (lim n)[m - 1 - i])) := fun h => by
          have := topS_next (n := n) (i := i) (by rw [HM.out]; exact him) h
          simp only [HM.out] at this
          exact this
        have HFS : i = 0 → Hid (topS (lim n) 1 = [] ++ Lib.decDigits (lim n)[m - 1 - i]) := fun h => by
          subst h
          have := HS1.out
          simp only [HM.out] at this
          exact this
        obtain ⟨d, hde⟩ : ∃ d, (lim n)[m - 1 - i] = d := ⟨_, rfl⟩
        rw [hde] at c1' hd HNX HFS
        rw [Bs_eq] at hd
        clear hde c1
        have q3 : (m : Int) - 1 - (i : Int) = ((m - 1 - i : Nat) : Int) := by omega
        have q4 : ((m - 1 - i : Nat) : Int) < (m : Int) := by omega
        have hdl : (Lib.decDigits d).length ≤ 9 := (dec_len_le (by omega)).2 (by omega)
        have hdp := dec_len_pos d
        have hnd : (natS d).size = (Lib.decDigits d).length := natS_size d
        go_wp2_with fail
        refine (itoa_any d _ (by omega) HLW.out).mono ?_
        rintro e w1 ⟨rfl, hb1⟩
        have HBD1 := hide (isB_below HBD.out hb1)
        have HB1 := hide (bStep HB.out hb1)
        clear hb1
        by_cases hz : i = 0
        · subst hz
          have HTX := hide (HFS rfl).out
          have hlen0 : (Lib.byteCells (topS (lim n) 0)).length + (natS d).size ≤ 140737488355328 := by
            rw [Lib.byteCells_length]; omega
          have HLEN := hide hlen0
          clear HNX HFS hlen0
          go_wp2_with fail
          refine (write_any w.heap.size w.heap.size _ (natS d) _ HBD1.out HLEN.out HB1.out.size).mono ?_
          rintro e w2 ⟨rfl, hbd2, hb2⟩
          have HBD2 : Hid (Lib.IsBuilder 132 5 w.heap.size w.heap.size (Lib.byteCells (topS (lim n) (0 + 1))) w2) := .inr (by
            rw [Nat.zero_add, HTX.out, byte_app]; exact hbd2)
          have HB2 := hide (HB1.out.trans hb2)
          have hsz2 : w.heap.size < w2.heap.size := by
            have := HBD2.out
            rcases this with h | h
            · exact h.lt
            · exact h.lt
          clear hbd2 hb2
          go_wp2_with fail
          go_roundw
          case rel => exact ⟨0 + 1, by omega, by go_num, HBD2.out, HB2.out, hsz2⟩
          case measure => (simp [intOf]; try omega)
        · have HTX := hide (HNX (by omega)).out
          have hiP : (0 : Int) < (i : Int) := by omega
          have hnI : ((natS d).size : Int) ≤ 9 := by omega
          have q5 : IntKind.i64.wrap (9 - ((natS d).size : Int)) = 9 - ((natS d).size : Int) := IntWalk.i64_in _ (by omega)
          have q6 : 9 - ((natS d).size : Int) = ((9 - (Lib.decDigits d).length : Nat) : Int) := by omega
          have Q6 := hide q6
          have hlen1 : (Lib.byteCells (topS (lim n) i)).length + (⟨(List.replicate (9 - (Lib.decDigits d).length) 48).toArray⟩ : ByteArray).size ≤ 140737488355328 := by
            rw [Lib.byteCells_length, ba_size]; simp; omega
          have hlen2 : (Lib.byteCells (topS (lim n) i) ++ Lib.strCells (⟨(List.replicate (9 - (Lib.decDigits d).length) 48).toArray⟩ : ByteArray)).length + (natS d).size ≤ 140737488355328 := by
            rw [List.length_append, Lib.byteCells_length, Lib.strCells_length, ba_size]; simp; omega
          have HLEN1 := hide hlen1
          have HLEN2 := hide hlen2
          clear HNX HFS hlen1 hlen2 q6
          go_wp2_with fail
          refine (repeat_any (9 - (Lib.decDigits d).length) _ _ Q6.out (by omega)).mono ?_
          rintro e w2 ⟨rfl, hb2⟩
          have HBD2 := hide (isB_below HBD1.out hb2)
          have HB2 := hide (bStep HB1.out hb2)
          clear hb2
          go_wp2_with fail
          refine (write_any w.heap.size w.heap.size _ _ _ HBD2.out HLEN1.out HB2.out.size).mono ?_
          rintro e w3 ⟨rfl, hbd3, hb3⟩
          have HBD3 := hide hbd3
          have HB3 := hide (HB2.out.trans hb3)
          clear hbd3 hb3
          go_wp2_with fail
          refine (write_any w.heap.size w.heap.size _ (natS d) _ (.inr HBD3.out) HLEN2.out HB3.out.size).mono ?_
          rintro e w4 ⟨rfl, hbd4, hb4⟩
          have HBD4 : Hid (Lib.IsBuilder 132 5 w.heap.size w.heap.size (Lib.byteCells (topS (lim n) (i + 1))) w4) := .inr (by
            rw [HTX.out, byte_app, byte_app, ← List.append_assoc]; exact hbd4)
          have HB4 := hide (HB3.out.trans hb4)
          have hsz4 : w.heap.size < w4.heap.size := by
            have := HBD4.out
            rcases this with h | h
            · exact h.lt
            · exact h.lt
          clear hbd4 hb4
          go_wp2_with fail
          go_roundw
          case rel => exact ⟨i + 1, by omega, by go_num, HBD4.out, HB4.out, hsz4⟩
          case measure => (simp [intOf]; try omega)
      · obtain rfl : i = m := by omega
        have hsa := HSA.out
        rw [HM.out] at hsa
        rw [hsa] at HBD hlen
        clear hsa
        go_wp2_with fail
        refine (Tryz.Builder_Len w.heap.size w.heap.size _ _ HBD.out).mono ?_
        rintro e w1 ⟨rfl, rfl⟩
        rw [Lib.byteCells_length]
        by_cases hcap : n < capN
        · have HC := hide hcap
          have h1 : (Lib.decDigits n).length ≤ 1000 := capN_len.2 hcap
          have h2 : ((Lib.decDigits n).length : Int) ≤ 1000 := by omega
          clear hcap
          go_wp2_with fail
          refine (Tryz.Builder_String_any w.heap.size w.heap.size _ _ HBD.out HB.out.size).mono ?_
          rintro e w2 ⟨rfl, hb2⟩
          have HB2 := hide (HB.out.trans hb2)
          clear hb2
          go_wp2_with fail
          go_ret2
          exact ⟨HB2.out, .inl ⟨HC.out, rfl⟩⟩
        · have HC := hide hcap
          have h1 : ¬ (Lib.decDigits n).length ≤ 1000 := fun h => hcap (capN_len.1 h)
          have h2 : (1000 : Int) < ((Lib.decDigits n).length : Int) := by omega
          clear hcap
          go_wp2_with fail
          go_ret2
          exact ⟨HB.out, .inr ⟨HC.out, rfl⟩⟩
end Go.Proofs.YtblpnekjnaaeoaaGreatDoor
