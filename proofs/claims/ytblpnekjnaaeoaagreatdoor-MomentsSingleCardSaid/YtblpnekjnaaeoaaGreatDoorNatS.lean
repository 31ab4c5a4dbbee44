/- natural: read. -/
import Derived.Test.YtblpnekjnaaeoaaGreatDoorPkE
import Derived.Lib.AtoiTie
set_option linter.unusedVariables false
set_option linter.unusedSimpArgs false
namespace Go.Proofs.YtblpnekjnaaeoaaGreatDoor
open Go.RowKit

theorem decFrom_digits : ∀ (l : List UInt8) (acc : Nat), (∀ b ∈ l, isDg b = true) → Lib.decFrom acc l = some (l.foldl (fun a b => a * 10 + dvN b) acc)
  | [], acc, _ => rfl
  | b :: l, acc, h => by
    have hb := isDg_iff.1 (h b (by simp))
    have hd : Lib.digitVal b = some (dvN b) := by
      unfold Lib.digitVal dvN; rw [if_pos hb]
    show (match Lib.digitVal b with | some d => Lib.decFrom (acc * 10 + d) l | none => none) = _
    rw [hd]
    exact decFrom_digits l _ fun c hc => h c (List.mem_cons_of_mem _ hc)
theorem atoi_digits {l : List UInt8} (h0 : l ≠ []) (h : ∀ b ∈ l, isDg b = true) : Lib.atoi l = some (nval l : Int) := by
  cases l with
  | nil => exact absurd rfl h0
  | cons b l =>
    have hb := isDg_iff.1 (h b (by simp))
    have e1 : (b == 45) = false := by
      rw [beq_eq_false_iff_ne]; intro e; rw [e] at hb; have : (45 : UInt8).toNat = 45 := rfl; omega
    have e2 : (b == 43) = false := by
      rw [beq_eq_false_iff_ne]; intro e; rw [e] at hb; have : (43 : UInt8).toNat = 43 := rfl; omega
    show (if b == 45 then _ else if b == 43 then _ else _) = _
    rw [e1, e2]
    simp only [Bool.false_eq_true, if_false]
    unfold Lib.decNat
    rw [if_neg (by simp), decFrom_digits _ _ h]
    rfl
theorem atoiAll_digits {l : List UInt8} (h0 : l ≠ []) (h : ∀ b ∈ l, isDg b = true) (hl : l.length ≤ 18) : Lib.atoiAll l = .ok (nval l : Int) := by
  rw [Lib.atoiAll_short l hl, atoi_digits h0 h]; rfl

/-- What read's loop keeps. -/
structure ReadI (w : World) (B : Nat) (v : Value) (l : List UInt8) (z : Int) (o : List Nat) : Prop where
  own : OwnS w B 1 v o.length (flatV vN o)
  lm : Lm o
  val : lval o = nval (l.drop z.toNat)
  pos : 0 < z → 9 * (o.length : Int) + z = l.length
  hi : z ≤ l.length
  lo : -9 < z
  len : o.length ≤ l.length
theorem ReadI.step {w w' : World} {B : Nat} {v v' : Value} {l : List UInt8} {e lo : Nat} {z : Int} {o : List Nat} (h : ReadI w B v l (e : Int) o) (he : 0 < e) (hlo : lo = e - 9) (hz : z = (e : Int) - 9) (hd : ∀ b ∈ l, isDg b = true) {d : Nat} (hdv : d = nval ((l.drop lo).take (e - lo)))
    (ho : OwnS w' B 1 v' (o.length + 1) (flatV vN o ++ [.int .i64 (d : Int)])) : ReadI w' B v' l z (o ++ [d]) := by
  have h1 := h.pos (by omega)
  have h2 := h.hi
  have h3 := h.len
  have hdl : d < Bs := by
    rw [hdv]
    have := nval_lt ((l.drop lo).take (e - lo)) fun b hb => hd b (List.mem_of_mem_drop (List.mem_of_mem_take hb))
    refine Nat.lt_of_lt_of_le this ?_
    rw [Bs_eq, show (1000000000 : Nat) = 10 ^ 9 by rfl]
    refine Nat.pow_le_pow_right (by omega) ?_
    rw [List.length_take]; omega
  have hsplit : l.drop lo = (l.drop lo).take (e - lo) ++ l.drop e := by
    have := List.take_append_drop (e - lo) (l.drop lo)
    rw [List.drop_drop] at this
    have e1 : lo + (e - lo) = e := by omega
    rw [e1] at this
    exact this.symm
  refine ⟨by rw [List.length_append, List.length_singleton, flatV_append]; exact ho, h.lm.append (Lm.one hdl), ?_, fun hp => ?_, by omega, by omega, ?_⟩
  · have e2 : z.toNat = lo := by omega
    rw [e2, hsplit, nval_append, lval_append, lval_one, h.val, Int.toNat_natCast, ← hdv, List.length_drop]
    have e3 : l.length - e = 9 * o.length := by omega
    rw [e3, Bs_ten, Nat.mul_comm, Nat.add_comm]
  · rw [List.length_append, List.length_singleton]; omega
  · rw [List.length_append, List.length_singleton]; omega
theorem ReadI.done {w : World} {B : Nat} {v : Value} {l : List UInt8} {z : Int} {o : List Nat} (h : ReadI w B v l z o) (hz : ¬ 0 < z) : SliceOf vN 1 w v o ∧ lval o = nval l := by
  have := h.val
  have e : z.toNat = 0 := by omega
  rw [e, List.drop_zero] at this
  exact ⟨OwnS.slice vN_len (B := B) h.own, this⟩

theorem atoi_short (s : ByteArray) (w : World) (h0 : s.data.toList ≠ []) (hd : ∀ b ∈ s.data.toList, isDg b = true) (hl : s.data.toList.length ≤ 18) :
    Calls Tryz.prog 106 #[.string s] w fun e w' => e = .returned (.tuple #[.int .i64 (nval s.data.toList : Int), .nilIface]) ∧ Below w.heap.size w w' := by
  have hsz := ba_size s
  refine (Tryz.strconv_Atoi_ok s (by omega) _ (atoiAll_digits h0 hd hl) w).mono ?_
  rintro e w' ⟨rfl, hw⟩
  refine ⟨rfl, ?_⟩
  rcases hw with rfl | ⟨t, rfl⟩
  · exact Below.refl _ _
  · exact Lib.bytesWorld_below _ _ _
theorem extract_list (s : ByteArray) (a b : Nat) : (s.extract a b).data.toList = (s.data.toList.drop a).take (b - a) := by
  rw [ByteArray.data_extract, Array.toList_extract]

set_option maxHeartbeats 2000000 in
set_option maxRecDepth 100000 in
theorem read_any (s : ByteArray) (w : World) (hs : s.size ≤ 100000) (hd : ∀ b ∈ s.data.toList, isDg b = true) :
    Calls Tryz.prog 84 #[.string s] w (LimPost w (nval s.data.toList)) := by
  have HD := hide hd
  have HSZ : Hid (s.size = s.data.toList.length) := ba_size s
  clear hd
  obtain ⟨i0, hi, hz0, hz1, hz2⟩ := info_parts Tryz.infoInt
  have HI := hide hi
  have HZ0 := hide hz0
  have HZ1 := hide hz1
  have HZ2 := hide hz2
  clear hi hz0 hz1 hz2
  have HR0 : Hid (ReadI w w.heap.size (.slice none 0 0) s.data.toList (s.size : Int) []) :=
    ⟨OwnS.nil _ _ _, Lm.nil, by rw [Int.toNat_natCast, HSZ.out, List.drop_eq_nil_of_le (Nat.le_refl _)]; rfl, fun _ => by rw [HSZ.out]; simp, by rw [HSZ.out]; omega, by omega, Nat.zero_le _⟩
  go_enter Tryz.func84, Tryz.ntmps84
  go_wp2_with fail
  go_loopw [3, 4] (fun v x wx => ∃ (z : Int) (o : List Nat), x = .int .i64 z ∧ ReadI wx w.heap.size v s.data.toList z o ∧ Below w.heap.size w wx) (fun _ x _ => (intOf x).toNat)
  case atStart => exact ⟨_, _, rfl, HR0.out, Below.refl _ _⟩
  case round =>
    obtain ⟨z, o, rfl, hr, hbl⟩ := hrel
    have HR := hide hr
    have HB := hide hbl
    have hlen := hr.len
    have hhi := hr.hi
    have hlo := hr.lo
    rw [← HSZ.out] at hlen hhi
    clear hr hbl HR0
    by_cases hz : 0 < z
    · obtain ⟨e, rfl⟩ : ∃ e : Nat, z = (e : Int) := ⟨z.toNat, by omega⟩
      have hee : e ≤ s.size := by omega
      have q1 : IntKind.i64.wrap ((e : Int) - 9) = (e : Int) - 9 := IntWalk.i64_in _ (by omega)
      have m0 : max (0 : Int) ((e : Int) - 9) = ((e - 9 : Nat) : Int) := by omega
      have q2 : ((e - 9 : Nat) : Int) ≤ (e : Int) := by omega
      have q3 : (e : Int) ≤ (s.size : Int) := by omega
      have hch : ((s.extract (e - 9) e).data.toList) ≠ [] := by
        intro h
        have := congrArg List.length h
        rw [extract_list, List.length_take, List.length_drop, ← HSZ.out, List.length_nil] at this
        omega
      have hcd : ∀ b ∈ (s.extract (e - 9) e).data.toList, isDg b = true := fun b hb => by
        rw [extract_list] at hb
        exact HD.out b (List.mem_of_mem_drop (List.mem_of_mem_take hb))
      have hcl : (s.extract (e - 9) e).data.toList.length ≤ 18 := by
        rw [extract_list, List.length_take]; omega
      have HCH := hide hch
      have HCD := hide hcd
      have HCL := hide hcl
      have HEX : Hid (nval (s.extract (e - 9) e).data.toList = nval ((s.data.toList.drop (e - 9)).take (e - (e - 9)))) := by show _ = _; rw [extract_list]
      clear hch hcd hcl
      go_wp2_with fail
      refine (atoi_short (s.extract (e - 9) e) _ HCH.out HCD.out HCL.out).mono ?_
      rintro e1 w1 ⟨rfl, hb1⟩
      have HB1 := hide (bStep HB.out hb1)
      have HOW := hide ((HR.out.own.below hb1).alloc (.cells #[.int .i64 (nval (s.extract (e - 9) e).data.toList : Int)] 3))
      obtain ⟨d, hde⟩ : ∃ d, nval (s.extract (e - 9) e).data.toList = d := ⟨_, rfl⟩
      have HDE := hide hde
      rw [hde] at HOW ⊢
      clear hde hb1
      have hx63 : o.length + 1 ≤ maxLen := by unfold maxLen; omega
      have hxby : (o.length + 1) * 8 ≤ 140737488355328 := by omega
      have HX63 := hide hx63
      have HXBY := hide hxby
      clear hx63 hxby
      go_wp2_with (at_builtin; refine wpList_append_slice rfl _ _ 103 rfl w.heap.size 3 i0 (.int .i64 0) 1 8 Tryz.underlying103 HI.out HZ0.out HZ1.out HZ2.out rfl (by decide) vN_len vN_one _ o.length (flatV vN o) rfl HOW.out _ [d] rfl (slice_lit vN_len w1 [d] _ (by simp [maxLen])) HX63.out HXBY.out (by have := HB1.out.size; simp; omega) ?_)
      intro ao2 cap2 w3 hown3 hg3 hb3
      have HB3 : Hid (Below w.heap.size w w3) := (bAlloc HB1.out _).trans hb3
      have q5 : (e : Int) - 9 = (e : Int) - 9 := rfl
      have HR3 := hide (HR.out.step (z := (e : Int) - 9) (by omega) rfl rfl HD.out (by rw [← HDE.out]; exact HEX.out) hown3)
      clear hown3 hg3 hb3 q5
      go_wp2_with fail
      go_roundw
      case rel => exact ⟨_, _, rfl, HR3.out, HB3.out⟩
      case measure => (simp [intOf]; try omega)
    · obtain ⟨h1, h2⟩ := HR.out.done hz
      have HS := hide h1
      have HV := hide h2
      have hol : o.length ≤ 1000000 := by omega
      have hzz : ¬ (0 : Int) < z := hz
      clear h1 h2
      go_wp2_with fail
      refine (trimmed_any o _ _ HS.out hol HR.out.lm).mono ?_
      rintro e w1 ⟨⟨v', rfl, hs, _⟩, rfl⟩
      rw [HV.out] at hs
      have HS2 := hide hs
      clear hs
      go_wp2_with fail
      go_ret
      exact ⟨_, rfl, HS2.out, HB.out⟩
end Go.Proofs.YtblpnekjnaaeoaaGreatDoor
