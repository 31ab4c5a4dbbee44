/- observatoryref03: mul. -/
import Derived.Test.YtbefdlncpobmlaaGreatDoorRfE
import Derived.StillTailTactics
namespace Go.Proofs.YtbefdlncpobmlaaGreatDoor
open Go.RowKit

/-- The sums of mul. -/
structure MulI (w wx : World) (N : Nat) (S : List Nat) (V M : Nat) : Prop where
  o : OwnS wx w.heap.size 1 (.slice (some ⟨w.heap.size, 0, none⟩) N N) N (flatV vN S)
  bl : Below w.heap.size w wx
  val : le10 S = V
  bd : ∀ s ∈ S, s ≤ M
theorem MulI.len {w wx : World} {N V M : Nat} {S : List Nat} (h : MulI w wx N S V M) : S.length = N := by
  have := h.o.1; rw [flat_vN_len, Nat.mul_one] at this; exact this
theorem MulI.cell {w wx : World} {N V M : Nat} {S : List Nat} (h : MulI w wx N S V M) {j : Nat} (hj : j < N) : ∃ s, S[j]? = some s ∧ s ≤ M ∧ wx.cell? ⟨w.heap.size, j, none⟩ = some (.int .i64 (s : Int)) ∧ wx.frozen? ⟨w.heap.size, j, none⟩ = false := by
  have hl := h.len
  have hg : S[j]? = some (S[j]'(by omega)) := List.getElem?_eq_getElem (by omega)
  refine ⟨S[j]'(by omega), hg, h.bd _ (List.getElem_mem _), ?_⟩
  rcases h.o.2 with ⟨ao, h1, h2, _⟩ | ⟨g, off, cap, hv, hb, hlt, hn, hm, hc, hx⟩
  · omega
  · simp only [Value.slice.injEq, Option.some.injEq, Addr.mk.injEq, and_true, true_and] at hv
    obtain ⟨⟨rfl, rfl⟩, rfl⟩ := hv
    have hf := (hc j (by omega)).2
    have hx' := hx j (.int .i64 ((S[j]'(by omega) : Nat) : Int)) (by
      have := flatV_get vN_len S j (by omega) 0 (by omega)
      simp only [Nat.mul_one, Nat.add_zero] at this
      rw [this]; rfl)
    rw [Nat.zero_add] at hf hx'
    exact ⟨hx', hf⟩
theorem MulI.set {w wx wy : World} {N V M j s v : Nat} {S : List Nat} (h : MulI w wx N S V M) (hb : Below wx.heap.size wx wy) (hj : j < N) (hs : S[j]? = some s) (hv : v ≤ 81) : MulI w (wy.setCell ⟨w.heap.size, j, none⟩ (.int .i64 ((s + v : Nat) : Int))) N (S.set j (s + v)) (V + v * 10 ^ j) (M + 81) := by
  have hl := h.len
  have e : S[j]'(by omega) = s := by
    rw [List.getElem?_eq_getElem (by omega)] at hs
    injection hs
  refine ⟨?_, ?_, ?_, ?_⟩
  · rw [flat_vN_set]
    have := (h.o.below hb).setOwn hj (.int .i64 ((s + v : Nat) : Int))
    rw [Nat.zero_add] at this
    exact this
  · exact (h.bl.trans (hb.mono h.bl.size)).setCell (p := ⟨w.heap.size, j, none⟩) (Nat.le_refl _) _
  · rw [← e, le10_set, h.val]
  · intro t ht
    rcases List.mem_or_eq_of_mem_set ht with h1 | h1
    · have := h.bd t h1; omega
    · have := h.bd s (by rw [← e]; exact List.getElem_mem _)
      omega
theorem MulI.up {w wx : World} {N V V' M M' : Nat} {S : List Nat} (h : MulI w wx N S V M) (hV : V = V') (hM : M ≤ M') : MulI w wx N S V' M' := ⟨h.o, h.bl, h.val.trans hV, fun s hs => Nat.le_trans (h.bd s hs) hM⟩
theorem MulI.start (w : World) (N : Nat) (T : TypeId) (hN : N ≤ maxLen) : MulI w (w.alloc (.cells (madeCells #[.int .i64 0] N) T)) N (List.replicate N 0) 0 0 :=
  ⟨OwnS.made0 w N T hN, (Below.refl _ _).alloc (Nat.le_refl _) _, le10_zeros N, fun s hs => by rw [List.eq_of_mem_replicate hs]; exact Nat.le_refl _⟩
theorem MulI.slice {w wx : World} {N V M : Nat} {S : List Nat} (h : MulI w wx N S V M) : SliceOf vN 1 wx (.slice (some ⟨w.heap.size, 0, none⟩) N N) S :=
  OwnS.slice vN_len (B := w.heap.size) (by rw [h.len]; exact h.o)
theorem zrow_set (o : List Nat) (n d : Nat) : (o ++ List.replicate (n + 1) 0).set o.length d = (o ++ [d]) ++ List.replicate n 0 := by
  rw [List.set_append_right _ _ (Nat.le_refl _), Nat.sub_self, List.replicate_succ, List.set_cons_zero, List.append_assoc]; rfl
/-- The digits that mul lays down. -/
structure OutI (w wx : World) (S : List Nat) (c k : Nat) (o : List Nat) : Prop where
  row : TxtI wx w.heap.size S.length (o ++ List.replicate (S.length - k) 0)
  bl : Below w.heap.size w wx
  len : o.length = k
  dig : D10 o
  sum : le10 o + c * 10 ^ k = le10 (S.take k)
  cb : c ≤ 100000000
theorem OutI.next {w wx : World} {S o : List Nat} {c k s : Nat} (h : OutI w wx S c k o) (hk : k < S.length) (hs : S[k]? = some s) (hb : s ≤ 100000000) :
    OutI w (wx.setCell ⟨w.heap.size, k, none⟩ (.int .u8 (((s + c) % 10 : Nat) : Int))) S ((s + c) / 10) (k + 1) (o ++ [(s + c) % 10]) := by
  have e : S[k] = s := by
    rw [List.getElem?_eq_getElem hk] at hs
    injection hs
  have hcb := h.cb
  refine ⟨?_, h.bl.setCell (p := ⟨w.heap.size, k, none⟩) (Nat.le_refl _) _, by simp [h.len], fun d hd => ?_, ?_, by omega⟩
  · have := h.row.set hk ((s + c) % 10)
    rw [Nat.zero_add] at this
    have e2 : (o ++ List.replicate (S.length - k) 0).set k ((s + c) % 10) = (o ++ [(s + c) % 10]) ++ List.replicate (S.length - (k + 1)) 0 := by
      rw [show S.length - k = (S.length - (k + 1)) + 1 by omega, ← h.len]
      exact zrow_set o _ _
    rw [e2] at this
    exact this
  · rcases List.mem_append.1 hd with hd | hd
    · exact h.dig d hd
    · simp at hd; omega
  · have := out_step10 hk h.len h.sum
    rw [e] at this
    exact this
theorem OutI.slice {w wx : World} {S o : List Nat} {c : Nat} (h : OutI w wx S c S.length o) : SliceOf vY 1 wx (.slice (some ⟨w.heap.size, 0, none⟩) S.length S.length) o := by
  have hr := h.row.o
  rw [Nat.sub_self, List.replicate_zero, List.append_nil] at hr
  have hl := h.len
  refine OwnS.slice vY_len (B := w.heap.size) ?_
  rw [hl]
  exact hr
theorem OutI.cell {w wx : World} {S o : List Nat} {c k : Nat} (h : OutI w wx S c k o) (hk : k < S.length) : ∃ u, wx.cell? ⟨w.heap.size, k, none⟩ = some u ∧ wx.frozen? ⟨w.heap.size, k, none⟩ = false := by
  obtain ⟨u, h1, h2⟩ := h.row.cell hk
  rw [Nat.zero_add] at h1 h2
  exact ⟨u, h1, h2⟩
theorem OutI.start (w : World) (S : List Nat) (T : TypeId) (hN : S.length ≤ maxLen) : OutI w (w.alloc (.cells (madeCells #[.int .u8 0] S.length) T)) S 0 0 [] :=
  ⟨⟨by rw [Nat.sub_zero, List.nil_append]; exact OwnS.madeY0 w _ T hN⟩, (Below.refl _ _).alloc (Nat.le_refl _) _, rfl, by intro d hd; simp at hd, by simp [le10], by omega⟩
theorem mul_lt_pow {x y a b : Nat} (hx : x < 10 ^ a) (hy : y < 10 ^ b) : x * y < 10 ^ (a + b + 1) := by
  rw [Nat.pow_succ, Nat.pow_add]
  have h1 : x * y ≤ 10 ^ a * 10 ^ b := Nat.mul_le_mul (Nat.le_of_lt hx) (Nat.le_of_lt hy)
  have h2 : 0 < 10 ^ a * 10 ^ b := Nat.mul_pos (Nat.pow_pos (by decide)) (Nat.pow_pos (by decide))
  omega
theorem slice_at {w : World} {b cap : Nat} {l : List Nat} (h : SliceOf vN 1 w (.slice (some ⟨b, 0, none⟩) l.length cap) l) {k : Nat} (hk : k < l.length) : w.cell? ⟨b, k, none⟩ = some (.int .i64 (l[k] : Int)) := by
  obtain ⟨b', off, cap', hv, _, _, _, hc⟩ := h.some_of_pos (by omega)
  simp only [Value.slice.injEq, Option.some.injEq, Addr.mk.injEq, and_true, true_and] at hv
  obtain ⟨⟨rfl, rfl⟩, rfl⟩ := hv
  have := nat_cell hc hk
  rwa [Nat.zero_add] at this
set_option maxHeartbeats 4000000 in
set_option maxRecDepth 100000 in
theorem ref_mul (x y : Nat) (w : World) (hx : x < capN) (hy : y < capN) :
    Calls Tryz.prog 34 #[.string (natS x), .string (natS y)] w fun e w' => e = .returned (.string (natS (x * y))) ∧ Below w.heap.size w w' := by
  have sx : 1 ≤ (natS x).size ∧ (natS x).size ≤ 1000 := by rw [natS_size]; exact ⟨dec_len_pos x, capN_len.2 hx⟩
  have sy : 1 ≤ (natS y).size ∧ (natS y).size ≤ 1000 := by rw [natS_size]; exact ⟨dec_len_pos y, capN_len.2 hy⟩
  have HX := hide hx
  have HY := hide hy
  have HDX : Hid (∀ k, (natS x).size ≤ k → x % 10 ^ k = x) := fun k hk => mod_all (by rw [← natS_size]; exact hk)
  have HDY : Hid (∀ k, (natS y).size ≤ k → y % 10 ^ k = y) := fun k hk => mod_all (by rw [← natS_size]; exact hk)
  have HPL : Hid (x * y < 10 ^ ((natS x).size + (natS y).size + 1)) := by
    have h1 := dec_lt x
    have h2 := dec_lt y
    rw [← natS_size] at h1 h2
    exact mul_lt_pow h1 h2
  clear hx hy
  obtain ⟨la, hla⟩ : ∃ n, (natS x).size = n := ⟨_, rfl⟩
  obtain ⟨lb, hlb⟩ : ∃ n, (natS y).size = n := ⟨_, rfl⟩
  rw [hla] at sx HDX HPL
  rw [hlb] at sy HDY HPL
  have HLA := hide hla
  have HLB := hide hlb
  have q1 : IntKind.i64.wrap ((la : Int) + (lb : Int)) = (la : Int) + (lb : Int) := IntWalk.i64_in _ (by omega)
  have q2 : IntKind.i64.wrap ((la : Int) + (lb : Int) + 1) = ((la + lb + 1 : Nat) : Int) := by rw [show (la : Int) + (lb : Int) + 1 = ((la + lb + 1 : Nat) : Int) by omega]; exact IntWalk.i64_in _ (by omega)
  obtain ⟨N, hN⟩ : ∃ n, la + lb + 1 = n := ⟨_, rfl⟩
  rw [hN] at q2 HPL
  have hmk := run_make_row' (P := Tryz.prog) 42 3 (.int .i64 0) 8 Tryz.underlying42 Tryz.infoInt rfl .i64 .i64 N (by omega) (by omega)
  have HS0 := hide (MulI.start w N 3 (by unfold maxLen; omega))
  have HZ : Hid (0 = x % 10 ^ 0 * y) := by show 0 = _; rw [Nat.pow_zero, Nat.mod_one, Nat.zero_mul]
  go_enter Tryz.func34, Tryz.ntmps34
  go_wp2_with fail
  clear hmk
  go_loopw [6] (fun x1 wx => ∃ (i : Nat) (S : List Nat), i ≤ la ∧ x1 = .int .i64 (i : Int) ∧ MulI w wx N S (x % 10 ^ i * y) (81 * (1000 * i))) (fun x1 _ => la - (intOf x1).toNat)
  case atStart => exact ⟨0, _, Nat.zero_le _, rfl, HS0.out.up HZ.out (Nat.zero_le _)⟩
  case round =>
    obtain ⟨i, S, hi, rfl, hm⟩ := hrel
    have HM := hide hm
    clear hm HS0 HZ
    by_cases hil : i < la
    · have f1 : decide ((i : Int) < (la : Int)) = true := decide_eq_true (by omega)
      obtain ⟨d, hd⟩ : ∃ d, atN x i = d := ⟨_, rfl⟩
      have hd10 : d < 10 := by rw [← hd]; exact atN_lt x i
      have A1 : ∀ W, Calls Tryz.prog 48 #[.string (natS x), .int .i64 (i : Int)] W fun r w' => r = .returned (.int .i64 (d : Int)) ∧ w' = W := fun W => by rw [← hd]; exact ref_at x i W HX.out
      have HA1 := hide A1
      have HD := hide hd
      have HM0 : Hid (MulI w wr N S (x % 10 ^ i * y + 10 ^ i * (d * (y % 10 ^ 0))) (81 * (1000 * i + 0))) := by
        refine HM.out.up ?_ (Nat.le_refl _)
        rw [Nat.pow_zero, Nat.mod_one, Nat.mul_zero, Nat.mul_zero]; rfl
      clear A1 hd
      obtain ⟨wo, rfl⟩ : ∃ wo : World, wo = wr := ⟨_, rfl⟩
      go_wp2_with fail
      go_loopw [7] (fun x1 wx => ∃ (k : Nat) (S : List Nat), k ≤ lb ∧ x1 = .int .i64 (k : Int) ∧ MulI w wx N S (x % 10 ^ i * y + 10 ^ i * (d * (y % 10 ^ k))) (81 * (1000 * i + k))) (fun x1 _ => lb - (intOf x1).toNat)
      case atStart => exact ⟨0, S, Nat.zero_le _, rfl, HM0.out⟩
      case round =>
        obtain ⟨k, S2, hk, rfl, hm2⟩ := hrel
        have HM2 := hide hm2
        clear HM0
        by_cases hkl : k < lb
        · have f2 : decide ((k : Int) < (lb : Int)) = true := decide_eq_true (by omega)
          obtain ⟨e, he⟩ : ∃ e, atN y k = e := ⟨_, rfl⟩
          have he10 : e < 10 := by rw [← he]; exact atN_lt y k
          have A2 : ∀ W, Calls Tryz.prog 48 #[.string (natS y), .int .i64 (k : Int)] W fun r w' => r = .returned (.int .i64 (e : Int)) ∧ w' = W := fun W => by rw [← he]; exact ref_at y k W HY.out
          have HA2 := hide A2
          have HE := hide he
          have hde : d * e ≤ 81 := Nat.mul_le_mul (show d ≤ 9 by omega) (show e ≤ 9 by omega)
          have q0 : IntKind.i64.wrap ((i : Int) + (k : Int)) = ((i + k : Nat) : Int) := by rw [show (i : Int) + (k : Int) = ((i + k : Nat) : Int) by omega]; exact IntWalk.i64_in _ (by omega)
          obtain ⟨j, hj⟩ : ∃ j, i + k = j := ⟨_, rfl⟩
          have hjN : j < N := by omega
          obtain ⟨s, hs, hsM, c1, c2⟩ := hm2.cell hjN
          have HSJ := hide hs
          obtain ⟨p, hp⟩ : ∃ p, d * e = p := ⟨_, rfl⟩
          have q3 : IntKind.i64.wrap ((d : Int) * (e : Int)) = (p : Int) := by rw [← Int.natCast_mul, hp]; exact IntWalk.i64_in _ (by omega)
          have q4 : IntKind.i64.wrap ((s : Int) + (p : Int)) = ((s + p : Nat) : Int) := by rw [show (s : Int) + (p : Int) = ((s + p : Nat) : Int) by omega]; exact IntWalk.i64_in _ (by omega)
          rw [hj] at q0
          have HJ := hide hj
          have HP := hide hp
          have hj0 : (0 : Int) ≤ (j : Int) := by omega
          have hjI : (j : Int) < (N : Int) := by omega
          have hp81 : p ≤ 81 := by omega
          clear A2 he hs hp hj hde hm2
          go_wp2_with fail
          refine wp_region_still_tail 19 (by kernel_rfl) (by kernel_rfl) ?_
          simp only [List.take_succ_cons, List.take_zero, List.drop_succ_cons, List.drop_zero]
          repeat still_step
          still_call (HA1.out _)
          repeat still_step
          still_call (HA2.out _)
          repeat still_step
          refine wpStill_nil ?_
          change wpList _ _ _ _ _ wr.drew
          go_wp2_with fail
          go_roundw
          case rel => exact ⟨k + 1, S2.set j (s + p), by omega, by go_num, by
            have h1 := HM2.out.set (Below.refl _ _).drew hjN HSJ.out hp81
            refine h1.up ?_ (by omega)
            rw [← HJ.out, ← HP.out]
            exact mul_step10 rfl HE.out⟩
          case measure => (simp [intOf]; try omega)
        · obtain rfl : k = lb := by omega
          have f2 : decide ((k : Int) < (k : Int)) = false := decide_eq_false (by omega)
          have HN := hide (hm2.up (V' := x % 10 ^ (i + 1) * y) (M' := 81 * (1000 * (i + 1))) (mul_row10 (by rw [HDY.out _ (Nat.le_refl _)]) HD.out) (by omega))
          clear hm2
          go_wp2_with fail
          go_roundw
          case rel => exact ⟨i + 1, S2, by omega, by go_num, HN.out⟩
          case measure => (simp [intOf]; try omega)
    · obtain rfl : i = la := by omega
      have f1 : decide ((i : Int) < (i : Int)) = false := decide_eq_false (by omega)
      have HSL := hide HM.out.slice
      have hSN := HM.out.len
      subst hSN
      have HV : Hid (le10 S = x * y) := by show _ = _; rw [HM.out.val, HDX.out _ (Nat.le_refl _)]
      have HBD : Hid (∀ (k : Nat) (h : k < S.length), S[k] ≤ 100000000) := fun k h => by have := HM.out.bd _ (List.getElem_mem h); omega
      have HB := hide HM.out.bl
      have hmk := run_make_row' (P := Tryz.prog) 54 5 (.int .u8 0) 1 Tryz.underlying54 Tryz.infoU8 rfl .i64 .i64 S.length (by omega) (by omega)
      have HO0 := hide (OutI.start wr S 5 (by unfold maxLen; omega))
      clear HM
      go_wp2_with fail
      clear hmk
      obtain ⟨wo, rfl⟩ : ∃ wo : World, wo = wr := ⟨_, rfl⟩
      go_loopw [9, 10] (fun c1 x1 wx => ∃ (c k : Nat) (o : List Nat), k ≤ S.length ∧ c1 = .int .i64 (c : Int) ∧ x1 = .int .i64 (k : Int) ∧ OutI wo wx S c k o) (fun _ x1 _ => S.length - (intOf x1).toNat)
      case atStart => exact ⟨0, 0, [], Nat.zero_le _, rfl, rfl, HO0.out⟩
      case round =>
        obtain ⟨c, k, o, hk, rfl, rfl, ho⟩ := hrel
        have HO := hide ho
        clear HO0
        by_cases hkl : k < S.length
        · have f2 : decide ((k : Int) < (S.length : Int)) = true := decide_eq_true (by omega)
          have c1 := keep_cell ho.bl (slice_at HSL.out hkl)
          obtain ⟨u, c2, c3⟩ := ho.cell hkl
          have hsb := HBD.out k hkl
          have hcb := ho.cb
          have hsk : S[k]? = some S[k] := List.getElem?_eq_getElem hkl
          obtain ⟨s, hs⟩ : ∃ s, S[k] = s := ⟨_, rfl⟩
          rw [hs] at c1 hsb hsk
          have HSK := hide hsk
          clear hs hsk ho
          have hk0 : (0 : Int) ≤ (k : Int) := by omega
          have hkI : (k : Int) < (S.length : Int) := by omega
          have q3 : IntKind.i64.wrap ((s : Int) + (c : Int)) = ((s + c : Nat) : Int) := by rw [show (s : Int) + (c : Int) = ((s + c : Nat) : Int) by omega]; exact IntWalk.i64_in _ (by omega)
          obtain ⟨m, hm⟩ : ∃ m, s + c = m := ⟨_, rfl⟩
          have HMM := hide hm
          rw [hm] at q3
          have q5 : IntKind.i64.wrap ((m : Int).tmod 10) = ((m % 10 : Nat) : Int) := by
            rw [show ((m : Int).tmod 10) = ((m % 10 : Nat) : Int) from (Int.ofNat_tmod m 10).symm]; exact IntWalk.i64_in _ (by omega)
          have q6 : IntKind.i64.wrap ((m : Int).tdiv 10) = ((m / 10 : Nat) : Int) := by
            rw [show ((m : Int).tdiv 10) = ((m / 10 : Nat) : Int) from (Int.ofNat_tdiv m 10).symm]; exact IntWalk.i64_in _ (by omega)
          have q7 : IntKind.u8.wrap ((m % 10 : Nat) : Int) = ((m % 10 : Nat) : Int) := IntWalk.u8_in _ (by omega)
          have hm9 : m ≤ 300000000 := by omega
          clear hm
          go_wp2_with fail
          go_roundw
          case rel => exact ⟨m / 10, k + 1, o ++ [m % 10], by omega, by first | rfl | go_num, by first | rfl | go_num, by
            have h1 := HO.out.next hkl HSK.out hsb
            rw [HMM.out] at h1
            exact h1⟩
          case measure => (simp [intOf]; try omega)
        · obtain rfl : k = S.length := by omega
          have f2 : decide ((S.length : Int) < (S.length : Int)) = false := decide_eq_false (by omega)
          have hv : le10 o = x * y := out_end10 ho.len ho.sum HV.out HPL.out
          have HVV := hide hv
          have hsl := ho.slice
          have hol := ho.len
          rw [← hol] at hsl
          have HSL2 := hide hsl
          have ho0 : 0 < o.length := by omega
          have ho1 : o.length ≤ 100000 := by omega
          have HBB := hide (bStep HB.out ho.bl)
          have HOL := hide hol
          clear hv hsl ho hol
          go_wp2_with fail
          rw [← HOL.out]
          refine (ref_text o _ _ HSL2.out ho0 ho1 HO.out.dig).mono ?_
          rintro e w1 ⟨rfl, hb⟩
          rw [HVV.out]
          have HB1 := hide (bStep HBB.out hb)
          clear hb
          go_wp2_with fail
          go_ret
          exact ⟨rfl, HB1.out⟩
end Go.Proofs.YtbefdlncpobmlaaGreatDoor
