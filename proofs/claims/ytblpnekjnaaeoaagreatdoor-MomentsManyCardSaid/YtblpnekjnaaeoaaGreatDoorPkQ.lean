/- MqH, MqI in one text. -/
import Derived.Test.YtblpnekjnaaeoaaGreatDoorPkP
set_option linter.unusedVariables false
set_option linter.unusedSimpArgs false
namespace Go.Proofs.YtblpnekjnaaeoaaGreatDoor

theorem insO_new : ∀ (l : List PQ) (x : PQ), (∀ y ∈ l, y.1 ≠ x.1) → ∃ l', insO l x = some l' ∧ l'.length = l.length + 1 ∧ ∀ z ∈ l', z = x ∨ z ∈ l
  | [], x, _ => ⟨[x], rfl, rfl, fun z hz => .inl (List.mem_singleton.1 hz)⟩
  | y :: ys, x, h => by
    unfold insO
    have hne := h y (List.mem_cons_self ..)
    split
    · obtain ⟨l', e, hl, hm⟩ := insO_new ys x (fun z hz => h z (List.mem_cons_of_mem _ hz))
      refine ⟨y :: l', by rw [e]; rfl, by simp [hl], fun z hz => ?_⟩
      rcases List.mem_cons.1 hz with rfl | hz
      · exact .inr (List.mem_cons_self ..)
      · rcases hm z hz with h | h
        · exact .inl h
        · exact .inr (List.mem_cons_of_mem _ h)
    · refine ⟨x :: y :: ys, rfl, rfl, fun z hz => ?_⟩
      rcases List.mem_cons.1 hz with h | h
      · exact .inl h
      · exact .inr h
theorem collO_new : ∀ (xs o : List PQ), (∀ y ∈ o, ∀ x ∈ xs, y.1 ≠ x.1) → xs.Pairwise (fun a b => a.1 ≠ b.1) → ∃ l, (xs.map some).foldl stepO (some o) = some l ∧ l.length = o.length + xs.length ∧ ∀ z ∈ l, z ∈ o ∨ z ∈ xs
  | [], o, _, _ => ⟨o, rfl, rfl, fun z hz => .inl hz⟩
  | x :: xs, o, h, hp => by
    obtain ⟨hx, hp⟩ := List.pairwise_cons.1 hp
    obtain ⟨o', e, hl, hm⟩ := insO_new o x (fun y hy => h y hy x (List.mem_cons_self ..))
    obtain ⟨l, e2, hl2, hm2⟩ := collO_new xs o' (fun y hy z hz => by
      rcases hm y hy with rfl | hy
      · exact hx z hz
      · exact h y hy z (List.mem_cons_of_mem _ hz)) hp
    refine ⟨l, ?_, by rw [hl2, hl]; simp; omega, fun z hz => ?_⟩
    · show (xs.map some).foldl stepO (stepO (some o) (some x)) = some l
      have e3 : stepO (some o) (some x) = insO o x := rfl
      rw [e3, e]; exact e2
    · rcases hm2 z hz with h1 | h1
      · rcases hm z h1 with rfl | h2
        · exact .inr (List.mem_cons_self ..)
        · exact .inl h2
      · exact .inr (List.mem_cons_of_mem _ h1)
theorem itS_small {a b : List PQ} (ha : ∀ z ∈ a, smallQ z.1 = true ∧ smallQ z.2 = true) (hb : ∀ z ∈ b, smallQ z.1 = true ∧ smallQ z.2 = true) : itS a b = (sumE a b).map some := by
  have hin : ∀ p ∈ a, (b.map fun q => prS p q) = (b.map fun q => (p.1 + q.1, p.2 * q.2)).map some := fun p hp => by
    rw [List.map_map]
    refine List.map_congr_left fun q hq => ?_
    show prS p q = some (p.1 + q.1, p.2 * q.2)
    unfold prS
    have h1 : addR p.1 q.1 = some (p.1 + q.1) := addB_le _ _ _ (by unfold addB; rw [(ha p hp).1, (hb q hq).1]; rfl)
    have h2 : mulR p.2 q.2 = some (p.2 * q.2) := mulB_le _ _ _ (by unfold mulB; rw [(ha p hp).2, (hb q hq).2]; rfl)
    rw [h1, h2, Option.bind_some, Option.bind_some]
  clear ha
  unfold itS sumE
  induction a with
  | nil => rfl
  | cons p a ih =>
    rw [List.flatMap_cons, List.flatMap_cons, List.map_append, hin p (List.mem_cons_self ..), ih (fun q hq => hin q (List.mem_cons_of_mem _ hq))]
/-- The lists of the law. -/
def mnA (m k : Nat) : List PQ := (List.range k).map fun i : Nat => (ofQ (i : Int) 1, ofQ 1 (m : Int))
def mnB (n k : Nat) : List PQ := (List.range k).map fun i : Nat => (ofQ (100 * (i : Int)) 1, ofQ 1 (n : Int))
theorem mnA_ok : ∀ m, 1 ≤ m → m ≤ 40 → vdS (mnA m m) = true := by
  have h : ∀ m ∈ List.range 41, 1 ≤ m → vdS (mnA m m) = true := by decide +kernel
  exact fun m h1 h2 => h m (List.mem_range.2 (by omega)) h1
theorem mnB_ok : ∀ m, 1 ≤ m → m ≤ 40 → vdS (mnB m m) = true := by
  have h : ∀ m ∈ List.range 41, 1 ≤ m → vdS (mnB m m) = true := by decide +kernel
  exact fun m h1 h2 => h m (List.mem_range.2 (by omega)) h1
theorem mnA_vd {m : Nat} (h1 : 1 ≤ m) (h2 : m ≤ 40) : VD ((mnA m m).map encP) (mnA m m) := vd_small (mnA_ok m h1 h2) (by
  unfold SrtQ mnA
  rw [List.pairwise_map]
  refine List.Pairwise.imp (fun {a b} h => ?_) (List.pairwise_lt_range)
  show ofQ _ 1 < ofQ _ 1
  rw [ofQ_one, ofQ_one]
  exact Rat.intCast_lt_intCast.2 (by omega))
theorem mnB_vd {m : Nat} (h1 : 1 ≤ m) (h2 : m ≤ 40) : VD ((mnB m m).map encP) (mnB m m) := vd_small (mnB_ok m h1 h2) (by
  unfold SrtQ mnB
  rw [List.pairwise_map]
  refine List.Pairwise.imp (fun {a b} h => ?_) (List.pairwise_lt_range)
  show ofQ _ 1 < ofQ _ 1
  rw [ofQ_one, ofQ_one]
  exact Rat.intCast_lt_intCast.2 (by omega))
theorem vdS_small {L : List PQ} (h : vdS L = true) : ∀ z ∈ L, smallQ z.1 = true ∧ smallQ z.2 = true := fun z hz => by
  unfold vdS at h
  simp only [Bool.and_eq_true, decide_eq_true_eq] at h
  exact ⟨(h.1.1 z hz).1, (h.1.1 z hz).2.1⟩
theorem sum_distinct {m n : Nat} (h2 : m ≤ 40) : (sumE (mnA m m) (mnB n n)).Pairwise (fun a b => a.1 ≠ b.1) := by
  unfold sumE mnA mnB
  rw [List.pairwise_flatMap]
  refine ⟨fun p hp => ?_, ?_⟩
  · rw [List.pairwise_map, List.pairwise_map]
    refine List.Pairwise.imp (fun {a b} h => ?_) (List.pairwise_lt_range)
    show p.1 + ofQ (100 * (a : Int)) 1 ≠ p.1 + ofQ (100 * (b : Int)) 1
    rw [ofQ_one, ofQ_one]
    intro e
    have e2 : ((100 * (a : Int) : Int) : Rat) = ((100 * (b : Int) : Int) : Rat) := by grind
    have := Rat.intCast_inj.1 e2
    omega
  · rw [List.pairwise_map]
    refine List.Pairwise.imp_of_mem (fun {a b} ha hb h => ?_) (List.pairwise_lt_range)
    intro x hx y hy
    obtain ⟨p, hp, rfl⟩ := List.mem_map.1 hx
    obtain ⟨i, _, rfl⟩ := List.mem_map.1 hp
    obtain ⟨q, hq, rfl⟩ := List.mem_map.1 hy
    obtain ⟨j, _, rfl⟩ := List.mem_map.1 hq
    have ha' := List.mem_range.1 ha
    have hb' := List.mem_range.1 hb
    show ofQ (a : Int) 1 + ofQ (100 * (i : Int)) 1 ≠ ofQ (b : Int) 1 + ofQ (100 * (j : Int)) 1
    rw [ofQ_one, ofQ_one, ofQ_one, ofQ_one, ← Rat.intCast_add, ← Rat.intCast_add]
    intro e
    have := Rat.intCast_inj.1 e
    omega
theorem many_sum {m n : Nat} (h1 : 1 ≤ m) (h2 : m ≤ 40) (h3 : 1 ≤ n) (h4 : n ≤ 40) : (400 < m * n → resO (itS (mnA m m) (mnB n n)) = none) ∧ (m * n ≤ 400 → ∃ l, resO (itS (mnA m m) (mnB n n)) = some l ∧ l.length = m * n) := by
  have hA := vdS_small (mnA_ok m h1 h2)
  have hB := vdS_small (mnB_ok n h3 h4)
  obtain ⟨l, e, hl, hm⟩ := collO_new (sumE (mnA m m) (mnB n n)) [] (fun y hy => by cases hy) (sum_distinct h2)
  have hlen : l.length = m * n := by
    have h : (itS (mnA m m) (mnB n n)).length = m * n := by
      rw [itS_len]; unfold mnA mnB; simp
    rw [itS_small hA hB, List.length_map] at h
    simpa [h] using hl
  have hc : collO (itS (mnA m m) (mnB n n)) = some l := by rw [itS_small hA hB]; exact e
  have hnz : nzE l = l := nzE_self fun z hz => by
    rcases hm z hz with h | h
    · cases h
    · unfold sumE at h
      obtain ⟨p, hp, h⟩ := List.mem_flatMap.1 h
      obtain ⟨q, hq, rfl⟩ := List.mem_map.1 h
      have p1 := (mnA_vd h1 h2).vl.pos p hp
      have p2 := (mnB_vd h3 h4).vl.pos q hq
      have := Rat.mul_pos p1 p2
      show p.2 * q.2 ≠ 0
      grind
  unfold resO
  rw [hc]
  show (400 < m * n → (if (nzE l).length ≤ 400 then some (nzE l) else none) = none) ∧ (m * n ≤ 400 → ∃ l', (if (nzE l).length ≤ 400 then some (nzE l) else none) = some l' ∧ l'.length = m * n)
  rw [hnz, hlen]
  refine ⟨fun h => if_neg (by omega), fun h => ⟨l, if_pos h, hlen⟩⟩
end Go.Proofs.YtblpnekjnaaeoaaGreatDoor
namespace Go.Proofs.YtblpnekjnaaeoaaGreatDoor
open Go.RowKit

theorem mnA_succ (m k : Nat) : mnA m (k + 1) = mnA m k ++ [(ofQ (k : Int) 1, ofQ 1 (m : Int))] := by unfold mnA; rw [List.range_succ, List.map_append]; rfl
theorem mnB_succ (m k : Nat) : mnB m (k + 1) = mnB m k ++ [(ofQ (100 * (k : Int)) 1, ofQ 1 (m : Int))] := by unfold mnB; rw [List.range_succ, List.map_append]; rfl
theorem mnA_len (m k : Nat) : (mnA m k).length = k := by unfold mnA; simp
theorem mnB_len (m k : Nat) : (mnB m k).length = k := by unfold mnB; simp
set_option maxHeartbeats 8000000 in
set_option maxRecDepth 100000 in
theorem law46_many (x y : Int) (hx : 0 ≤ x ∧ x < 256) (hy : 0 ≤ y ∧ y < 256) (w : World) (hL : LawM w) :
    Calls Tryz.prog 4 #[.int .u8 x, .int .u8 y] w fun e w' => e = .returned (.bool true) ∧ Below w.heap.size w w' := by
  have HL := hide hL
  have HHD := hide (law46_head w hL)
  obtain ⟨i0, hi0, hz0, hzs, hzb⟩ := info_parts Tryz.infoPt
  obtain ⟨hx0, hx1⟩ := hx
  obtain ⟨hy0, hy1⟩ := hy
  clear hL
  go_enter Tryz.func4, Tryz.ntmps4
  go_wp2_with fail
  refine HHD.out.mono ?_
  rintro e w1 ⟨rfl, hb⟩
  have HB1 := hide hb
  clear hb HHD
  go_upto_region 3 with fail
  obtain ⟨m, hm⟩ : ∃ m : Nat, 1 + x % 40 = (m : Int) := ⟨(1 + x % 40).toNat, by omega⟩
  obtain ⟨n, hn⟩ : ∃ n : Nat, 1 + y % 40 = (n : Int) := ⟨(1 + y % 40).toNat, by omega⟩
  have hm1 : 1 ≤ m := by omega
  have hm2 : m ≤ 40 := by omega
  have hn1 : 1 ≤ n := by omega
  have hn2 : n ≤ 40 := by omega
  rw [hm, hn]
  have HA0 : Hid (OwnS w1 w.heap.size 6 (.slice none 0 0) 0 (flatV vPr ((mnA m 0).map encP))) := OwnS.nil _ _ _
  clear hm hn hx0 hx1 hy0 hy1
  go_wp2_with fail
  go_loopw [8, 10] (fun u i wx => ∃ (k : Nat) (a : Option Addr) (c : Nat), k ≤ m ∧ u = .slice a k c ∧ i = .int .i64 (k : Int) ∧ OwnS wx w.heap.size 6 (.slice a k c) k (flatV vPr ((mnA m k).map encP)) ∧ Below w.heap.size w wx) (fun _ i _ => m - (intOf i).toNat)
  case atStart => exact ⟨0, none, 0, Nat.zero_le _, rfl, rfl, HA0.out, HB1.out⟩
  case round =>
    obtain ⟨k, a, c, hk, rfl, rfl, ho, hb⟩ := hrel
    have HO := hide ho
    have HB := hide hb
    clear ho hb
    by_cases hlt : k < m
    · have hkI : (k : Int) < (m : Int) := by omega
      have hk0 : (0 : Int) ≤ (k : Int) := by omega
      have hka : IntKind.i64.wrap ((k : Int) + 1) = ((k + 1 : Nat) : Int) := by rw [IntWalk.i64_in _ (by omega)]; omega
      have hk100 : IntKind.i64.wrap (100 * (k : Int)) = 100 * (k : Int) := IntWalk.i64_in _ (by omega)
      have HS := hide (mnA_succ m k)
      obtain ⟨p, hp⟩ : ∃ p, rqM (ofQ ((k : Int)) 1) = p := ⟨_, rfl⟩
      obtain ⟨q, hq⟩ : ∃ q, rqM (ofQ 1 (m : Int)) = q := ⟨_, rfl⟩
      have HR1 : Hid (∀ W, Below w.heap.size w W → Calls Tryz.prog 23 #[.int .i64 ((k : Int)), .int .i64 1] W fun e w' => e = .returned (.agg #[.bool p.1, .string p.2.1, .string p.2.2]) ∧ Below W.heap.size W w') := fun W hW => by
        have := law46_rat (n := (k : Int)) (d := 1) (q := ofQ ((k : Int)) 1) (by unfold inI64; omega) (by unfold inI64; omega) (by decide) rfl W (HL.out.below hW)
        rwa [hp] at this
      have HR2 : Hid (∀ W, Below w.heap.size w W → Calls Tryz.prog 23 #[.int .i64 1, .int .i64 (m : Int)] W fun e w' => e = .returned (.agg #[.bool q.1, .string q.2.1, .string q.2.2]) ∧ Below W.heap.size W w') := fun W hW => by
        have := law46_rat (n := 1) (d := (m : Int)) (q := ofQ 1 (m : Int)) (by unfold inI64; omega) (by unfold inI64; omega) (by omega) rfl W (HL.out.below hW)
        rwa [hq] at this
      have HPQ : Hid (encP (ofQ ((k : Int)) 1, ofQ 1 (m : Int)) = (p, q)) := by show (rqM _, rqM _) = _; rw [hp, hq]
      clear hp hq
      go_wp2_with fail
      have hW0 : Below w.heap.size w wr := HB.out
      refine (HR1.out _ hW0).mono ?_
      rintro e w2 ⟨rfl, hb⟩
      have HB2 := hide (HB.out.trans (hb.mono HB.out.size))
      have HW2 := hide (bStepM hW0 hb)
      have HO2 := hide (HO.out.below hb)
      clear hb hW0
      go_wp2_with fail
      refine (HR2.out _ HW2.out).mono ?_
      rintro e w3 ⟨rfl, hb⟩
      have hba := bAlloc hb (.cells #[.bool p.1, .string p.2.1, .string p.2.2, .bool q.1, .string q.2.1, .string q.2.2] 41)
      have HB3 := hide (HB2.out.trans (hba.mono HB2.out.size))
      have HO3 := hide (HO2.out.below hba)
      have HX3 : Hid (SliceOf vPr 6 (w3.alloc (.cells #[.bool p.1, .string p.2.1, .string p.2.2, .bool q.1, .string q.2.1, .string q.2.2] 41)) (.slice (some ⟨w3.heap.size, 0, none⟩) 1 1) [(p, q)]) := LitP.slice ⟨_, World.alloc_heap_new w3 _⟩
      have HZ3 : Hid (w.heap.size ≤ (w3.alloc (.cells #[.bool p.1, .string p.2.1, .string p.2.2, .bool q.1, .string q.2.1, .string q.2.2] 41)).heap.size) := by have := HB3.out.size; exact this
      clear hb hba
      go_wp2_with (at_builtin; refine wpList_append_slice rfl _ _ 22 rfl (w.heap.size) 41 i0 _ 6 80 Tryz.underlying22 hi0 hz0 hzs hzb rfl (by decide) vPr_len vPr_one (.slice a k c) k _ rfl HO3.out _ [(p, q)] rfl HX3.out (by show k + 1 ≤ maxLen; unfold maxLen; omega) (by show (k + 1) * 80 ≤ _; omega) HZ3.out ?_)
      intro ao' cap' w4 r1 r2 r3
      have HB4 : Hid (Below w.heap.size w w4) := HB3.out.grown r2 HB3.out.size (fun j hj => Nat.le_trans (Nat.le_refl _) (HO3.out.lt j hj).1)
      have HO4 : Hid (OwnS w4 (w.heap.size) 6 (.slice ao' (k + 1) cap') (k + 1) (flatV vPr ((mnA m (k + 1)).map encP))) := by
        show OwnS _ _ _ _ _ _
        rw [HS.out, List.map_append, flatV_append, List.map_cons, List.map_nil, HPQ.out]
        exact r1
      clear r1 r2 r3
      go_wp2_with fail
      refine ⟨?_, ?measure⟩
      case measure => (simp [intOf]; try omega)
      first
        | exact ⟨k + 1, ao', cap', by omega, rfl, by first | (congr 1; done) | (congr 1; omega), HO4.out, HB4.out⟩
        | ((repeat apply Exists.intro); refine ⟨?rel, rfl⟩; case rel => exact ⟨k + 1, ao', cap', by omega, rfl, by go_num, HO4.out, HB4.out⟩)
    · obtain rfl : m = k := by omega
      have HSA : Hid (SliceOf vPr 6 wr (.slice a m c) ((mnA m m).map encP)) := by
        refine OwnS.slice (B := w.heap.size) vPr_len ?_
        rw [List.length_map, mnA_len]
        exact HO.out
      have HB0 : Hid (OwnS wr wr.heap.size 6 (.slice none 0 0) 0 (flatV vPr ((mnB n 0).map encP))) := OwnS.nil _ _ _
      have HBw := hide HB.out
      obtain ⟨wB, hwB⟩ : ∃ W, W = wr := ⟨_, rfl⟩
      subst hwB
      obtain ⟨aA, haA⟩ : ∃ z, z = a := ⟨_, rfl⟩
      subst haA
      obtain ⟨cA, hcA⟩ : ∃ z, z = c := ⟨_, rfl⟩
      subst hcA
      clear HO HB HA0 HB1 hlt hk
      go_wp2_with fail
      go_loopw [9, 11] (fun u i wx => ∃ (k : Nat) (a : Option Addr) (c : Nat), k ≤ n ∧ u = .slice a k c ∧ i = .int .i64 (k : Int) ∧ OwnS wx wB.heap.size 6 (.slice a k c) k (flatV vPr ((mnB n k).map encP)) ∧ Below wB.heap.size wB wx) (fun _ i _ => n - (intOf i).toNat)
      case atStart => exact ⟨0, none, 0, Nat.zero_le _, rfl, rfl, HB0.out, Below.refl _ _⟩
      case round =>
        obtain ⟨k, a, c, hk, rfl, rfl, ho, hb⟩ := hrel
        have HO := hide ho
        have HB := hide hb
        clear ho hb
        by_cases hlt : k < n
        · have hkI : (k : Int) < (n : Int) := by omega
          have hk0 : (0 : Int) ≤ (k : Int) := by omega
          have hka : IntKind.i64.wrap ((k : Int) + 1) = ((k + 1 : Nat) : Int) := by rw [IntWalk.i64_in _ (by omega)]; omega
          have hk100 : IntKind.i64.wrap (100 * (k : Int)) = 100 * (k : Int) := IntWalk.i64_in _ (by omega)
          have HS := hide (mnB_succ n k)
          obtain ⟨p, hp⟩ : ∃ p, rqM (ofQ (100 * (k : Int)) 1) = p := ⟨_, rfl⟩
          obtain ⟨q, hq⟩ : ∃ q, rqM (ofQ 1 (n : Int)) = q := ⟨_, rfl⟩
          have HR1 : Hid (∀ W, Below w.heap.size w W → Calls Tryz.prog 23 #[.int .i64 (100 * (k : Int)), .int .i64 1] W fun e w' => e = .returned (.agg #[.bool p.1, .string p.2.1, .string p.2.2]) ∧ Below W.heap.size W w') := fun W hW => by
            have := law46_rat (n := 100 * (k : Int)) (d := 1) (q := ofQ (100 * (k : Int)) 1) (by unfold inI64; omega) (by unfold inI64; omega) (by decide) rfl W (HL.out.below hW)
            rwa [hp] at this
          have HR2 : Hid (∀ W, Below w.heap.size w W → Calls Tryz.prog 23 #[.int .i64 1, .int .i64 (n : Int)] W fun e w' => e = .returned (.agg #[.bool q.1, .string q.2.1, .string q.2.2]) ∧ Below W.heap.size W w') := fun W hW => by
            have := law46_rat (n := 1) (d := (n : Int)) (q := ofQ 1 (n : Int)) (by unfold inI64; omega) (by unfold inI64; omega) (by omega) rfl W (HL.out.below hW)
            rwa [hq] at this
          have HPQ : Hid (encP (ofQ (100 * (k : Int)) 1, ofQ 1 (n : Int)) = (p, q)) := by show (rqM _, rqM _) = _; rw [hp, hq]
          clear hp hq
          go_wp2_with fail
          have hW0 : Below w.heap.size w wr := HBw.out.trans (HB.out.mono HBw.out.size)
          refine (HR1.out _ hW0).mono ?_
          rintro e w2 ⟨rfl, hb⟩
          have HB2 := hide (HB.out.trans (hb.mono HB.out.size))
          have HW2 := hide (bStepM hW0 hb)
          have HO2 := hide (HO.out.below hb)
          clear hb hW0
          go_wp2_with fail
          refine (HR2.out _ HW2.out).mono ?_
          rintro e w3 ⟨rfl, hb⟩
          have hba := bAlloc hb (.cells #[.bool p.1, .string p.2.1, .string p.2.2, .bool q.1, .string q.2.1, .string q.2.2] 41)
          have HB3 := hide (HB2.out.trans (hba.mono HB2.out.size))
          have HO3 := hide (HO2.out.below hba)
          have HX3 : Hid (SliceOf vPr 6 (w3.alloc (.cells #[.bool p.1, .string p.2.1, .string p.2.2, .bool q.1, .string q.2.1, .string q.2.2] 41)) (.slice (some ⟨w3.heap.size, 0, none⟩) 1 1) [(p, q)]) := LitP.slice ⟨_, World.alloc_heap_new w3 _⟩
          have HZ3 : Hid (wB.heap.size ≤ (w3.alloc (.cells #[.bool p.1, .string p.2.1, .string p.2.2, .bool q.1, .string q.2.1, .string q.2.2] 41)).heap.size) := HB3.out.size
          clear hb hba
          go_wp2_with (at_builtin; refine wpList_append_slice rfl _ _ 22 rfl (wB.heap.size) 41 i0 _ 6 80 Tryz.underlying22 hi0 hz0 hzs hzb rfl (by decide) vPr_len vPr_one (.slice a k c) k _ rfl HO3.out _ [(p, q)] rfl HX3.out (by show k + 1 ≤ maxLen; unfold maxLen; omega) (by show (k + 1) * 80 ≤ _; omega) HZ3.out ?_)
          intro ao' cap' w4 r1 r2 r3
          have HB4 : Hid (Below wB.heap.size wB w4) := HB3.out.grown r2 HB3.out.size (fun j hj => Nat.le_trans (Nat.le_refl _) (HO3.out.lt j hj).1)
          have HO4 : Hid (OwnS w4 (wB.heap.size) 6 (.slice ao' (k + 1) cap') (k + 1) (flatV vPr ((mnB n (k + 1)).map encP))) := by
            show OwnS _ _ _ _ _ _
            rw [HS.out, List.map_append, flatV_append, List.map_cons, List.map_nil, HPQ.out]
            exact r1
          clear r1 r2 r3
          go_wp2_with fail
          refine ⟨?_, ?measure⟩
          case measure => (simp [intOf]; try omega)
          first
            | exact ⟨k + 1, ao', cap', by omega, rfl, by first | (congr 1; done) | (congr 1; omega), HO4.out, HB4.out⟩
            | ((repeat apply Exists.intro); refine ⟨?rel, rfl⟩; case rel => exact ⟨k + 1, ao', cap', by omega, rfl, by go_num, HO4.out, HB4.out⟩)
        · obtain rfl : n = k := by omega
          have HSB : Hid (SliceOf vPr 6 wr (.slice a n c) ((mnB n n).map encP)) := by
            refine OwnS.slice (B := wB.heap.size) vPr_len ?_
            rw [List.length_map, mnB_len]
            exact HO.out
          have HSA2 := hide (HSA.out.below HB.out)
          have HW2 : Hid (Below w.heap.size w wr) := HBw.out.trans (HB.out.mono HBw.out.size)
          have HSUM := hide (c_Sum (mnA_vd hm1 hm2) (mnB_vd hn1 hn2) (HL.out.below HW2.out) HSA2.out HSB.out)
          have HMS := hide (many_sum hm1 hm2 hn1 hn2)
          obtain ⟨P, hP⟩ : ∃ P, m * n = P := ⟨_, rfl⟩
          have hPb : P ≤ 1600 := by rw [← hP]; exact Nat.mul_le_mul hm2 hn2
          have hPI : (m : Int) * (n : Int) = (P : Int) := by rw [← hP]; exact (Int.natCast_mul m n).symm
          have hPw : IntKind.i64.wrap (P : Int) = (P : Int) := IntWalk.i64_in _ (by omega)
          rw [hP] at HMS
          clear HO HB hk hlt hP HSA HSB
          by_cases h400 : 400 < P
          · have hr := HMS.out.1 h400
            rw [hr] at HSUM
            have h400I : (400 : Int) < (P : Int) := by omega
            have h401 : ¬ ((P : Int) ≤ 400) := by omega
            clear hr
            go_wp2_with fail
            refine HSUM.out.mono ?_
            rintro e w5 ⟨ao, cp, rfl, hs, hb⟩
            have HB5 := hide (bStepM HW2.out hb)
            clear hs hb
            go_wp2_with fail
            go_ret
            exact ⟨by first | rfl | simp, HB5.out⟩
          · obtain ⟨l, hr, hl⟩ := HMS.out.2 (by omega)
            rw [hr] at HSUM
            have h400I : ¬ ((400 : Int) < (P : Int)) := by omega
            have h401 : (P : Int) ≤ 400 := by omega
            have HLL := hide hl
            clear hr hl
            go_wp2_with fail
            refine HSUM.out.mono ?_
            rintro e w5 ⟨ao, cp, he, hs, hb⟩
            have he2 : e = .returned (.tuple #[.slice ao l.length cp, .int .i64 0]) := he
            rw [HLL.out] at he2
            subst he2
            have HB5 := hide (bStepM HW2.out hb)
            clear hs hb he
            go_wp2_with fail
            go_ret
            exact ⟨by first | rfl | simp, HB5.out⟩
end Go.Proofs.YtblpnekjnaaeoaaGreatDoor
