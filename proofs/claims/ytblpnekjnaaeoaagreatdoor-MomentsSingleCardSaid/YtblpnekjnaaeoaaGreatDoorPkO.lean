/- MqA, MqB, MqC, MqD in one text. -/
import Derived.Test.YtblpnekjnaaeoaaGreatDoorMoU
set_option linter.unusedVariables false
set_option linter.unusedSimpArgs false
namespace Go.Proofs.YtblpnekjnaaeoaaGreatDoor
open Go.RowKit

set_option maxHeartbeats 2000000 in
set_option maxRecDepth 100000 in
theorem law46_rat {n d : Int} {q : Rat} (hn : inI64 n) (hd : inI64 d) (h0 : d ≠ 0) (hq : ofQ n d = q) (w : World) (hL : LawM w) :
    Calls Tryz.prog 23 #[.int .i64 n, .int .i64 d] w fun e w' => e = .returned (.agg #[.bool (rqM q).1, .string (rqM q).2.1, .string (rqM q).2.2]) ∧ Below w.heap.size w w' := by
  have hba := bAlloc (Below.refl w.heap.size w) (.cells #[.bool false, .string ⟨#[]⟩, .string ⟨#[]⟩] 29)
  have HB := hide hba
  have HR := hide (RC.new w false ⟨#[]⟩ ⟨#[]⟩ 29)
  have HOF := hide (of_ok hn hd h0 hq (show rqV q = .agg #[.bool (rqM q).1, .string (rqM q).2.1, .string (rqM q).2.2] from rfl) _ (hL.below hba).1)
  obtain ⟨x, hx⟩ : ∃ x, rqM q = x := ⟨_, rfl⟩
  rw [hx] at HOF ⊢
  clear hba hx hq h0 hn hd
  go_enter Tryz.func23, Tryz.ntmps23
  go_wp2_with fail
  refine HOF.out.mono ?_
  rintro e w1 ⟨rfl, hb⟩
  have HB1 := hide (bStepM HB.out hb)
  have hb2 := bAlloc (Below.refl w1.heap.size w1) (.cells #[.bool x.1, .string x.2.1, .string x.2.2] 29)
  have HR1 := hide ((HR.out.below hb).below hb2)
  have hlt : w.heap.size < w1.heap.size := (HR.out.below hb).lt
  have HB2 := hide (HB1.out.trans (hb2.mono HB1.out.size))
  have HN := hide (RC.new w1 x.1 x.2.1 x.2.2 29)
  clear hb hb2 HOF
  obtain ⟨A, hA⟩ : ∃ A, w.heap.size = A := ⟨_, rfl⟩
  have HAA := hide hA
  rw [hA] at HR1 hlt
  rw [hA]
  clear hA
  go_upto_region 2 with fail
  obtain ⟨w2, hw2⟩ : ∃ W, w1.alloc (.cells #[.bool x.1, .string x.2.1, .string x.2.2] 29) = W := ⟨_, rfl⟩
  obtain ⟨X, hX⟩ : ∃ A, w1.heap.size = A := ⟨_, rfl⟩
  rw [hX] at HN hlt
  rw [hw2] at HR1 HB2 HN
  rw [hw2, hX]
  have hne : A ≠ X := by omega
  clear hw2 hX hlt
  obtain ⟨c0, c1, c2, _, _, _⟩ := (id HN.out : RC _ _ _ _ _)
  obtain ⟨r0, r1, r2, f0, f1, f2⟩ := (id HR1.out : RC _ _ _ _ _)
  go_wp2_with fail
  have hR := HR1.out.set3 x.1 x.2.1 x.2.2
  obtain ⟨d0, d1, d2, _, _, _⟩ := (id hR : RC _ _ _ _ _)
  have hbe := HB2.out.trans (bSetM3 (x := 0) (y := 1) (z := 2) (u := .bool x.1) (v := .string x.2.1) (t := .string x.2.2) (show w.heap.size ≤ A by have := HAA.out; omega) HR1.out.lt)
  exact bodyPost_ret (v := .agg #[.bool x.1, .string x.2.1, .string x.2.2]) (by simp [results, Tryz.results23, go_sem, d0, d1, d2]) rfl ⟨rfl, hbe⟩
end Go.Proofs.YtblpnekjnaaeoaaGreatDoor
namespace Go.Proofs.YtblpnekjnaaeoaaGreatDoor
open Go.RowKit

def fl3 : List (Int × Int × Int) → List Int
  | [] => []
  | t :: l => t.1 :: t.2.1 :: t.2.2 :: fl3 l
theorem fl3_len : ∀ l, (fl3 l).length = 3 * l.length
  | [] => rfl
  | t :: l => by simp only [fl3, List.length_cons, fl3_len l]; omega
theorem fl3_get : ∀ (l : List (Int × Int × Int)) (k : Nat) (h : k < l.length), (fl3 l)[3 * k]? = some l[k].1 ∧ (fl3 l)[3 * k + 1]? = some l[k].2.1 ∧ (fl3 l)[3 * k + 2]? = some l[k].2.2
  | [], k, h => absurd h (Nat.not_lt_zero _)
  | t :: l, 0, _ => ⟨rfl, rfl, rfl⟩
  | t :: l, k + 1, h => by
    have := fl3_get l k (by simpa using h)
    rw [show 3 * (k + 1) = 3 * k + 1 + 1 + 1 by omega, show 3 * k + 1 + 1 + 1 + 1 = 3 * k + 1 + 1 + 1 + 1 from rfl]
    simp only [fl3, List.getElem?_cons_succ, List.getElem_cons_succ]
    exact this
def ptQ (t : Int × Int × Int) : PQ := (ofQ t.1 1, ofQ t.2.1 t.2.2)
def ptOk (t : Int × Int × Int) : Prop := inI64 t.1 ∧ inI64 t.2.1 ∧ inI64 t.2.2 ∧ t.2.2 ≠ 0
set_option maxHeartbeats 8000000 in
set_option maxRecDepth 100000 in
theorem law46_points (l : List (Int × Int × Int)) (hl : ∀ t ∈ l, ptOk t) (hn : l.length ≤ 1000) (v : Value) (w : World) (hL : LawM w) (hs : SliceOf vI 1 w v (fl3 l)) :
    Calls Tryz.prog 29 #[v] w fun e w' => ∃ ao cp, e = .returned (.slice ao l.length cp) ∧ SliceOf vPr 6 w' (.slice ao l.length cp) ((l.map ptQ).map encP) ∧ Below w.heap.size w w' := by
  have HL := hide hL
  have HS := hide hs
  have HOK := hide hl
  obtain ⟨ao, ca, rfl⟩ := hs.shape
  obtain ⟨i0, hi0, hz0, hzs, hzb⟩ := info_parts Tryz.infoPt
  have HF := hide (fl3_len l)
  have hnI : (l.length : Int) ≤ 1000 := by omega
  obtain ⟨m, hm⟩ : ∃ m, l.length = m := ⟨_, rfl⟩
  have HM := hide hm
  obtain ⟨n3, hn3⟩ : ∃ n, (fl3 l).length = n := ⟨_, rfl⟩
  have HN3 := hide hn3
  have hn3m : n3 = 3 * m := by rw [← hn3, HF.out, hm]
  have hn3I : (n3 : Int) = 3 * (m : Int) := by omega
  rw [hn3, hm]
  rw [hm] at hnI
  have hn3b : (n3 : Int) ≤ 3000 := by omega
  have HO0 : Hid (OwnS w w.heap.size 6 (.slice none 0 0) 0 (flatV vPr (((l.take 0).map ptQ).map encP))) := by show OwnS _ _ _ _ _ _; rw [List.take_zero]; exact OwnS.nil _ _ _
  have HB0 : Hid (Below w.heap.size w w) := Below.refl _ _
  have H3 := hide hn3I
  clear hL hs hl hm hn3 hn3m hn3I
  go_enter Tryz.func29, Tryz.ntmps29
  go_wp2_with fail
  go_loopw [3, 4] (fun u i wx => ∃ (k : Nat) (a : Option Addr) (c : Nat), k ≤ m ∧ u = .slice a k c ∧ i = .int .i64 ((3 * k : Nat) : Int) ∧ OwnS wx w.heap.size 6 (.slice a k c) k (flatV vPr (((l.take k).map ptQ).map encP)) ∧ Below w.heap.size w wx) (fun _ i _ => 3 * m - (intOf i).toNat)
  case atStart => exact ⟨0, none, 0, Nat.zero_le _, rfl, rfl, HO0.out, HB0.out⟩
  case round =>
    obtain ⟨k, a, c, hk, rfl, rfl, ho, hb⟩ := hrel
    have HO := hide ho
    have HB := hide hb
    clear ho hb HO0 HB0
    have h3 := H3.out
    by_cases hlt : k < m
    · obtain ⟨i, hi⟩ : ∃ i, 3 * k = i := ⟨_, rfl⟩
      have hadd2 : IntKind.i64.wrap ((i : Int) + 2) = (i : Int) + 2 := IntWalk.i64_in _ (by omega)
      have hadd1 : IntKind.i64.wrap ((i : Int) + 1) = (i : Int) + 1 := IntWalk.i64_in _ (by omega)
      have hadd3 : IntKind.i64.wrap ((i : Int) + 3) = (i : Int) + 3 := IntWalk.i64_in _ (by omega)
      have hc2 : (i : Int) + 2 < (n3 : Int) := by omega
      have hc1 : (i : Int) + 1 < (n3 : Int) := by omega
      have hc0 : (i : Int) < (n3 : Int) := by omega
      have hp0 : (0 : Int) ≤ (i : Int) := by omega
      have hp1 : (0 : Int) ≤ (i : Int) + 1 := by omega
      have hp2 : (0 : Int) ≤ (i : Int) + 2 := by omega
      have ht1 : ((i : Int) + 1).toNat = i + 1 := by omega
      have ht2 : ((i : Int) + 2).toNat = i + 2 := by omega
      have H3I : Hid ((i : Int) + 3 = ((3 * (k + 1) : Nat) : Int)) := by show _ = _; omega
      have hkl : k < l.length := by rw [HM.out]; exact hlt
      obtain ⟨e0, e1, e2⟩ := fl3_get l k hkl
      rw [hi] at e0 e1 e2 ⊢
      have HTK := hide (HOK.out l[k] (List.getElem_mem hkl))
      have HTS : Hid ((l.take (k + 1)).map ptQ = (l.take k).map ptQ ++ [ptQ l[k]]) := by show _ = _; rw [List.take_succ_eq_append_getElem hkl, List.map_append]; rfl
      have hcells : ∃ b o, ao = some ⟨b, o, none⟩ ∧ (n3 : Int) ≤ (ca : Int) ∧ (ca : Int) ≤ 9223372036854775807 ∧ ∀ W, Below w.heap.size w W → ∀ i z, (fl3 l)[i]? = some z → W.cell? ⟨b, o + i, none⟩ = some (.int .i64 z) := by
        have hs := HS.out
        obtain ⟨b, o, e, _, h1, h2, hc⟩ := SliceOf.at_ hs (by rw [HN3.out]; omega)
        refine ⟨b, o, e, by rw [HN3.out] at h1; omega, by unfold maxLen at h2; omega, fun W hW i z hi => ?_⟩
        obtain ⟨hil, hi⟩ := List.getElem?_eq_some_iff.1 hi
        have h3 := keep_cell hW (hc i hil 0 (.int .i64 z) (by rw [hi]; rfl))
        simpa using h3
      obtain ⟨b, o, rfl, g1, g2, hcell⟩ := hcells
      obtain ⟨t, ht⟩ : ∃ t, l[k] = t := ⟨_, rfl⟩
      rw [ht] at e0 e1 e2 HTK HTS
      have HSS : Hid (∀ W, Below w.heap.size w W → W.cell? ⟨b, o + i, none⟩ = some (.int .i64 t.1) ∧ W.cell? ⟨b, o + (i + 1), none⟩ = some (.int .i64 t.2.1) ∧ W.cell? ⟨b, o + (i + 2), none⟩ = some (.int .i64 t.2.2)) := fun W hW => ⟨hcell W hW _ _ e0, hcell W hW _ _ e1, hcell W hW _ _ e2⟩
      obtain ⟨x, hx⟩ : ∃ x, rqM (ofQ t.1 1) = x := ⟨_, rfl⟩
      obtain ⟨y, hy⟩ : ∃ y, rqM (ofQ t.2.1 t.2.2) = y := ⟨_, rfl⟩
      have HR1 : Hid (∀ W, Below w.heap.size w W → Calls Tryz.prog 23 #[.int .i64 t.1, .int .i64 1] W fun e w' => e = .returned (.agg #[.bool x.1, .string x.2.1, .string x.2.2]) ∧ Below W.heap.size W w') := fun W hW => by
        have := law46_rat (q := ofQ t.1 1) HTK.out.1 (by unfold inI64; omega) (by decide) rfl W (HL.out.below hW)
        rwa [hx] at this
      have HR2 : Hid (∀ W, Below w.heap.size w W → Calls Tryz.prog 23 #[.int .i64 t.2.1, .int .i64 t.2.2] W fun e w' => e = .returned (.agg #[.bool y.1, .string y.2.1, .string y.2.2]) ∧ Below W.heap.size W w') := fun W hW => by
        have := law46_rat (q := ofQ t.2.1 t.2.2) HTK.out.2.1 HTK.out.2.2.1 HTK.out.2.2.2 rfl W (HL.out.below hW)
        rwa [hy] at this
      have HXY : Hid (encP (ptQ t) = (x, y)) := by show (rqM (ofQ t.1 1), rqM (ofQ t.2.1 t.2.2)) = _; rw [hx, hy]
      have HI := hide hi
      clear hcell e0 e1 e2 ht hx hy h3 hi
      go_upto_region 5 with fail
      have mixed : Tryz.prog.follows .mixedOrders = true := by kernel_rfl
      obtain ⟨wd, hwd⟩ : ∃ W, wr.drew = W := ⟨_, rfl⟩
      have hbd : Below wr.heap.size wr wr.drew := bDraw (Below.refl _ wr)
      rw [hwd] at hbd
      have HBd := hide (HB.out.trans (hbd.mono HB.out.size))
      have HOd := hide (HO.out.below hbd)
      have hE0 := HSS.out _ HBd.out
      refine wp_region_noPanic ?_
      refine wp_region_held_drew (S := fun w' => w'.cell? ⟨b, o + i, none⟩ = some (.int .i64 t.1) ∧ w'.cell? ⟨b, o + (i + 1), none⟩ = some (.int .i64 t.2.1) ∧ w'.cell? ⟨b, o + (i + 2), none⟩ = some (.int .i64 t.2.2)) (by kernel_rfl) (by rw [hwd]; exact hE0) (fun hHeld => ?_)
      rw [hwd] at hHeld ⊢
      clear hwd hbd hE0 HB HO
      change wpAnyH _ _ _ _ _ 21 #[false, false, false, false, false, false, false, false, false, false, false, false, false, false, false, false, false, false, false, false, false] _ _
      refine wpAnyH_take (i := 0) (oi := _) (v := ?_) rfl (by kernel_rfl) (by kernel_rfl) (by kernel_rfl) (fun _ _ _ h => h) (Or.inl ⟨by rfl, ?_⟩) (by assumption) ?_
      rotate_left
      · intro w hSw
        (try dsimp only at hSw)
        go_simp
        try with_reducible rfl
      try simp only [List.getElem_toArray, List.getElem_cons_zero, List.getElem_cons_succ, List.get, Act.put, List.setIfInBounds_toArray, List.set_cons_zero, List.set_cons_succ]
      refine wpAnyH_take (i := 1) (oi := _) (v := ?_) rfl (by kernel_rfl) (by kernel_rfl) (by kernel_rfl) (fun _ _ _ h => h) (Or.inl ⟨by rfl, ?_⟩) (by assumption) ?_
      rotate_left
      · intro w hSw
        (try dsimp only at hSw)
        go_simp
        try with_reducible rfl
      try simp only [List.getElem_toArray, List.getElem_cons_zero, List.getElem_cons_succ, List.get, Act.put, List.setIfInBounds_toArray, List.set_cons_zero, List.set_cons_succ]
      refine wpAnyH_take (i := 2) (oi := _) (v := ?_) rfl (by kernel_rfl) (by kernel_rfl) (by kernel_rfl) (fun _ _ _ h => h) (Or.inl ⟨by rfl, ?_⟩) (by assumption) ?_
      rotate_left
      · intro w hSw
        (try dsimp only at hSw)
        go_simp
        try with_reducible rfl
      try simp only [List.getElem_toArray, List.getElem_cons_zero, List.getElem_cons_succ, List.get, Act.put, List.setIfInBounds_toArray, List.set_cons_zero, List.set_cons_succ]
      refine wpAnyH_take (i := 3) (oi := _) (v := ?_) rfl (by kernel_rfl) (by kernel_rfl) (by kernel_rfl) (fun _ _ _ h => h) (Or.inl ⟨by rfl, ?_⟩) (by assumption) ?_
      rotate_left
      · intro w hSw
        (try dsimp only at hSw)
        go_simp
        try with_reducible rfl
      try simp only [List.getElem_toArray, List.getElem_cons_zero, List.getElem_cons_succ, List.get, Act.put, List.setIfInBounds_toArray, List.set_cons_zero, List.set_cons_succ]
      refine wpAnyH_take (i := 4) (oi := _) (v := ?_) rfl (by kernel_rfl) (by kernel_rfl) (by kernel_rfl) (fun _ _ _ h => h) (Or.inl ⟨by rfl, ?_⟩) (by assumption) ?_
      rotate_left
      · intro w hSw
        (try dsimp only at hSw)
        go_simp
        try with_reducible rfl
      try simp only [List.getElem_toArray, List.getElem_cons_zero, List.getElem_cons_succ, List.get, Act.put, List.setIfInBounds_toArray, List.set_cons_zero, List.set_cons_succ]
      refine wpAnyH_take (i := 6) (oi := _) (v := ?_) rfl (by kernel_rfl) (by kernel_rfl) (by kernel_rfl) (fun _ _ _ h => h) (Or.inl ⟨by rfl, ?_⟩) (by assumption) ?_
      rotate_left
      · intro w hSw
        (try dsimp only at hSw)
        go_simp
        try with_reducible rfl
      try simp only [List.getElem_toArray, List.getElem_cons_zero, List.getElem_cons_succ, List.get, Act.put, List.setIfInBounds_toArray, List.set_cons_zero, List.set_cons_succ]
      refine wpAnyH_take (i := 7) (oi := _) (v := ?_) rfl (by kernel_rfl) (by kernel_rfl) (by kernel_rfl) (fun _ _ _ h => h) (Or.inl ⟨by rfl, ?_⟩) (by assumption) ?_
      rotate_left
      · intro w hSw
        (try dsimp only at hSw)
        go_simp
        try with_reducible rfl
      try simp only [List.getElem_toArray, List.getElem_cons_zero, List.getElem_cons_succ, List.get, Act.put, List.setIfInBounds_toArray, List.set_cons_zero, List.set_cons_succ]
      refine wpAnyH_take (i := 8) (oi := _) (v := ?_) rfl (by kernel_rfl) (by kernel_rfl) (by kernel_rfl) (fun _ _ _ h => h) (Or.inl ⟨by rfl, ?_⟩) (by assumption) ?_
      rotate_left
      · intro w hSw
        (try dsimp only at hSw)
        go_simp
        try with_reducible rfl
      try simp only [List.getElem_toArray, List.getElem_cons_zero, List.getElem_cons_succ, List.get, Act.put, List.setIfInBounds_toArray, List.set_cons_zero, List.set_cons_succ]
      refine wpAnyH_take (i := 9) (oi := _) (v := ?_) rfl (by kernel_rfl) (by kernel_rfl) (by kernel_rfl) (fun _ _ _ h => h) (Or.inl ⟨by rfl, ?_⟩) (by assumption) ?_
      rotate_left
      · intro w hSw
        (try dsimp only at hSw)
        go_simp
        try with_reducible rfl
      try simp only [List.getElem_toArray, List.getElem_cons_zero, List.getElem_cons_succ, List.get, Act.put, List.setIfInBounds_toArray, List.set_cons_zero, List.set_cons_succ]
      refine wpAnyH_take (i := 10) (oi := _) (v := ?_) rfl (by kernel_rfl) (by kernel_rfl) (by kernel_rfl) (fun _ _ _ h => h) (Or.inl ⟨by rfl, ?_⟩) (by assumption) ?_
      rotate_left
      · intro w hSw
        (try dsimp only at hSw)
        go_simp
        try with_reducible rfl
      try simp only [List.getElem_toArray, List.getElem_cons_zero, List.getElem_cons_succ, List.get, Act.put, List.setIfInBounds_toArray, List.set_cons_zero, List.set_cons_succ]
      refine wpAnyH_take (i := 11) (oi := _) (v := ?_) rfl (by kernel_rfl) (by kernel_rfl) (by kernel_rfl) (fun _ _ _ h => h) (Or.inl ⟨by rfl, ?_⟩) (by assumption) ?_
      rotate_left
      · intro w hSw
        (try dsimp only at hSw)
        go_simp
        try with_reducible rfl
      try simp only [List.getElem_toArray, List.getElem_cons_zero, List.getElem_cons_succ, List.get, Act.put, List.setIfInBounds_toArray, List.set_cons_zero, List.set_cons_succ]
      refine wpAnyH_take (i := 12) (oi := _) (v := ?_) rfl (by kernel_rfl) (by kernel_rfl) (by kernel_rfl) (fun _ _ _ h => h) (Or.inl ⟨by rfl, ?_⟩) (by assumption) ?_
      rotate_left
      · intro w hSw
        (try dsimp only at hSw)
        go_simp
        try with_reducible rfl
      try simp only [List.getElem_toArray, List.getElem_cons_zero, List.getElem_cons_succ, List.get, Act.put, List.setIfInBounds_toArray, List.set_cons_zero, List.set_cons_succ]
      refine wpAnyH_take (i := 13) (oi := _) (v := ?_) rfl (by kernel_rfl) (by kernel_rfl) (by kernel_rfl) (fun _ _ _ h => h) (Or.inl ⟨by rfl, ?_⟩) (by assumption) ?_
      rotate_left
      · intro w hSw
        (try dsimp only at hSw)
        go_simp
        try with_reducible rfl
      try simp only [List.getElem_toArray, List.getElem_cons_zero, List.getElem_cons_succ, List.get, Act.put, List.setIfInBounds_toArray, List.set_cons_zero, List.set_cons_succ]
      refine wpAnyH_take (i := 14) (oi := _) (v := ?_) rfl (by kernel_rfl) (by kernel_rfl) (by kernel_rfl) (fun _ _ _ h => h) (Or.inl ⟨by rfl, ?_⟩) (by assumption) ?_
      rotate_left
      · intro w hSw
        (try dsimp only at hSw)
        go_simp
        try with_reducible rfl
      try simp only [List.getElem_toArray, List.getElem_cons_zero, List.getElem_cons_succ, List.get, Act.put, List.setIfInBounds_toArray, List.set_cons_zero, List.set_cons_succ]
      refine wpAnyH_take (i := 15) (oi := _) (v := ?_) rfl (by kernel_rfl) (by kernel_rfl) (by kernel_rfl) (fun _ _ _ h => h) (Or.inl ⟨by rfl, ?_⟩) (by assumption) ?_
      rotate_left
      · intro w hSw
        (try dsimp only at hSw)
        go_simp
        try with_reducible rfl
      try simp only [List.getElem_toArray, List.getElem_cons_zero, List.getElem_cons_succ, List.get, Act.put, List.setIfInBounds_toArray, List.set_cons_zero, List.set_cons_succ]
      refine wpAnyH_ready (rs := [5]) (by kernel_rfl) (by simp) ?_
      refine AllReadyH.cons (o := _) rfl (fun K hK => ?_) AllReadyH.nil
      go_simp
      refine (HR1.out _ HBd.out).mono ?_
      rintro e w1 ⟨rfl, hb⟩
      have HB1 := hide (bStepM HBd.out hb)
      have HO1 := hide (HOd.out.below hb)
      clear hb
      refine hK.out _ _ (HSS.out _ HB1.out) (fun hHeld => ?_)
      clear hK K
      try simp only [List.getElem_toArray, List.getElem_cons_zero, List.getElem_cons_succ, List.get, Act.put, List.setIfInBounds_toArray, List.set_cons_zero, List.set_cons_succ]
      refine wpAnyH_ready (rs := [16]) (by kernel_rfl) (by simp) ?_
      refine AllReadyH.cons (o := _) rfl (fun K hK => ?_) AllReadyH.nil
      go_simp
      refine (HR2.out _ HB1.out).mono ?_
      rintro e w2 ⟨rfl, hb⟩
      have HB2 := hide (bStepM HB1.out hb)
      have HO2 := hide (HO1.out.below hb)
      clear hb
      refine hK.out _ _ (HSS.out _ HB2.out) (fun hHeld => ?_)
      clear hK K
      try simp only [List.getElem_toArray, List.getElem_cons_zero, List.getElem_cons_succ, List.get, Act.put, List.setIfInBounds_toArray, List.set_cons_zero, List.set_cons_succ]
      refine wpAnyH_take (i := 17) (oi := _) (v := ?_) rfl (by kernel_rfl) (by kernel_rfl) (by kernel_rfl) (fun _ _ _ h => h) (Or.inl ⟨by rfl, ?_⟩) (by assumption) ?_
      rotate_left
      · intro w hSw
        (try dsimp only at hSw)
        go_simp
        try with_reducible rfl
      try simp only [List.getElem_toArray, List.getElem_cons_zero, List.getElem_cons_succ, List.get, Act.put, List.setIfInBounds_toArray, List.set_cons_zero, List.set_cons_succ]
      refine wpAnyH_ready (rs := [18]) (by kernel_rfl) (by simp) ?_
      refine AllReadyH.cons (o := _) rfl (fun K hK => ?_) AllReadyH.nil
      have hba := bAlloc (Below.refl w2.heap.size w2) (.cells #[.bool x.1, .string x.2.1, .string x.2.2, .bool y.1, .string y.2.1, .string y.2.2] 41)
      have HB3 := hide (HB2.out.trans (hba.mono HB2.out.size))
      have HO3 := hide (HO2.out.below hba)
      have HX3 : Hid (SliceOf vPr 6 (w2.alloc (.cells #[.bool x.1, .string x.2.1, .string x.2.2, .bool y.1, .string y.2.1, .string y.2.2] 41)) (.slice (some ⟨w2.heap.size, 0, none⟩) 1 1) [(x, y)]) := LitP.slice ⟨_, World.alloc_heap_new w2 _⟩
      clear hba
      go_simp
      refine hK.out _ _ (HSS.out _ HB3.out) (fun hHeld => ?_)
      clear hK K
      try simp only [List.getElem_toArray, List.getElem_cons_zero, List.getElem_cons_succ, List.get, Act.put, List.setIfInBounds_toArray, List.set_cons_zero, List.set_cons_succ]
      refine wpAnyH_ready (rs := [19]) (by kernel_rfl) (by simp) ?_
      refine AllReadyH.cons (o := _) rfl (fun K hK => ?_) AllReadyH.nil
      refine step_append_slice rfl _ _ 22 rfl w.heap.size 41 i0 _ 6 80 Tryz.underlying22 hi0 hz0 hzs hzb rfl (by decide) vPr_len vPr_one (.slice a k c) k _ rfl HO3.out _ [(x, y)] rfl HX3.out (by show k + 1 ≤ maxLen; unfold maxLen; omega) (by show (k + 1) * 80 ≤ _; omega) HB3.out.size ?_
      intro ao' cap' w4 r1 r2
      have HB4 : Hid (Below w.heap.size w w4) := HB3.out.grown r2 HB3.out.size (fun j hj => (HO3.out.lt j hj).1)
      have HO4 : Hid (OwnS w4 w.heap.size 6 (.slice ao' (k + 1) cap') (k + 1) (flatV vPr (((l.take (k + 1)).map ptQ).map encP))) := by
        show OwnS _ _ _ _ _ _
        rw [HTS.out, List.map_append, flatV_append, List.map_cons, List.map_nil, HXY.out]
        exact r1
      clear r1 r2
      refine hK.out _ _ (HSS.out _ HB4.out) (fun hHeld => ?_)
      clear hK K
      try simp only [List.getElem_toArray, List.getElem_cons_zero, List.getElem_cons_succ, List.get, Act.put, List.setIfInBounds_toArray, List.set_cons_zero, List.set_cons_succ]
      refine wpAnyH_take (i := 20) (oi := _) (v := ?_) rfl (by kernel_rfl) (by kernel_rfl) (by kernel_rfl) (fun _ _ _ h => h) (Or.inl ⟨by rfl, ?_⟩) (by assumption) ?_
      rotate_left
      · intro w hSw
        (try dsimp only at hSw)
        go_simp
        try with_reducible rfl
      try simp only [List.getElem_toArray, List.getElem_cons_zero, List.getElem_cons_succ, List.get, Act.put, List.setIfInBounds_toArray, List.set_cons_zero, List.set_cons_succ]
      refine wpAnyH_done (by kernel_rfl) ?_ _
      refine NoPanic.normal ?_
      clear hHeld
      have h3i := H3I.out
      go_wp2_with fail
      refine ⟨?_, ?measure⟩
      case measure => (have := HI.out; simp [intOf]; try omega)
      exact ⟨k + 1, ao', cap', by omega, rfl, by first | (congr 1; done) | (congr 1; omega), HO4.out, HB4.out⟩
    · have hkm : k = m := by omega
      subst hkm
      have hge : ¬ (((3 * k : Nat) : Int) + 2 < (n3 : Int)) := by omega
      obtain ⟨i, hi⟩ : ∃ i, 3 * k = i := ⟨_, rfl⟩
      have HTk : Hid (l.take k = l) := List.take_of_length_le (by rw [HM.out]; exact Nat.le_refl _)
      rw [HTk.out] at HO
      have HSL : Hid (SliceOf vPr 6 wr (.slice a k c) ((l.map ptQ).map encP)) := by
        have h1 := HO.out
        refine OwnS.slice (B := w.heap.size) vPr_len ?_
        rw [List.length_map, List.length_map, HM.out]
        exact h1
      rw [hi] at hge ⊢
      have hadd2 : IntKind.i64.wrap ((i : Int) + 2) = (i : Int) + 2 := IntWalk.i64_in _ (by omega)
      clear hi h3
      go_wp2_with fail
      go_ret
      exact ⟨a, c, rfl, by first | exact HSL.out | (have h := HSL.out; rwa [List.map_map] at h), HB.out⟩
end Go.Proofs.YtblpnekjnaaeoaaGreatDoor
namespace Go.Proofs.YtblpnekjnaaeoaaGreatDoor
open Go.RowKit

theorem tl_inj {s t : ByteArray} (h : s.toList = t.toList) : s = t := by
  by_cases e : s = t
  · exact e
  · have := str_ne e (ByteArray.toList_eq t).symm
    simp [h] at this
set_option maxHeartbeats 4000000 in
set_option maxRecDepth 100000 in
theorem law46_same (Ma Mb : List (T3 × T3)) (va vb : Value) (w : World) (ha : SliceOf vPr 6 w va Ma) (hb : SliceOf vPr 6 w vb Mb) (hna : Ma.length ≤ 1000000) (hnb : Mb.length ≤ 1000000) :
    Calls Tryz.prog 22 #[va, vb] w fun e w' => e = .returned (.bool (decide (Ma = Mb))) ∧ Below w.heap.size w w' := by
  have HA := hide ha
  have HB := hide hb
  obtain ⟨ao, ca, rfl⟩ := ha.shape
  obtain ⟨bo, cb, rfl⟩ := hb.shape
  have hnI : (Ma.length : Int) ≤ 1000000 := by omega
  have hB0 : Below w.heap.size w w := Below.refl _ _
  have HB0 := hide hB0
  by_cases hl : Ma.length = Mb.length
  · obtain ⟨n, hn⟩ : ∃ n, Mb.length = n := ⟨_, rfl⟩
    have HNB := hide hn
    have HNA : Hid (Ma.length = n) := hl.trans hn
    rw [HNA.out] at hnI ⊢
    rw [hn]
    clear ha hb hl hn hna hnb hB0
    go_enter Tryz.func22, Tryz.ntmps22
    go_wp2_with fail
    go_loopw [5] (fun i wx => ∃ k : Nat, k ≤ n ∧ i = .int .i64 (k : Int) ∧ Ma.take k = Mb.take k ∧ Below w.heap.size w wx) (fun i _ => n - (intOf i).toNat)
    case atStart => exact ⟨0, Nat.zero_le _, rfl, rfl, HB0.out⟩
    case round =>
      obtain ⟨k, hk, rfl, htk, hbl⟩ := hrel
      have HTK := hide htk
      have HBL := hide hbl
      clear htk hbl HB0
      by_cases hlt : k < n
      · have hkI : (k : Int) < (n : Int) := by omega
        have hk0 : (0 : Int) ≤ (k : Int) := by omega
        have ka : k < Ma.length := by rw [HNA.out]; exact hlt
        have kb : k < Mb.length := by rw [HNB.out]; exact hlt
        have HA' : Hid (SliceOf vPr 6 w (.slice ao Ma.length ca) Ma) := HA.out
        have HB' : Hid (SliceOf vPr 6 w (.slice bo Mb.length cb) Mb) := HB.out
        obtain ⟨b1, o1, rfl, g1, g2, h1⟩ := HA'.out.ptAt HBL.out ka
        obtain ⟨b2, o2, rfl, g3, g4, h2⟩ := HB'.out.ptAt HBL.out kb
        rw [HNA.out] at g1
        rw [HNB.out] at g3
        have HST : Hid (Ma[k] = Mb[k] → Ma.take (k + 1) = Mb.take (k + 1)) := fun h => by
          rw [List.take_succ_eq_append_getElem ka, List.take_succ_eq_append_getElem kb, HTK.out, h]
        have HNE : Hid (Ma[k] ≠ Mb[k] → decide (Ma = Mb) = false) := fun h => decide_eq_false (fun e => h (by subst e; rfl))
        obtain ⟨p, hp⟩ : ∃ p, Ma[k] = p := ⟨_, rfl⟩
        obtain ⟨q, hq⟩ : ∃ q, Mb[k] = q := ⟨_, rfl⟩
        rw [hp] at h1 HST HNE
        rw [hq] at h2 HST HNE
        obtain ⟨x0, x1, x2, x3, x4, x5⟩ := h1
        obtain ⟨y0, y1, y2, y3, y4, y5⟩ := h2
        clear hp hq
        go_upto_region 6 with fail
        -- REGION
        have mixed : Tryz.prog.follows .mixedOrders = true := by kernel_rfl
        have HBd : Hid (Below w.heap.size w wr.drew) := HBL.out.trans ((bDraw (Below.refl _ wr)).mono HBL.out.size)
        by_cases hpq : p = q
        · subst hpq
          have HS1 := hide (HST.out rfl)
          refine wp_region_noPanic ?_
          refine wp_region_held_drew (S := (fun w' => w'.cell? ⟨b1, o1 + k * 6, none⟩ = some (.bool p.1.1) ∧ w'.cell? ⟨b1, o1 + k * 6 + 1, none⟩ = some (.string p.1.2.1) ∧ w'.cell? ⟨b1, o1 + k * 6 + 2, none⟩ = some (.string p.1.2.2) ∧ w'.cell? ⟨b1, o1 + k * 6 + 3, none⟩ = some (.bool p.2.1) ∧ w'.cell? ⟨b1, o1 + k * 6 + 4, none⟩ = some (.string p.2.2.1) ∧ w'.cell? ⟨b1, o1 + k * 6 + 5, none⟩ = some (.string p.2.2.2) ∧ w'.cell? ⟨b2, o2 + k * 6, none⟩ = some (.bool p.1.1) ∧ w'.cell? ⟨b2, o2 + k * 6 + 1, none⟩ = some (.string p.1.2.1) ∧ w'.cell? ⟨b2, o2 + k * 6 + 2, none⟩ = some (.string p.1.2.2) ∧ w'.cell? ⟨b2, o2 + k * 6 + 3, none⟩ = some (.bool p.2.1) ∧ w'.cell? ⟨b2, o2 + k * 6 + 4, none⟩ = some (.string p.2.2.1) ∧ w'.cell? ⟨b2, o2 + k * 6 + 5, none⟩ = some (.string p.2.2.2))) (by kernel_rfl) (⟨x0, x1, x2, x3, x4, x5, y0, y1, y2, y3, y4, y5⟩) (fun hHeld => ?_)
          change wpAnyH _ _ _ _ _ 9 #[false, false, false, false, false, false, false, false, false] _ _
          refine wpAnyH_take (i := 0) (oi := _) (v := ?_) rfl (by kernel_rfl) (by kernel_rfl) (by kernel_rfl) (fun _ _ _ h => h) (Or.inl ⟨by rfl, ?_⟩) (by assumption) ?_
          rotate_left
          · intro w hSw
            (try dsimp only at hSw)
            go_simp
            try with_reducible rfl
          try simp only [List.getElem_toArray, List.getElem_cons_zero, List.getElem_cons_succ, List.get, Act.put, List.setIfInBounds_toArray, List.set_cons_zero, List.set_cons_succ]
          refine wpAnyH_take (i := 1) (oi := _) (v := ?_) rfl (by kernel_rfl) (by kernel_rfl) (by kernel_rfl) (fun _ _ _ h => h) (Or.inl ⟨by rfl, ?_⟩) (by assumption) ?_
          rotate_left
          · intro w hSw
            (try dsimp only at hSw)
            go_simp
            try with_reducible rfl
          try simp only [List.getElem_toArray, List.getElem_cons_zero, List.getElem_cons_succ, List.get, Act.put, List.setIfInBounds_toArray, List.set_cons_zero, List.set_cons_succ]
          refine wpAnyH_take (i := 2) (oi := _) (v := ?_) rfl (by kernel_rfl) (by kernel_rfl) (by kernel_rfl) (fun _ _ _ h => h) (Or.inl ⟨by rfl, ?_⟩) (by assumption) ?_
          rotate_left
          · intro w hSw
            (try dsimp only at hSw)
            go_simp
            try with_reducible rfl
          try simp only [List.getElem_toArray, List.getElem_cons_zero, List.getElem_cons_succ, List.get, Act.put, List.setIfInBounds_toArray, List.set_cons_zero, List.set_cons_succ]
          refine wpAnyH_take (i := 3) (oi := _) (v := ?_) rfl (by kernel_rfl) (by kernel_rfl) (by kernel_rfl) (fun _ _ _ h => h) (Or.inl ⟨by rfl, ?_⟩) (by assumption) ?_
          rotate_left
          · intro w hSw
            (try dsimp only at hSw)
            go_simp
            try with_reducible rfl
          try simp only [List.getElem_toArray, List.getElem_cons_zero, List.getElem_cons_succ, List.get, Act.put, List.setIfInBounds_toArray, List.set_cons_zero, List.set_cons_succ]
          refine wpAnyH_take (i := 4) (oi := _) (v := ?_) rfl (by kernel_rfl) (by kernel_rfl) (by kernel_rfl) (fun _ _ _ h => h) (Or.inl ⟨by rfl, ?_⟩) (by assumption) ?_
          rotate_left
          · intro w hSw
            (try dsimp only at hSw)
            go_simp
            try with_reducible rfl
          try simp only [List.getElem_toArray, List.getElem_cons_zero, List.getElem_cons_succ, List.get, Act.put, List.setIfInBounds_toArray, List.set_cons_zero, List.set_cons_succ]
          refine wpAnyH_take (i := 5) (oi := _) (v := ?_) rfl (by kernel_rfl) (by kernel_rfl) (by kernel_rfl) (fun _ _ _ h => h) (Or.inl ⟨by rfl, ?_⟩) (by assumption) ?_
          rotate_left
          · intro w hSw
            (try dsimp only at hSw)
            go_simp
            try with_reducible rfl
          try simp only [List.getElem_toArray, List.getElem_cons_zero, List.getElem_cons_succ, List.get, Act.put, List.setIfInBounds_toArray, List.set_cons_zero, List.set_cons_succ]
          refine wpAnyH_take (i := 6) (oi := _) (v := ?_) rfl (by kernel_rfl) (by kernel_rfl) (by kernel_rfl) (fun _ _ _ h => h) (Or.inl ⟨by rfl, ?_⟩) (by assumption) ?_
          rotate_left
          · intro w hSw
            (try dsimp only at hSw)
            go_simp
            try with_reducible rfl
          try simp only [List.getElem_toArray, List.getElem_cons_zero, List.getElem_cons_succ, List.get, Act.put, List.setIfInBounds_toArray, List.set_cons_zero, List.set_cons_succ]
          refine wpAnyH_take (i := 7) (oi := _) (v := ?_) rfl (by kernel_rfl) (by kernel_rfl) (by kernel_rfl) (fun _ _ _ h => h) (Or.inl ⟨by rfl, ?_⟩) (by assumption) ?_
          rotate_left
          · intro w hSw
            (try dsimp only at hSw)
            go_simp
            try with_reducible rfl
          try simp only [List.getElem_toArray, List.getElem_cons_zero, List.getElem_cons_succ, List.get, Act.put, List.setIfInBounds_toArray, List.set_cons_zero, List.set_cons_succ]
          refine wpAnyH_take (i := 8) (oi := _) (v := ?_) rfl (by kernel_rfl) (by kernel_rfl) (by kernel_rfl) (fun _ _ _ h => h) (Or.inl ⟨by rfl, ?_⟩) (by assumption) ?_
          rotate_left
          · intro w hSw
            (try dsimp only at hSw)
            go_simp
            try with_reducible rfl
          try simp only [List.getElem_toArray, List.getElem_cons_zero, List.getElem_cons_succ, List.get, Act.put, List.setIfInBounds_toArray, List.set_cons_zero, List.set_cons_succ]
          refine wpAnyH_done (by kernel_rfl) ?_ _
          refine NoPanic.normal ?_
          go_wp2_with fail
          refine ⟨?_, ?measure⟩
          case measure => (simp [intOf]; try omega)
          first
            | exact ⟨k + 1, by omega, by go_num, HS1.out, HBd.out⟩
            | ((repeat apply Exists.intro); refine ⟨?rel, rfl⟩; case rel => exact ⟨k + 1, by omega, by go_num, HS1.out, HBd.out⟩)
        · have HF := hide (HNE.out hpq)
          refine wp_region_noPanic ?_
          refine wp_region_held_drew (S := (fun w' => w'.cell? ⟨b1, o1 + k * 6, none⟩ = some (.bool p.1.1) ∧ w'.cell? ⟨b1, o1 + k * 6 + 1, none⟩ = some (.string p.1.2.1) ∧ w'.cell? ⟨b1, o1 + k * 6 + 2, none⟩ = some (.string p.1.2.2) ∧ w'.cell? ⟨b1, o1 + k * 6 + 3, none⟩ = some (.bool p.2.1) ∧ w'.cell? ⟨b1, o1 + k * 6 + 4, none⟩ = some (.string p.2.2.1) ∧ w'.cell? ⟨b1, o1 + k * 6 + 5, none⟩ = some (.string p.2.2.2) ∧ w'.cell? ⟨b2, o2 + k * 6, none⟩ = some (.bool q.1.1) ∧ w'.cell? ⟨b2, o2 + k * 6 + 1, none⟩ = some (.string q.1.2.1) ∧ w'.cell? ⟨b2, o2 + k * 6 + 2, none⟩ = some (.string q.1.2.2) ∧ w'.cell? ⟨b2, o2 + k * 6 + 3, none⟩ = some (.bool q.2.1) ∧ w'.cell? ⟨b2, o2 + k * 6 + 4, none⟩ = some (.string q.2.2.1) ∧ w'.cell? ⟨b2, o2 + k * 6 + 5, none⟩ = some (.string q.2.2.2))) (by kernel_rfl) (⟨x0, x1, x2, x3, x4, x5, y0, y1, y2, y3, y4, y5⟩) (fun hHeld => ?_)
          change wpAnyH _ _ _ _ _ 9 #[false, false, false, false, false, false, false, false, false] _ _
          refine wpAnyH_take (i := 0) (oi := _) (v := ?_) rfl (by kernel_rfl) (by kernel_rfl) (by kernel_rfl) (fun _ _ _ h => h) (Or.inl ⟨by rfl, ?_⟩) (by assumption) ?_
          rotate_left
          · intro w hSw
            (try dsimp only at hSw)
            go_simp
            try with_reducible rfl
          try simp only [List.getElem_toArray, List.getElem_cons_zero, List.getElem_cons_succ, List.get, Act.put, List.setIfInBounds_toArray, List.set_cons_zero, List.set_cons_succ]
          refine wpAnyH_take (i := 1) (oi := _) (v := ?_) rfl (by kernel_rfl) (by kernel_rfl) (by kernel_rfl) (fun _ _ _ h => h) (Or.inl ⟨by rfl, ?_⟩) (by assumption) ?_
          rotate_left
          · intro w hSw
            (try dsimp only at hSw)
            go_simp
            try with_reducible rfl
          try simp only [List.getElem_toArray, List.getElem_cons_zero, List.getElem_cons_succ, List.get, Act.put, List.setIfInBounds_toArray, List.set_cons_zero, List.set_cons_succ]
          refine wpAnyH_take (i := 2) (oi := _) (v := ?_) rfl (by kernel_rfl) (by kernel_rfl) (by kernel_rfl) (fun _ _ _ h => h) (Or.inl ⟨by rfl, ?_⟩) (by assumption) ?_
          rotate_left
          · intro w hSw
            (try dsimp only at hSw)
            go_simp
            try with_reducible rfl
          try simp only [List.getElem_toArray, List.getElem_cons_zero, List.getElem_cons_succ, List.get, Act.put, List.setIfInBounds_toArray, List.set_cons_zero, List.set_cons_succ]
          refine wpAnyH_take (i := 3) (oi := _) (v := ?_) rfl (by kernel_rfl) (by kernel_rfl) (by kernel_rfl) (fun _ _ _ h => h) (Or.inl ⟨by rfl, ?_⟩) (by assumption) ?_
          rotate_left
          · intro w hSw
            (try dsimp only at hSw)
            go_simp
            try with_reducible rfl
          try simp only [List.getElem_toArray, List.getElem_cons_zero, List.getElem_cons_succ, List.get, Act.put, List.setIfInBounds_toArray, List.set_cons_zero, List.set_cons_succ]
          refine wpAnyH_take (i := 4) (oi := _) (v := ?_) rfl (by kernel_rfl) (by kernel_rfl) (by kernel_rfl) (fun _ _ _ h => h) (Or.inl ⟨by rfl, ?_⟩) (by assumption) ?_
          rotate_left
          · intro w hSw
            (try dsimp only at hSw)
            go_simp
            try with_reducible rfl
          try simp only [List.getElem_toArray, List.getElem_cons_zero, List.getElem_cons_succ, List.get, Act.put, List.setIfInBounds_toArray, List.set_cons_zero, List.set_cons_succ]
          refine wpAnyH_take (i := 5) (oi := _) (v := ?_) rfl (by kernel_rfl) (by kernel_rfl) (by kernel_rfl) (fun _ _ _ h => h) (Or.inl ⟨by rfl, ?_⟩) (by assumption) ?_
          rotate_left
          · intro w hSw
            (try dsimp only at hSw)
            go_simp
            try with_reducible rfl
          try simp only [List.getElem_toArray, List.getElem_cons_zero, List.getElem_cons_succ, List.get, Act.put, List.setIfInBounds_toArray, List.set_cons_zero, List.set_cons_succ]
          refine wpAnyH_take (i := 6) (oi := _) (v := ?_) rfl (by kernel_rfl) (by kernel_rfl) (by kernel_rfl) (fun _ _ _ h => h) (Or.inl ⟨by rfl, ?_⟩) (by assumption) ?_
          rotate_left
          · intro w hSw
            (try dsimp only at hSw)
            go_simp
            try with_reducible rfl
          try simp only [List.getElem_toArray, List.getElem_cons_zero, List.getElem_cons_succ, List.get, Act.put, List.setIfInBounds_toArray, List.set_cons_zero, List.set_cons_succ]
          refine wpAnyH_take (i := 7) (oi := _) (v := ?_) rfl (by kernel_rfl) (by kernel_rfl) (by kernel_rfl) (fun _ _ _ h => h) (Or.inl ⟨by rfl, ?_⟩) (by assumption) ?_
          rotate_left
          · intro w hSw
            (try dsimp only at hSw)
            go_simp
            try with_reducible rfl
          try simp only [List.getElem_toArray, List.getElem_cons_zero, List.getElem_cons_succ, List.get, Act.put, List.setIfInBounds_toArray, List.set_cons_zero, List.set_cons_succ]
          refine wpAnyH_take (i := 8) (oi := _) (v := .bool true) rfl (by kernel_rfl) (by kernel_rfl) (by kernel_rfl) (fun _ _ _ h => h) (Or.inl ⟨by rfl, ?_⟩) (by assumption) ?_
          · intro w hSw
            (try dsimp only at hSw)
            go_simp
            exact fun h1 h2 h3 h4 h5 h6 => hpq (Prod.ext (Prod.ext h1 (Prod.ext (tl_inj h2) (tl_inj h3))) (Prod.ext h4 (Prod.ext (tl_inj h5) (tl_inj h6))))
          try simp only [List.getElem_toArray, List.getElem_cons_zero, List.getElem_cons_succ, List.get, Act.put, List.setIfInBounds_toArray, List.set_cons_zero, List.set_cons_succ]
          refine wpAnyH_done (by kernel_rfl) ?_ _
          refine NoPanic.normal ?_
          go_wp2_with fail
          go_ret
          exact ⟨by first | (rw [HF.out]; done) | (rw [HF.out]; rfl) | (rw [HF.out]; simp; done), HBd.out⟩
      · have hkn : k = n := by omega
        subst hkn
        have HEQ : Hid (decide (Ma = Mb) = true) := decide_eq_true (by
          have := HTK.out
          rwa [List.take_of_length_le (by rw [HNA.out]; exact Nat.le_refl _), List.take_of_length_le (by rw [HNB.out]; exact Nat.le_refl _)] at this)
        go_wp2_with fail
        go_ret
        exact ⟨by first | (rw [HEQ.out]; done) | (rw [HEQ.out]; rfl) | (rw [HEQ.out]; simp; done), HBL.out⟩
  · have HF : Hid (decide (Ma = Mb) = false) := decide_eq_false (fun e => hl (by rw [e]))
    obtain ⟨na, hna'⟩ : ∃ n, Ma.length = n := ⟨_, rfl⟩
    obtain ⟨nb, hnb'⟩ : ∃ n, Mb.length = n := ⟨_, rfl⟩
    rw [hna'] at hl ⊢
    rw [hnb'] at hl ⊢
    have hlI : ¬ ((na : Int) = (nb : Int)) := by omega
    clear ha hb hna hnb hB0 hna' hnb' hnI
    go_enter Tryz.func22, Tryz.ntmps22
    go_wp2_with fail
    go_ret
    exact ⟨by first | (rw [HF.out]; done) | (rw [HF.out]; rfl) | (rw [HF.out]; simp; done), HB0.out⟩
end Go.Proofs.YtblpnekjnaaeoaaGreatDoor
namespace Go.Proofs.YtblpnekjnaaeoaaGreatDoor
open Go.RowKit

theorem two_rats (W : World) (x y : T3) (T : TypeId) : SliceOf vQ 3 (W.alloc (.cells #[.bool x.1, .string x.2.1, .string x.2.2, .bool y.1, .string y.2.1, .string y.2.2] T)) (.slice (some ⟨W.heap.size, 0, none⟩) 2 2) [x, y] := by
  refine .inr ⟨W.heap.size, 0, 2, rfl, by simp, Nat.le_refl 2, by unfold maxLen; omega, fun i hi j u hu => ?_⟩
  have hi2 : i < 2 := hi
  rw [World.cell?_alloc_new]
  match i, hi2 with
  | 0, _ =>
    have hj : j < 3 := (List.getElem?_eq_some_iff.1 hu).1
    match j, hj with
    | 0, _ => simpa [vQ] using hu
    | 1, _ => simpa [vQ] using hu
    | 2, _ => simpa [vQ] using hu
  | 1, _ =>
    have hj : j < 3 := (List.getElem?_eq_some_iff.1 hu).1
    match j, hj with
    | 0, _ => simpa [vQ] using hu
    | 1, _ => simpa [vQ] using hu
    | 2, _ => simpa [vQ] using hu
def smallP (x : T3 × T3) : Bool := fewQ 20 [x.1, x.2]
def fewM (M : List (T3 × T3)) : Bool := decide (M.length ≤ 5) && M.all smallP
theorem fewM_iff {M : List (T3 × T3)} : fewM M = true ↔ M.length ≤ 5 ∧ ∀ x ∈ M, smallP x = true := by
  unfold fewM
  simp [List.all_eq_true]
set_option maxHeartbeats 4000000 in
set_option maxRecDepth 100000 in
theorem law46_Few (M : List (T3 × T3)) (v : Value) (w : World) (hv : SliceOf vPr 6 w v M) (hn : M.length ≤ maxLen) :
    Calls Tryz.prog 30 #[v, .int .i64 5] w fun e w' => e = .returned (.bool (fewM M)) ∧ Below w.heap.size w w' := by
  have HV := hide hv
  obtain ⟨ao, ca, rfl⟩ := hv.shape
  have HB0 : Hid (Below w.heap.size w w) := Below.refl _ _
  obtain ⟨n, hm⟩ : ∃ n, M.length = n := ⟨_, rfl⟩
  have HM := hide hm
  rw [hm] at hn ⊢
  have hnI : (n : Int) ≤ 9223372036854775807 := by unfold maxLen at hn; omega
  clear hv hm hn
  go_enter Tryz.func30, Tryz.ntmps30
  go_wp2_with fail
  go_loopw [5] (fun i wx => ∃ k : Nat, k ≤ n ∧ k ≤ 5 ∧ i = .int .i64 (k : Int) ∧ (∀ j (h : j < M.length), j < k → smallP M[j] = true) ∧ Below w.heap.size w wx) (fun i _ => 5 - (intOf i).toNat)
  case atStart => exact ⟨0, Nat.zero_le _, Nat.zero_le _, rfl, fun j _ h => absurd h (Nat.not_lt_zero _), HB0.out⟩
  case round =>
    obtain ⟨k, hk, hk5, rfl, hall, hb⟩ := hrel
    have HA := hide hall
    have HB := hide hb
    clear hall hb HB0
    by_cases hlt : k < n
    · by_cases hlt5 : k < 5
      · have hkI : (k : Int) < (n : Int) := by omega
        have hkI5 : (k : Int) < 5 := by omega
        have hk0 : (0 : Int) ≤ (k : Int) := by omega
        have kl : k < M.length := by rw [HM.out]; exact hlt
        have HV' : Hid (SliceOf vPr 6 w (.slice ao M.length ca) M) := HV.out
        obtain ⟨b1, o1, rfl, g1, g2, hp⟩ := HV'.out.ptAt HB.out kl
        have HPT := hide (fun W (hW : Below w.heap.size w W) => HV'.out.ptAt hW kl)
        rw [HM.out] at g1
        have HNO : Hid (smallP M[k] = false → fewM M = false) := fun h => by
          unfold fewM
          rw [Bool.and_eq_false_iff]
          right
          exact List.all_eq_false.2 ⟨M[k], List.getElem_mem kl, by rw [h]; decide⟩
        have HYE : Hid (smallP M[k] = true → ∀ j (h : j < M.length), j < k + 1 → smallP M[j] = true) := fun h j hj hl => by
          by_cases e : j = k
          · subst e; exact h
          · exact HA.out j hj (by omega)
        obtain ⟨p, hpe⟩ : ∃ p, M[k] = p := ⟨_, rfl⟩
        rw [hpe] at hp HNO HYE HPT
        have HSS : Hid (∀ W, Below w.heap.size w W → W.cell? ⟨b1, o1 + k * 6, none⟩ = some (.bool p.1.1) ∧ W.cell? ⟨b1, o1 + k * 6 + 1, none⟩ = some (.string p.1.2.1) ∧ W.cell? ⟨b1, o1 + k * 6 + 2, none⟩ = some (.string p.1.2.2) ∧ W.cell? ⟨b1, o1 + k * 6 + 3, none⟩ = some (.bool p.2.1) ∧ W.cell? ⟨b1, o1 + k * 6 + 4, none⟩ = some (.string p.2.2.1) ∧ W.cell? ⟨b1, o1 + k * 6 + 5, none⟩ = some (.string p.2.2.2)) := fun W hW => by
          obtain ⟨b, o, e, _, _, h6⟩ := HPT.out W hW
          injection e with e
          injection e with e1 e2 _
          subst e1 e2
          exact h6
        obtain ⟨bb, hbb⟩ : ∃ bb, smallP p = bb := ⟨_, rfl⟩
        have HFEW : Hid (∀ W : World, Calls Tryz.prog 11 #[.int .i64 20, .slice (some ⟨W.heap.size, 0, none⟩) 2 2] (W.alloc (.cells #[.bool p.1.1, .string p.1.2.1, .string p.1.2.2, .bool p.2.1, .string p.2.2.1, .string p.2.2.2] 29)) fun e w' => e = .returned (.bool bb) ∧ W.alloc (.cells #[.bool p.1.1, .string p.1.2.1, .string p.1.2.2, .bool p.2.1, .string p.2.2.1, .string p.2.2.2] 29) = w') := fun W => by
          have h := ref04_few 20 [p.1, p.2] (.slice (some ⟨W.heap.size, 0, none⟩) 2 2) (W.alloc (.cells #[.bool p.1.1, .string p.1.2.1, .string p.1.2.2, .bool p.2.1, .string p.2.2.1, .string p.2.2.2] 29)) (by decide) (two_rats W p.1 p.2 _) (show 2 ≤ 1000 by decide)
          have e : fewQ 20 [p.1, p.2] = bb := hbb
          rw [e] at h
          exact h
        have HBB := hide hbb
        have mixed : Tryz.prog.follows .mixedOrders = true := by kernel_rfl
        clear hpe hbb hp
        go_upto_region 4 with fail
        obtain ⟨wd, hwd⟩ : ∃ W, wr.drew = W := ⟨_, rfl⟩
        have hbd : Below wr.heap.size wr wr.drew := bDraw (Below.refl _ wr)
        rw [hwd] at hbd
        have HBd := hide (HB.out.trans (hbd.mono HB.out.size))
        have hE0 := HSS.out _ HBd.out
        refine wp_region_noPanic ?_
        refine wp_region_held_drew (S := fun w' => w'.cell? ⟨b1, o1 + k * 6, none⟩ = some (.bool p.1.1) ∧ w'.cell? ⟨b1, o1 + k * 6 + 1, none⟩ = some (.string p.1.2.1) ∧ w'.cell? ⟨b1, o1 + k * 6 + 2, none⟩ = some (.string p.1.2.2) ∧ w'.cell? ⟨b1, o1 + k * 6 + 3, none⟩ = some (.bool p.2.1) ∧ w'.cell? ⟨b1, o1 + k * 6 + 4, none⟩ = some (.string p.2.2.1) ∧ w'.cell? ⟨b1, o1 + k * 6 + 5, none⟩ = some (.string p.2.2.2)) (by kernel_rfl) (by rw [hwd]; exact hE0) (fun hHeld => ?_)
        rw [hwd] at hHeld ⊢
        clear hwd hbd hE0 HB
        change wpAnyH _ _ _ _ _ 13 #[false, false, false, false, false, false, false, false, false, false, false, false, false] _ _
        refine wpAnyH_take (i := 0) (oi := _) (v := ?_) rfl (by kernel_rfl) (by kernel_rfl) (by kernel_rfl) (fun _ _ _ h => h) (Or.inl ⟨by rfl, ?_⟩) (by assumption) ?_
        rotate_left
        · intro w hSw
          (try dsimp only at hSw)
          go_simp
          try with_reducible rfl
        try simp only [List.getElem_toArray, List.getElem_cons_zero, List.getElem_cons_succ, List.get, Act.put, List.setIfInBounds_toArray, List.set_cons_zero, List.set_cons_succ]
        refine wpAnyH_take (i := 1) (oi := _) (v := ?_) rfl (by kernel_rfl) (by kernel_rfl) (by kernel_rfl) (fun _ _ _ h => h) (Or.inl ⟨by rfl, ?_⟩) (by assumption) ?_
        rotate_left
        · intro w hSw
          (try dsimp only at hSw)
          go_simp
          try with_reducible rfl
        try simp only [List.getElem_toArray, List.getElem_cons_zero, List.getElem_cons_succ, List.get, Act.put, List.setIfInBounds_toArray, List.set_cons_zero, List.set_cons_succ]
        refine wpAnyH_take (i := 2) (oi := _) (v := ?_) rfl (by kernel_rfl) (by kernel_rfl) (by kernel_rfl) (fun _ _ _ h => h) (Or.inl ⟨by rfl, ?_⟩) (by assumption) ?_
        rotate_left
        · intro w hSw
          (try dsimp only at hSw)
          go_simp
          try with_reducible rfl
        try simp only [List.getElem_toArray, List.getElem_cons_zero, List.getElem_cons_succ, List.get, Act.put, List.setIfInBounds_toArray, List.set_cons_zero, List.set_cons_succ]
        refine wpAnyH_take (i := 3) (oi := _) (v := ?_) rfl (by kernel_rfl) (by kernel_rfl) (by kernel_rfl) (fun _ _ _ h => h) (Or.inl ⟨by rfl, ?_⟩) (by assumption) ?_
        rotate_left
        · intro w hSw
          (try dsimp only at hSw)
          go_simp
          try with_reducible rfl
        try simp only [List.getElem_toArray, List.getElem_cons_zero, List.getElem_cons_succ, List.get, Act.put, List.setIfInBounds_toArray, List.set_cons_zero, List.set_cons_succ]
        refine wpAnyH_take (i := 4) (oi := _) (v := ?_) rfl (by kernel_rfl) (by kernel_rfl) (by kernel_rfl) (fun _ _ _ h => h) (Or.inl ⟨by rfl, ?_⟩) (by assumption) ?_
        rotate_left
        · intro w hSw
          (try dsimp only at hSw)
          go_simp
          try with_reducible rfl
        try simp only [List.getElem_toArray, List.getElem_cons_zero, List.getElem_cons_succ, List.get, Act.put, List.setIfInBounds_toArray, List.set_cons_zero, List.set_cons_succ]
        refine wpAnyH_take (i := 5) (oi := _) (v := ?_) rfl (by kernel_rfl) (by kernel_rfl) (by kernel_rfl) (fun _ _ _ h => h) (Or.inl ⟨by rfl, ?_⟩) (by assumption) ?_
        rotate_left
        · intro w hSw
          (try dsimp only at hSw)
          go_simp
          try with_reducible rfl
        try simp only [List.getElem_toArray, List.getElem_cons_zero, List.getElem_cons_succ, List.get, Act.put, List.setIfInBounds_toArray, List.set_cons_zero, List.set_cons_succ]
        refine wpAnyH_take (i := 6) (oi := _) (v := ?_) rfl (by kernel_rfl) (by kernel_rfl) (by kernel_rfl) (fun _ _ _ h => h) (Or.inl ⟨by rfl, ?_⟩) (by assumption) ?_
        rotate_left
        · intro w hSw
          (try dsimp only at hSw)
          go_simp
          try with_reducible rfl
        try simp only [List.getElem_toArray, List.getElem_cons_zero, List.getElem_cons_succ, List.get, Act.put, List.setIfInBounds_toArray, List.set_cons_zero, List.set_cons_succ]
        refine wpAnyH_take (i := 7) (oi := _) (v := ?_) rfl (by kernel_rfl) (by kernel_rfl) (by kernel_rfl) (fun _ _ _ h => h) (Or.inl ⟨by rfl, ?_⟩) (by assumption) ?_
        rotate_left
        · intro w hSw
          (try dsimp only at hSw)
          go_simp
          try with_reducible rfl
        try simp only [List.getElem_toArray, List.getElem_cons_zero, List.getElem_cons_succ, List.get, Act.put, List.setIfInBounds_toArray, List.set_cons_zero, List.set_cons_succ]
        refine wpAnyH_take (i := 8) (oi := _) (v := ?_) rfl (by kernel_rfl) (by kernel_rfl) (by kernel_rfl) (fun _ _ _ h => h) (Or.inl ⟨by rfl, ?_⟩) (by assumption) ?_
        rotate_left
        · intro w hSw
          (try dsimp only at hSw)
          go_simp
          try with_reducible rfl
        try simp only [List.getElem_toArray, List.getElem_cons_zero, List.getElem_cons_succ, List.get, Act.put, List.setIfInBounds_toArray, List.set_cons_zero, List.set_cons_succ]
        refine wpAnyH_take (i := 9) (oi := _) (v := ?_) rfl (by kernel_rfl) (by kernel_rfl) (by kernel_rfl) (fun _ _ _ h => h) (Or.inl ⟨by rfl, ?_⟩) (by assumption) ?_
        rotate_left
        · intro w hSw
          (try dsimp only at hSw)
          go_simp
          try with_reducible rfl
        try simp only [List.getElem_toArray, List.getElem_cons_zero, List.getElem_cons_succ, List.get, Act.put, List.setIfInBounds_toArray, List.set_cons_zero, List.set_cons_succ]
        refine wpAnyH_ready (rs := [10]) (by kernel_rfl) (by simp) ?_
        refine AllReadyH.cons (o := _) rfl (fun K hK => ?_) AllReadyH.nil
        have hba := bAlloc (Below.refl wd.heap.size wd) (.cells #[.bool p.1.1, .string p.1.2.1, .string p.1.2.2, .bool p.2.1, .string p.2.2.1, .string p.2.2.2] 29)
        have HB3 := hide (HBd.out.trans (hba.mono HBd.out.size))
        clear hba
        go_simp
        refine hK.out _ _ (HSS.out _ HB3.out) (fun hHeld => ?_)
        clear hK K
        try simp only [List.getElem_toArray, List.getElem_cons_zero, List.getElem_cons_succ, List.get, Act.put, List.setIfInBounds_toArray, List.set_cons_zero, List.set_cons_succ]
        refine wpAnyH_ready (rs := [11]) (by kernel_rfl) (by simp) ?_
        refine AllReadyH.cons (o := _) rfl (fun K hK => ?_) AllReadyH.nil
        go_simp
        refine (HFEW.out wd).mono ?_
        rintro e w5 ⟨rfl, rfl⟩
        refine hK.out _ _ (HSS.out _ HB3.out) (fun hHeld => ?_)
        clear hK K
        try simp only [List.getElem_toArray, List.getElem_cons_zero, List.getElem_cons_succ, List.get, Act.put, List.setIfInBounds_toArray, List.set_cons_zero, List.set_cons_succ]
        refine wpAnyH_take (i := 12) (oi := _) (v := ?_) rfl (by kernel_rfl) (by kernel_rfl) (by kernel_rfl) (fun _ _ _ h => h) (Or.inl ⟨by rfl, ?_⟩) (by assumption) ?_
        rotate_left
        · intro w hSw
          (try dsimp only at hSw)
          go_simp
          try with_reducible rfl
        try simp only [List.getElem_toArray, List.getElem_cons_zero, List.getElem_cons_succ, List.get, Act.put, List.setIfInBounds_toArray, List.set_cons_zero, List.set_cons_succ]
        refine wpAnyH_done (by kernel_rfl) ?_ _
        refine NoPanic.normal ?_
        clear hHeld
        cases bb with
        | false =>
          have HF := hide (HNO.out HBB.out)
          go_wp2_with fail
          go_ret
          exact ⟨by first | (rw [HF.out]; done) | (rw [HF.out]; rfl) | (rw [HF.out]; simp; done), HB3.out⟩
        | true =>
          have HN := hide (HYE.out HBB.out)
          go_wp2_with fail
          refine ⟨?_, ?measure⟩
          case measure => (simp [intOf]; try omega)
          first
            | exact ⟨k + 1, by omega, by omega, by go_num, HN.out, HB3.out⟩
            | ((repeat apply Exists.intro); refine ⟨?rel, rfl⟩; case rel => exact ⟨k + 1, by omega, by omega, by go_num, HN.out, HB3.out⟩)
      · have hk5' : k = 5 := by omega
        subst hk5'
        have HF : Hid (fewM M = decide ((n : Int) ≤ 5)) := by
          show fewM M = _
          by_cases h : n ≤ 5
          · rw [decide_eq_true (by omega)]
            exact fewM_iff.2 ⟨by rw [HM.out]; exact h, fun x hx => by
              obtain ⟨j, hj, rfl⟩ := List.getElem_of_mem hx
              exact HA.out j hj (by rw [HM.out] at hj; omega)⟩
          · rw [decide_eq_false (by omega)]
            unfold fewM
            rw [decide_eq_false (by rw [HM.out]; exact h)]; rfl
        obtain ⟨ff, hff⟩ : ∃ ff, fewM M = ff := ⟨_, rfl⟩
        have HFF := hide hff
        rw [hff] at HF
        clear hff
        go_wp2_with fail
        go_ret
        exact ⟨by rw [HFF.out]; first | (rw [HF.out]; done) | (rw [HF.out]; rfl) | (rw [HF.out]; simp; done) | (have := HF.out; simp at this; simp [this]), HB.out⟩
    · have hkn : k = n := by omega
      subst hkn
      have HF : Hid (fewM M = true) := fewM_iff.2 ⟨by rw [HM.out]; exact hk5, fun x hx => by
        obtain ⟨j, hj, rfl⟩ := List.getElem_of_mem hx
        exact HA.out j hj (by rw [HM.out] at hj; exact hj)⟩
      have hk5I : (k : Int) ≤ 5 := by omega
      go_wp2_with fail
      go_ret
      exact ⟨by first | (rw [HF.out]; done) | (rw [HF.out]; rfl) | (rw [HF.out]; simp; done) | (rw [HF.out]; simp; omega), HB.out⟩
theorem law46_few (M : List (T3 × T3)) (v : Value) (w : World) (hv : SliceOf vPr 6 w v M) (hn : M.length ≤ maxLen) :
    Calls Tryz.prog 10 #[v] w fun e w' => e = .returned (.bool (fewM M)) ∧ Below w.heap.size w w' := by
  have HC := hide (law46_Few M v w hv hn)
  obtain ⟨ff, hff⟩ : ∃ ff, fewM M = ff := ⟨_, rfl⟩
  rw [hff] at HC ⊢
  clear hv hn hff
  go_enter Tryz.func10, Tryz.ntmps10
  go_wp2_with fail
  refine HC.out.mono ?_
  rintro e w1 ⟨rfl, hb⟩
  have HB := hide hb
  clear hb
  go_wp2_with fail
  go_ret
  exact ⟨rfl, HB.out⟩
end Go.Proofs.YtblpnekjnaaeoaaGreatDoor
