/- MergePartition: the walk. -/
import Derived.Test.YtahlhiiekgnmpabMrgY
import Derived.Test.YtahlhiiekgnmpabMrgPa
import Derived.Deep.DeepCutAuto
set_option linter.unusedVariables false
set_option linter.unusedSimpArgs false
namespace Go.Proofs.Ytahlhiiekgnmpab
open Go.RowKit

structure BC (w : World) (b n : Nat) (f : Nat → Bool) : Prop where
  c : ∀ i, i < n → w.cell? ⟨b, i, none⟩ = some (.bool (f i))
  f : ∀ i, i < n → w.frozen? ⟨b, i, none⟩ = false
  lt : b < w.heap.size
theorem BC.below {w w' : World} {b n : Nat} {f : Nat → Bool} (h : BC w b n f) (hb : Below w.heap.size w w') : BC w' b n f :=
  ⟨fun i hi => keep_cell hb (h.c i hi), fun i hi => (hb.frozen (p := ⟨b, i, none⟩) h.lt).trans (h.f i hi), Nat.lt_of_lt_of_le h.lt hb.size⟩
theorem BC.set {w : World} {b n : Nat} {f g : Nat → Bool} (h : BC w b n f) {i : Nat} (hi : i < n) {x : Bool} (e : ∀ j, g j = if j = i then x else f j) : BC (w.setCell ⟨b, i, none⟩ (.bool x)) b n g := by
  refine ⟨fun j hj => ?_, fun j hj => by rw [World.frozen?_setCell]; exact h.f j hj, by simpa using h.lt⟩
  rw [e j]
  by_cases e' : j = i
  · subst e'; rw [if_pos rfl]; exact World.cell?_setCell_same _ _ _ (h.c j hj)
  · rw [if_neg e', World.cell?_setCell_other _ _ _ _ (by intro e''; injection e''; omega)]; exact h.c j hj
theorem BC.made (w : World) (n : Nat) (T : TypeId) : BC (w.alloc (.cells (madeCells #[.bool false] n) T)) w.heap.size n (fun _ => false) :=
  ⟨fun i hi => by rw [World.cell?_alloc_at _ _ _ _ rfl]; simp [madeCells, hi, Nat.mod_one], fun i hi => by simp [go_sem], by simp⟩
theorem BC.congr {w : World} {b n : Nat} {f g : Nat → Bool} (h : BC w b n f) (e : ∀ j, f j = g j) : BC w b n g := ⟨fun i hi => by rw [← e i]; exact h.c i hi, h.f, h.lt⟩
theorem Try.infoB4 : (Try.prog.info? 4).map (fun i => (i.zero, i.size, i.bytes)) = some (some (.bool false), 1, 1) := by kernel_rfl
theorem cell_set_ne {w : World} {b o b' o' : Nat} {v u : Value} (h : w.cell? ⟨b, o, none⟩ = some v) (hn : b ≠ b') : (w.setCell ⟨b', o', none⟩ u).cell? ⟨b, o, none⟩ = some v := by
  rw [World.cell?_setCell_other _ _ _ _ (by intro e; injection e; omega)]; exact h
theorem BC.of_block {w w' : World} {b n : Nat} {f : Nat → Bool} (h : BC w b n f) (e : w'.heap[b]? = w.heap[b]?) (hs : b < w'.heap.size) : BC w' b n f :=
  ⟨fun i hi => (World.cell?_of_block (w := w) (a := ⟨b, i, none⟩) e).trans (h.c i hi), fun i hi => (World.frozen?_of_block (w := w) (a := ⟨b, i, none⟩) e).trans (h.f i hi), hs⟩
/-- The search's memory: what is reached (a slice of the call's own), and the marks. -/
structure PS (w5 wx : World) (bi N : Nat) (P : Nat → Nat → Prop) (row R : List Nat) (n k g off cap : Nat) : Prop where
  own : OwnS wx w5.heap.size 1 (.slice (some ⟨g, off, none⟩) R.length cap) R.length (flatV vI (asI R))
  ne : g ≠ bi
  bc : BC wx bi N (fun x => decide (x ∈ R))
  lo : w5.heap.size ≤ bi
  bel : Below w5.heap.size w5 wx
  bfs : Bfs P row R n k
section
variable {w5 wx wy : World} {bi N : Nat} {P : Nat → Nat → Prop} {row R : List Nat} {n k g off cap : Nat}
theorem PS.below (h : PS w5 wx bi N P row R n k g off cap) (hb : Below wx.heap.size wx wy) : PS w5 wy bi N P row R n k g off cap :=
  ⟨h.own.below hb, h.ne, h.bc.below hb, h.lo, bstep' h.bel hb, h.bfs⟩
theorem PS.with {n' k' : Nat} (h : PS w5 wx bi N P row R n k g off cap) (hf : Bfs P row R n' k') : PS w5 wx bi N P row R n' k' g off cap := ⟨h.own, h.ne, h.bc, h.lo, h.bel, hf⟩
theorem PS.got (h : PS w5 wx bi N P row R n k g off cap) {i : Nat} (hi : i < R.length) : wx.cell? ⟨g, off + i, none⟩ = some (.int .i64 ((R[i] : Nat) : Int)) := by
  have hs := OwnS.slice (l := asI R) vI_len (by rw [asI_len]; exact h.own)
  obtain ⟨b, o, c, e, _, _, _, hc⟩ := hs.some_of_pos (by rw [asI_len]; omega)
  simp only [Value.slice.injEq, Option.some.injEq, Addr.mk.injEq, and_true] at e
  obtain ⟨⟨rfl, rfl⟩, _, rfl⟩ := e
  have h9 := int_cell hc (k := i) (by rw [asI_len]; exact hi)
  rwa [asI_get hi] at h9
theorem PS.cap_le (h : PS w5 wx bi N P row R n k g off cap) : R.length ≤ cap ∧ cap ≤ maxLen := by
  rcases h.own.2 with ⟨ao, h1, h2, _⟩ | ⟨g', off', cap', hv, _, _, h1, h2, _⟩
  · have := h.bfs.ne
    omega
  · simp only [Value.slice.injEq] at hv
    obtain ⟨_, _, rfl⟩ := hv
    exact ⟨h1, h2⟩
theorem PS.ownSet (h : PS w5 wx bi N P row R n k g off cap) (y : Nat) (u : Value) : OwnS (wx.setCell ⟨bi, y, none⟩ u) w5.heap.size 1 (.slice (some ⟨g, off, none⟩) R.length cap) R.length (flatV vI (asI R)) := by
  refine h.own.kept (row := some bi) ⟨rfl, rfl, rfl, by simp, fun k hk hne => Below.heap_setCell _ _ _ _ fun e => hne (by rw [e])⟩ fun k hk he => ?_
  simp only [Value.ownBlock, Option.some.injEq] at hk he
  exact h.ne (by omega)
/-- One mark more, one element more. -/
theorem PS.push (h : PS w5 wx bi N P row R n k g off cap) {y : Nat} (hy : y < N) {k' g' off' cap' : Nat} (hf : Bfs P row (R ++ [y]) n k')
    (hown : OwnS wy w5.heap.size 1 (.slice (some ⟨g', off', none⟩) (R.length + 1) cap') (R.length + 1) (flatV vI (asI R) ++ [.int .i64 (y : Int)]))
    (hg : (wx.setCell ⟨bi, y, none⟩ (.bool true)).grownBy wy (some g)) (hb : Below w5.heap.size (wx.setCell ⟨bi, y, none⟩ (.bool true)) wy) (hat : some g = some g' ∨ (wx.setCell ⟨bi, y, none⟩ (.bool true)).heap.size ≤ g') :
    PS w5 wy bi N P row (R ++ [y]) n k' g' off' cap' := by
  have hbi := h.bc.lt
  have hbc : BC (wx.setCell ⟨bi, y, none⟩ (.bool true)) bi N (fun x => decide (x ∈ R ++ [y])) := h.bc.set hy fun j => by
    by_cases e : j = y
    · subst e; rw [if_pos rfl]; simp
    · rw [if_neg e]; simp [e]
  have hsz : bi < (wx.setCell ⟨bi, y, none⟩ (.bool true)).heap.size := by simpa using hbi
  refine ⟨?_, fun e => ?_, hbc.of_block (hg.block bi hsz (fun e => h.ne (by simpa using e.symm))) (Nat.lt_of_lt_of_le hsz hg.size), h.lo, (h.bel.setCell h.lo _).trans hb, hf⟩
  · rw [List.length_append, asI_snoc, flatV_append, flatV_one]; exact hown
  · rcases hat with e2 | e2
    · exact h.ne (by rw [e]at e2; simpa using e2)
    · omega
end
theorem PS.start {w5 wr : World} {N : Nat} {P : Nat → Nat → Prop} {row : List Nat} {y : Nat} (hb : Below w5.heap.size w5 wr) (hy : y < N) (hr : y ∈ row) (T T' : TypeId) :
    PS w5 (((wr.alloc (.cells #[.int .i64 (y : Int)] T)).alloc (.cells (madeCells #[.bool false] N) T')).setCell ⟨wr.heap.size + 1, y, none⟩ (.bool true)) (wr.heap.size + 1) N P row [y] 0 0 wr.heap.size 0 1 := by
  have hsz := hb.size
  have hlo : w5.heap.size ≤ wr.heap.size + 1 := by omega
  have ho : OwnS (wr.alloc (.cells #[.int .i64 (y : Int)] T)) w5.heap.size 1 (.slice (some ⟨wr.heap.size, 0, none⟩) 1 1) 1 (flatV vI (asI [y])) :=
    ⟨rfl, .inr ⟨wr.heap.size, 0, 1, rfl, hsz, by simp, Nat.le_refl _, by decide, fun j hj => by
      obtain rfl : j = 0 := by omega
      exact ⟨by simp [go_sem], by simp [go_sem]⟩, fun j u hu => by
      match j, hu with
      | 0, hu =>
        obtain rfl : Value.int .i64 (y : Int) = u := by simpa [asI, flatV, vI] using hu
        simp [go_sem]
      | j + 1, hu => simp [asI, flatV, vI] at hu⟩⟩
  have ho2 := ho.alloc (.cells (madeCells #[.bool false] N) T')
  have hm : BC ((wr.alloc (.cells #[.int .i64 (y : Int)] T)).alloc (.cells (madeCells #[.bool false] N) T')) (wr.heap.size + 1) N (fun _ => false) := by
    have := BC.made (wr.alloc (.cells #[.int .i64 (y : Int)] T)) N T'
    simpa using this
  refine ⟨?_, by omega, hm.set hy fun j => ?_, hlo, ((hb.alloc hsz _).alloc (by simp; omega) _).setCell hlo _, Bfs.start hr⟩
  · refine ho2.kept (row := some (wr.heap.size + 1)) ⟨rfl, rfl, rfl, by simp, fun k hk hne => Below.heap_setCell _ _ _ _ fun e => hne (by rw [e])⟩ fun k hk he => ?_
    simp only [Value.ownBlock, Option.some.injEq] at hk he
    omega
  · by_cases e : j = y
    · subst e; rw [if_pos rfl]; simp
    · rw [if_neg e]; simp [e]

set_option maxHeartbeats 8000000 in
set_option maxRecDepth 100000 in
theorem mergePartition_walk (l : List Al) (win : Int) (v : Value) (w : World) (h : SliceOf vAl 5 w v l) :
    Calls Try.prog 11 #[v, .int .i64 win] w fun e w' => e = .returned (.bool true) ∧ Below w.heap.size w w' := by
  have HS := hide h
  obtain ⟨ao, cp, rfl⟩ := h.shape
  have HC : Hid (CellsOf w ao cp l) := cells_of h
  clear h
  go_enter Try.func11, Try.ntmps11
  go_wp2_with fail
  refine (law38_head _).mono ?_
  rintro e w1 ⟨rfl, hb1⟩
  have HB1 := hide hb1
  have HS1 := hide (HS.out.below hb1)
  clear hb1 HS
  go_wp2_with fail
  rcases Bool.eq_false_or_eq_true (fewB l.length) with hf | hf
  case inr =>
    have HF := hide hf
    clear hf
    refine (law38_few_at _ _ _ false _ HF.out).mono ?_
    rintro e w2 ⟨rfl, rfl⟩
    go_wp2_with fail
    go_ret
    exact ⟨rfl, HB1.out⟩
  have HF := hide hf
  clear hf
  refine (law38_few_at _ _ _ true _ HF.out).mono ?_
  rintro e w2 ⟨rfl, rfl⟩
  go_wp2_with fail
  obtain ⟨e1, he1⟩ : ∃ er, gErr win l = er := ⟨_, rfl⟩
  have HE1 := hide he1
  clear he1
  refine (mrg_groups_at l win e1 _ _ HS1.out HE1.out).mono ?_
  rintro e w3 ⟨u, M, rfl, hss, hb3, hok⟩
  have HA := hide hss
  have HB3 := hide (bstep' HB1.out hb3)
  have HK := hide hok
  obtain ⟨uo, uc, rfl⟩ := hss.shape
  clear hss hb3 hok HS1 HB1
  by_cases z1 : e1 = 0
  case neg =>
    obtain ⟨_, hM⟩ := HK.out
    obtain rfl := hM (by rw [HE1.out]; exact z1)
    have hsp : (e1 = 2 ∧ 200 < l.length) ∨ (e1 = 1 ∧ l.length ≤ 200) := by
      have h9 := HE1.out
      unfold gErr at h9
      split at h9
      · exact .inl ⟨h9.symm, by assumption⟩
      · split at h9
        · exact absurd h9.symm z1
        · exact .inr ⟨h9.symm, by omega⟩
    clear hM
    rcases hsp with ⟨rfl, hlen⟩ | ⟨rfl, hlen⟩
    · have hlI : (200 : Int) < (l.length : Int) := by omega
      go_wp2_with fail
      go_ret
      exact ⟨rfl, HB3.out⟩
    · have hn1 : decide ((200 : Int) < (l.length : Int)) = false := decide_eq_false (by omega)
      have hn2 : decide (200 < l.length) = false := decide_eq_false (by omega)
      clear hlen
      go_wp2_with fail
      go_ret
      exact ⟨rfl, HB3.out⟩
  subst z1
  obtain ⟨hl200, _, hall⟩ := gErr_iff.1 HE1.out
  obtain ⟨rt, hrt, hM⟩ := gok_rt HK.out HE1.out
  have HVA : Hid (∀ a ∈ l, valB a = true) := hall
  have HRT := hide hrt
  have HMA := hide hM
  have hlI : (l.length : Int) ≤ 200 := by omega
  clear hall hrt hM HK
  go_wp2_with fail
  refine (law38_of rt l.length _ _ (by rw [← HMA.out]; exact HA.out) (by omega)).mono ?_
  rintro e w5 ⟨bo, O, rfl, hlc, hb5, _, hO⟩
  have HL5 := hide hlc
  have HB5 := hide (bstep' HB3.out hb5)
  have HA5 := hide (HA.out.below hb5)
  have HOO := hide hO
  clear hlc hb5 hO HA HB3
  go_wp2_with fail
  go_loopw [10] (fun i wx => ∃ k : Nat, k ≤ l.length ∧ i = .int .i64 k ∧ Below w5.heap.size w5 wx) (fun i _ => l.length - (intOf i).toNat)
  case atStart => exact ⟨0, Nat.zero_le _, rfl, Below.refl _ _⟩
  case round =>
    obtain ⟨i, hi, rfl, hbl⟩ := hrel
    have HBL := hide hbl
    clear hbl
    by_cases hil : i < l.length
    · have hii : (i : Int) < (l.length : Int) := by omega
      have hi0 : (0 : Int) ≤ (i : Int) := by omega
      go_wp2_with fail
      go_loopw [11] (fun x wx => ∃ k : Nat, k ≤ i ∧ x = .int .i64 k ∧ Below w5.heap.size w5 wx) (fun x _ => i - (intOf x).toNat)
      case atStart => exact ⟨0, Nat.zero_le _, rfl, HBL.out⟩
      case round =>
        obtain ⟨k, hk, rfl, hbl⟩ := hrel
        have HBR := hide hbl
        clear hbl HBL
        by_cases hkl : k < i
        · have hkn : k < l.length := by omega
          have hki : (k : Int) < (i : Int) := by omega
          have hkI : (k : Int) < (l.length : Int) := by omega
          have hk0 : (0 : Int) ≤ (k : Int) := by omega
          have HLR := hide (HL5.out.below HBR.out)
          have c1 := HLR.out.c i hil
          have c2 := HLR.out.c k hkn
          obtain ⟨b', off, rfl, hcpI, hcap, hc⟩ := HC.out (by omega)
          obtain ⟨y0, y1, y2, y3, y4⟩ := cells_in (bstep' HB5.out HBR.out) (hc i hil)
          obtain ⟨z0, z1, z2, z3, z4⟩ := cells_in (bstep' HB5.out HBR.out) (hc k hkn)
          have HVI := hide (HVA.out l[i] (List.getElem_mem hil))
          have HVK := hide (HVA.out l[k] (List.getElem_mem hkn))
          have HAD := hide (adj_at (win := win) hil hkn)
          clear hc
          obtain ⟨x, hx⟩ : ∃ x, l[i] = x := ⟨_, rfl⟩
          obtain ⟨y, hy⟩ : ∃ x, l[k] = x := ⟨_, rfl⟩
          rw [hx] at y0 y1 y2 y3 y4 HVI HAD
          rw [hy] at z0 z1 z2 z3 z4 HVK HAD
          clear hx hy
          rcases Bool.eq_false_or_eq_true (nearB win x y) with hp | hp
          · have HP := hide hp
            clear hp
            have hoe : O i = O k := (HOO.out i k hil hkn).2 ((HRT.out i k hil hkn).2 (Conn.head (HAD.out.2 HP.out) (.refl _)))
            have q2 : ((O i : Int) != (O k : Int)) = false := by rw [hoe]; simp
            have q4 : (O i != O k) = false := by rw [hoe]; simp
            clear hoe
            go_wp2_with fail
            go_region_held3 (fun w' => (w'.cell? ⟨bo, i, none⟩ = some (.int .i64 (O i : Int)) ∧ w'.cell? ⟨bo, k, none⟩ = some (.int .i64 (O k : Int))) ∧ (w'.cell? ⟨b', off + i * 5, none⟩ = some (.int .i64 x.tile) ∧ w'.cell? ⟨b', off + i * 5 + 1, none⟩ = some (.int .i64 x.cell) ∧ w'.cell? ⟨b', off + i * 5 + 2, none⟩ = some (.int .i64 x.flt) ∧ w'.cell? ⟨b', off + i * 5 + 3, none⟩ = some (.int .i64 x.val) ∧ w'.cell? ⟨b', off + i * 5 + 4, none⟩ = some (.int .i64 x.at_)) ∧ (w'.cell? ⟨b', off + k * 5, none⟩ = some (.int .i64 y.tile) ∧ w'.cell? ⟨b', off + k * 5 + 1, none⟩ = some (.int .i64 y.cell) ∧ w'.cell? ⟨b', off + k * 5 + 2, none⟩ = some (.int .i64 y.flt) ∧ w'.cell? ⟨b', off + k * 5 + 3, none⟩ = some (.int .i64 y.val) ∧ w'.cell? ⟨b', off + k * 5 + 4, none⟩ = some (.int .i64 y.at_)))
              (first | exact ⟨⟨c1, c2⟩, ⟨y0, y1, y2, y3, y4⟩, ⟨z0, z1, z2, z3, z4⟩⟩ | exact ⟨⟨s1, s2⟩, ss⟩)
              (first
                | (go_at_call 36; refine (law38_close x y win _ HVI.out HVK.out).mono ?_; rintro e w5 ⟨rfl, hb5⟩; rw [HP.out]; have s1 := keep_cell hb5 c1; have s2 := keep_cell hb5 c2; have ss := And.intro (cells_in hb5 ⟨y0, y1, y2, y3, y4⟩) (cells_in hb5 ⟨z0, z1, z2, z3, z4⟩)))
            have HW5 := hide (bstep' (bDraw (Below.refl _ wr)) hb5)
            have HBN := hide (bstep' HBR.out HW5.out)
            clear hb5 s1 s2 ss y0 y1 y2 y3 y4 z0 z1 z2 z3 z4 c1 c2
            go_wp2_with fail
            go_roundw
            case rel => exact ⟨k + 1, by omega, by go_num, HBN.out⟩
            case measure => (simp [intOf]; omega)
          · have HP := hide hp
            clear hp
            go_wp2_with fail
            refine wp_region_noPanic ?_
            refine wp_region_held_drew (S := (fun w' => (w'.cell? ⟨bo, i, none⟩ = some (.int .i64 (O i : Int)) ∧ w'.cell? ⟨bo, k, none⟩ = some (.int .i64 (O k : Int))) ∧ (w'.cell? ⟨b', off + i * 5, none⟩ = some (.int .i64 x.tile) ∧ w'.cell? ⟨b', off + i * 5 + 1, none⟩ = some (.int .i64 x.cell) ∧ w'.cell? ⟨b', off + i * 5 + 2, none⟩ = some (.int .i64 x.flt) ∧ w'.cell? ⟨b', off + i * 5 + 3, none⟩ = some (.int .i64 x.val) ∧ w'.cell? ⟨b', off + i * 5 + 4, none⟩ = some (.int .i64 x.at_)) ∧ (w'.cell? ⟨b', off + k * 5, none⟩ = some (.int .i64 y.tile) ∧ w'.cell? ⟨b', off + k * 5 + 1, none⟩ = some (.int .i64 y.cell) ∧ w'.cell? ⟨b', off + k * 5 + 2, none⟩ = some (.int .i64 y.flt) ∧ w'.cell? ⟨b', off + k * 5 + 3, none⟩ = some (.int .i64 y.val) ∧ w'.cell? ⟨b', off + k * 5 + 4, none⟩ = some (.int .i64 y.at_)))) (by kernel_rfl) (⟨⟨c1, c2⟩, ⟨y0, y1, y2, y3, y4⟩, ⟨z0, z1, z2, z3, z4⟩⟩) (fun hHeld => ?_)
            change wpAnyH _ _ _ _ _ 21 #[false, false, false, false, false, false, false, false, false, false, false, false, false, false, false, false, false, false, false, false, false] _ _
            refine wpAnyH_take (i := 0) (oi := _) (v := ?_) rfl (by kernel_rfl) (by kernel_rfl) (by kernel_rfl) (fun _ _ _ h => h) (Or.inl ⟨by rfl, ?_⟩) (by assumption) ?_
            rotate_left
            · intro w hSw
              (try dsimp only at hSw)
              go_simp
              try with_reducible rfl
            try simp only [List.getElem_toArray, List.getElem_cons_zero, List.getElem_cons_succ, List.get, Act.put, List.setIfInBounds_toArray, List.set_cons_zero, List.set_cons_succ]
            refine wpAnyH_take (i := 1) (oi := _) (v := ?_) rfl (by kernel_rfl) (by kernel_rfl) (by kernel_rfl) (fun _ _ _ h => h) (Or.inl ⟨by rfl, ?_⟩) (by assumption) ?_
            rotate_left
            · intro w hSw
              (try dsimp only at hSw)
              go_simp
              try with_reducible rfl
            try simp only [List.getElem_toArray, List.getElem_cons_zero, List.getElem_cons_succ, List.get, Act.put, List.setIfInBounds_toArray, List.set_cons_zero, List.set_cons_succ]
            refine wpAnyH_take (i := 2) (oi := _) (v := ?_) rfl (by kernel_rfl) (by kernel_rfl) (by kernel_rfl) (fun _ _ _ h => h) (Or.inl ⟨by rfl, ?_⟩) (by assumption) ?_
            rotate_left
            · intro w hSw
              (try dsimp only at hSw)
              go_simp
              try with_reducible rfl
            try simp only [List.getElem_toArray, List.getElem_cons_zero, List.getElem_cons_succ, List.get, Act.put, List.setIfInBounds_toArray, List.set_cons_zero, List.set_cons_succ]
            refine wpAnyH_take (i := 3) (oi := _) (v := ?_) rfl (by kernel_rfl) (by kernel_rfl) (by kernel_rfl) (fun _ _ _ h => h) (Or.inl ⟨by rfl, ?_⟩) (by assumption) ?_
            rotate_left
            · intro w hSw
              (try dsimp only at hSw)
              go_simp
              try with_reducible rfl
            try simp only [List.getElem_toArray, List.getElem_cons_zero, List.getElem_cons_succ, List.get, Act.put, List.setIfInBounds_toArray, List.set_cons_zero, List.set_cons_succ]
            refine wpAnyH_take (i := 4) (oi := _) (v := ?_) rfl (by kernel_rfl) (by kernel_rfl) (by kernel_rfl) (fun _ _ _ h => h) (Or.inl ⟨by rfl, ?_⟩) (by assumption) ?_
            rotate_left
            · intro w hSw
              (try dsimp only at hSw)
              go_simp
              try with_reducible rfl
            try simp only [List.getElem_toArray, List.getElem_cons_zero, List.getElem_cons_succ, List.get, Act.put, List.setIfInBounds_toArray, List.set_cons_zero, List.set_cons_succ]
            refine wpAnyH_take (i := 5) (oi := _) (v := ?_) rfl (by kernel_rfl) (by kernel_rfl) (by kernel_rfl) (fun _ _ _ h => h) (Or.inl ⟨by rfl, ?_⟩) (by assumption) ?_
            rotate_left
            · intro w hSw
              (try dsimp only at hSw)
              go_simp
              try with_reducible rfl
            try simp only [List.getElem_toArray, List.getElem_cons_zero, List.getElem_cons_succ, List.get, Act.put, List.setIfInBounds_toArray, List.set_cons_zero, List.set_cons_succ]
            refine wpAnyH_take (i := 6) (oi := _) (v := ?_) rfl (by kernel_rfl) (by kernel_rfl) (by kernel_rfl) (fun _ _ _ h => h) (Or.inl ⟨by rfl, ?_⟩) (by assumption) ?_
            rotate_left
            · intro w hSw
              (try dsimp only at hSw)
              go_simp
              try with_reducible rfl
            try simp only [List.getElem_toArray, List.getElem_cons_zero, List.getElem_cons_succ, List.get, Act.put, List.setIfInBounds_toArray, List.set_cons_zero, List.set_cons_succ]
            refine wpAnyH_take (i := 7) (oi := _) (v := ?_) rfl (by kernel_rfl) (by kernel_rfl) (by kernel_rfl) (fun _ _ _ h => h) (Or.inl ⟨by rfl, ?_⟩) (by assumption) ?_
            rotate_left
            · intro w hSw
              (try dsimp only at hSw)
              go_simp
              try with_reducible rfl
            try simp only [List.getElem_toArray, List.getElem_cons_zero, List.getElem_cons_succ, List.get, Act.put, List.setIfInBounds_toArray, List.set_cons_zero, List.set_cons_succ]
            refine wpAnyH_take (i := 8) (oi := _) (v := ?_) rfl (by kernel_rfl) (by kernel_rfl) (by kernel_rfl) (fun _ _ _ h => h) (Or.inl ⟨by rfl, ?_⟩) (by assumption) ?_
            rotate_left
            · intro w hSw
              (try dsimp only at hSw)
              go_simp
              try with_reducible rfl
            try simp only [List.getElem_toArray, List.getElem_cons_zero, List.getElem_cons_succ, List.get, Act.put, List.setIfInBounds_toArray, List.set_cons_zero, List.set_cons_succ]
            refine wpAnyH_ready (rs := [9]) (by kernel_rfl) (by simp) ?_
            refine AllReadyH.cons (o := _) rfl (fun K hK => ?_) AllReadyH.nil
            go_simp
            refine (law38_close x y win _ HVI.out HVK.out).mono ?_
            rintro e w5 ⟨rfl, hb5⟩
            rw [HP.out]
            have s1 := keep_cell hb5 c1
            have s2 := keep_cell hb5 c2
            have ss := And.intro (cells_in hb5 ⟨y0, y1, y2, y3, y4⟩) (cells_in hb5 ⟨z0, z1, z2, z3, z4⟩)
            refine hK.out _ _ (⟨⟨s1, s2⟩, ss⟩) (fun hHeld => ?_)
            clear hK K
            try simp only [List.getElem_toArray, List.getElem_cons_zero, List.getElem_cons_succ, List.get, Act.put, List.setIfInBounds_toArray, List.set_cons_zero, List.set_cons_succ]
            refine wpAnyH_take (i := 10) (oi := _) (v := ?_) rfl (by kernel_rfl) (by kernel_rfl) (by kernel_rfl) (fun _ _ _ h => h) (Or.inl ⟨by rfl, ?_⟩) (by assumption) ?_
            rotate_left
            · intro w hSw
              (try dsimp only at hSw)
              go_simp
              try with_reducible rfl
            try simp only [List.getElem_toArray, List.getElem_cons_zero, List.getElem_cons_succ, List.get, Act.put, List.setIfInBounds_toArray, List.set_cons_zero, List.set_cons_succ]
            refine wpAnyH_take (i := 11) (oi := _) (v := undef) rfl (by kernel_rfl) (by kernel_rfl) (by kernel_rfl) (fun _ _ _ h => h) (Or.inr ⟨by rfl, rfl⟩) (by assumption) ?_
            try simp only [List.getElem_toArray, List.getElem_cons_zero, List.getElem_cons_succ, List.get, Act.put, List.setIfInBounds_toArray, List.set_cons_zero, List.set_cons_succ]
            refine wpAnyH_take (i := 12) (oi := _) (v := undef) rfl (by kernel_rfl) (by kernel_rfl) (by kernel_rfl) (fun _ _ _ h => h) (Or.inr ⟨by rfl, rfl⟩) (by assumption) ?_
            try simp only [List.getElem_toArray, List.getElem_cons_zero, List.getElem_cons_succ, List.get, Act.put, List.setIfInBounds_toArray, List.set_cons_zero, List.set_cons_succ]
            refine wpAnyH_take (i := 13) (oi := _) (v := undef) rfl (by kernel_rfl) (by kernel_rfl) (by kernel_rfl) (fun _ _ _ h => h) (Or.inr ⟨by rfl, rfl⟩) (by assumption) ?_
            try simp only [List.getElem_toArray, List.getElem_cons_zero, List.getElem_cons_succ, List.get, Act.put, List.setIfInBounds_toArray, List.set_cons_zero, List.set_cons_succ]
            refine wpAnyH_take (i := 14) (oi := _) (v := undef) rfl (by kernel_rfl) (by kernel_rfl) (by kernel_rfl) (fun _ _ _ h => h) (Or.inr ⟨by rfl, rfl⟩) (by assumption) ?_
            try simp only [List.getElem_toArray, List.getElem_cons_zero, List.getElem_cons_succ, List.get, Act.put, List.setIfInBounds_toArray, List.set_cons_zero, List.set_cons_succ]
            refine wpAnyH_take (i := 15) (oi := _) (v := undef) rfl (by kernel_rfl) (by kernel_rfl) (by kernel_rfl) (fun _ _ _ h => h) (Or.inr ⟨by rfl, rfl⟩) (by assumption) ?_
            try simp only [List.getElem_toArray, List.getElem_cons_zero, List.getElem_cons_succ, List.get, Act.put, List.setIfInBounds_toArray, List.set_cons_zero, List.set_cons_succ]
            refine wpAnyH_take (i := 16) (oi := _) (v := undef) rfl (by kernel_rfl) (by kernel_rfl) (by kernel_rfl) (fun _ _ _ h => h) (Or.inr ⟨by rfl, rfl⟩) (by assumption) ?_
            try simp only [List.getElem_toArray, List.getElem_cons_zero, List.getElem_cons_succ, List.get, Act.put, List.setIfInBounds_toArray, List.set_cons_zero, List.set_cons_succ]
            refine wpAnyH_take (i := 17) (oi := _) (v := undef) rfl (by kernel_rfl) (by kernel_rfl) (by kernel_rfl) (fun _ _ _ h => h) (Or.inr ⟨by rfl, rfl⟩) (by assumption) ?_
            try simp only [List.getElem_toArray, List.getElem_cons_zero, List.getElem_cons_succ, List.get, Act.put, List.setIfInBounds_toArray, List.set_cons_zero, List.set_cons_succ]
            refine wpAnyH_take (i := 18) (oi := _) (v := undef) rfl (by kernel_rfl) (by kernel_rfl) (by kernel_rfl) (fun _ _ _ h => h) (Or.inr ⟨by rfl, rfl⟩) (by assumption) ?_
            try simp only [List.getElem_toArray, List.getElem_cons_zero, List.getElem_cons_succ, List.get, Act.put, List.setIfInBounds_toArray, List.set_cons_zero, List.set_cons_succ]
            refine wpAnyH_take (i := 19) (oi := _) (v := undef) rfl (by kernel_rfl) (by kernel_rfl) (by kernel_rfl) (fun _ _ _ h => h) (Or.inr ⟨by rfl, rfl⟩) (by assumption) ?_
            try simp only [List.getElem_toArray, List.getElem_cons_zero, List.getElem_cons_succ, List.get, Act.put, List.setIfInBounds_toArray, List.set_cons_zero, List.set_cons_succ]
            refine wpAnyH_take (i := 20) (oi := _) (v := ?_) rfl (by kernel_rfl) (by kernel_rfl) (by kernel_rfl) (fun _ _ _ h => h) (Or.inl ⟨by rfl, ?_⟩) (by assumption) ?_
            rotate_left
            · intro w hSw
              (try dsimp only at hSw)
              go_simp
              try with_reducible rfl
            try simp only [List.getElem_toArray, List.getElem_cons_zero, List.getElem_cons_succ, List.get, Act.put, List.setIfInBounds_toArray, List.set_cons_zero, List.set_cons_succ]
            refine wpAnyH_done (by kernel_rfl) ?_ _
            refine NoPanic.normal ?_
            have HW5 := hide (bstep' (bDraw (Below.refl _ wr)) hb5)
            have HBN := hide (bstep' HBR.out HW5.out)
            clear hb5 s1 s2 ss y0 y1 y2 y3 y4 z0 z1 z2 z3 z4 c1 c2
            go_wp2_with fail
            go_roundw
            case rel => exact ⟨k + 1, by omega, by go_num, HBN.out⟩
            case measure => (simp [intOf]; omega)
        · have hk' : k = i := by omega
          subst hk'
          go_wp2_with fail
          go_roundw
          case rel => exact ⟨k + 1, by omega, by go_num, HBR.out⟩
          case measure => (simp [intOf]; omega)
    · have hi' : i = l.length := by omega
      subst hi'
      have R := hide (rows_ok rt l.length)
      have hgl := firsts_le rt l.length
      rw [gK_rows] at HMA
      have hMl : M.length = (rowsK rt l.length).length := by rw [HMA.out, List.length_map]
      have HM : Hid (0 < (rowsK rt l.length).length → ∃ b off, uo = some ⟨b, off, none⟩ ∧ (rowsK rt l.length).length ≤ uc ∧ uc ≤ maxLen ∧ ∀ j (hj : j < (rowsK rt l.length).length), ∃ u, w5.cell? ⟨b, off + j, none⟩ = some u ∧ SliceOf vI 1 w5 u (asI (rowsK rt l.length)[j])) := by
        intro h0
        have h1 := HA5.out
        have h2 := HMA.out
        subst h2
        obtain ⟨b, off, h1, h2, h3, h4⟩ := SliceSS.at_ h1 (by rw [List.length_map]; exact h0)
        refine ⟨b, off, h1, by rw [List.length_map] at h2; exact h2, h3, fun j hj => ?_⟩
        obtain ⟨u, h5, h6⟩ := h4 j (by rw [List.length_map]; exact hj)
        rw [List.getElem_map] at h6
        exact ⟨u, h5, h6⟩
      have HCL : Hid (∀ q (h : q < (rowsK rt l.length).length), (∀ x ∈ (rowsK rt l.length)[q], ∀ y, adj win l x y → y ∈ (rowsK rt l.length)[q]) ∧ ∀ x ∈ (rowsK rt l.length)[q], ∀ y ∈ (rowsK rt l.length)[q], Conn (adj win l) x y) := fun q h => by
        obtain ⟨_, e⟩ := rowsK_get h
        rw [e]
        refine ⟨fun x hx y p => ?_, fun x hx y hy => ?_⟩
        · have h1 := mem_grpOf.1 hx
          have h2 := (adj_lt p).2
          exact mem_grpOf.2 ⟨h2, by rw [← (HRT.out x y h1.1 h2).2 (Conn.head p (.refl _))]; exact h1.2⟩
        · have h1 := mem_grpOf.1 hx
          have h2 := mem_grpOf.1 hy
          exact (HRT.out x y h1.1 h2.1).1 (h1.2.trans h2.2.symm)
      rw [hMl]
      rw [← gK_len, gK_rows, List.length_map] at hgl
      clear HMA hMl HA5 HOO HRT HE1
      obtain ⟨rows, hrows⟩ : ∃ rows, rowsK rt l.length = rows := ⟨_, rfl⟩
      rw [hrows] at R HM HCL hgl ⊢
      clear hrows
      have hrI : (rows.length : Int) ≤ 1000 := by omega
      go_wp2_with fail
      go_loopw [12] (fun i wx => ∃ k : Nat, k ≤ rows.length ∧ i = .int .i64 k ∧ Below w5.heap.size w5 wx) (fun i _ => rows.length - (intOf i).toNat)
      case atStart => exact ⟨0, Nat.zero_le _, rfl, HBL.out⟩
      case round =>
        obtain ⟨q, hq, rfl, hbl⟩ := hrel
        have HBR := hide hbl
        clear hbl HBL
        by_cases hlt : q < rows.length
        · obtain ⟨bg, offg, rfl, hcap, hcm, hr⟩ := HM.out (by omega)
          obtain ⟨u, c0, hs⟩ := hr q hlt
          have c1 := keep_cell HBR.out c0
          have HRW := hide hs
          have hqi : (q : Int) < (rows.length : Int) := by omega
          have hq0 : (0 : Int) ≤ (q : Int) := by omega
          have hcapI : (rows.length : Int) ≤ (uc : Int) := by omega
          have HPOS := hide (R.out.pos q hlt)
          have HRL := hide (R.out.len q hlt)
          have HSO := hide (R.out.sorted q hlt)
          have HLT := hide (R.out.lt q hlt)
          have HCLq := hide (HCL.out q hlt)
          clear hs hr
          obtain ⟨row, hrow⟩ : ∃ row, rows[q] = row := ⟨_, rfl⟩
          rw [hrow] at HRW HPOS HRL HSO HLT HCLq
          clear hrow
          have HND : Hid row.Nodup := (HSO.out).imp (fun h => Nat.ne_of_lt h)
          have hal := asI_len row
          have hrl := HRL.out
          have hrp := HPOS.out
          obtain ⟨ro, rc, rfl⟩ := HRW.out.shape
          rw [hal] at HRW c0 c1
          obtain ⟨g, o2, rfl, _, hrc, hmx, hc⟩ := SliceOf.at_ (by rw [hal]; exact HRW.out) (by rw [hal]; exact HPOS.out)
          have HCELL : Hid (∀ j (hj : j < row.length), w5.cell? ⟨g, o2 + j, none⟩ = some (.int .i64 ((row[j] : Nat) : Int))) := fun j hj => by
            have h9 := int_cell hc (k := j) (by rw [hal]; exact hj)
            rw [asI_get hj] at h9
            exact h9
          have hrlI : (row.length : Int) ≤ 200 := by omega
          have hrpI : (0 : Int) < (row.length : Int) := by omega
          have hrcI : (row.length : Int) ≤ (rc : Int) := by omega
          clear hc hmx hal c0
          have d1 := keep_cell HBR.out (HCELL.out 0 HPOS.out)
          rw [Nat.add_zero] at d1
          have hy0n := HLT.out _ (List.getElem_mem HPOS.out)
          have HST := hide (PS.start (T := 3) (T' := 4) (N := l.length) (P := adj win l) (row := row) HBR.out hy0n (List.getElem_mem HPOS.out))
          obtain ⟨y0, hy0⟩ : ∃ y0, row[0] = y0 := ⟨_, rfl⟩
          rw [hy0] at d1 hy0n HST
          clear hy0
          have hy0I : (y0 : Int) < (l.length : Int) := by omega
          have hy00 : (0 : Int) ≤ (y0 : Int) := by omega
          have hmk := run_make_row' (P := Try.prog) 62 4 (.bool false) 1 Try.underlying62 Try.infoB4 rfl .i64 .i64 l.length (by omega) (by omega)
          go_upto_region 24 with fail
          clear hmk
          have hbc0 : BC ((wr.alloc (.cells #[.int .i64 (y0 : Int)] 3)).alloc (.cells (madeCells #[.bool false] l.length) 4)) (wr.heap.size + 1) l.length (fun _ => false) := by
            have := BC.made (wr.alloc (.cells #[.int .i64 (y0 : Int)] 3)) l.length 4
            simpa using this
          have d1 := keep_cell (bAlloc (bAlloc (Below.refl _ wr) (.cells #[.int .i64 (y0 : Int)] 3)) (.cells (madeCells #[.bool false] l.length) 4)) d1
          obtain ⟨wA, hwA⟩ : ∃ x, (wr.alloc (.cells #[.int .i64 (y0 : Int)] 3)).alloc (.cells (madeCells #[.bool false] l.length) 4) = x := ⟨_, rfl⟩
          rw [hwA] at HST hbc0 d1 ⊢
          clear hwA
          obtain ⟨H, hH⟩ : ∃ H, wr.heap.size = H := ⟨_, rfl⟩
          rw [hH] at HST hbc0 ⊢
          clear hH
          have e1 := hbc0.c y0 hy0n
          have e2 := hbc0.f y0 hy0n
          clear hbc0
          go_wp2_with fail
          clear d1 e1 e2
          go_loopw [14, 16] (fun v i wx => ∃ (R : List Nat) (n g' off cap : Nat), v = .slice (some ⟨g', off, none⟩) R.length cap ∧ i = .int .i64 n ∧ n ≤ R.length ∧ PS w5 wx (H + 1) l.length (adj win l) row R n 0 g' off cap) (fun _ i _ => row.length - (intOf i).toNat)
          case atStart => exact ⟨[y0], 0, _, _, _, rfl, rfl, Nat.zero_le _, HST.out⟩
          case round =>
            obtain ⟨R, n, g', off', cap', rfl, rfl, hn, hps⟩ := hrel
            have HPS := hide hps
            have hRl := hps.bfs.len
            have hcap' := hps.cap_le
            clear hps HST
            have hm' : (cap' : Int) ≤ 9223372036854775807 := by
              have := hcap'.2
              unfold maxLen at this
              omega
            have hRc : (R.length : Int) ≤ (cap' : Int) := by omega
            have hRI : (R.length : Int) ≤ 200 := by omega
            clear hcap'
            by_cases hnR : n < R.length
            · have hnI : (n : Int) < (R.length : Int) := by omega
              have hn0 : (0 : Int) ≤ (n : Int) := by omega
              go_wp2_with fail
              go_loopw [14, 17] (fun v i wx => ∃ (R : List Nat) (k g' off cap : Nat), v = .slice (some ⟨g', off, none⟩) R.length cap ∧ i = .int .i64 k ∧ k ≤ row.length ∧ n < R.length ∧ PS w5 wx (H + 1) l.length (adj win l) row R n k g' off cap) (fun _ i _ => row.length - (intOf i).toNat)
              case atStart => exact ⟨R, 0, _, _, _, rfl, rfl, Nat.zero_le _, hnR, HPS.out⟩
              case round =>
                clear hRl hm' hRc hRI hnI HPS hnR hn
                obtain ⟨R, k, g', off', cap', rfl, rfl, hk, hnR, hps⟩ := hrel
                have HPS := hide hps
                have hRl := hps.bfs.len
                have hcap' := hps.cap_le
                clear hps
                have hm' : (cap' : Int) ≤ 9223372036854775807 := by
                  have := hcap'.2
                  unfold maxLen at this
                  omega
                have hRc : (R.length : Int) ≤ (cap' : Int) := by omega
                have hRI : (R.length : Int) ≤ 200 := by omega
                have hnI : (n : Int) < (R.length : Int) := by omega
                clear hcap'
                by_cases hkl : k < row.length
                · have hki : (k : Int) < (row.length : Int) := by omega
                  have hk0 : (0 : Int) ≤ (k : Int) := by omega
                  have d1 := keep_cell HPS.out.bel (HCELL.out k hkl)
                  have hyn := HLT.out _ (List.getElem_mem hkl)
                  have hxn := HLT.out _ (HPS.out.bfs.sub _ (List.getElem_mem hnR))
                  have HSK := hide (fun e => HPS.out.bfs.skip hkl hnR e)
                  have HAD := hide (fun e => HPS.out.bfs.add hkl hnR e)
                  have d2 := HPS.out.bc.c _ hyn
                  have d3 := HPS.out.bc.f _ hyn
                  have d4 := HPS.out.got hnR
                  obtain ⟨y, hy⟩ : ∃ y, row[k] = y := ⟨_, rfl⟩
                  have HROWk := hide hy
                  obtain ⟨x, hx⟩ : ∃ x, R[n] = x := ⟨_, rfl⟩
                  rw [hy] at d1 d2 d3 HSK HAD hyn
                  rw [hx] at d4 HSK hxn
                  clear hy hx
                  have hyI : (y : Int) < (l.length : Int) := by omega
                  have hy0 : (0 : Int) ≤ (y : Int) := by omega
                  have hxI : (x : Int) < (l.length : Int) := by omega
                  have hx0 : (0 : Int) ≤ (x : Int) := by omega
                  by_cases hyR : y ∈ R
                  · rw [decide_eq_true hyR] at d2
                    have HN := hide (HPS.out.with (HSK.out (.inl hyR)))
                    clear hyR
                    go_wp2_with fail
                    go_quiet (fail)
                    go_wp2_with fail
                    go_roundw
                    case rel => exact ⟨R, k + 1, _, _, _, rfl, by go_num, by omega, hnR, HN.out.below (below_drewN (Below.refl _ _) _)⟩
                    case measure => (simp [intOf]; omega)
                  · rw [decide_eq_false hyR] at d2
                    have HYR := hide hyR
                    clear hyR
                    obtain ⟨b', off, rfl, hcpI, hcap, hc⟩ := HC.out (by omega)
                    obtain ⟨y0, y1, y2, y3, y4⟩ := cells_in (bstep' HB5.out HPS.out.bel) (hc x hxn)
                    obtain ⟨z0, z1, z2, z3, z4⟩ := cells_in (bstep' HB5.out HPS.out.bel) (hc y hyn)
                    have HVI := hide (HVA.out l[x] (List.getElem_mem hxn))
                    have HVK := hide (HVA.out l[y] (List.getElem_mem hyn))
                    have HAJ := hide (adj_at (win := win) hxn hyn)
                    clear hc
                    obtain ⟨ax, hax⟩ : ∃ a, l[x] = a := ⟨_, rfl⟩
                    obtain ⟨ay, hay⟩ : ∃ a, l[y] = a := ⟨_, rfl⟩
                    rw [hax] at y0 y1 y2 y3 y4 HVI HAJ
                    rw [hay] at z0 z1 z2 z3 z4 HVK HAJ
                    clear hax hay
                    obtain ⟨p, hp⟩ : ∃ p, nearB win ax ay = p := ⟨_, rfl⟩
                    have HP := hide hp
                    clear hp
                    go_wp2_with fail
                    go_region_held3 (fun w' => (w'.cell? ⟨g, o2 + k, none⟩ = some (.int .i64 (y : Int)) ∧ w'.cell? ⟨H + 1, y, none⟩ = some (.bool false) ∧ w'.cell? ⟨g', off' + n, none⟩ = some (.int .i64 (x : Int))) ∧
                        (w'.cell? ⟨b', off + x * 5, none⟩ = some (.int .i64 ax.tile) ∧ w'.cell? ⟨b', off + x * 5 + 1, none⟩ = some (.int .i64 ax.cell) ∧ w'.cell? ⟨b', off + x * 5 + 2, none⟩ = some (.int .i64 ax.flt) ∧ w'.cell? ⟨b', off + x * 5 + 3, none⟩ = some (.int .i64 ax.val) ∧ w'.cell? ⟨b', off + x * 5 + 4, none⟩ = some (.int .i64 ax.at_)) ∧
                        (w'.cell? ⟨b', off + y * 5, none⟩ = some (.int .i64 ay.tile) ∧ w'.cell? ⟨b', off + y * 5 + 1, none⟩ = some (.int .i64 ay.cell) ∧ w'.cell? ⟨b', off + y * 5 + 2, none⟩ = some (.int .i64 ay.flt) ∧ w'.cell? ⟨b', off + y * 5 + 3, none⟩ = some (.int .i64 ay.val) ∧ w'.cell? ⟨b', off + y * 5 + 4, none⟩ = some (.int .i64 ay.at_)))
                      (first | exact ⟨⟨d1, d2, d4⟩, ⟨y0, y1, y2, y3, y4⟩, ⟨z0, z1, z2, z3, z4⟩⟩ | exact ⟨ss0, ss⟩)
                      (first
                        | (go_at_call 36; refine (law38_close ax ay win _ HVI.out HVK.out).mono ?_; rintro e w8 ⟨rfl, hb5⟩; rw [HP.out]; have ss0 := And.intro (keep_cell hb5 d1) (And.intro (keep_cell hb5 d2) (keep_cell hb5 d4)); have ss := And.intro (cells_in hb5 ⟨y0, y1, y2, y3, y4⟩) (cells_in hb5 ⟨z0, z1, z2, z3, z4⟩)))
                    have HW5 := hide (bstep' (bDraw (Below.refl _ wr)) hb5)
                    have HQS := hide (HPS.out.below HW5.out)
                    clear hb5 ss0 ss y0 y1 y2 y3 y4 z0 z1 z2 z3 z4 d1 d2 d3 d4 HPS
                    have d1 := keep_cell HQS.out.bel (HCELL.out k hkl)
                    have d2 := HQS.out.bc.c y hyn
                    have d3 := HQS.out.bc.f y hyn
                    rw [decide_eq_false HYR.out] at d2
                    rw [HROWk.out] at d1
                    cases p with
                    | true =>
                      obtain ⟨i0, hi, hz0, hz1, hz2⟩ := info_parts Try.infoI
                      have HF := hide (HAD.out HYR.out)
                      have H1 : Hid (∀ u ∈ (#[Value.int .i64 (y : Int)] : Array Value).toList, u.oneCell' = true) := by
                        intro u hu
                        simp at hu
                        rw [hu]; rfl
                      have hbytes : (R.length + 1) * 8 ≤ 140737488355328 := by omega
                      have HOW := hide (HQS.out.ownSet y (.bool true))
                      have hgbi : g ≠ H + 1 := by
                        have h1 := HQS.out.lo
                        have h2 := World.block_lt_of_cell? w5 _ (HCELL.out k hkl)
                        simp only at h2
                        omega
                      have d5 := cell_set_ne (o' := y) (u := .bool true) d1 hgbi
                      have HSZ : Hid (w5.heap.size ≤ (w8.setCell ⟨H + 1, y, none⟩ (.bool true)).heap.size) := by
                        show _ ≤ _
                        have := HQS.out.bel.size
                        simpa using this
                      have HPU := fun k' g4 off4 cap4 w4 => @PS.push w5 w8 w4 (H + 1) l.length (adj win l) row R n k g' off' cap' HQS.out y hyn k' g4 off4 cap4
                      have HPU := hide HPU
                      clear hgbi
                      go_upto_region 33 with fail
                      clear d1 d2 d3
                      obtain ⟨ws, hws⟩ : ∃ x, w8.setCell ⟨H + 1, y, none⟩ (.bool true) = x := ⟨_, rfl⟩
                      rw [hws] at HOW d5 HSZ HPU ⊢
                      clear hws
                      go_wp2_with (at_builtin; refine wpList_appendS rfl (.tmp 152) (.tmp 157) 30 rfl w5.heap.size 3 i0 (.int .i64 0) 1 8 Try.underlying30 hi hz0 hz1 hz2 rfl (by decide) (.slice (some ⟨g', off', none⟩) R.length cap') R.length _ rfl HOW.out #[.int .i64 (y : Int)] 3 1 rfl rfl H1.out hbytes (by decide) HSZ.out ?_; intro g4 off4 cap4 w4 hown4 hg4 hb4 hat4; have HO4 := hide (HPU.out (k + 1) g4 off4 cap4 w4 HF.out hown4 hg4 hb4 hat4); clear hown4 hg4 hb4 hat4)
                      have hRl2 : (R ++ [y]).length = R.length + 1 := by simp
                      go_roundw
                      case rel => exact ⟨R ++ [y], k + 1, _, _, _, by rw [hRl2], by go_num, by omega, by rw [hRl2]; omega, HO4.out⟩
                      case measure => (simp [intOf]; omega)
                    | false =>
                      have HN := hide (HQS.out.with (HSK.out (.inr (fun h => by have := HAJ.out.1 h; rw [HP.out] at this; cases this))))
                      go_wp2_with fail
                      go_roundw
                      case rel => exact ⟨R, k + 1, _, _, _, rfl, by go_num, by omega, hnR, HN.out⟩
                      case measure => (simp [intOf]; omega)
                · have hk' : k = row.length := by omega
                  subst hk'
                  have HN := hide (HPS.out.with HPS.out.bfs.next)
                  go_wp2_with fail
                  go_roundw
                  case rel => exact ⟨R, n + 1, _, _, _, rfl, by go_num, by omega, HN.out⟩
                  case measure => (simp [intOf]; omega)
            · have hn' : n = R.length := by omega
              subst hn'
              have hRr := HPS.out.bfs.whole (Nat.le_refl _) HND.out HCLq.out.1 HCLq.out.2
              have HN := hide HPS.out.bel
              rw [hRr]
              have z1 : ((row.length : Int) != (row.length : Int)) = false := by simp
              clear hRr HPS
              go_wp2_with fail
              go_roundw
              case rel => exact ⟨q + 1, by omega, by go_num, HN.out⟩
              case measure => (simp [intOf]; omega)
        · have hq' : q = rows.length := by omega
          subst hq'
          go_wp2_with fail
          go_ret
          exact ⟨rfl, bstep' HB5.out HBR.out⟩
end Go.Proofs.Ytahlhiiekgnmpab
