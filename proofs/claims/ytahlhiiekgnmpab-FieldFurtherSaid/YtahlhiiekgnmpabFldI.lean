/- Package field: Interpolate, of points whose numbers are elements. -/
import Derived.Test.YtahlhiiekgnmpabFldH
import Derived.Deep.LoopGhost
namespace Go.Proofs.Ytahlhiiekgnmpab
open Go.RowKit

theorem Try.zero4 (w : World) : (zeroValue 4).run Try.prog w = .ok (.bool false) w := by kernel_rfl

/-- What the first loop knows of memory: the boxes of both arguments, and the map of the X that were seen. -/
structure MSt (w wr : World) (ps : List (FP × FP)) (x : FP) (b off cp k : Nat) : Prop where
  box0 : wr.cell? ⟨w.heap.size, 0, none⟩ = some (.slice (some ⟨b, off, none⟩) ps.length cp)
  box1 : wr.cell? ⟨w.heap.size + 1, 0, none⟩ = some (.int .i64 (va x))
  map : ∃ g : Int → Option Value, VMap wr 3 (w.heap.size + 1 + 1) k kI g ∧ ∀ a : FP, g (va a) = if seenB ps k a then some (.bool true) else none
  below : Below w.heap.size w wr
theorem MSt.start (w : World) (ps : List (FP × FP)) (x : FP) (b off cp : Nat) :
    MSt w (((w.alloc (Obj.cells #[Value.slice (some ⟨b, off, none⟩) ps.length cp] 34)).alloc (Obj.cells #[Value.int IntKind.i64 (va x)] 3)).alloc (Obj.map #[] 0)) ps x b off cp 0 := by
  refine ⟨by simp [go_sem], by simp [go_sem], ⟨fun _ => none, ?_, fun a => rfl⟩, ?_⟩
  · have := VMap.made ((w.alloc (Obj.cells #[Value.slice (some ⟨b, off, none⟩) ps.length cp] 34)).alloc (Obj.cells #[Value.int IntKind.i64 (va x)] 3)) 3 kI
    have e : ((w.alloc (Obj.cells #[Value.slice (some ⟨b, off, none⟩) ps.length cp] 34)).alloc (Obj.cells #[Value.int IntKind.i64 (va x)] 3)).heap.size = w.heap.size + 1 + 1 := by simp
    rw [e] at this
    exact this
  · exact bAlloc (bAlloc (bAlloc (Below.refl _ _) _) _) _
theorem MSt.step {w wr w1 : World} {ps : List (FP × FP)} {x : FP} {b off cp k : Nat} {g : Int → Option Value} {o : Obj} (h : MSt w wr ps x b off cp k) (hg : ∀ a : FP, g (va a) = if seenB ps k a then some (.bool true) else none)
    (hm : VMap w1 3 (w.heap.size + 1 + 1) (k + 1) kI (updL g (va (px ps k)) (.bool true))) (hr : (wr.alloc o).grownBy w1 (some (w.heap.size + 1 + 1))) : MSt w w1 ps x b off cp (k + 1) := by
  have l0 := World.block_lt_of_cell? _ _ h.box0
  have l1 := World.block_lt_of_cell? _ _ h.box1
  refine ⟨?_, ?_, ⟨_, hm, fun a => ?_⟩, (bAlloc h.below o).grown hr (bAlloc h.below o).size (fun k hk => by injection hk with hk; omega)⟩
  · exact (World.cell?_of_block (w := wr) (a := ⟨w.heap.size, 0, none⟩) ((hr.block _ (by simp at l0 ⊢; omega) (by simp; omega)).trans (Below.heap_alloc wr o _ l0))).trans h.box0
  · exact (World.cell?_of_block (w := wr) (a := ⟨w.heap.size + 1, 0, none⟩) ((hr.block _ (by simp at l1 ⊢; omega) (by simp)).trans (Below.heap_alloc wr o _ l1))).trans h.box1
  · unfold updL seenB
    by_cases e : px ps k = a
    · rw [if_pos (by rw [e]), decide_eq_true e, Bool.or_true]; rfl
    · rw [if_neg (fun h => e (va_inj h).symm), hg a, decide_eq_false e, Bool.or_false]

theorem nv_join (ps : List (FP × FP)) (x : FP) (vl : Nat → FP) (i t : Nat) (h0 : vl i = nv (px ps) (py ps) x i t) (h1 : vl (i + 1) = nv (px ps) (py ps) x (i + 1) t) : joinV ps x vl i (i + (t + 1)) = nv (px ps) (py ps) x i (t + 1) := by
  show ((x - px ps (i + (t + 1))) * vl i - (x - px ps i) * vl (i + 1)) * (px ps i - px ps (i + (t + 1)))⁻¹ = _
  rw [h0, h1]; rfl
theorem fld_join_at (ps : List (FP × FP)) (x : FP) (b off cp Bv : Nat) (vl : Nat → FP) (i t : Nat) (w wr : World) (hS : ISt w wr ps x b off cp Bv vl)
    (hC : ∀ k, k < ps.length → w.cell? ⟨b, off + k * 2, none⟩ = some (.int .i64 (va (px ps k))) ∧ w.cell? ⟨b, off + k * 2 + 1, none⟩ = some (.int .i64 (va (py ps k))))
    (hl : ps.length ≤ 16) (hcap : ps.length ≤ cp) (hmx : cp ≤ maxLen) (hk : i + (t + 1) < ps.length) (hd : dstB ps = true)
    (h0 : vl i = nv (px ps) (py ps) x i t) (h1 : vl (i + 1) = nv (px ps) (py ps) x (i + 1) t) :
    Calls Try.prog 42 #[.int .i64 i, .int .i64 ((i : Int) + ((t : Int) + 1)), .pointer (some ⟨w.heap.size, 0, none⟩), .pointer (some ⟨w.heap.size + 1, 0, none⟩), .pointer (some ⟨Bv, 0, none⟩)] wr
      fun e w' => e = .returned (.tuple #[]) ∧ ISt w w' ps x b off cp Bv (setV vl i (nv (px ps) (py ps) x i (t + 1))) := by
  have e : ((i : Int) + ((t : Int) + 1)) = ((i + (t + 1) : Nat) : Int) := by omega
  rw [e]
  refine (fld_join ps x b off cp w.heap.size (w.heap.size + 1) Bv vl i (i + (t + 1)) wr hS.box0 hS.box1 (hS.pt hC) hS.vals hl hcap hmx (by omega) hk ((dst_iff ps).1 hd i _ (by omega) hk)).mono ?_
  rintro e w' ⟨rfl, n, rfl⟩
  rw [nv_join ps x vl i t h0 h1]
  exact ⟨rfl, (hS.drewN n).set_ (by omega) _⟩

def pyV (ps : List (FP × FP)) (k j : Nat) : FP := if j < k then py ps j else 0
theorem pyV_zero (ps : List (FP × FP)) : pyV ps 0 = fun _ => 0 := by funext j; simp [pyV]
theorem pyV_step (ps : List (FP × FP)) (k : Nat) : setV (pyV ps k) k (py ps k) = pyV ps (k + 1) := by
  funext j
  unfold setV pyV
  by_cases e : j = k
  · subst e; rw [if_pos rfl, if_pos (by omega)]
  · rw [if_neg e]
    by_cases h : j < k
    · rw [if_pos h, if_pos (by omega)]
    · rw [if_neg h, if_neg (by omega)]
theorem ISt.start {w wr : World} {ps : List (FP × FP)} {x : FP} {b off cp k : Nat} (h : MSt w wr ps x b off cp k) (hs : w.heap.size + 2 ≤ wr.heap.size) :
    ISt w (wr.alloc (.cells #[.int .i64 0, .int .i64 0, .int .i64 0, .int .i64 0, .int .i64 0, .int .i64 0, .int .i64 0, .int .i64 0, .int .i64 0, .int .i64 0, .int .i64 0, .int .i64 0, .int .i64 0, .int .i64 0, .int .i64 0, .int .i64 0] 69)) ps x b off cp wr.heap.size (pyV ps 0) := by
  refine ⟨?_, ?_, hs, by simp, fun j hj => ⟨?_, ?_⟩, bAlloc h.below _⟩
  · rw [World.cell?_alloc_past _ _ _ (World.block_lt_of_cell? _ _ h.box0)]; exact h.box0
  · rw [World.cell?_alloc_past _ _ _ (World.block_lt_of_cell? _ _ h.box1)]; exact h.box1
  · rw [World.cell?_alloc_at _ _ _ _ rfl, pyV_zero, va_zero]
    match j, hj with
    | n + 16, h => omega
    | 0, _ | 1, _ | 2, _ | 3, _ | 4, _ | 5, _ | 6, _ | 7, _ | 8, _ | 9, _ | 10, _ | 11, _ | 12, _ | 13, _ | 14, _ | 15, _ => rfl
  · simp [go_sem]
theorem ISt.store {w wr : World} {ps : List (FP × FP)} {x : FP} {b off cp Bv k : Nat} (h : ISt w wr ps x b off cp Bv (pyV ps k)) (o : Obj) (hk : k < 16) : ISt w ((wr.setCell ⟨Bv, k, none⟩ (.int .i64 (va (py ps k)))).alloc o) ps x b off cp Bv (pyV ps (k + 1)) := by
  rw [← pyV_step]
  exact (h.set_ hk _).alloc o
theorem itV_dst {ps : List (FP × FP)} (h : dstB ps = true) (x : FP) : itV ps x = va (nv (px ps) (py ps) x 0 (ps.length - 1)) ∧ itE ps = 0 := by
  unfold itV itE
  rw [h]; exact ⟨rfl, rfl⟩
theorem MSt.size {w wr : World} {ps : List (FP × FP)} {x : FP} {b off cp k : Nat} (h : MSt w wr ps x b off cp k) : w.heap.size + 2 ≤ wr.heap.size := by
  have := World.block_lt_of_cell? _ _ h.box1
  simp at this
  omega

set_option maxHeartbeats 4000000 in
set_option maxRecDepth 100000 in
theorem fld_interpolate_ok (ps : List (FP × FP)) (x : FP) (v : Value) (w : World) (h : SliceOf vF2 2 w v ps) (hl0 : 0 < ps.length) (hl : ps.length ≤ 16) :
    Calls Try.prog 23 #[v, .int .i64 (va x)] w fun e w' => e = .returned (.tuple #[.int .i64 (itV ps x), .int .i64 (itE ps)]) ∧ Below w.heap.size w w' := by
  obtain ⟨ao, cp, rfl⟩ := h.shape
  obtain ⟨b, off, rfl, hb, hcap, hmx, hc⟩ := h.at_ hl0
  have HC : Hid (∀ k, k < ps.length → w.cell? ⟨b, off + k * 2, none⟩ = some (.int .i64 (va (px ps k))) ∧ w.cell? ⟨b, off + k * 2 + 1, none⟩ = some (.int .i64 (va (py ps k)))) := fun k hk => f2_cells hc hk
  clear h hc
  have hl' : (ps.length : Int) ≤ 16 := by omega
  have hl0' : (1 : Int) ≤ (ps.length : Int) := by omega
  have hmc : (cp : Int) ≤ 9223372036854775807 := by unfold maxLen at hmx; omega
  have HMX := hide hmx
  clear hmx
  have hmm := @run_makeMap Try.prog
  have HS0 := hide (MSt.start w ps x b off cp)
  go_enter Try.func23, Try.ntmps23
  go_wp2_with fail
  refine (fld_element_at _ true _ (inF_va x)).mono ?_
  rintro e w' ⟨rfl, rfl⟩
  go_wp2_with fail
  go_loopw [7, 32] (fun t i wr => ∃ k : Nat, k ≤ ps.length ∧ i = .int .i64 k ∧ t = .bool (twB ps k) ∧ MSt w wr ps x b off cp k) (fun _ i _ => ps.length - (intOf i).toNat)
  case atStart => exact ⟨0, Nat.zero_le _, rfl, rfl, HS0.out⟩
  case round =>
    obtain ⟨k, hk, rfl, rfl, hst⟩ := hrel
    have HST := hide hst
    clear hst
    by_cases hlt : k < ps.length
    · obtain ⟨z0, z1⟩ := HC.out k hlt
      have c0 := keep_cell HST.out.below z0
      have c1 := keep_cell HST.out.below z1
      clear z0 z1
      have hki : (k : Int) < (ps.length : Int) := by omega
      have hk0 : (0 : Int) ≤ (k : Int) := by omega
      obtain ⟨g, hmap, hg⟩ := HST.out.map
      have HM := hide (hmap.alloc (.cells #[.int .i64 (va (px ps k)), .int .i64 (va (py ps k))] 39))
      have hkey := hide (keyI (x := va (px ps k)) (by have := va_bd (px ps k); exact ⟨by omega, by omega⟩))
      have hlook := HM.out.look Try.keyed3 Try.underlying68 (Try.zero4 _) hkey.out
      have e1 : (g (va (px ps k))).getD (.bool false) = .bool (seenB ps k (px ps k)) := by
        rw [hg]
        cases seenB ps k (px ps k) <;> rfl
      rw [e1] at hlook
      have HG := hide hg
      have HTW : Hid (twB ps (k + 1) = (twB ps k || seenB ps k (px ps k))) := rfl
      have HSTEP : Hid (∀ w1, VMap w1 3 (w.heap.size + 1 + 1) (k + 1) kI (updL g (va (px ps k)) (.bool true)) → (wr.alloc (.cells #[.int .i64 (va (px ps k)), .int .i64 (va (py ps k))] 39)).grownBy w1 (some (w.heap.size + 1 + 1)) → MSt w w1 ps x b off cp (k + 1)) :=
        fun w1 h1 h2 => HST.out.step HG.out h1 h2
      have HL : Hid (SliceOf vI 1 (wr.alloc (.cells #[.int .i64 (va (px ps k)), .int .i64 (va (py ps k))] 39)) (.slice (some ⟨wr.heap.size, 0, none⟩) 2 2) [va (px ps k), va (py ps k)]) := slice_lit vI_len wr [va (px ps k), va (py ps k)] 39 (by simp [maxLen])
      have HAF : Hid (allF [va (px ps k), va (py ps k)] = true) := by show allF _ = true; rw [allF_two, inF_va, inF_va]; rfl
      obtain ⟨sn, hsn⟩ : ∃ s, seenB ps k (px ps k) = s := ⟨_, rfl⟩
      obtain ⟨tw, htw⟩ : ∃ s, twB ps k = s := ⟨_, rfl⟩
      rw [hsn] at hlook HTW
      rw [htw] at HTW
      rw [htw]
      obtain ⟨a, ha⟩ : ∃ a, px ps k = a := ⟨_, rfl⟩
      obtain ⟨c, hcc⟩ : ∃ c, py ps k = c := ⟨_, rfl⟩
      rw [ha] at c0 HM hkey hlook HSTEP HL HAF
      rw [hcc] at c1 HM hlook HSTEP HL HAF
      clear e1 hmap hg hsn htw ha hcc
      have hkm : k < maxLen := by unfold maxLen; omega
      have HKM := hide hkm
      clear hkm
      cases tw with
      | true =>
        go_wp2_with fail
        refine (fld_elements_at [va a, va c] true _ _ HL.out HAF.out).mono ?_
        rintro e w' ⟨rfl, rfl⟩
        go_wp2_with (at_mapUpdate; refine wpList_mapStore _ rfl _ _ _ 68 rfl 3 4 Try.keyed3 Try.underlying68 (w.heap.size + 1 + 1) k kI g rfl HM.out HKM.out _ _ (va a) rfl rfl hkey.out (keyI_lit _) kI_inj ?_)
        intro w1 hm1 hr1
        have HN := hide (HSTEP.out w1 hm1 hr1)
        clear hm1 hr1
        go_wp2_with fail
        go_roundw
        case rel => exact ⟨k + 1, by omega, by go_num, by rw [HTW.out]; rfl, HN.out⟩
        case measure => simp [intOf]; omega
      | false =>
        go_wp2_with fail
        refine (fld_elements_at [va a, va c] true _ _ HL.out HAF.out).mono ?_
        rintro e w' ⟨rfl, rfl⟩
        go_wp2_with (at_mapUpdate; refine wpList_mapStore _ rfl _ _ _ 68 rfl 3 4 Try.keyed3 Try.underlying68 (w.heap.size + 1 + 1) k kI g rfl HM.out HKM.out _ _ (va a) rfl rfl hkey.out (keyI_lit _) kI_inj ?_)
        intro w1 hm1 hr1
        have HN := hide (HSTEP.out w1 hm1 hr1)
        clear hm1 hr1
        go_wp2_with fail
        go_roundw
        case rel => exact ⟨k + 1, by omega, by go_num, by rw [HTW.out]; rfl, HN.out⟩
        case measure => simp [intOf]; omega
    · have hk' : k = ps.length := by omega
      subst hk'
      rw [twB_dst]
      clear hlt hk HS0
      rcases Bool.eq_false_or_eq_true (dstB ps) with hd | hd
      · rw [hd, Bool.not_true]
        have HD := hide hd
        clear hd
        have hblt := HST.out.size
        have HS1 := hide (ISt.start HST.out hblt)
        clear HST hblt
        obtain ⟨wo, rfl⟩ : ∃ wo : World, wo = wr := ⟨_, rfl⟩
        have k0 := HS1.out.box0
        go_wp2_with fail
        clear k0
        go_loopw [53] (fun i wr => ∃ k : Nat, k ≤ ps.length ∧ i = .int .i64 k ∧ ISt w wr ps x b off cp wo.heap.size (pyV ps k)) (fun i _ => ps.length - (intOf i).toNat)
        case atStart => exact ⟨0, Nat.zero_le _, rfl, HS1.out⟩
        case round =>
          obtain ⟨k, hk, rfl, hst⟩ := hrel
          have HST := hide hst
          clear hst
          by_cases hlt : k < ps.length
          · obtain ⟨c0, c1⟩ := HST.out.pt HC.out k hlt
            obtain ⟨e0, f0⟩ := (HST.out.alloc (.cells #[.int .i64 (va (px ps k)), .int .i64 (va (py ps k))] 39)).vals k (by omega)
            have hblt := HST.out.hlt
            have hki : (k : Int) < (ps.length : Int) := by omega
            have hk0 : (0 : Int) ≤ (k : Int) := by omega
            have hk16 : (k : Int) < 16 := by omega
            have HN := hide (HST.out.store (.cells #[.int .i64 (va (px ps k)), .int .i64 (va (py ps k))] 39) (by omega))
            go_wp2_with fail
            go_roundw
            case rel => exact ⟨k + 1, by omega, by go_num, HN.out⟩
            case measure => simp [intOf]; omega
          · have hk' : k = ps.length := by omega
            subst hk'
            clear hlt hk HS1
            have HS2 : Hid (∃ vl, ISt w wr ps x b off cp wo.heap.size vl ∧ ∀ j, j + 0 < ps.length → vl j = nv (px ps) (py ps) x j 0) := ⟨_, HST.out, fun j hj => by show pyV ps _ j = py ps j; unfold pyV; rw [if_pos (by omega)]⟩
            obtain ⟨k0, _⟩ : wr.cell? ⟨w.heap.size, 0, none⟩ = some (.slice (some ⟨b, off, none⟩) ps.length cp) ∧ True := ⟨HST.out.box0, trivial⟩
            clear HST
            go_wp2_with fail
            clear k0
            go_loopw [14] (fun i wr => ∃ (t : Nat) (vl : Nat → FP), t + 1 ≤ ps.length ∧ i = .int .i64 ((t : Int) + 1) ∧ ISt w wr ps x b off cp wo.heap.size vl ∧ ∀ j, j + t < ps.length → vl j = nv (px ps) (py ps) x j t) (fun i _ => ps.length + 1 - (intOf i).toNat)
            case atStart =>
              obtain ⟨vl, h1, h2⟩ := HS2.out
              exact ⟨0, vl, by omega, rfl, h1, h2⟩
            case round =>
              obtain ⟨t, vl, ht, rfl, hst, hvl⟩ := hrel
              have HST := hide hst
              have HVL := hide hvl
              clear hst hvl
              have k0 := HST.out.box0
              have htb : (t : Int) + 1 ≤ (ps.length : Int) := by omega
              have ht0 : (0 : Int) ≤ (t : Int) := by omega
              by_cases hlt : t + 1 < ps.length
              · have htl : (t : Int) + 1 < (ps.length : Int) := by omega
                go_wp2_with fail
                clear k0
                have HS3 : Hid (∃ vl, ISt w wr ps x b off cp wo.heap.size vl ∧ (∀ j, j < 0 → vl j = nv (px ps) (py ps) x j (t + 1)) ∧ ∀ j, 0 ≤ j → j + t < ps.length → vl j = nv (px ps) (py ps) x j t) := ⟨vl, HST.out, fun j hj => absurd hj (Nat.not_lt_zero j), fun j _ hj => HVL.out j hj⟩
                clear HST HVL
                go_loopw [74] (fun i wr => ∃ (k : Nat) (vl : Nat → FP), k + (t + 1) ≤ ps.length ∧ i = .int .i64 k ∧ ISt w wr ps x b off cp wo.heap.size vl ∧ (∀ j, j < k → vl j = nv (px ps) (py ps) x j (t + 1)) ∧ ∀ j, k ≤ j → j + t < ps.length → vl j = nv (px ps) (py ps) x j t) (fun i _ => ps.length - (intOf i).toNat)
                case atStart =>
                  obtain ⟨vl, h1, h2, h3⟩ := HS3.out
                  exact ⟨0, vl, by omega, rfl, h1, h2, h3⟩
                case round =>
                  obtain ⟨k, vl, hk, rfl, hst, hv1, hv2⟩ := hrel
                  have HST := hide hst
                  have HV1 := hide hv1
                  have HV2 := hide hv2
                  clear hst hv1 hv2
                  have hk0 : (0 : Int) ≤ (k : Int) := by omega
                  by_cases hkt : k + (t + 1) < ps.length
                  · have hki : (k : Int) < (ps.length : Int) - ((t : Int) + 1) := by omega
                    have HJ := hide (fld_join_at ps x b off cp wo.heap.size vl k t w wr HST.out HC.out hl hcap HMX.out hkt HD.out (HV2.out k (Nat.le_refl _) (by omega)) (HV2.out (k + 1) (by omega) (by omega)))
                    have HV3 : Hid (∀ j, j < k + 1 → setV vl k (nv (px ps) (py ps) x k (t + 1)) j = nv (px ps) (py ps) x j (t + 1)) := fun j hj => by
                      unfold setV
                      by_cases e : j = k
                      · rw [if_pos e, e]
                      · rw [if_neg e]; exact HV1.out j (by omega)
                    have HV4 : Hid (∀ j, k + 1 ≤ j → j + t < ps.length → setV vl k (nv (px ps) (py ps) x k (t + 1)) j = nv (px ps) (py ps) x j t) := fun j hj hj2 => by
                      unfold setV
                      rw [if_neg (by omega)]; exact HV2.out j (by omega) hj2
                    clear HV1 HV2 HST
                    go_wp2_with fail
                    refine HJ.out.mono ?_
                    rintro e w' ⟨rfl, hst2⟩
                    have HST2 := hide hst2
                    clear hst2
                    go_wp2_with fail
                    go_roundw
                    case rel => exact ⟨k + 1, _, by omega, by go_num, HST2.out, HV3.out, HV4.out⟩
                    case measure => simp [intOf]; omega
                  · have hke : k + (t + 1) = ps.length := by omega
                    have hki : ¬ (k : Int) < (ps.length : Int) - ((t : Int) + 1) := by omega
                    go_wp2_with fail
                    go_roundw
                    case rel => exact ⟨t + 1, vl, by omega, by go_num, HST.out, fun j hj => HV1.out j (by omega)⟩
                    case measure => simp [intOf]; omega
              · have hte : t + 1 = ps.length := by omega
                have htl : ¬ (t : Int) + 1 < (ps.length : Int) := by omega
                obtain ⟨e0, _⟩ := HST.out.vals 0 (by omega)
                obtain ⟨z1, z2⟩ := itV_dst HD.out x
                have hv0 := HVL.out 0 (by omega)
                rw [show ps.length - 1 = t by omega, ← hv0] at z1
                have Z1 := hide z1
                have Z2 := hide z2
                clear z1 z2 hv0 hte
                go_wp2_with fail
                go_ret2
                exact ⟨ret_v2 Z1.out.symm Z2.out.symm, HST.out.below⟩
      · rw [hd]
        obtain ⟨z1, z2⟩ := itV_not hd x
        have Z1 := hide z1
        have Z2 := hide z2
        clear z1 z2 hd
        go_wp2_with fail
        go_ret2
        exact ⟨ret_v2 Z1.out.symm Z2.out.symm, HST.out.below⟩
end Go.Proofs.Ytahlhiiekgnmpab
