/- Package field: Interpolate, whatever its arguments. -/
import Derived.Test.YtahlhiiekgnmpabFldI
namespace Go.Proofs.Ytahlhiiekgnmpab
open Go.RowKit

theorem inP_va {p : Int × Int} (h : inP p = true) : p.1 = va (el2 p).1 ∧ p.2 = va (el2 p).2 := by
  have h2 : inF p.1 = true ∧ inF p.2 = true := by simpa [inP] using h
  obtain ⟨a0, a1⟩ := inF_yes.1 h2.1
  obtain ⟨b0, b1⟩ := inF_yes.1 h2.2
  exact ⟨(va_el a0 a1).symm, (va_el b0 b1).symm⟩
theorem px_map {l : List (Int × Int)} {k : Nat} (h : k < l.length) : px (l.map el2) k = (el2 l[k]).1 ∧ py (l.map el2) k = (el2 l[k]).2 := by
  have h' : k < (l.map el2).length := by simpa using h
  rw [← px_at h', ← py_at h', List.getElem_map]
  exact ⟨rfl, rfl⟩

set_option maxHeartbeats 4000000 in
set_option maxRecDepth 100000 in
theorem fld_interpolate_pt (l : List (Int × Int)) (x : FP) (v : Value) (w : World) (h : SliceOf vP2 2 w v l) (hl0 : 0 < l.length) (hl : l.length ≤ 16) (hbad : allP l = false) :
    Calls Try.prog 23 #[v, .int .i64 (va x)] w fun e w' => e = .returned (.tuple #[.int .i64 0, .int .i64 1]) ∧ Below w.heap.size w w' := by
  obtain ⟨ao, cp, rfl⟩ := h.shape
  obtain ⟨b, off, rfl, hb, hcap, hmx, hc⟩ := h.at_ hl0
  obtain ⟨ps, hps⟩ : ∃ ps, l.map el2 = ps := ⟨_, rfl⟩
  have hlen : l.length = ps.length := by rw [← hps, List.length_map]
  obtain ⟨qf, hqf⟩ : ∃ qf : Nat → Bool, ∀ k (hk : k < l.length), inP l[k] = qf k := ⟨fun k => inP (l.getD k (0, 0)), fun k hk => by simp [List.getD, hk]⟩
  have HC : Hid (∀ k (hk : k < ps.length), ∃ a c : Int, w.cell? ⟨b, off + k * 2, none⟩ = some (.int .i64 a) ∧ w.cell? ⟨b, off + k * 2 + 1, none⟩ = some (.int .i64 c) ∧ allF [a, c] = qf k ∧ (qf k = true → a = va (px ps k) ∧ c = va (py ps k))) := fun k hk => by
    have hk' : k < l.length := by omega
    obtain ⟨c0, c1⟩ := p2_cells hc hk'
    rw [← hqf k hk']
    refine ⟨_, _, c0, c1, by rw [allF_two]; rfl, fun hi => ?_⟩
    rw [← hps, (px_map hk').1, (px_map hk').2]
    exact inP_va hi
  rw [hlen]
  rw [hlen] at hl0 hl hcap
  have HT : Hid (∀ k (hk : k < ps.length), allP (l.take k) = true → allP (l.take (k + 1)) = qf k) := fun k hk h => by
    rw [← hqf k (by omega)]; exact allP_take (by omega) h
  have HE : Hid (allP (l.take ps.length) = false) := by show allP _ = false; rw [← hlen, List.take_length]; exact hbad
  have H0 : Hid (allP (l.take 0) = true) := rfl
  clear h hc hbad hps hqf
  have hl' : (ps.length : Int) ≤ 16 := by omega
  have hl0' : (1 : Int) ≤ (ps.length : Int) := by omega
  have hmc : (cp : Int) ≤ 9223372036854775807 := by unfold maxLen at hmx; omega
  have HLE := hide hlen
  clear hmx hlen
  have hmm := @run_makeMap Try.prog
  have HS0 := hide (MSt.start w ps x b off cp)
  go_enter Try.func23, Try.ntmps23
  go_wp2_with fail
  refine (fld_element_at _ true _ (inF_va x)).mono ?_
  rintro e w' ⟨rfl, rfl⟩
  go_wp2_with fail
  go_loopw [7, 32] (fun t i wr => ∃ k : Nat, k ≤ ps.length ∧ i = .int .i64 k ∧ t = .bool (twB ps k) ∧ MSt w wr ps x b off cp k ∧ allP (l.take k) = true) (fun _ i _ => ps.length - (intOf i).toNat)
  case atStart => exact ⟨0, Nat.zero_le _, rfl, rfl, HS0.out, H0.out⟩
  case round =>
    obtain ⟨k, hk, rfl, rfl, hst, hall⟩ := hrel
    have HST := hide hst
    have HA := hide hall
    clear hst hall
    by_cases hlt : k < ps.length
    · obtain ⟨a, c, z0, z1, haf, hva⟩ := HC.out k hlt
      have HT2 := hide (HT.out k hlt HA.out)
      obtain ⟨q, hq⟩ : ∃ q, qf k = q := ⟨_, rfl⟩
      rw [hq] at haf hva HT2
      have HAF := hide haf
      clear hq haf
      have c0 := keep_cell HST.out.below z0
      have c1 := keep_cell HST.out.below z1
      clear z0 z1
      have hki : (k : Int) < (ps.length : Int) := by omega
      have hk0 : (0 : Int) ≤ (k : Int) := by omega
      have HL : Hid (SliceOf vI 1 (wr.alloc (.cells #[.int .i64 a, .int .i64 c] 39)) (.slice (some ⟨wr.heap.size, 0, none⟩) 2 2) [a, c]) := slice_lit vI_len wr [a, c] 39 (by simp [maxLen])
      cases q with
      | false =>
        clear hva
        go_wp2_with fail
        refine (fld_elements_at [a, c] false _ _ HL.out HAF.out).mono ?_
        rintro e w' ⟨rfl, rfl⟩
        go_wp2_with fail
        go_ret2
        exact ⟨rfl, bAlloc HST.out.below _⟩
      | true =>
        obtain ⟨rfl, rfl⟩ := hva rfl
        clear hva
        obtain ⟨g, hmap, hg⟩ := HST.out.map
        have HM := hide (hmap.alloc (.cells #[.int .i64 (va (px ps k)), .int .i64 (va (py ps k))] 39))
        have hkey := hide (keyI (x := va (px ps k)) (by have := va_bd (px ps k); exact ⟨by omega, by omega⟩))
        have hlook := HM.out.look Try.keyed3 Try.underlying68 (Try.zero4 _) hkey.out
        have e1 : (g (va (px ps k))).getD (.bool false) = .bool (seenB ps k (px ps k)) := by
          rw [hg]
          cases seenB ps k (px ps k) <;> rfl
        rw [e1] at hlook
        have HG := hide hg
        have HTW : Hid (twB ps (k + 1) = (twB ps k || seenB ps k (px ps k))) := rfl
        have HSTEP : Hid (∀ w1, VMap w1 3 (w.heap.size + 1 + 1) (k + 1) kI (updL g (va (px ps k)) (.bool true)) → (wr.alloc (.cells #[.int .i64 (va (px ps k)), .int .i64 (va (py ps k))] 39)).grownBy w1 (some (w.heap.size + 1 + 1)) → MSt w w1 ps x b off cp (k + 1)) :=
          fun w1 h1 h2 => HST.out.step HG.out h1 h2
        obtain ⟨sn, hsn⟩ : ∃ s, seenB ps k (px ps k) = s := ⟨_, rfl⟩
        obtain ⟨tw, htw⟩ : ∃ s, twB ps k = s := ⟨_, rfl⟩
        rw [hsn] at hlook HTW
        rw [htw] at HTW
        rw [htw]
        obtain ⟨a, ha⟩ : ∃ a, px ps k = a := ⟨_, rfl⟩
        obtain ⟨c, hcc⟩ : ∃ c, py ps k = c := ⟨_, rfl⟩
        rw [ha] at c0 HM hkey hlook HSTEP HL HAF
        rw [hcc] at c1 HM hlook HSTEP HL HAF
        clear e1 hmap hg hsn htw ha hcc
        have hkm : k < maxLen := by unfold maxLen; omega
        have HKM := hide hkm
        clear hkm
        cases tw with
        | true =>
          go_wp2_with fail
          refine (fld_elements_at [va a, va c] true _ _ HL.out HAF.out).mono ?_
          rintro e w' ⟨rfl, rfl⟩
          go_wp2_with (at_mapUpdate; refine wpList_mapStore _ rfl _ _ _ 68 rfl 3 4 Try.keyed3 Try.underlying68 (w.heap.size + 1 + 1) k kI g rfl HM.out HKM.out _ _ (va a) rfl rfl hkey.out (keyI_lit _) kI_inj ?_)
          intro w1 hm1 hr1
          have HN := hide (HSTEP.out w1 hm1 hr1)
          clear hm1 hr1
          go_wp2_with fail
          go_roundw
          case rel => exact ⟨k + 1, by omega, by go_num, by rw [HTW.out]; rfl, HN.out, HT2.out⟩
          case measure => simp [intOf]; omega
        | false =>
          go_wp2_with fail
          refine (fld_elements_at [va a, va c] true _ _ HL.out HAF.out).mono ?_
          rintro e w' ⟨rfl, rfl⟩
          go_wp2_with (at_mapUpdate; refine wpList_mapStore _ rfl _ _ _ 68 rfl 3 4 Try.keyed3 Try.underlying68 (w.heap.size + 1 + 1) k kI g rfl HM.out HKM.out _ _ (va a) rfl rfl hkey.out (keyI_lit _) kI_inj ?_)
          intro w1 hm1 hr1
          have HN := hide (HSTEP.out w1 hm1 hr1)
          clear hm1 hr1
          go_wp2_with fail
          go_roundw
          case rel => exact ⟨k + 1, by omega, by go_num, by rw [HTW.out]; rfl, HN.out, HT2.out⟩
          case measure => simp [intOf]; omega
    · have hk' : k = ps.length := by omega
      subst hk'
      exfalso
      have h1 := HA.out
      rw [HE.out] at h1
      cases h1

set_option maxHeartbeats 1000000 in
theorem fld_interpolate_bad (l : List (Int × Int)) (x : Int) (v : Value) (w : World) (h : SliceOf vP2 2 w v l) (hbad : itB l x = false) :
    Calls Try.prog 23 #[v, .int .i64 x] w fun e w' => e = .returned (.tuple #[.int .i64 0, .int .i64 1]) ∧ Below w.heap.size w w' := by
  by_cases hl0 : (1 : Int) ≤ (l.length : Int)
  · by_cases hl1 : (l.length : Int) ≤ 16
    · rcases Bool.eq_false_or_eq_true (inF x) with hx | hx
      · have hp : allP l = false := by
          have d0 : decide (1 ≤ l.length) = true := decide_eq_true (by omega)
          have d1 : decide (l.length ≤ 16) = true := decide_eq_true (by omega)
          simpa [itB, hx, d0, d1] using hbad
        obtain ⟨y, rfl⟩ := inF_el hx
        exact fld_interpolate_pt l y v w h (by omega) (by omega) hp
      · obtain ⟨ao, cp, rfl⟩ := h.shape
        have HX := hide hx
        clear hx hbad h
        go_enter Try.func23, Try.ntmps23
        go_wp2_with fail
        refine (fld_element_at _ false _ HX.out).mono ?_
        rintro e w' ⟨rfl, rfl⟩
        go_wp2_with fail
        go_ret2
        exact ⟨rfl, bAlloc (bAlloc (Below.refl _ _) _) _⟩
    · obtain ⟨ao, cp, rfl⟩ := h.shape
      have hl2 : (16 : Int) < (l.length : Int) := by omega
      clear hbad h
      go_enter Try.func23, Try.ntmps23
      go_wp2_with fail
      go_ret2
      exact ⟨rfl, bAlloc (bAlloc (Below.refl _ _) _) _⟩
  · obtain ⟨ao, cp, rfl⟩ := h.shape
    have hl2 : (l.length : Int) < 1 := by omega
    clear hbad h
    go_enter Try.func23, Try.ntmps23
    go_wp2_with fail
    go_ret2
    exact ⟨rfl, bAlloc (bAlloc (Below.refl _ _) _) _⟩
theorem fld_interpolate (l : List (Int × Int)) (x : Int) (v : Value) (w : World) (h : SliceOf vP2 2 w v l) :
    Calls Try.prog 23 #[v, .int .i64 x] w fun e w' => e = .returned (.tuple #[.int .i64 (ipV l x), .int .i64 (ipE l x)]) ∧ Below w.heap.size w w' := by
  rcases Bool.eq_false_or_eq_true (itB l x) with hb | hb
  · obtain ⟨ps, y, rfl, rfl, h0, h1⟩ := itB_el hb
    obtain ⟨e1, e2⟩ := ip_va (x := y) h0 h1
    rw [e1, e2]
    exact fld_interpolate_ok ps y v w (slice_va2 h) h0 h1
  · obtain ⟨e1, e2⟩ := ip_bad hb
    rw [e1, e2]
    exact fld_interpolate_bad l x v w h hb
end Go.Proofs.Ytahlhiiekgnmpab
