/- Law 38: close, of. -/
import Derived.Test.YtahlhiiekgnmpabMrgN
import Derived.Test.YtahlhiiekgnmpabMrgX
set_option linter.unusedVariables false
set_option linter.unusedSimpArgs false
namespace Go.Proofs.Ytahlhiiekgnmpab
open Go.RowKit

set_option maxHeartbeats 2000000 in
set_option maxRecDepth 100000 in
theorem law38_close (x y : Al) (win : Int) (w : World) (hx : valB x = true) (hy : valB y = true) :
    Calls Try.prog 36 #[.agg #[.int .i64 x.tile, .int .i64 x.cell, .int .i64 x.flt, .int .i64 x.val, .int .i64 x.at_], .agg #[.int .i64 y.tile, .int .i64 y.cell, .int .i64 y.flt, .int .i64 y.val, .int .i64 y.at_], .int .i64 win] w
      fun e w' => e = .returned (.bool (nearB win x y)) ∧ Below w.heap.size w w' := by
  obtain ⟨x1, x2, x3, x4, x5, x6, x7, x8, x9, x10⟩ := valB_iff.1 hx
  obtain ⟨y1, y2, y3, y4, y5, y6, y7, y8, y9, y10⟩ := valB_iff.1 hy
  obtain ⟨t, c, f, v, a⟩ := x
  obtain ⟨t', c', f', v', a'⟩ := y
  simp only at x1 x2 x3 x4 x5 x6 x7 x8 x9 x10 y1 y2 y3 y4 y5 y6 y7 y8 y9 y10
  clear hx hy x3 x4 x7 x8 y3 y4 y7 y8
  have hw1 : IntKind.i64.wrap (a - a') = a - a' := IntWalk.i64_in _ (by omega)
  have hw2 : IntKind.i64.wrap (a' - a) = a' - a := IntWalk.i64_in _ (by omega)
  obtain ⟨d, hd⟩ : ∃ d, distI t t' = d := ⟨_, rfl⟩
  have HN := hide (near_at (win := win) (x := ⟨t, c, f, v, a⟩) (y := ⟨t', c', f', v', a'⟩) hd)
  have HD := hide hd
  clear hd
  have HB0 := hide (bAlloc (bAlloc (Below.refl w.heap.size w) (.cells #[.int .i64 t, .int .i64 c, .int .i64 f, .int .i64 v, .int .i64 a] 57)) (.cells #[.int .i64 t', .int .i64 c', .int .i64 f', .int .i64 v', .int .i64 a'] 57))
  go_enter Try.func36, Try.ntmps36
  go_wp2_with fail
  refine (sky_Distance_ok t t' d _ x1 x2 y1 y2 HD.out).mono ?_
  rintro e w1 ⟨rfl, hb⟩
  have k1 : w1.cell? ⟨w.heap.size, 2, none⟩ = some (.int .i64 f) := keep_cell hb (by simp [go_sem])
  have k2 : w1.cell? ⟨w.heap.size, 4, none⟩ = some (.int .i64 a) := keep_cell hb (by simp [go_sem])
  have k3 : w1.cell? ⟨w.heap.size + 1, 2, none⟩ = some (.int .i64 f') := keep_cell hb (by simp [go_sem])
  have k4 : w1.cell? ⟨w.heap.size + 1, 4, none⟩ = some (.int .i64 a') := keep_cell hb (by simp [go_sem])
  have B := hide (bstep' HB0.out hb)
  clear hb
  by_cases c1 : d ≤ 1
  · by_cases c2 : f = f'
    · have c2' : (f == f') = true := by rw [c2]; simp
      have C2 := hide c2
      clear c2
      by_cases c3 : a - a' ≤ win
      · have HR : Hid (nearB win ⟨t, c, f, v, a⟩ ⟨t', c', f', v', a'⟩ = decide (a' - a ≤ win)) := by
          show nearB _ _ _ = _
          rw [HN.out]
          exact decide_eq_decide.2 ⟨fun h => h.2.2.2, fun h => ⟨c1, C2.out, c3, h⟩⟩
        go_wp2_with fail
        go_ret
        exact ⟨ret_bool HR.out.symm, B.out⟩
      · have HR : Hid (nearB win ⟨t, c, f, v, a⟩ ⟨t', c', f', v', a'⟩ = false) := by
          show nearB _ _ _ = _
          rw [HN.out]
          exact decide_eq_false (fun h => c3 h.2.2.1)
        go_wp2_with fail
        go_ret
        exact ⟨ret_bool HR.out.symm, B.out⟩
    · have c2' : (f == f') = false := beq_eq_false_iff_ne.2 c2
      have HR : Hid (nearB win ⟨t, c, f, v, a⟩ ⟨t', c', f', v', a'⟩ = false) := nearB_no.2 (fun h => c2 h.2.1)
      clear c2
      go_wp2_with fail
      go_ret
      exact ⟨ret_bool HR.out.symm, B.out⟩
  · have HR : Hid (nearB win ⟨t, c, f, v, a⟩ ⟨t', c', f', v', a'⟩ = false) := by
      show nearB _ _ _ = _
      rw [HN.out]
      exact decide_eq_false (fun h => c1 h.1)
    go_wp2_with fail
    go_ret
    exact ⟨ret_bool HR.out.symm, B.out⟩

theorem LC.setI {w : World} {b n : Nat} {L : Nat → Nat} (h : LC w b n L) {i : Nat} (hi : i < n) {x : Nat} {z : Int} (e : z = (x : Int)) : LC (w.setCell ⟨b, i, none⟩ (.int .i64 z)) b n (upd L i x) := by
  subst e; exact h.set hi x
theorem asI_get {l : List Nat} {j : Nat} (h : j < l.length) : (asI l)[j]'(by rw [asI_len]; exact h) = ((l[j] : Nat) : Int) := by
  simp only [asI, List.getElem_map]

def OfPost (w : World) (rt : Nat → Nat) (n : Nat) (e : Ending) (w' : World) : Prop :=
  ∃ b O, e = .returned (.tuple #[.slice (some ⟨b, 0, none⟩) n n, .bool true]) ∧ LC w' b n O ∧ Below w.heap.size w w' ∧ w.heap.size ≤ b ∧ ∀ x y, x < n → y < n → (O x = O y ↔ rt x = rt y)

set_option maxHeartbeats 4000000 in
set_option maxRecDepth 100000 in
theorem law38_of (rt : Nat → Nat) (n : Nat) (v : Value) (w : World) (h : SliceSS vI 1 w v (gK rt n)) (hn : n ≤ 1000) : Calls Try.prog 35 #[v, .int .i64 (n : Int)] w (OfPost w rt n) := by
  obtain ⟨ao, cp, rfl⟩ := h.shape
  have R := hide (rows_ok rt n)
  have hgl := firsts_le rt n
  rw [gK_rows] at h ⊢
  rw [← gK_len, gK_rows] at hgl
  have hlen : ((rowsK rt n).map asI).length = (rowsK rt n).length := by rw [List.length_map]
  rw [hlen] at h ⊢ hgl
  have HM : Hid (0 < (rowsK rt n).length → ∃ b off, ao = some ⟨b, off, none⟩ ∧ (rowsK rt n).length ≤ cp ∧ cp ≤ maxLen ∧ ∀ j (hj : j < (rowsK rt n).length), ∃ u, w.cell? ⟨b, off + j, none⟩ = some u ∧ SliceOf vI 1 w u (asI (rowsK rt n)[j])) := by
    intro h0
    obtain ⟨b, off, h1, h2, h3, h4⟩ := SliceSS.at_ (M := (rowsK rt n).map asI) (by rw [hlen]; exact h) (by rw [hlen]; exact h0)
    refine ⟨b, off, h1, by rw [← hlen]; exact h2, h3, fun j hj => ?_⟩
    obtain ⟨u, h5, h6⟩ := h4 j (by rw [hlen]; exact hj)
    rw [List.getElem_map] at h6
    exact ⟨u, h5, h6⟩
  have HST : Hid (∀ O, Stg n (rowsK rt n) (rowsK rt n).length 0 O → (∀ x, x < n → O x ≠ 0) ∧ ∀ x y, x < n → y < n → (O x = O y ↔ rt x = rt y)) := fun O h => h.same
  clear h hlen
  obtain ⟨rows, hrows⟩ : ∃ rows, rowsK rt n = rows := ⟨_, rfl⟩
  rw [hrows] at R HM HST hgl ⊢
  clear hrows
  have hnI : (n : Int) ≤ 1000 := by omega
  have hrI : (rows.length : Int) ≤ 1000 := by omega
  have hmk := run_make_row' (P := Try.prog) 30 3 (.int .i64 0) 8 Try.underlying30 Try.infoI rfl .i64 .i64 n (by omega) (by omega)
  have HLM := hide (LC.made w n 3)
  have HBM := hide (ba w (.cells (madeCells #[.int .i64 0] n) 3))
  have HZ0 : Hid ((0 : Int) = ((nzc n (fun _ => 0) : Nat) : Int)) := by
    show (0 : Int) = _
    rw [nzc_zero]; rfl
  have HS0 := hide (Stg.start n rows)
  go_enter Try.func35, Try.ntmps35
  go_wp2_with fail
  clear hmk
  go_loopw [7, 8] (fun s i wx => ∃ (q : Nat) (O : Nat → Nat), q ≤ rows.length ∧ s = .int .i64 ((nzc n O : Nat) : Int) ∧ i = .int .i64 q ∧ LC wx w.heap.size n O ∧ Below w.heap.size w wx ∧ Stg n rows q 0 O) (fun _ i _ => rows.length - (intOf i).toNat)
  case atStart => exact ⟨0, _, Nat.zero_le _, congrArg (Value.int .i64) HZ0.out, rfl, HLM.out, HBM.out, HS0.out⟩
  case round =>
    obtain ⟨q, O, hq, rfl, rfl, hlc, hbl, hst⟩ := hrel
    have HL := hide hlc
    have HB := hide hbl
    have HS := hide hst
    clear hlc hbl hst HLM HBM HS0 HZ0
    by_cases hlt : q < rows.length
    · obtain ⟨b, off, rfl, hcap, hcm, hr⟩ := HM.out (by omega)
      obtain ⟨u, c0, hs⟩ := hr q hlt
      have c1 := keep_cell HB.out c0
      have HRW := hide hs
      have hqi : (q : Int) < (rows.length : Int) := by omega
      have hq0 : (0 : Int) ≤ (q : Int) := by omega
      have hcapI : (rows.length : Int) ≤ (cp : Int) := by omega
      have HH := hide hr
      have HPOS := hide (R.out.pos q hlt)
      have HRL := hide (R.out.len q hlt)
      clear hs hr
      obtain ⟨row, hrow⟩ : ∃ row, rows[q] = row := ⟨_, rfl⟩
      have HROW := hide hrow
      rw [hrow] at HRW HPOS HRL
      have hal := asI_len row
      have hrl := HRL.out
      clear hrow
      obtain ⟨ro, rc, rfl⟩ := HRW.out.shape
      rw [hal] at HRW c0 c1
      obtain ⟨g, o2, rfl, _, hrc, hmx, hc⟩ := SliceOf.at_ (by rw [hal]; exact HRW.out) (by rw [hal]; exact HPOS.out)
      have hcell : ∀ j (hj : j < row.length), w.cell? ⟨g, o2 + j, none⟩ = some (.int .i64 ((row[j] : Nat) : Int)) := fun j hj => by
        have h9 := int_cell hc (k := j) (by rw [hal]; exact hj)
        rw [asI_get hj] at h9
        exact h9
      have HCELL := hide hcell
      have hrlI : (row.length : Int) ≤ 1000 := by omega
      have hrcI : (row.length : Int) ≤ (rc : Int) := by omega
      clear hc hcell hmx hal
      go_wp2_with fail
      go_loopw [7, 10] (fun s i wx => ∃ (j : Nat) (O : Nat → Nat), j ≤ row.length ∧ s = .int .i64 ((nzc n O : Nat) : Int) ∧ i = .int .i64 j ∧ LC wx w.heap.size n O ∧ Below w.heap.size w wx ∧ Stg n rows q j O) (fun _ i _ => row.length - (intOf i).toNat)
      case atStart => exact ⟨0, O, Nat.zero_le _, rfl, rfl, HL.out, HB.out, HS.out⟩
      case round =>
        obtain ⟨j, O, hj, rfl, rfl, hlc, hbl, hst⟩ := hrel
        have HL2 := hide hlc
        have HB2 := hide hbl
        have HS2 := hide hst
        clear hlc hbl hst HL HB HS c1
        by_cases hjl : j < row.length
        · have hx : O row[j] = 0 ∧ row[j] < n ∧ Stg n rows q (j + 1) (upd O row[j] (q + 1)) := by
            have h1 := HROW.out
            subst h1
            exact ⟨HS2.out.zero R.out hlt hjl, R.out.lt q hlt _ (List.getElem_mem hjl), HS2.out.step R.out hlt hjl⟩
          have hprev : ∀ (h : 0 < j), row[j - 1] < row[j] := fun h => by
            have h1 := HROW.out
            subst h1
            exact List.pairwise_iff_getElem.1 (R.out.sorted q hlt) (j - 1) j (by omega) hjl (by omega)
          have d1 := keep_cell HB2.out (HCELL.out j hjl)
          have hji : (j : Int) < (row.length : Int) := by omega
          have hj0 : (0 : Int) ≤ (j : Int) := by omega
          obtain ⟨x, hxe⟩ : ∃ x, row[j] = x := ⟨_, rfl⟩
          rw [hxe] at hx d1
          obtain ⟨hO, hxn, hst⟩ := hx
          have HN := hide hst
          have d2 := HL2.out.c x hxn
          rw [hO] at d2
          have f2 := HL2.out.f x hxn
          have hx0 : (0 : Int) ≤ (x : Int) := by omega
          have hxI : (x : Int) < (n : Int) := by omega
          have HNZ := hide (nzc_upd hO (Nat.succ_ne_zero q) hxn)
          have hnz := nzc_le O n
          have q1 : decide ((x : Int) < 0) = false := decide_eq_false (by omega)
          have q2 : decide (n ≤ x) = false := decide_eq_false (by omega)
          have q3 : decide ((n : Int) ≤ (x : Int)) = false := decide_eq_false (by omega)
          clear hst hO
          by_cases hjz : 0 < j
          · have hjI : (0 : Int) < (j : Int) := by omega
            have hp := hprev hjz
            rw [hxe] at hp
            have d3 := keep_cell HB2.out (HCELL.out (j - 1) (by omega))
            obtain ⟨y, hye⟩ : ∃ y, row[j - 1]'(by omega) = y := ⟨_, rfl⟩
            rw [hye] at d3 hp
            have hyI : (y : Int) < (x : Int) := by omega
            have hsub : ((j : Int) - 1).toNat = j - 1 := by omega
            have q4 : decide (0 < j) = true := decide_eq_true hjz
            have q5 : decide ((0 : Int) < (j : Int)) = true := decide_eq_true (by omega)
            have q6 : decide (x ≤ y) = false := decide_eq_false (by omega)
            have q7 : decide ((x : Int) ≤ (y : Int)) = false := decide_eq_false (by omega)
            clear hprev hp hxe hye
            go_wp2_with fail
            go_quiet (fail)
            go_wp2_with fail
            go_roundw
            case rel => exact ⟨j + 1, upd O x (q + 1), by omega, congrArg (Value.int .i64) (by rw [HNZ.out]; omega), by go_num, (HL2.out.below (below_drewN (Below.refl _ _) _)).setI hxn (by omega), bset (below_drewN HB2.out _) (p := ⟨w.heap.size, x, none⟩) (Nat.le_refl _) _, HN.out⟩
            case measure => simp [intOf]; omega
          · have hjI : (j : Int) ≤ 0 := by omega
            have q4 : decide (0 < j) = false := decide_eq_false hjz
            have q5 : decide ((0 : Int) < (j : Int)) = false := decide_eq_false (by omega)
            clear hprev hxe
            go_wp2_with fail
            go_quiet (fail)
            go_wp2_with fail
            go_roundw
            case rel => exact ⟨j + 1, upd O x (q + 1), by omega, congrArg (Value.int .i64) (by rw [HNZ.out]; omega), by go_num, (HL2.out.below (below_drewN (Below.refl _ _) _)).setI hxn (by omega), bset (below_drewN HB2.out _) (p := ⟨w.heap.size, x, none⟩) (Nat.le_refl _) _, HN.out⟩
            case measure => simp [intOf]; omega
        · have hj' : j = row.length := by omega
          subst hj'
          have HN : Hid (Stg n rows (q + 1) 0 O) := by
            have h1 := HROW.out
            have h2 := HS2.out
            subst h1
            exact Stg.row hlt h2
          have hp0 := HPOS.out
          have d1 := keep_cell HB2.out (HCELL.out 0 hp0)
          have c1 := keep_cell HB2.out c0
          have z1 : ((row.length : Int) == 0) = false := beq_eq_false_iff_ne.2 (by omega)
          have z2 : decide (row.length = 0) = false := decide_eq_false (by omega)
          have z3 : ¬ row.length = 0 := by omega
          have hpI : (0 : Int) < (row.length : Int) := by omega
          rw [Nat.add_zero] at d1
          by_cases hqz : 0 < q
          · have hsub : ((q : Int) - 1).toNat = q - 1 := by omega
            have hql : q - 1 < rows.length := by omega
            obtain ⟨u', c2, hs'⟩ := HH.out (q - 1) hql
            have hpos' := R.out.pos (q - 1) hql
            have hhd : ∀ x y, rows[q - 1][0]? = some x → row[0]? = some y → x < y := by
              have h1 := HROW.out
              subst h1
              exact R.out.heads (q - 1) q hql hlt (by omega)
            obtain ⟨row', hrow'⟩ : ∃ r, rows[q - 1] = r := ⟨_, rfl⟩
            rw [hrow'] at hs' hpos' hhd
            obtain ⟨ro', rc', rfl⟩ := hs'.shape
            have hal' := asI_len row'
            rw [hal'] at c2 hs'
            obtain ⟨g', o2', rfl, _, hrc', hmx', hc'⟩ := SliceOf.at_ (by rw [hal']; exact hs') (by rw [hal']; exact hpos')
            have d2 := int_cell hc' (k := 0) (by rw [hal']; exact hpos')
            rw [asI_get hpos', Nat.add_zero] at d2
            have d3 := keep_cell HB2.out d2
            have c3 := keep_cell HB2.out c2
            have hxy := hhd row'[0] row[0] (List.getElem?_eq_getElem hpos') (List.getElem?_eq_getElem hp0)
            obtain ⟨x, hx⟩ : ∃ x, row[0] = x := ⟨_, rfl⟩
            obtain ⟨y, hy⟩ : ∃ y, row'[0] = y := ⟨_, rfl⟩
            rw [hx] at d1 hxy
            rw [hy] at d3 hxy
            have hpI' : (0 : Int) < (row'.length : Int) := by omega
            have q4 : decide (0 < q) = true := decide_eq_true hqz
            have q5 : decide ((0 : Int) < (q : Int)) = true := decide_eq_true (by omega)
            have q6 : decide (x ≤ y) = false := decide_eq_false (by omega)
            have q7 : decide ((x : Int) ≤ (y : Int)) = false := decide_eq_false (by omega)
            clear hc' hs' hhd hrow' hx hy hmx' d2 c2 hal'
            go_wp2_with fail
            go_quiet (fail)
            go_wp2_with fail
            go_roundw
            case rel => exact ⟨q + 1, O, by omega, rfl, by go_num, HL2.out.below (below_drewN (Below.refl _ _) _), below_drewN HB2.out _, HN.out⟩
            case measure => simp [intOf]; omega
          · have q4 : decide (0 < q) = false := decide_eq_false hqz
            have q5 : decide ((0 : Int) < (q : Int)) = false := decide_eq_false (by omega)
            go_wp2_with fail
            go_quiet (fail)
            go_wp2_with fail
            go_roundw
            case rel => exact ⟨q + 1, O, by omega, rfl, by go_num, HL2.out.below (below_drewN (Below.refl _ _) _), below_drewN HB2.out _, HN.out⟩
            case measure => simp [intOf]; omega
    · have hq' : q = rows.length := by omega
      subst hq'
      obtain ⟨h1, h2⟩ := HST.out O HS.out
      have HF := hide h2
      have hnn := nzc_all h1
      rw [hnn]
      have hne : ((n : Int) == (n : Int)) = true := by simp
      clear h1 h2 hnn
      go_wp2_with fail
      go_ret2
      exact ⟨_, O, rfl, HL.out, HB.out, Nat.le_refl _, HF.out⟩
end Go.Proofs.Ytahlhiiekgnmpab
