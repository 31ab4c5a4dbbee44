/- Reference 38: Groups. -/
import Derived.Test.YtahlhiiekgnmpabMrgI
import Derived.Test.YtahlhiiekgnmpabMrgJ
import Derived.Deep.OwnRows
set_option linter.unusedVariables false
set_option linter.unusedSimpArgs false
namespace Go.Proofs.Ytahlhiiekgnmpab
open Go.RowKit

/-- The cells of the least indices. -/
structure LC (w : World) (b n : Nat) (L : Nat → Nat) : Prop where
  c : ∀ i, i < n → w.cell? ⟨b, i, none⟩ = some (.int .i64 (L i : Int))
  f : ∀ i, i < n → w.frozen? ⟨b, i, none⟩ = false
  lt : b < w.heap.size
theorem LC.of_block {w w' : World} {b n : Nat} {L : Nat → Nat} (h : LC w b n L) (e : w'.heap[b]? = w.heap[b]?) (hs : b < w'.heap.size) : LC w' b n L :=
  ⟨fun i hi => (World.cell?_of_block (w := w) (a := ⟨b, i, none⟩) e).trans (h.c i hi), fun i hi => (World.frozen?_of_block (w := w) (a := ⟨b, i, none⟩) e).trans (h.f i hi), hs⟩
theorem LC.below {w w' : World} {b n : Nat} {L : Nat → Nat} (h : LC w b n L) (hb : Below w.heap.size w w') : LC w' b n L := h.of_block (hb.block b h.lt) (Nat.lt_of_lt_of_le h.lt hb.size)
theorem LC.set {w : World} {b n : Nat} {L : Nat → Nat} (h : LC w b n L) {i : Nat} (hi : i < n) (x : Nat) : LC (w.setCell ⟨b, i, none⟩ (.int .i64 (x : Int))) b n (upd L i x) := by
  refine ⟨fun j hj => ?_, fun j hj => by rw [World.frozen?_setCell]; exact h.f j hj, by simpa using h.lt⟩
  by_cases e : j = i
  · subst e; rw [upd_same]; exact World.cell?_setCell_same _ _ _ (h.c j hj)
  · rw [upd_other e, World.cell?_setCell_other _ _ _ _ (by intro e'; injection e'; omega)]; exact h.c j hj
theorem LC.made (w : World) (n : Nat) (T : TypeId) : LC (w.alloc (.cells (madeCells #[.int .i64 0] n) T)) w.heap.size n (fun _ => 0) :=
  ⟨fun i hi => by rw [World.cell?_alloc_at _ _ _ _ rfl]; simp [madeCells, hi, Nat.mod_one], fun i hi => by simp [go_sem], by simp⟩
theorem LC.congr {w : World} {b n : Nat} {L L' : Nat → Nat} (h : LC w b n L) (e : ∀ i, i < n → L i = L' i) : LC w b n L' := ⟨fun i hi => by rw [← e i hi]; exact h.c i hi, h.f, h.lt⟩
theorem bset {w0 w : World} (h : Below w0.heap.size w0 w) {p : Addr} (hp : w0.heap.size ≤ p.block) (u : Value) : Below w0.heap.size w0 (w.setCell p u) := h.setCell hp u
theorem OwnS.mono {w : World} {B B' size : Nat} {v : Value} {n : Nat} {xs : List Value} (h : OwnS w B size v n xs) (hB : B' ≤ B) : OwnS w B' size v n xs := by
  refine ⟨h.1, ?_⟩
  rcases h.2 with ⟨ao, a, b, c⟩ | ⟨g, off, cap, a, b, c⟩
  · exact .inl ⟨ao, a, b, fun x hx => ⟨Nat.le_trans hB (c x hx).1, (c x hx).2⟩⟩
  · exact .inr ⟨g, off, cap, a, Nat.le_trans hB b, c⟩
def iniL (k j : Nat) : Nat := if j < k then j else 0
theorem iniL_step (k : Nat) : ∀ i, upd (iniL k) k k i = iniL (k + 1) i := by
  intro i
  unfold upd iniL
  by_cases e : i = k
  · subst e; simp
  · rw [if_neg e]
    by_cases h : i < k
    · rw [if_pos h, if_pos (by omega)]
    · rw [if_neg h, if_neg (by omega)]
theorem iniL_inv (P : Nat → Nat → Prop) (n : Nat) : LInv P n (iniL n) :=
  ⟨fun i hi => by unfold iniL; rw [if_pos hi]; exact Nat.le_refl _, fun i hi => by unfold iniL; rw [if_pos hi]; exact .refl _⟩
def CellsOf (w : World) (ao : Option Addr) (cp : Nat) (l : List Al) : Prop :=
  0 < l.length → ∃ b off, ao = some ⟨b, off, none⟩ ∧ (cp : Int) ≤ 9223372036854775807 ∧ l.length ≤ cp ∧ ∀ k (hk : k < l.length), w.cell? ⟨b, off + k * 5, none⟩ = some (.int .i64 l[k].tile) ∧ w.cell? ⟨b, off + k * 5 + 1, none⟩ = some (.int .i64 l[k].cell) ∧ w.cell? ⟨b, off + k * 5 + 2, none⟩ = some (.int .i64 l[k].flt) ∧
      w.cell? ⟨b, off + k * 5 + 3, none⟩ = some (.int .i64 l[k].val) ∧ w.cell? ⟨b, off + k * 5 + 4, none⟩ = some (.int .i64 l[k].at_)
theorem cells_of {w : World} {ao : Option Addr} {cp : Nat} {l : List Al} (h : SliceOf vAl 5 w (.slice ao l.length cp) l) : CellsOf w ao cp l := by
  intro h0
  obtain ⟨b, off, h1, _, h2, h3, h4⟩ := h.at_ h0
  unfold maxLen at h3
  exact ⟨b, off, h1, by omega, h2, fun k hk => al_cells h4 hk⟩
/-- Row k of the slice, in a later world. -/
theorem cells_in {w w' : World} {b off : Nat} {a : Al} (hb : Below w.heap.size w w') (h : w.cell? ⟨b, off, none⟩ = some (.int .i64 a.tile) ∧ w.cell? ⟨b, off + 1, none⟩ = some (.int .i64 a.cell) ∧ w.cell? ⟨b, off + 2, none⟩ = some (.int .i64 a.flt) ∧ w.cell? ⟨b, off + 3, none⟩ = some (.int .i64 a.val) ∧ w.cell? ⟨b, off + 4, none⟩ = some (.int .i64 a.at_)) :
    w'.cell? ⟨b, off, none⟩ = some (.int .i64 a.tile) ∧ w'.cell? ⟨b, off + 1, none⟩ = some (.int .i64 a.cell) ∧ w'.cell? ⟨b, off + 2, none⟩ = some (.int .i64 a.flt) ∧ w'.cell? ⟨b, off + 3, none⟩ = some (.int .i64 a.val) ∧ w'.cell? ⟨b, off + 4, none⟩ = some (.int .i64 a.at_) :=
  ⟨keep_cell hb h.1, keep_cell hb h.2.1, keep_cell hb h.2.2.1, keep_cell hb h.2.2.2.1, keep_cell hb h.2.2.2.2⟩
theorem adj_at {win : Int} {l : List Al} {i k : Nat} (hi : i < l.length) (hk : k < l.length) : adj win l i k ↔ nearB win l[i] l[k] = true := by
  unfold adj
  rw [List.getElem?_eq_getElem hi, List.getElem?_eq_getElem hk]
  constructor
  · rintro ⟨a, b, h1, h2, h3⟩
    obtain rfl : l[i] = a := by simpa using h1
    obtain rfl : l[k] = b := by simpa using h2
    exact h3
  · intro h; exact ⟨_, _, rfl, rfl, h⟩

set_option maxHeartbeats 4000000 in
set_option maxRecDepth 100000 in
theorem ref38_groups (l : List Al) (win : Int) (v : Value) (w : World) (h : SliceOf vAl 5 w v l) :
    Calls Try.prog 27 #[v, .int .i64 win] w (GrpsPost w win l) := by
  obtain ⟨ao, cp, rfl⟩ := h.shape
  have HC : Hid (CellsOf w ao cp l) := cells_of h
  clear h
  by_cases hl : 200 < l.length
  · have hl2 : (200 : Int) < (l.length : Int) := by omega
    have HE := hide (gErr_big (l := l) (win := win) hl)
    clear hl
    go_enter Try.func27, Try.ntmps27
    go_wp2_with fail
    go_ret2
    exact ⟨.slice none 0 0, [], ret_ui HE.out.symm, SliceSS.nil _ _ _, Below.refl _ _, gok_bad (by rw [HE.out]; decide)⟩
  have hl2 : l.length ≤ 200 := by omega
  have hlI : (l.length : Int) ≤ 200 := by omega
  clear hl
  have HV0 : Hid (allVB (l.take 0) = true) := rfl
  go_enter Try.func27, Try.ntmps27
  go_wp2_with fail
  go_loopw [6] (fun i wr => ∃ k : Nat, k ≤ l.length ∧ i = .int .i64 k ∧ Below w.heap.size w wr ∧ allVB (l.take k) = true) (fun i _ => l.length - (intOf i).toNat)
  case atStart => exact ⟨0, Nat.zero_le _, rfl, Below.refl _ _, HV0.out⟩
  case round =>
    obtain ⟨k, hk, rfl, hbl, hall⟩ := hrel
    have HBL := hide hbl
    have HAV := hide hall
    clear hbl hall
    by_cases hlt : k < l.length
    · obtain ⟨b, off, rfl, hcpI, hcap, hc⟩ := HC.out (by omega)
      obtain ⟨y0, y1, y2, y3, y4⟩ := cells_in HBL.out (hc k hlt)
      have HVT := hide (allVB_take hlt)
      have HVN := hide (fun h => allVB_no (l := l) hlt h)
      have hki : (k : Int) < (l.length : Int) := by omega
      have hk0 : (0 : Int) ≤ (k : Int) := by omega
      clear hc
      obtain ⟨a, ha⟩ : ∃ a, l[k] = a := ⟨_, rfl⟩
      rw [ha] at y0 y1 y2 y3 y4 HVT HVN
      clear ha
      rcases Bool.eq_false_or_eq_true (valB a) with hv | hv
      · have HV := hide hv
        clear hv
        go_wp2_with fail
        refine (ref38_valid a true _ HV.out).mono ?_
        rintro e w5 ⟨rfl, hb5⟩
        have HB5 := hide (bstep' HBL.out hb5)
        clear hb5
        go_wp2_with fail
        go_roundw
        case rel => exact ⟨k + 1, by omega, by go_num, HB5.out, by rw [HVT.out, HAV.out, HV.out]; rfl⟩
        case measure => simp [intOf]; omega
      · have HV := hide hv
        have HE := hide (gErr_inv (win := win) hl2 (HVN.out hv))
        clear hv
        go_wp2_with fail
        refine (ref38_valid a false _ HV.out).mono ?_
        rintro e w5 ⟨rfl, hb5⟩
        have HB5 := hide (bstep' HBL.out hb5)
        clear hb5
        go_wp2_with fail
        go_ret2
        exact ⟨.slice none 0 0, [], ret_ui HE.out.symm, SliceSS.nil _ _ _, HB5.out, gok_bad (by rw [HE.out]; decide)⟩
    · have hk' : k = l.length := by omega
      subst hk'
      have HTL : Hid (l.take l.length = l) := List.take_length
      have HV := HAV.out
      rw [HTL.out] at HV
      have HVA := hide (allVB_iff.1 HV)
      clear HV HAV HV0
      rcases Bool.eq_false_or_eq_true (momB win) with hw | hw
      · have HW := hide hw
        have HE := hide (gErr_ok hl2 hw HVA.out)
        clear hw
        have hmk := run_make_row' (P := Try.prog) 30 3 (.int .i64 0) 8 Try.underlying30 Try.infoI rfl .i64 .i64 l.length (by omega) (by omega)
        have HLM := hide (LC.made wr l.length 3)
        have HBM := hide (bAlloc HBL.out (.cells (madeCells #[.int .i64 0] l.length) 3))
        have hbw : w.heap.size ≤ wr.heap.size := HBL.out.size
        go_wp2_with fail
        refine (ref38_moment win true _ HW.out).mono ?_
        rintro e w0 ⟨rfl, rfl⟩
        go_wp2_with fail
        clear hmk
        obtain ⟨b, hb⟩ : ∃ b, wr.heap.size = b := ⟨_, rfl⟩
        rw [hb] at HLM hbw ⊢
        clear hb
        obtain ⟨wm, hwm⟩ : ∃ wm, wr.alloc (.cells (madeCells #[.int .i64 0] l.length) 3) = wm := ⟨_, rfl⟩
        rw [hwm] at HLM HBM ⊢
        clear hwm HBL
        go_loopw [8] (fun i wx => ∃ k : Nat, k ≤ l.length ∧ i = .int .i64 k ∧ LC wx b l.length (iniL k) ∧ Below w.heap.size w wx) (fun i _ => l.length - (intOf i).toNat)
        case atStart => exact ⟨0, Nat.zero_le _, rfl, HLM.out.congr (fun i _ => by unfold iniL; rw [if_neg (by omega)]), HBM.out⟩
        case round =>
          obtain ⟨k, hk, rfl, hlc, hbl⟩ := hrel
          have HLC := hide hlc
          have HBL := hide hbl
          clear hlc hbl
          by_cases hlt : k < l.length
          · have hki : (k : Int) < (l.length : Int) := by omega
            have hk0 : (0 : Int) ≤ (k : Int) := by omega
            have c0 := HLC.out.c k hlt
            have f0 := HLC.out.f k hlt
            have HN := hide ((HLC.out.set hlt k).congr (fun i _ => iniL_step k i))
            have HBN := hide (bset HBL.out (p := ⟨b, k, none⟩) hbw (.int .i64 (k : Int)))
            go_wp2_with fail
            go_roundw
            case rel => exact ⟨k + 1, by omega, by go_num, HN.out, HBN.out⟩
            case measure => simp [intOf]; omega
          · have hk' : k = l.length := by omega
            subst hk'
            have HST : Hid (LInv (adj win l) l.length (iniL l.length)) := iniL_inv _ _
            go_wp2_with fail
            go_loopg [9] (lsum l.length (iniL l.length) + 1) (fun g m wx => ∃ (mo : Bool) (L : Nat → Nat), m = .bool mo ∧ g = lsum l.length L + (if mo then 1 else 0) ∧ LC wx b l.length L ∧ Below w.heap.size w wx ∧ LInv (adj win l) l.length L ∧ (mo = false → PStab (adj win l) l.length L l.length 0))
            case atStart => exact ⟨true, _, rfl, rfl, HLC.out, HBL.out, HST.out, fun e => by cases e⟩
            case round =>
              obtain ⟨mo, L, rfl, rfl, hlc, hbl, hinv, hst⟩ := hrel
              have HL1 := hide hlc
              have HB1 := hide hbl
              have HI1 := hide hinv
              have HS1 := hide hst
              clear hlc hbl hinv hst HLC HBL HST
              cases mo with
              | true =>
                have HSW := hide (Swp.start HI1.out)
                obtain ⟨S0, hS0⟩ : ∃ S0, lsum l.length L = S0 := ⟨_, rfl⟩
                rw [hS0] at HSW
                have HS0 := hide hS0
                clear hS0
                go_wp2_with fail
                go_loopw [9, 10] (fun m i wx => ∃ (k : Nat) (mo : Bool) (L : Nat → Nat), k ≤ l.length ∧ m = .bool mo ∧ i = .int .i64 k ∧ LC wx b l.length L ∧ Below w.heap.size w wx ∧ Swp (adj win l) l.length S0 mo L k 0) (fun _ i _ => l.length - (intOf i).toNat)
                case atStart => exact ⟨0, _, _, Nat.zero_le _, rfl, rfl, HL1.out, HB1.out, HSW.out⟩
                case round =>
                  obtain ⟨i, mo, L, hi, rfl, rfl, hlc, hbl, hsw⟩ := hrel
                  have HL2 := hide hlc
                  have HB2 := hide hbl
                  have HS2 := hide hsw
                  clear hlc hbl hsw HL1 HB1 HI1 HS1 HSW
                  by_cases hil : i < l.length
                  · have hii : (i : Int) < (l.length : Int) := by omega
                    have hi0 : (0 : Int) ≤ (i : Int) := by omega
                    go_wp2_with fail
                    go_loopw [9, 11] (fun m i' wx => ∃ (k : Nat) (mo : Bool) (L : Nat → Nat), k ≤ l.length ∧ m = .bool mo ∧ i' = .int .i64 k ∧ LC wx b l.length L ∧ Below w.heap.size w wx ∧ Swp (adj win l) l.length S0 mo L i k) (fun _ i _ => l.length - (intOf i).toNat)
                    case atStart => exact ⟨0, _, _, Nat.zero_le _, rfl, rfl, HL2.out, HB2.out, HS2.out⟩
                    case round =>
                      obtain ⟨k, mo, L, hk, rfl, rfl, hlc, hbl, hsw⟩ := hrel
                      have HL3 := hide hlc
                      have HB3 := hide hbl
                      have HS3 := hide hsw
                      clear hlc hbl hsw HL2 HB2 HS2
                      by_cases hkl : k < l.length
                      · have hki : (k : Int) < (l.length : Int) := by omega
                        have hk0 : (0 : Int) ≤ (k : Int) := by omega
                        have c1 := HL3.out.c i hil
                        have c2 := HL3.out.c k hkl
                        have f1 := HL3.out.f i hil
                        by_cases hLL : L k < L i
                        · have hLI : (L k : Int) < (L i : Int) := by omega
                          obtain ⟨b', off, rfl, hcpI, hcap, hc⟩ := HC.out (by omega)
                          obtain ⟨y0, y1, y2, y3, y4⟩ := cells_in HB3.out (hc i hil)
                          obtain ⟨z0, z1, z2, z3, z4⟩ := cells_in HB3.out (hc k hkl)
                          have HVI := hide (HVA.out l[i] (List.getElem_mem hil))
                          have HVK := hide (HVA.out l[k] (List.getElem_mem hkl))
                          have HAD := hide (adj_at (win := win) hil hkl)
                          clear hc
                          obtain ⟨x, hx⟩ : ∃ x, l[i] = x := ⟨_, rfl⟩
                          obtain ⟨y, hy⟩ : ∃ x, l[k] = x := ⟨_, rfl⟩
                          rw [hx] at y0 y1 y2 y3 y4 HVI HAD
                          rw [hy] at z0 z1 z2 z3 z4 HVK HAD
                          clear hx hy
                          obtain ⟨p, hp⟩ : ∃ p, nearB win x y = p := ⟨_, rfl⟩
                          have HP := hide hp
                          clear hp
                          go_wp2_with fail
                          go_region_held3 (fun w' => (w'.cell? ⟨b, i, none⟩ = some (.int .i64 (L i : Int)) ∧ w'.cell? ⟨b, k, none⟩ = some (.int .i64 (L k : Int))) ∧
                              (w'.cell? ⟨b', off + i * 5, none⟩ = some (.int .i64 x.tile) ∧ w'.cell? ⟨b', off + i * 5 + 1, none⟩ = some (.int .i64 x.cell) ∧ w'.cell? ⟨b', off + i * 5 + 2, none⟩ = some (.int .i64 x.flt) ∧ w'.cell? ⟨b', off + i * 5 + 3, none⟩ = some (.int .i64 x.val) ∧ w'.cell? ⟨b', off + i * 5 + 4, none⟩ = some (.int .i64 x.at_)) ∧
                              (w'.cell? ⟨b', off + k * 5, none⟩ = some (.int .i64 y.tile) ∧ w'.cell? ⟨b', off + k * 5 + 1, none⟩ = some (.int .i64 y.cell) ∧ w'.cell? ⟨b', off + k * 5 + 2, none⟩ = some (.int .i64 y.flt) ∧ w'.cell? ⟨b', off + k * 5 + 3, none⟩ = some (.int .i64 y.val) ∧ w'.cell? ⟨b', off + k * 5 + 4, none⟩ = some (.int .i64 y.at_)))
                            (first | exact ⟨⟨c1, c2⟩, ⟨y0, y1, y2, y3, y4⟩, ⟨z0, z1, z2, z3, z4⟩⟩ | exact ⟨⟨s1, s2⟩, ss⟩)
                            (first
                              | (go_at_call 47; refine (ref38_close x y win _ HVI.out HVK.out).mono ?_; rintro e w5 ⟨rfl, hb5⟩; rw [HP.out]; have s1 := keep_cell hb5 c1; have s2 := keep_cell hb5 c2; have ss := And.intro (cells_in hb5 ⟨y0, y1, y2, y3, y4⟩) (cells_in hb5 ⟨z0, z1, z2, z3, z4⟩)))
                          have HW5 := hide (bstep' (bDraw (Below.refl _ wr)) hb5)
                          have HL5 := hide (HL3.out.below HW5.out)
                          have HB5 := hide (bstep' HB3.out HW5.out)
                          have d1 := HL5.out.c i hil
                          have d2 := HL5.out.c k hkl
                          have g1 := HL5.out.f i hil
                          clear hb5 s1 s2 ss y0 y1 y2 y3 y4 z0 z1 z2 z3 z4 c1 c2 f1
                          cases p with
                          | true =>
                            have HN := hide (HS3.out.take hil hkl (HAD.out.2 HP.out) hLL)
                            have HLN := hide (HL5.out.set hil (L k))
                            have HBN := hide (bset HB5.out (p := ⟨b, i, none⟩) hbw (.int .i64 (L k : Int)))
                            go_wp2_with fail
                            go_roundw
                            case rel => exact ⟨k + 1, _, _, by omega, rfl, by go_num, HLN.out, HBN.out, HN.out⟩
                            case measure => simp [intOf]; omega
                          | false =>
                            have HN := hide (HS3.out.skip (fun h => by have := HAD.out.1 h; rw [HP.out] at this; cases this))
                            go_wp2_with fail
                            go_roundw
                            case rel => exact ⟨k + 1, _, _, by omega, rfl, by go_num, HL5.out, HB5.out, HN.out⟩
                            case measure => simp [intOf]; omega
                        · have hLI : (L i : Int) ≤ (L k : Int) := by omega
                          have HN := hide (HS3.out.skip (fun _ => by omega))
                          go_wp2_with fail
                          go_quiet (fail)
                          go_wp2_with fail
                          go_roundw
                          case rel => exact ⟨k + 1, _, L, by omega, rfl, by go_num, HL3.out.below (below_drewN (Below.refl _ _) _), below_drewN HB3.out _, HN.out⟩
                          case measure => simp [intOf]; omega
                      · have hk' : k = l.length := by omega
                        subst hk'
                        have HN := hide HS3.out.row
                        go_wp2_with fail
                        go_roundw
                        case rel => exact ⟨i + 1, _, L, by omega, rfl, by go_num, HL3.out, HB3.out, HN.out⟩
                        case measure => simp [intOf]; omega
                  · have hi' : i = l.length := by omega
                    subst hi'
                    obtain ⟨e1, e2, e3⟩ := HS2.out.ends
                    have E1 := hide e1
                    have E2 := hide e2
                    clear e1 e2
                    go_wp2_with fail
                    go_roundg (lsum l.length L + (if mo then 1 else 0))
                    case measure =>
                      have h9 := HS0.out
                      rw [h9]; exact e3
                    case rel => exact ⟨mo, L, rfl, rfl, HL2.out, HB2.out, E1.out, E2.out⟩
              | false =>
                have HPS := hide (HS1.out rfl)
                have HFX : Hid (∀ x, x < l.length → (firstB L x = true ↔ L x = x)) := fun x hx => HI1.out.first (fun x y p => adj_lt p) (fun x y p => adj_symm p) HPS.out hx
                have HIFF : Hid (∀ x y, x < l.length → y < l.length → (L x = L y ↔ Conn (adj win l) x y)) := fun x y hx hy => HI1.out.iff (fun x y p => adj_lt p) (fun x y p => adj_symm p) HPS.out hx hy
                clear HI1 HS1 HPS
                obtain ⟨i0, hi, hz0, hz1, hz2⟩ := info_parts Try.infoI
                obtain ⟨j0, ji, jz0, jz1, jz2⟩ := info_parts Try.infoS
                obtain ⟨H, hH⟩ : ∃ H, wr.heap.size = H := ⟨_, rfl⟩
                have hbH := HL1.out.lt
                rw [hH] at hbH
                have hHw : H ≤ wr.heap.size := by omega
                have HH := hide hHw
                clear hH hHw
                go_wp2_with fail
                go_loopw [12, 13] (fun u i wx => ∃ (k : Nat) (vs : List Value), k ≤ l.length ∧ i = .int .i64 k ∧ LC wx b l.length L ∧ Below w.heap.size w wx ∧ H ≤ wx.heap.size ∧ Nest vI 1 wx H u vs (outK L l.length k)) (fun _ i _ => l.length - (intOf i).toNat)
                case atStart => exact ⟨0, [], Nat.zero_le _, rfl, HL1.out, HB1.out, HH.out, Nest.nil _ _ _ _⟩
                case round =>
                  obtain ⟨k, vs, hk, rfl, hlc, hbl, hsz, hN⟩ := hrel
                  have HL2 := hide hlc
                  have HB2 := hide hbl
                  have HN2 := hide hN
                  have HSZ := hide hsz
                  clear hlc hbl hN hsz HL1 HB1 HH
                  by_cases hkl : k < l.length
                  · have hki : (k : Int) < (l.length : Int) := by omega
                    have hk0 : (0 : Int) ≤ (k : Int) := by omega
                    have c0 := HL2.out.c k hkl
                    by_cases e : L k = k
                    · have HOY := hide (outK_yes (n := l.length) ((HFX.out k hkl).2 e) e)
                      rw [e] at c0
                      clear e
                      have e1 : ((k : Int) != (k : Int)) = false := by simp
                      have e2 : ((k : Int) == (k : Int)) = true := by simp
                      have HO0 : Hid (OwnS wr wr.heap.size 1 (.slice none 0 0) (grpOf L 0 k).length (flatV vI (asI (grpOf L 0 k)))) := OwnS.nil _ _ _
                      go_wp2_with fail
                      go_loopw [14, 15] (fun v i wx => ∃ q : Nat, q ≤ l.length ∧ i = .int .i64 q ∧ OwnS wx wr.heap.size 1 v (grpOf L q k).length (flatV vI (asI (grpOf L q k))) ∧ LC wx b l.length L ∧ Below wr.heap.size wr wx) (fun _ i _ => l.length - (intOf i).toNat)
                      case atStart => exact ⟨0, Nat.zero_le _, rfl, HO0.out, HL2.out, Below.refl _ _⟩
                      case round =>
                        obtain ⟨q, hq, rfl, hown, hlc, hbl⟩ := hrel
                        have HO := hide hown
                        have HL3 := hide hlc
                        have HB3 := hide hbl
                        clear hown hlc hbl HO0 c0 e1 e2
                        by_cases hql : q < l.length
                        · have hqi : (q : Int) < (l.length : Int) := by omega
                          have hq0 : (0 : Int) ≤ (q : Int) := by omega
                          have c1 := HL3.out.c q hql
                          by_cases e : L q = k
                          · have HGY := hide (grpOf_yes L e)
                            have e2 : ((L q : Int) == (k : Int)) = true := by rw [e]; simp
                            clear e
                            have H1 : Hid (∀ u ∈ (#[Value.int .i64 (q : Int)] : Array Value).toList, u.oneCell' = true) := by
                              intro u hu
                              simp at hu
                              rw [hu]; rfl
                            have hgl := grpOf_len L q k
                            have hbytes : ((grpOf L q k).length + 1) * 8 ≤ 140737488355328 := by omega
                            have HSB := hide HB3.out.size
                            go_wp2_with (at_builtin; refine wpList_appendS rfl (.tmp 112) (.tmp 114) 30 rfl _ 3 i0 (.int .i64 0) 1 8 Try.underlying30 hi hz0 hz1 hz2 rfl (by decide) u14 _ _ rfl HO.out #[.int .i64 (q : Int)] 3 1 rfl rfl H1.out hbytes (by decide) HSB.out ?_; intro g4 off4 cap4 w4 hown4 hg4 hb4 hat4; have HO4 := hide hown4; have HB4 := hide hb4; clear hown4 hg4 hb4 hat4)
                            have HLN := hide (HL3.out.of_block (HB4.out.block b HL2.out.lt) (Nat.lt_of_lt_of_le HL3.out.lt HB4.out.size))
                            have HBN := hide (HB3.out.trans HB4.out)
                            go_roundw
                            case rel => exact ⟨q + 1, by omega, by go_num, by rw [HGY.out, asI_snoc, flatV_append, flatV_one, List.length_append]; exact HO4.out, HLN.out, HBN.out⟩
                            case measure => simp [intOf]; omega
                          · have HGN := hide (grpOf_no L e)
                            have e2 : ((L q : Int) == (k : Int)) = false := beq_eq_false_iff_ne.2 (by omega)
                            clear e
                            go_wp2_with fail
                            go_roundw
                            case rel => exact ⟨q + 1, by omega, by go_num, by rw [HGN.out]; exact HO.out, HL3.out, HB3.out⟩
                            case measure => simp [intOf]; omega
                        · have hq' : q = l.length := by omega
                          subst hq'
                          obtain ⟨ro, rc, rfl⟩ : ∃ ro rc, u14 = .slice ro (grpOf L l.length k).length rc := by
                            rcases HO.out.2 with ⟨ao, h1, h2, _⟩ | ⟨g, off, cap, h1, _⟩
                            · exact ⟨ao, 0, by rw [h1, h2]⟩
                            · exact ⟨_, _, h1⟩
                          have H1 : Hid (∀ u ∈ (#[Value.slice ro (grpOf L l.length k).length rc] : Array Value).toList, u.oneCell' = true) := by
                            intro u hu
                            simp at hu
                            rw [hu]; rfl
                          have HN3 := hide (HN2.out.below HB3.out)
                          have HNO := hide HN3.out.outer
                          have hol := outK_len L l.length k
                          have hbytes : ((outK L l.length k).length + 1) * 24 ≤ 140737488355328 := by omega
                          have HSB : Hid (H ≤ wr.heap.size) := Nat.le_trans HSZ.out HB3.out.size
                          go_wp2_with (at_builtin; refine wpList_appendS rfl (.tmp 116) (.tmp 118) 44 rfl H 30 j0 (.slice none 0 0) 1 24 Try.underlying44 ji jz0 jz1 jz2 rfl (by decide) u12 _ vs rfl HNO.out #[.slice ro (grpOf L l.length k).length rc] 30 1 rfl rfl H1.out hbytes (by decide) HSB.out ?_; intro g4 off4 cap4 w4 hown4 hg4 hb4 hat4; have HO4 := hide hown4; have HG4 := hide hg4; have HA4 := hide hat4; have HB4 := hide hb4; clear hown4 hg4 hb4 hat4)
                          have HLN := hide (HL3.out.of_block (HB4.out.block b hbH) (Nat.lt_of_lt_of_le HL3.out.lt HB4.out.size))
                          have HBN := hide ((HB2.out.trans (HB3.out.mono HB2.out.size)).trans (HB4.out.mono (show w.heap.size ≤ H by omega)))
                          have HNN := hide (HN3.out.push (Below.refl _ _) (m := asI (grpOf L l.length k)) HO4.out HG4.out HA4.out (by rw [asI_len]; exact HO.out.mono HSZ.out)
                            (fun g hg he => by have h1 := (HO.out.lt g hg).1; have h2 := (HN2.out.outer.lt g he).2; omega)
                            (fun j v' g hj hg he => by
                              have h1 := (HO.out.lt g he).1
                              have hjl : j < (outK L l.length k).length := by rw [← HN2.out.len]; exact (List.getElem?_eq_some_iff.1 hj).1
                              have h2 := ((HN2.out.inner j v' _ hj (List.getElem?_eq_getElem hjl)).lt g hg).2
                              omega))
                          rw [← HOY.out] at HNN
                          have HSN : Hid (H ≤ w4.heap.size) := Nat.le_trans HSB.out HB4.out.size
                          go_roundw
                          case rel => exact ⟨k + 1, _, by omega, by go_num, HLN.out, HBN.out, HSN.out, HNN.out⟩
                          case measure => simp [intOf]; omega
                    · have hfb : firstB L k = false := by
                        rcases Bool.eq_false_or_eq_true (firstB L k) with hb | hb
                        · exact absurd ((HFX.out k hkl).1 hb) e
                        · exact hb
                      have HON := hide (outK_no (n := l.length) hfb)
                      have e1 : ((L k : Int) != (k : Int)) = true := by rw [bne_iff_ne]; omega
                      have e2 : ((L k : Int) == (k : Int)) = false := beq_eq_false_iff_ne.2 (by omega)
                      clear e hfb
                      go_wp2_with fail
                      go_roundw
                      case rel => exact ⟨k + 1, vs, by omega, by go_num, HL2.out, HB2.out, HSZ.out, by rw [HON.out]; exact HN2.out⟩
                      case measure => simp [intOf]; omega
                  · have hk' : k = l.length := by omega
                    subst hk'
                    have HSS : Hid (SliceSS vI 1 wr u12 (gK L l.length)) := HN2.out.slice vI_len
                    go_wp2_with fail
                    go_ret2
                    exact ⟨u12, _, ret_ui HE.out.symm, HSS.out, HB2.out, gok_ok HE.out HIFF.out⟩
      · have HW := hide hw
        have HE := hide (gErr_win (l := l) (win := win) hl2 hw)
        clear hw
        go_wp2_with fail
        refine (ref38_moment win false _ HW.out).mono ?_
        rintro e w0 ⟨rfl, rfl⟩
        go_wp2_with fail
        go_ret2
        exact ⟨.slice none 0 0, [], ret_ui HE.out.symm, SliceSS.nil _ _ _, HBL.out, gok_bad (by rw [HE.out]; decide)⟩
end Go.Proofs.Ytahlhiiekgnmpab
