/- observatoryref05.Hull. -/
import Derived.Test.YtbojlmnajndleaaGreatDoorRvB
import Derived.Test.YtbojlmnajndleaaGreatDoorIvM
set_option linter.unusedVariables false
set_option linter.unusedSimpArgs false
namespace Go.Proofs.YtbojlmnajndleaaGreatDoor
open Go.RowKit Go.Sort
theorem take_step {l : List Q3} {j : Nat} {m : Q3} (hm : l[j]? = some m) : l.take (j + 1) = l.take j ++ [m] := by rw [List.take_add_one, hm]; rfl
theorem min_step {l : List Q3} {j : Nat} {lo m lo' : Q3} (h : MinX (l.take j) lo) (hm : l[j]? = some m) (h1 : (lo' = m ∧ qv m < qv lo) ∨ (lo' = lo ∧ ¬ qv m < qv lo)) : MinX (l.take (j + 1)) lo' := by
  rw [take_step hm]
  refine ⟨?_, fun y hy => ?_⟩
  · rcases h1 with ⟨rfl, _⟩ | ⟨rfl, _⟩
    · simp
    · exact List.mem_append_left _ h.1
  · rcases List.mem_append.1 hy with hy | hy
    · have := h.2 y hy
      rcases h1 with ⟨rfl, _⟩ | ⟨rfl, _⟩ <;> grind
    · obtain rfl : y = m := by simpa using hy
      rcases h1 with ⟨rfl, _⟩ | ⟨rfl, _⟩ <;> grind
theorem max_step {l : List Q3} {j : Nat} {lo m lo' : Q3} (h : MaxX (l.take j) lo) (hm : l[j]? = some m) (h1 : (lo' = m ∧ qv lo < qv m) ∨ (lo' = lo ∧ ¬ qv lo < qv m)) : MaxX (l.take (j + 1)) lo' := by
  rw [take_step hm]
  refine ⟨?_, fun y hy => ?_⟩
  · rcases h1 with ⟨rfl, _⟩ | ⟨rfl, _⟩
    · simp
    · exact List.mem_append_left _ h.1
  · rcases List.mem_append.1 hy with hy | hy
    · have := h.2 y hy
      rcases h1 with ⟨rfl, _⟩ | ⟨rfl, _⟩ <;> grind
    · obtain rfl : y = m := by simpa using hy
      rcases h1 with ⟨rfl, _⟩ | ⟨rfl, _⟩ <;> grind
theorem min_one {l : List Q3} {m : Q3} (hm : l[0]? = some m) : MinX (l.take 1) m := by
  rw [take_step hm]; exact ⟨by simp, fun y hy => by simp at hy; subst hy; exact Rat.le_refl⟩
theorem max_one {l : List Q3} {m : Q3} (hm : l[0]? = some m) : MaxX (l.take 1) m := by
  rw [take_step hm]; exact ⟨by simp, fun y hy => by simp at hy; subst hy; exact Rat.le_refl⟩
def RvHullPost (w : World) (l : List (Q3 × Q3)) (e : Ending) (w' : World) : Prop := ∃ lo hi : Q3, e = .returned (.tuple #[iArg (lo, hi), .int .i64 0]) ∧ (MinX (l.map Prod.fst) lo ∧ MaxX (l.map Prod.snd) hi) ∧ Below w.heap.size w w'
def AllVB (l : List (Q3 × Q3)) (vld : Q3 × Q3 → Bool) (k : Nat) : Prop := ∀ j (h : j < l.length), j < k → vld l[j] = true

set_option maxHeartbeats 8000000 in
set_option maxRecDepth 100000 in
theorem rv_hull_bad (l : List (Q3 × Q3)) (ao : Option Addr) (cp : Nat) (vld : Q3 × Q3 → Bool)  (w : World) (hv : SliceOf vIv 6 w (.slice ao l.length cp) l) (hn : l.length ≤ 1000) (h0 : 0 < l.length) (hV : ∀ x ∈ l, JV x.1.1 x.1.2.1 x.1.2.2 x.2.1 x.2.2.1 x.2.2.2 (vld x)) (hb : (l.any fun x => !vld x) = true) (hw : LawW w) :
    Calls Tryz.prog 16 #[.slice ao l.length cp] w fun e w' => e = .returned (.tuple #[.agg #[.bool false, .string ⟨#[]⟩, .string ⟨#[]⟩, .bool false, .string ⟨#[]⟩, .string ⟨#[]⟩], .int .i64 1]) ∧ Below w.heap.size w w' := by
  have HW := hide hw
  obtain ⟨bl, off, rfl, _, hcap, hcm, hc⟩ := SliceOf.at_ hv h0
  have HCI : Hid (∀ W, Below w.heap.size w W → ∀ m (hm : m < l.length), IvAt W bl (off + m * 6) l[m]) := fun W hW m hm => ivat_of (fun j u hu => keep_cell hW (hc m hm j u hu))
  have hcpI : (l.length : Int) ≤ (cp : Int) := by omega
  have hcmI : (cp : Int) ≤ 9223372036854775807 := by unfold maxLen at hcm; omega
  have hlI : (l.length : Int) ≤ 1000 := by omega
  have hl0 : (0 : Int) < (l.length : Int) := by omega
  have z0 : ((l.length : Int) == 0) = false := beq_eq_false_iff_ne.2 (by omega)
  have z1 : decide ((1000 : Int) < (l.length : Int)) = false := decide_eq_false (by omega)
  have z2 : decide (1000 < l.length) = false := decide_eq_false (by omega)
  have z3 : ¬ l.length = 0 := by omega
  have HVL := hide hV
  unfold JV at HVL
  have HBD : Hid (¬ AllVB l vld l.length) := fun h => by
    rw [List.any_eq_true] at hb
    obtain ⟨x, hx, h2⟩ := hb
    obtain ⟨j, hj, rfl⟩ := List.getElem_of_mem hx
    rw [h j hj hj] at h2
    cases h2

  have HV0 : Hid (VB w w []) := VB.nil w
  clear hw hc hcap hcm hv h0 hn hV hb
  go_enter Tryz.func16, Tryz.ntmps16
  have HV0_ := hide (HV0.out.push6 (b := w.heap.size) (by simp) (.bool false) (.string ⟨#[]⟩) (.string ⟨#[]⟩) (.bool false) (.string ⟨#[]⟩) (.string ⟨#[]⟩) 26)
  clear HV0
  go_wp2_with fail
  go_loopw [4] (fun z4 wx => ∃ k : Nat, k ≤ l.length ∧ z4 = .int .i64 (k : Int) ∧ AllVB l vld k ∧ VB w wx [(w.heap.size, [.bool false, .string ⟨#[]⟩, .string ⟨#[]⟩, .bool false, .string ⟨#[]⟩, .string ⟨#[]⟩])]) (fun z _ => l.length - (intOf z).toNat)
  case atStart => exact ⟨0, Nat.zero_le _, rfl, fun j _ h => absurd h (Nat.not_lt_zero _), HV0_.out⟩
  case round =>
    obtain ⟨k, hk, rfl, hall, hv⟩ := hrel
    have HAL := hide hall
    have HV := hide hv
    clear hall hv HV0_
    by_cases hlt : k < l.length
    · have hki : (k : Int) < (l.length : Int) := by omega
      have hk0 : (0 : Int) ≤ (k : Int) := by omega
      obtain ⟨c0, c1, c2, c3, c4, c5⟩ := HCI.out _ HV.out.bel k hlt
      have HX := hide (HVL.out l[k] (List.getElem_mem hlt))
      rcases Bool.eq_false_or_eq_true (vld l[k]) with hx | hx
      all_goals
        have HXX := hide hx
        rw [hx] at HX
        clear hx
      · have HN : Hid (AllVB l vld (k + 1)) := fun j h hj => by
          by_cases e : j = k
          · subst e; exact HXX.out
          · exact HAL.out j h (by omega)
        go_wp2_with fail
        refine (HX.out _ (HV.out.law HW.out)).mono ?_
        rintro e w5 ⟨rfl, hb⟩
        have HV5 := hide (HV.out.below hb)
        clear hb c0 c1 c2 c3 c4 c5
        go_wp2_with fail
        go_roundw
        case rel => exact ⟨k + 1, by omega, by go_num, HN.out, HV5.out⟩
        case measure => (simp [intOf]; omega)
      · go_wp2_with fail
        refine (HX.out _ (HV.out.law HW.out)).mono ?_
        rintro e w5 ⟨rfl, hb⟩
        have HV5 := hide (HV.out.below hb)
        clear hb c0 c1 c2 c3 c4 c5
        obtain ⟨o0, o1, o2, o3, o4, o5⟩ := HV5.out.at6 0 rfl
        obtain ⟨f0, f1, f2, f3, f4, f5⟩ := HV5.out.fz6 0 rfl
        go_wp2_with fail
        clear o0 o1 o2 o3 o4 o5 f0 f1 f2 f3 f4 f5
        have HV6 := hide (HV5.out.put6 0 rfl (.bool false) (.string ⟨#[]⟩) (.string ⟨#[]⟩) (.bool false) (.string ⟨#[]⟩) (.string ⟨#[]⟩))
        obtain ⟨d0, d1, d2, d3, d4, d5⟩ := HV6.out.at6 0 rfl
        exact bodyPost_ret (v := .tuple #[.agg #[.bool false, .string ⟨#[]⟩, .string ⟨#[]⟩, .bool false, .string ⟨#[]⟩, .string ⟨#[]⟩], .int .i64 1]) (by simp [results, Tryz.results16, go_sem, d0, d1, d2, d3, d4, d5]) rfl ⟨rfl, HV6.out.bel⟩
    · have hk' : k = l.length := by omega
      subst hk'
      exact absurd HAL.out HBD.out
set_option maxHeartbeats 8000000 in
set_option maxRecDepth 100000 in
theorem rv_hull_nil (ao : Option Addr) (cp : Nat)  (w : World)  (hw : LawW w) :
    Calls Tryz.prog 16 #[.slice ao 0 cp] w fun e w' => e = .returned (.tuple #[.agg #[.bool false, .string ⟨#[]⟩, .string ⟨#[]⟩, .bool false, .string ⟨#[]⟩, .string ⟨#[]⟩], .int .i64 10]) ∧ Below w.heap.size w w' := by
  have HW := hide hw
  have HV0 : Hid (VB w w []) := VB.nil w
  clear hw 
  go_enter Tryz.func16, Tryz.ntmps16
  have HV0_ := hide (HV0.out.push6 (b := w.heap.size) (by simp) (.bool false) (.string ⟨#[]⟩) (.string ⟨#[]⟩) (.bool false) (.string ⟨#[]⟩) (.string ⟨#[]⟩) 26)
  clear HV0
  go_wp2_with fail
  go_loopw [4] (fun z4 wx => z4 = .int .i64 0 ∧ VB w wx [(w.heap.size, [.bool false, .string ⟨#[]⟩, .string ⟨#[]⟩, .bool false, .string ⟨#[]⟩, .string ⟨#[]⟩])]) (fun z _ => 0)
  case atStart => exact ⟨rfl, HV0_.out⟩
  case round =>
    obtain ⟨rfl, hv⟩ := hrel
    have HV := hide hv
    clear hv HV0_
    obtain ⟨o0, o1, o2, o3, o4, o5⟩ := HV.out.at6 0 rfl
    obtain ⟨f0, f1, f2, f3, f4, f5⟩ := HV.out.fz6 0 rfl
    go_wp2_with fail
    clear o0 o1 o2 o3 o4 o5 f0 f1 f2 f3 f4 f5
    have HV6 := hide (HV.out.put6 0 rfl (.bool false) (.string ⟨#[]⟩) (.string ⟨#[]⟩) (.bool false) (.string ⟨#[]⟩) (.string ⟨#[]⟩))
    obtain ⟨d0, d1, d2, d3, d4, d5⟩ := HV6.out.at6 0 rfl
    exact bodyPost_ret (v := .tuple #[.agg #[.bool false, .string ⟨#[]⟩, .string ⟨#[]⟩, .bool false, .string ⟨#[]⟩, .string ⟨#[]⟩], .int .i64 10]) (by simp [results, Tryz.results16, go_sem, d0, d1, d2, d3, d4, d5]) rfl ⟨rfl, HV6.out.bel⟩
set_option maxHeartbeats 8000000 in
set_option maxRecDepth 100000 in
theorem rv_hull_ok (l : List (Q3 × Q3)) (ao : Option Addr) (cp : Nat)  (w : World) (hv : SliceOf vIv 6 w (.slice ao l.length cp) l) (hn : l.length ≤ 1000) (h0 : 0 < l.length) (hV : ∀ x ∈ l, JV x.1.1 x.1.2.1 x.1.2.2 x.2.1 x.2.2.1 x.2.2.2 true) (hc1 : CmpAll (l.map Prod.fst)) (hc2 : CmpAll (l.map Prod.snd)) (hw : LawW w) :
    Calls Tryz.prog 16 #[.slice ao l.length cp] w (RvHullPost w l) := by
  have HW := hide hw
  obtain ⟨bl, off, rfl, _, hcap, hcm, hc⟩ := SliceOf.at_ hv h0
  have HCI : Hid (∀ W, Below w.heap.size w W → ∀ m (hm : m < l.length), IvAt W bl (off + m * 6) l[m]) := fun W hW m hm => ivat_of (fun j u hu => keep_cell hW (hc m hm j u hu))
  have hcpI : (l.length : Int) ≤ (cp : Int) := by omega
  have hcmI : (cp : Int) ≤ 9223372036854775807 := by unfold maxLen at hcm; omega
  have hlI : (l.length : Int) ≤ 1000 := by omega
  have hl0 : (0 : Int) < (l.length : Int) := by omega
  have z0 : ((l.length : Int) == 0) = false := beq_eq_false_iff_ne.2 (by omega)
  have z1 : decide ((1000 : Int) < (l.length : Int)) = false := decide_eq_false (by omega)
  have z2 : decide (1000 < l.length) = false := decide_eq_false (by omega)
  have z3 : ¬ l.length = 0 := by omega
  obtain ⟨vld, hvd⟩ : ∃ v : Q3 × Q3 → Bool, v = fun _ => true := ⟨_, rfl⟩
  have HVL : Hid (∀ x ∈ l, JV x.1.1 x.1.2.1 x.1.2.2 x.2.1 x.2.2.1 x.2.2.2 (vld x)) := by subst hvd; exact hV
  unfold JV at HVL
  have HOK : Hid (∀ k (h : k < l.length), vld l[k] = true) := by subst hvd; exact fun _ _ => rfl
  have HC1 := hide hc1
  have HC2 := hide hc2
  have H0N : Hid (0 < l.length) := h0
  have h10 : decide ((1 : Int) < (l.length : Int)) = decide (1 < l.length) := decide_eq_decide.2 (by omega)
  have HE1 : Hid (∀ k (h : k < l.length), (l.map Prod.fst)[k]? = some l[k].1) := fun k h => by rw [List.getElem?_map, List.getElem?_eq_getElem h]; rfl
  have HE2 : Hid (∀ k (h : k < l.length), (l.map Prod.snd)[k]? = some l[k].2) := fun k h => by rw [List.getElem?_map, List.getElem?_eq_getElem h]; rfl

  have HV0 : Hid (VB w w []) := VB.nil w
  clear hw hc hcap hcm hv h0 hn hV hc1 hc2 hvd h10
  go_enter Tryz.func16, Tryz.ntmps16
  have HV0_ := hide (HV0.out.push6 (b := w.heap.size) (by simp) (.bool false) (.string ⟨#[]⟩) (.string ⟨#[]⟩) (.bool false) (.string ⟨#[]⟩) (.string ⟨#[]⟩) 26)
  clear HV0
  go_wp2_with fail
  go_loopw [4] (fun z4 wx => ∃ k : Nat, k ≤ l.length ∧ z4 = .int .i64 (k : Int) ∧ AllVB l vld k ∧ VB w wx [(w.heap.size, [.bool false, .string ⟨#[]⟩, .string ⟨#[]⟩, .bool false, .string ⟨#[]⟩, .string ⟨#[]⟩])]) (fun z _ => l.length - (intOf z).toNat)
  case atStart => exact ⟨0, Nat.zero_le _, rfl, fun j _ h => absurd h (Nat.not_lt_zero _), HV0_.out⟩
  case round =>
    obtain ⟨k, hk, rfl, hall, hv⟩ := hrel
    have HAL := hide hall
    have HV := hide hv
    clear hall hv HV0_
    by_cases hlt : k < l.length
    · have hki : (k : Int) < (l.length : Int) := by omega
      have hk0 : (0 : Int) ≤ (k : Int) := by omega
      obtain ⟨c0, c1, c2, c3, c4, c5⟩ := HCI.out _ HV.out.bel k hlt
      have HX := hide (HVL.out l[k] (List.getElem_mem hlt))
      rcases Bool.eq_false_or_eq_true (vld l[k]) with hx | hx
      all_goals
        have HXX := hide hx
        rw [hx] at HX
        clear hx
      · have HN : Hid (AllVB l vld (k + 1)) := fun j h hj => by
          by_cases e : j = k
          · subst e; exact HXX.out
          · exact HAL.out j h (by omega)
        go_wp2_with fail
        refine (HX.out _ (HV.out.law HW.out)).mono ?_
        rintro e w5 ⟨rfl, hb⟩
        have HV5 := hide (HV.out.below hb)
        clear hb c0 c1 c2 c3 c4 c5
        go_wp2_with fail
        go_roundw
        case rel => exact ⟨k + 1, by omega, by go_num, HN.out, HV5.out⟩
        case measure => (simp [intOf]; omega)
      · exact absurd (HOK.out k hlt) (by rw [HXX.out]; simp)
    · have hk' : k = l.length := by omega
      subst hk'
      have HF1 := hide (HE1.out 0 H0N.out)
      have HF2 := hide (HE2.out 0 H0N.out)
      have hcell := HCI.out _ HV.out.bel 0 H0N.out
      obtain ⟨a, ha⟩ : ∃ a, l[0]'H0N.out = a := ⟨_, rfl⟩
      rw [ha] at HF1 HF2 hcell
      clear ha
      obtain ⟨⟨gx, sx, tx⟩, gy, sy, ty⟩ := a
      obtain ⟨c0, c1, c2, c3, c4, c5⟩ := hcell
      rw [Nat.zero_mul, Nat.add_zero] at c0 c1 c2 c3 c4 c5
      go_wp2_with fail
      clear c0 c1 c2 c3 c4 c5
      have HV_ := hide (HV.out.push6 (b := wr.heap.size) (by simp) (.bool gx) (.string sx) (.string tx) (.bool gy) (.string sy) (.string ty) 26)
      clear HV
      obtain ⟨wq, hwq⟩ : ∃ x, (wr.alloc (.cells #[.bool gx, .string sx, .string tx, .bool gy, .string sy, .string ty] 26)) = x := ⟨_, rfl⟩
      obtain ⟨ob, hob⟩ : ∃ x, wr.heap.size = x := ⟨_, rfl⟩
      have HVQ := hide HV_.out
      rw [hwq, hob] at HVQ
      rw [hwq, hob]
      clear hwq hob HV_
      go_loopw [6] (fun z6 wx => ∃ (k : Nat) (gl gh : Bool) (sl tl sh th : ByteArray), k ≤ l.length ∧ z6 = .int .i64 (k : Int) ∧ 0 < k ∧ MinX ((l.map Prod.fst).take k) (gl, sl, tl) ∧ MaxX ((l.map Prod.snd).take k) (gh, sh, th) ∧ VB w wx [(ob, [.bool gl, .string sl, .string tl, .bool gh, .string sh, .string th]), (w.heap.size, [.bool false, .string ⟨#[]⟩, .string ⟨#[]⟩, .bool false, .string ⟨#[]⟩, .string ⟨#[]⟩])]) (fun z _ => l.length - (intOf z).toNat)
      case atStart => exact ⟨1, _, _, _, _, _, _, H0N.out, rfl, Nat.one_pos, min_one HF1.out, max_one HF2.out, HVQ.out⟩
      case round =>
        obtain ⟨k, gl, gh, sl, tl, sh, th, hk, rfl, hk1, hmin, hmax, hv⟩ := hrel
        have HMN := hide hmin
        have HMX := hide hmax
        have HV := hide hv
        clear hmin hmax hv HVQ HF1 HF2
        by_cases hlt : k < l.length
        · have hki : (k : Int) < (l.length : Int) := by omega
          have hk0 : (0 : Int) ≤ (k : Int) := by omega
          have HF1 := hide (HE1.out k hlt)
          have HF2 := hide (HE2.out k hlt)
          have HCK := hide (fun W hW => HCI.out W hW k hlt)
          obtain ⟨a, ha⟩ : ∃ a, l[k] = a := ⟨_, rfl⟩
          have HCW : Hid (∀ W, Below w.heap.size w W → IvAt W bl (off + k * 6) a) := by rw [← ha]; exact HCK.out
          rw [ha] at HF1 HF2
          clear ha HCK
          obtain ⟨⟨gx, sx, tx⟩, gy, sy, ty⟩ := a
          obtain ⟨z1, hz1, c1, -⟩ := HC1.out (gx, sx, tx) (List.mem_of_getElem? HF1.out) (gl, sl, tl) (List.mem_of_mem_take HMN.out.1)
          obtain ⟨z2, hz2, -, c2⟩ := HC2.out (gy, sy, ty) (List.mem_of_getElem? HF2.out) (gh, sh, th) (List.mem_of_mem_take HMX.out.1)
          unfold YC at hz1 hz2
          have HZ1 := hide hz1
          have HZ2 := hide hz2
          have HD1 := hide c1
          have HD2 := hide c2
          clear hz1 hz2 c1 c2
          have HLW : Hid (∀ W, Below wr.heap.size wr W → LawW W) := fun W h => (HV.out.below h).law HW.out
          have HCS : Hid (∀ W, Below wr.heap.size wr W → (W.cell? ⟨bl, off + k * 6, none⟩ = some (.bool gx) ∧ W.cell? ⟨bl, off + k * 6 + 1, none⟩ = some (.string sx) ∧ W.cell? ⟨bl, off + k * 6 + 2, none⟩ = some (.string tx)) ∧ (W.cell? ⟨ob, 0, none⟩ = some (.bool gl) ∧ W.cell? ⟨ob, 1, none⟩ = some (.string sl) ∧ W.cell? ⟨ob, 2, none⟩ = some (.string tl))) := fun W h => by
            have hv := HV.out.below h
            obtain ⟨y0, y1, y2, y3, y4, y5⟩ := hv.at6 0 rfl
            obtain ⟨x0, x1, x2, x3, x4, x5⟩ := HCW.out W hv.bel
            exact ⟨⟨x0, x1, x2⟩, y0, y1, y2⟩
          go_wp2_with fail
          have hd := (Below.refl wr.heap.size wr).drew
          go_region_held3 (fun w' => (w'.cell? ⟨bl, off + k * 6, none⟩ = some (.bool gx) ∧ w'.cell? ⟨bl, off + k * 6 + 1, none⟩ = some (.string sx) ∧ w'.cell? ⟨bl, off + k * 6 + 2, none⟩ = some (.string tx)) ∧ (w'.cell? ⟨ob, 0, none⟩ = some (.bool gl) ∧ w'.cell? ⟨ob, 1, none⟩ = some (.string sl) ∧ w'.cell? ⟨ob, 2, none⟩ = some (.string tl)))
            (first | exact HCS.out _ (by assumption))
            (first
              | (go_at_call 32; (with_reducible refine (HZ1.out wr.drew (HLW.out wr.drew hd)).mono ?_); rintro e wa ⟨rfl, hb⟩; have hd := bStep (w0 := wr) hd hb; clear hb))
          have HV_ := hide (HV.out.below hd)
          clear hd HLW HCS HV
          obtain ⟨wb, hwb⟩ : ∃ x, x = wa := ⟨_, rfl⟩
          rcases Bool.eq_false_or_eq_true (decide (z1 < 0)) with d1 | d1
          · have HL := hide (HD1.out.1 (of_decide_eq_true d1))
            have d1p := of_decide_eq_true d1
            obtain ⟨y0, y1, y2, y3, y4, y5⟩ := HV_.out.at6 0 rfl
            obtain ⟨f0, f1, f2, f3, f4, f5⟩ := HV_.out.fz6 0 rfl
            obtain ⟨x0, x1, x2, x3, x4, x5⟩ := HCW.out _ HV_.out.bel
            go_wp2_with fail
            clear y0 y1 y2 y3 y4 y5 f0 f1 f2 f3 f4 f5 x0 x1 x2 x3 x4 x5 d1 d1p
            have HV2 := hide (HV_.out.put6lo 0 rfl (.bool gx) (.string sx) (.string tx))
            clear HV_
            obtain ⟨wd, hwd⟩ : ∃ x, ((wa.setCell ⟨ob, 0, none⟩ (.bool gx)).setCell ⟨ob, 1, none⟩ (.string sx)).setCell ⟨ob, 2, none⟩ (.string tx) = x := ⟨_, rfl⟩
            rw [hwd] at HV2 ⊢
            clear hwd
            have HLW : Hid (∀ W, Below wd.heap.size wd W → LawW W) := fun W h => (HV2.out.below h).law HW.out
            have HCS : Hid (∀ W, Below wd.heap.size wd W → ((W.cell? ⟨bl, off + k * 6 + 3, none⟩ = some (.bool gy) ∧ W.cell? ⟨bl, off + k * 6 + 3 + 1, none⟩ = some (.string sy) ∧ W.cell? ⟨bl, off + k * 6 + 3 + 2, none⟩ = some (.string ty)) ∧ (W.cell? ⟨bl, off + k * 6 + 4, none⟩ = some (.string sy) ∧ W.cell? ⟨bl, off + k * 6 + 5, none⟩ = some (.string ty))) ∧ (W.cell? ⟨ob, 3, none⟩ = some (.bool gh) ∧ W.cell? ⟨ob, 4, none⟩ = some (.string sh) ∧ W.cell? ⟨ob, 5, none⟩ = some (.string th))) := fun W h => by
              have hv := HV2.out.below h
              obtain ⟨y0, y1, y2, y3, y4, y5⟩ := hv.at6 0 rfl
              obtain ⟨x0, x1, x2, x3, x4, x5⟩ := HCW.out W hv.bel
              exact ⟨⟨⟨x3, x4, x5⟩, x4, x5⟩, y3, y4, y5⟩
            have hd := (Below.refl wd.heap.size wd).drew
            go_region_held3 (fun w' => ((w'.cell? ⟨bl, off + k * 6 + 3, none⟩ = some (.bool gy) ∧ w'.cell? ⟨bl, off + k * 6 + 3 + 1, none⟩ = some (.string sy) ∧ w'.cell? ⟨bl, off + k * 6 + 3 + 2, none⟩ = some (.string ty)) ∧ (w'.cell? ⟨bl, off + k * 6 + 4, none⟩ = some (.string sy) ∧ w'.cell? ⟨bl, off + k * 6 + 5, none⟩ = some (.string ty))) ∧ (w'.cell? ⟨ob, 3, none⟩ = some (.bool gh) ∧ w'.cell? ⟨ob, 4, none⟩ = some (.string sh) ∧ w'.cell? ⟨ob, 5, none⟩ = some (.string th)))
              (first | exact HCS.out _ (by assumption))
              (first
                | (go_at_call 32; (with_reducible refine (HZ2.out wd.drew (HLW.out wd.drew hd)).mono ?_); rintro e wa ⟨rfl, hb⟩; have hd := bStep (w0 := wd) hd hb; clear hb))
            have HV2_ := hide (HV2.out.below hd)
            clear hd HLW HCS HV2
            rcases Bool.eq_false_or_eq_true (decide (0 < z2)) with d2 | d2
            · have HHI := hide (HD2.out.1 (of_decide_eq_true d2))
              have d2p := of_decide_eq_true d2
              have HMN' := hide (min_step HMN.out HF1.out (.inl ⟨rfl, HL.out⟩))
              have HMX' := hide (max_step HMX.out HF2.out (.inl ⟨rfl, HHI.out⟩))
              obtain ⟨y0, y1, y2, y3, y4, y5⟩ := HV2_.out.at6 0 rfl
              obtain ⟨f0, f1, f2, f3, f4, f5⟩ := HV2_.out.fz6 0 rfl
              obtain ⟨x0, x1, x2, x3, x4, x5⟩ := HCW.out _ HV2_.out.bel
              go_wp2_with fail
              clear y0 y1 y2 y3 y4 y5 f0 f1 f2 f3 f4 f5 x0 x1 x2 x3 x4 x5
              have HV3 := hide (HV2_.out.put6hi 0 rfl (.bool gy) (.string sy) (.string ty))
              go_roundw
              case rel => exact ⟨k + 1, _, _, _, _, _, _, by omega, by go_num, by omega, HMN'.out, HMX'.out, HV3.out⟩
              case measure => (simp [intOf]; try omega)
            · have HHI := hide (fun h => of_decide_eq_false d2 (HD2.out.2 h))
              have d2p := of_decide_eq_false d2
              have HMN' := hide (min_step HMN.out HF1.out (.inl ⟨rfl, HL.out⟩))
              have HMX' := hide (max_step HMX.out HF2.out (.inr ⟨rfl, HHI.out⟩))
              go_wp2_with fail
              go_roundw
              case rel => exact ⟨k + 1, _, _, _, _, _, _, by omega, by go_num, by omega, HMN'.out, HMX'.out, HV2_.out⟩
              case measure => (simp [intOf]; try omega)
          · have HL := hide (fun h => of_decide_eq_false d1 (HD1.out.2 h))
            have d1p := of_decide_eq_false d1
            go_wp2_with fail
            clear d1 d1p
            have HV2 := hide HV_.out
            clear HV_
            obtain ⟨wd, rfl⟩ : ∃ x, x = wa := ⟨_, rfl⟩
            have HLW : Hid (∀ W, Below wd.heap.size wd W → LawW W) := fun W h => (HV2.out.below h).law HW.out
            have HCS : Hid (∀ W, Below wd.heap.size wd W → ((W.cell? ⟨bl, off + k * 6 + 3, none⟩ = some (.bool gy) ∧ W.cell? ⟨bl, off + k * 6 + 3 + 1, none⟩ = some (.string sy) ∧ W.cell? ⟨bl, off + k * 6 + 3 + 2, none⟩ = some (.string ty)) ∧ (W.cell? ⟨bl, off + k * 6 + 4, none⟩ = some (.string sy) ∧ W.cell? ⟨bl, off + k * 6 + 5, none⟩ = some (.string ty))) ∧ (W.cell? ⟨ob, 3, none⟩ = some (.bool gh) ∧ W.cell? ⟨ob, 4, none⟩ = some (.string sh) ∧ W.cell? ⟨ob, 5, none⟩ = some (.string th))) := fun W h => by
              have hv := HV2.out.below h
              obtain ⟨y0, y1, y2, y3, y4, y5⟩ := hv.at6 0 rfl
              obtain ⟨x0, x1, x2, x3, x4, x5⟩ := HCW.out W hv.bel
              exact ⟨⟨⟨x3, x4, x5⟩, x4, x5⟩, y3, y4, y5⟩
            have hd := (Below.refl wd.heap.size wd).drew
            go_region_held3 (fun w' => ((w'.cell? ⟨bl, off + k * 6 + 3, none⟩ = some (.bool gy) ∧ w'.cell? ⟨bl, off + k * 6 + 3 + 1, none⟩ = some (.string sy) ∧ w'.cell? ⟨bl, off + k * 6 + 3 + 2, none⟩ = some (.string ty)) ∧ (w'.cell? ⟨bl, off + k * 6 + 4, none⟩ = some (.string sy) ∧ w'.cell? ⟨bl, off + k * 6 + 5, none⟩ = some (.string ty))) ∧ (w'.cell? ⟨ob, 3, none⟩ = some (.bool gh) ∧ w'.cell? ⟨ob, 4, none⟩ = some (.string sh) ∧ w'.cell? ⟨ob, 5, none⟩ = some (.string th)))
              (first | exact HCS.out _ (by assumption))
              (first
                | (go_at_call 32; (with_reducible refine (HZ2.out wd.drew (HLW.out wd.drew hd)).mono ?_); rintro e wa ⟨rfl, hb⟩; have hd := bStep (w0 := wd) hd hb; clear hb))
            have HV2_ := hide (HV2.out.below hd)
            clear hd HLW HCS HV2
            rcases Bool.eq_false_or_eq_true (decide (0 < z2)) with d2 | d2
            · have HHI := hide (HD2.out.1 (of_decide_eq_true d2))
              have d2p := of_decide_eq_true d2
              have HMN' := hide (min_step HMN.out HF1.out (.inr ⟨rfl, HL.out⟩))
              have HMX' := hide (max_step HMX.out HF2.out (.inl ⟨rfl, HHI.out⟩))
              obtain ⟨y0, y1, y2, y3, y4, y5⟩ := HV2_.out.at6 0 rfl
              obtain ⟨f0, f1, f2, f3, f4, f5⟩ := HV2_.out.fz6 0 rfl
              obtain ⟨x0, x1, x2, x3, x4, x5⟩ := HCW.out _ HV2_.out.bel
              go_wp2_with fail
              clear y0 y1 y2 y3 y4 y5 f0 f1 f2 f3 f4 f5 x0 x1 x2 x3 x4 x5
              have HV3 := hide (HV2_.out.put6hi 0 rfl (.bool gy) (.string sy) (.string ty))
              go_roundw
              case rel => exact ⟨k + 1, _, _, _, _, _, _, by omega, by go_num, by omega, HMN'.out, HMX'.out, HV3.out⟩
              case measure => (simp [intOf]; try omega)
            · have HHI := hide (fun h => of_decide_eq_false d2 (HD2.out.2 h))
              have d2p := of_decide_eq_false d2
              have HMN' := hide (min_step HMN.out HF1.out (.inr ⟨rfl, HL.out⟩))
              have HMX' := hide (max_step HMX.out HF2.out (.inr ⟨rfl, HHI.out⟩))
              go_wp2_with fail
              go_roundw
              case rel => exact ⟨k + 1, _, _, _, _, _, _, by omega, by go_num, by omega, HMN'.out, HMX'.out, HV2_.out⟩
              case measure => (simp [intOf]; try omega)
        · have hk' : k = l.length := by omega
          subst hk'
          have hst2 : MinX (l.map Prod.fst) (gl, sl, tl) ∧ MaxX (l.map Prod.snd) (gh, sh, th) := by
            have h1 := HMN.out
            have h2 := HMX.out
            rw [List.take_of_length_le (by rw [List.length_map]; exact Nat.le_refl _)] at h1 h2
            exact ⟨h1, h2⟩
          have HST2 := hide hst2
          clear hst2
          obtain ⟨c1, c2, c3, c4, c5, c6⟩ := HV.out.at6 0 rfl
          obtain ⟨c7, c8, c9, c10, c11, c12⟩ := HV.out.at6 1 rfl
          obtain ⟨fc7, fc8, fc9, fc10, fc11, fc12⟩ := HV.out.fz6 1 rfl
          have HV_ := hide (HV.out.put6 1 rfl (.bool gl) (.string sl) (.string tl) (.bool gh) (.string sh) (.string th))
          clear HV
          go_wp2_with fail
          clear c1 c2 c3 c4 c5 c6 c7 c8 c9 c10 c11 c12 fc7 fc8 fc9 fc10 fc11 fc12
          obtain ⟨d0, d1, d2, d3, d4, d5⟩ := HV_.out.at6 1 rfl
          exact bodyPost_ret (v := .tuple #[.agg #[.bool gl, .string sl, .string tl, .bool gh, .string sh, .string th], .int .i64 0]) (by simp [results, Tryz.results16, go_sem, d0, d1, d2, d3, d4, d5]) rfl ⟨_, _, rfl, HST2.out, HV_.out.bel⟩
end Go.Proofs.YtbojlmnajndleaaGreatDoor
