/- apportion: best, Share. -/
import Derived.Test.YtcgplokdklomlaaGreatDoorLoB
set_option linter.unusedVariables false
set_option linter.unusedSimpArgs false
namespace Go.Proofs.YtcgplokdklomlaaGreatDoor
open Go.RowKit

def toI (l : List Nat) : List Int := l.map fun (x : Nat) => (x : Int)
theorem toI_len (l : List Nat) : (toI l).length = l.length := by unfold toI; rw [List.length_map]
theorem toI_get {l : List Nat} {i : Nat} (h : i < l.length) : (toI l)[i]'(by rw [toI_len]; exact h) = (l[i] : Int) := by simp only [toI, List.getElem_map]
/-- A block of n parties. -/
structure PtC (w : World) (b n : Nat) (f : Nat → Nat × Nat) : Prop where
  c : ∀ i, i < n → w.cell? ⟨b, i * 2, none⟩ = some (.int .i64 ((f i).1 : Int)) ∧ w.cell? ⟨b, i * 2 + 1, none⟩ = some (.int .i64 ((f i).2 : Int))
  z : ∀ i, i < n → w.frozen? ⟨b, i * 2, none⟩ = false ∧ w.frozen? ⟨b, i * 2 + 1, none⟩ = false
  lt : b < w.heap.size
theorem PtC.below {w w' : World} {b n : Nat} {f : Nat → Nat × Nat} (h : PtC w b n f) (hb : Below w.heap.size w w') : PtC w' b n f :=
  ⟨fun i hi => ⟨keep_cell hb (h.c i hi).1, keep_cell hb (h.c i hi).2⟩, fun i hi => ⟨(hb.frozen (p := ⟨b, i * 2, none⟩) h.lt).trans (h.z i hi).1, (hb.frozen (p := ⟨b, i * 2 + 1, none⟩) h.lt).trans (h.z i hi).2⟩, Nat.lt_of_lt_of_le h.lt hb.size⟩
theorem PtC.congr {w : World} {b n : Nat} {f g : Nat → Nat × Nat} (h : PtC w b n f) (e : ∀ i, i < n → f i = g i) : PtC w b n g := ⟨fun i hi => by rw [← e i hi]; exact h.c i hi, h.z, h.lt⟩
theorem PtC.far {w : World} {b n : Nat} {f : Nat → Nat × Nat} (h : PtC w b n f) {a : Addr} (ha : a.block ≠ b) (u : Value) : PtC (w.setCell a u) b n f :=
  ⟨fun i hi => ⟨by rw [World.cell?_setCell_other _ _ _ _ (by rintro rfl; exact ha rfl)]; exact (h.c i hi).1, by rw [World.cell?_setCell_other _ _ _ _ (by rintro rfl; exact ha rfl)]; exact (h.c i hi).2⟩,
   fun i hi => ⟨by rw [World.frozen?_setCell]; exact (h.z i hi).1, by rw [World.frozen?_setCell]; exact (h.z i hi).2⟩, by simpa using h.lt⟩
theorem PtC.set1 {w : World} {b n : Nat} {f : Nat → Nat × Nat} (h : PtC w b n f) {i : Nat} (hi : i < n) (x : Nat) : PtC (w.setCell ⟨b, i * 2, none⟩ (.int .i64 (x : Int))) b n (fun j => if j = i then (x, (f i).2) else f j) := by
  refine ⟨fun j hj => ?_, fun j hj => ⟨by rw [World.frozen?_setCell]; exact (h.z j hj).1, by rw [World.frozen?_setCell]; exact (h.z j hj).2⟩, by simpa using h.lt⟩
  by_cases e : j = i
  · subst e
    rw [if_pos rfl]
    exact ⟨World.cell?_setCell_same _ _ _ (h.c j hj).1, by rw [World.cell?_setCell_other _ _ _ _ (by intro e'; injection e'; omega)]; exact (h.c j hj).2⟩
  · rw [if_neg e]
    exact ⟨by rw [World.cell?_setCell_other _ _ _ _ (by intro e'; injection e'; omega)]; exact (h.c j hj).1, by rw [World.cell?_setCell_other _ _ _ _ (by intro e'; injection e'; omega)]; exact (h.c j hj).2⟩
theorem PtC.set2 {w : World} {b n : Nat} {f : Nat → Nat × Nat} (h : PtC w b n f) {i : Nat} (hi : i < n) (x : Nat) : PtC (w.setCell ⟨b, i * 2 + 1, none⟩ (.int .i64 (x : Int))) b n (fun j => if j = i then ((f i).1, x) else f j) := by
  refine ⟨fun j hj => ?_, fun j hj => ⟨by rw [World.frozen?_setCell]; exact (h.z j hj).1, by rw [World.frozen?_setCell]; exact (h.z j hj).2⟩, by simpa using h.lt⟩
  by_cases e : j = i
  · subst e
    rw [if_pos rfl]
    exact ⟨by rw [World.cell?_setCell_other _ _ _ _ (by intro e'; injection e'; omega)]; exact (h.c j hj).1, World.cell?_setCell_same _ _ _ (h.c j hj).2⟩
  · rw [if_neg e]
    exact ⟨by rw [World.cell?_setCell_other _ _ _ _ (by intro e'; injection e'; omega)]; exact (h.c j hj).1, by rw [World.cell?_setCell_other _ _ _ _ (by intro e'; injection e'; omega)]; exact (h.c j hj).2⟩
theorem PtC.made (w : World) (n : Nat) (T : TypeId) : PtC (w.alloc (.cells (madeCells #[.int .i64 0, .int .i64 0] (n * 2)) T)) w.heap.size n (fun _ => (0, 0)) :=
  ⟨fun i hi => by
    rw [World.cell?_alloc_at _ _ _ _ rfl, World.cell?_alloc_at _ _ _ _ rfl]
    have h1 : i * 2 < n * 2 := by omega
    have h2 : i * 2 + 1 < n * 2 := by omega
    have h3 : (i * 2 + 1) % 2 = 1 := by omega
    simp [madeCells, h1, h2, h3], fun i hi => by simp [go_sem], by simp⟩
theorem PtC.slice {w : World} {b n : Nat} {f : Nat → Nat × Nat} (h : PtC w b n f) {l : List (Nat × Nat)} (hl : l.length = n) (hf : ∀ i (hi : i < l.length), f i = l[i]) (hm : n ≤ maxLen) : SliceOf vPt 2 w (.slice (some ⟨b, 0, none⟩) n n) l := by
  subst hl
  refine .inr ⟨b, 0, l.length, rfl, h.lt, Nat.le_refl _, hm, fun i hi j u hu => ?_⟩
  have h1 := h.c i hi
  rw [hf i hi] at h1
  match j, hu with
  | 0, hu =>
    obtain rfl : Value.int .i64 (l[i].1 : Int) = u := by simpa [vPt] using hu
    simpa using h1.1
  | 1, hu =>
    obtain rfl : Value.int .i64 (l[i].2 : Int) = u := by simpa [vPt] using hu
    simpa using h1.2
  | j + 2, hu => simp [vPt] at hu
/-- A block of n ints. -/
structure IC (w : World) (b n : Nat) (f : Nat → Int) : Prop where
  c : ∀ i, i < n → w.cell? ⟨b, i, none⟩ = some (.int .i64 (f i))
  z : ∀ i, i < n → w.frozen? ⟨b, i, none⟩ = false
  lt : b < w.heap.size
theorem IC.below {w w' : World} {b n : Nat} {f : Nat → Int} (h : IC w b n f) (hb : Below w.heap.size w w') : IC w' b n f :=
  ⟨fun i hi => keep_cell hb (h.c i hi), fun i hi => (hb.frozen (p := ⟨b, i, none⟩) h.lt).trans (h.z i hi), Nat.lt_of_lt_of_le h.lt hb.size⟩
theorem IC.congr {w : World} {b n : Nat} {f g : Nat → Int} (h : IC w b n f) (e : ∀ i, i < n → f i = g i) : IC w b n g := ⟨fun i hi => by rw [← e i hi]; exact h.c i hi, h.z, h.lt⟩
theorem IC.far {w : World} {b n : Nat} {f : Nat → Int} (h : IC w b n f) {a : Addr} (ha : a.block ≠ b) (u : Value) : IC (w.setCell a u) b n f :=
  ⟨fun i hi => by rw [World.cell?_setCell_other _ _ _ _ (by rintro rfl; exact ha rfl)]; exact h.c i hi, fun i hi => by rw [World.frozen?_setCell]; exact h.z i hi, by simpa using h.lt⟩
theorem IC.set {w : World} {b n : Nat} {f : Nat → Int} (h : IC w b n f) {i : Nat} (hi : i < n) (x : Int) : IC (w.setCell ⟨b, i, none⟩ (.int .i64 x)) b n (fun j => if j = i then x else f j) := by
  refine ⟨fun j hj => ?_, fun j hj => by rw [World.frozen?_setCell]; exact h.z j hj, by simpa using h.lt⟩
  by_cases e : j = i
  · subst e
    rw [if_pos rfl]
    exact World.cell?_setCell_same _ _ _ (h.c j hj)
  · rw [if_neg e, World.cell?_setCell_other _ _ _ _ (by intro e'; injection e'; omega)]
    exact h.c j hj
theorem IC.made (w : World) (n : Nat) (T : TypeId) : IC (w.alloc (.cells (madeCells #[.int .i64 0] n) T)) w.heap.size n (fun _ => 0) :=
  ⟨fun i hi => by rw [World.cell?_alloc_at _ _ _ _ rfl]; simp [madeCells, hi, Nat.mod_one], fun i hi => by simp [go_sem], by simp⟩
theorem IC.slice {w : World} {b n : Nat} {f : Nat → Int} (h : IC w b n f) {l : List Int} (hl : l.length = n) (hf : ∀ i (hi : i < l.length), f i = l[i]) (hm : n ≤ maxLen) : SliceOf vI 1 w (.slice (some ⟨b, 0, none⟩) n n) l := by
  subst hl
  refine .inr ⟨b, 0, l.length, rfl, h.lt, Nat.le_refl _, hm, fun i hi j u hu => ?_⟩
  have h1 := h.c i hi
  rw [hf i hi] at h1
  match j, hu with
  | 0, hu =>
    obtain rfl : Value.int .i64 l[i] = u := by simpa [vI] using hu
    simpa using h1
  | j + 1, hu => simp [vI] at hu
theorem pt_cells {w : World} {b off : Nat} {l : List (Nat × Nat)} (h : ∀ i (h : i < l.length) j u, (vPt l[i])[j]? = some u → w.cell? ⟨b, off + i * 2 + j, none⟩ = some u) {k : Nat} (hk : k < l.length) :
    w.cell? ⟨b, off + k * 2, none⟩ = some (.int .i64 (l[k].1 : Int)) ∧ w.cell? ⟨b, off + k * 2 + 1, none⟩ = some (.int .i64 (l[k].2 : Int)) :=
  ⟨by have := h k hk 0 _ rfl; simpa using this, h k hk 1 _ rfl⟩
theorem bStepL {w0 w1 w2 : World} (h : Below w0.heap.size w0 w1) (k : Below w1.heap.size w1 w2) : Below w0.heap.size w0 w2 := btrans h h.size k
theorem bestN_succ (l : List (Nat × Nat)) (k : Nat) : bestN l (k + 1) = if befB (atP l k) (atP l (bestN l k)) then k else bestN l k := rfl
set_option maxHeartbeats 4000000 in
set_option maxRecDepth 100000 in
theorem ap_best (l : List (Nat × Nat)) (v : Value) (w : World) (hv : SliceOf vPt 2 w v l) (h0 : 0 < l.length) (hl : l.length ≤ 1000) (hs : ∀ p ∈ l, SmP p) :
    Calls Tryz.prog 48 #[v, .func (.func 49) #[] #[]] w fun e w' => e = .returned (.int .i64 (bestN l l.length : Int)) ∧ Below w.heap.size w w' := by
  obtain ⟨ao, cp, rfl⟩ := hv.shape
  obtain ⟨b, off, rfl, _, hcap, hcm, hc⟩ := SliceOf.at_ hv h0
  have hcpI : (l.length : Int) ≤ (cp : Int) := by omega
  have hcmI : (cp : Int) ≤ 9223372036854775807 := by unfold maxLen at hcm; omega
  have HC : Hid (∀ k (hk : k < l.length), w.cell? ⟨b, off + k * 2, none⟩ = some (.int .i64 ((atP l k).1 : Int)) ∧ w.cell? ⟨b, off + k * 2 + 1, none⟩ = some (.int .i64 ((atP l k).2 : Int))) := fun k hk => by rw [atP_eq hk]; exact pt_cells hc hk
  have HSM : Hid (∀ k (hk : k < l.length), SmP (atP l k)) := fun k hk => by rw [atP_eq hk]; exact hs _ (List.getElem_mem hk)
  have HBL : Hid (∀ k, k ≤ l.length → bestN l k < l.length) := fun k hk => bestN_lt l h0 k hk
  have HZ0 : Hid ((0 : Int) = (bestN l 0 : Int)) := rfl
  have hlI : (l.length : Int) ≤ 1000 := by omega
  clear hc hcap hcm hv hs h0 hl
  go_enter Tryz.func48, Tryz.ntmps48
  go_wp2_with fail
  go_loopw [5, 10] (fun z5 z10 wx => ∃ k : Nat, k ≤ l.length ∧ z10 = .int .i64 (k : Int) ∧ z5 = .int .i64 (bestN l k : Int) ∧ Below w.heap.size w wx) (fun _ i _ => l.length - (intOf i).toNat)
  case atStart => exact ⟨0, Nat.zero_le _, rfl, congrArg (Value.int .i64) HZ0.out, Below.refl _ _⟩
  case round =>
    obtain ⟨k, hk, rfl, rfl, hbl⟩ := hrel
    have HB := hide hbl
    clear hbl HZ0
    by_cases hlt : k < l.length
    · have hki : (k : Int) < (l.length : Int) := by omega
      have hk0 : (0 : Int) ≤ (k : Int) := by omega
      obtain ⟨x0, x1⟩ := HC.out k hlt
      have x0 := keep_cell HB.out x0
      have x1 := keep_cell HB.out x1
      have hml := HBL.out k hk
      have HY := hide (HC.out (bestN l k) hml)
      have HPA := hide (HSM.out k hlt)
      have HPB := hide (HSM.out _ hml)
      have HSU := hide (bestN_succ l k)
      obtain ⟨m, hm⟩ : ∃ m, bestN l k = m := ⟨_, rfl⟩
      rw [hm] at hml HY HPB HSU ⊢
      clear hm
      have hmi : (m : Int) < (l.length : Int) := by omega
      have hm0 : (0 : Int) ≤ (m : Int) := by omega
      obtain ⟨⟨p1, p2⟩, hp⟩ : ∃ p, atP l k = p := ⟨_, rfl⟩
      obtain ⟨⟨q1, q2⟩, hq⟩ : ∃ p, atP l m = p := ⟨_, rfl⟩
      rw [hp] at x0 x1 HPA HSU
      rw [hq] at HY HPB HSU
      clear hp hq
      obtain ⟨r, hr⟩ : ∃ r, befB (p1, p2) (q1, q2) = r := ⟨_, rfl⟩
      have HR := hide hr
      rw [hr] at HSU
      clear hr
      go_wp2_with fail
      have HCS : Hid (∀ W, Below (wr.alloc (.cells #[.int .i64 (p1 : Int), .int .i64 (p2 : Int)] 70)).heap.size (wr.alloc (.cells #[.int .i64 (p1 : Int), .int .i64 (p2 : Int)] 70)) W →
          (W.cell? ⟨wr.heap.size, 0, none⟩ = some (.int .i64 (p1 : Int)) ∧ W.cell? ⟨wr.heap.size, 1, none⟩ = some (.int .i64 (p2 : Int))) ∧ W.cell? ⟨b, off + m * 2, none⟩ = some (.int .i64 (q1 : Int)) ∧ W.cell? ⟨b, off + m * 2 + 1, none⟩ = some (.int .i64 (q2 : Int))) := fun W h =>
        ⟨⟨keep_cell h (by simp [go_sem]), keep_cell h (by simp [go_sem])⟩, keep_cell h (keep_cell (bAlloc (Below.refl _ _) _) (keep_cell HB.out HY.out.1)), keep_cell h (keep_cell (bAlloc (Below.refl _ _) _) (keep_cell HB.out HY.out.2))⟩
      have HB2 := hide (bAlloc HB.out (.cells #[.int .i64 (p1 : Int), .int .i64 (p2 : Int)] 70))
      obtain ⟨H, hH⟩ : ∃ H, wr.heap.size = H := ⟨_, rfl⟩
      obtain ⟨wq, hwq⟩ : ∃ x, wr.alloc (.cells #[.int .i64 (p1 : Int), .int .i64 (p2 : Int)] 70) = x := ⟨_, rfl⟩
      rw [hwq, hH] at HCS
      rw [hwq] at HB2
      rw [hwq, hH]
      clear hwq hH x0 x1
      have hd := (Below.refl wq.heap.size wq).drew
      go_region_held3 (fun W => (W.cell? ⟨H, 0, none⟩ = some (.int .i64 (p1 : Int)) ∧ W.cell? ⟨H, 1, none⟩ = some (.int .i64 (p2 : Int))) ∧ W.cell? ⟨b, off + m * 2, none⟩ = some (.int .i64 (q1 : Int)) ∧ W.cell? ⟨b, off + m * 2 + 1, none⟩ = some (.int .i64 (q2 : Int)))
        (first | exact HCS.out _ (by assumption))
        (first
          | (go_at_call 49; refine (ap_before (p1, p2) (q1, q2) _ HPA.out HPB.out).mono ?_; rintro e wa ⟨rfl, hb⟩; rw [HR.out]; have hd := bStepL (w0 := wq) hd hb; clear hb))
      have HB3 := hide (bStepL HB2.out hd)
      clear hd HCS HB2
      cases r with
      | true =>
        have HN : Hid (bestN l (k + 1) = k) := HSU.out
        go_wp2_with fail
        go_roundw
        case rel => exact ⟨k + 1, by omega, by go_num, congrArg (Value.int .i64) (by rw [HN.out]), HB3.out⟩
        case measure => (simp [intOf]; omega)
      | false =>
        have HN : Hid (bestN l (k + 1) = m) := HSU.out
        go_wp2_with fail
        go_roundw
        case rel => exact ⟨k + 1, by omega, by go_num, congrArg (Value.int .i64) (by rw [HN.out]), HB3.out⟩
        case measure => (simp [intOf]; omega)
    · have hk' : k = l.length := by omega
      subst hk'
      go_wp2_with fail
      go_ret
      exact ⟨rfl, HB.out⟩
end Go.Proofs.YtcgplokdklomlaaGreatDoor
