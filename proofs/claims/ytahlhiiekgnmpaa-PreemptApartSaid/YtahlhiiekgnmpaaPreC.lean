/- decide (the function literal of Run), Run, Worst, Allow of package preempt. -/
import Derived.Test.YtahlhiiekgnmpaaPreB
namespace Go.Proofs.Ytahlhiiekgnmpaa
open Go.RowKit

theorem Rec.below {w w' : World} {R B : Nat} {v : Value} {win : Int} {q : List IP} (h : Rec w R B v win q) (hb : Below w.heap.size w w') : Rec w' R B v win q :=
  ⟨(hb.block R (Array.getElem?_eq_some_iff.1 h.1).1).trans h.1, h.2.1, h.2.2.below hb⟩
theorem grown_cell {w w' : World} {R b o : Nat} {u : Value} (hg : w.grownBy w' (some R)) (hne : b ≠ R) (h : w.cell? ⟨b, o, none⟩ = some u) : w'.cell? ⟨b, o, none⟩ = some u :=
  hg.cell h (by simpa using hne)
theorem only_of_grown {w w' : World} {R : Nat} {row : Option Nat} (hg : w.grownBy w' (some R)) : Only2 w w' R row := ⟨hg.os, hg.tape, hg.output, hg.size, fun k hk h1 _ => hg.block k hk (by simpa using h1)⟩
theorem Only2.trans {a b c : World} {R : Nat} {row : Option Nat} (h : Only2 a b R row) (k : Only2 b c R row) : Only2 a c R row :=
  ⟨k.os.trans h.os, k.tape.trans h.tape, k.output.trans h.output, Nat.le_trans h.size k.size, fun i hi h1 h2 => (k.block i (Nat.lt_of_lt_of_le hi h.size) h1 h2).trans (h.block i hi h1 h2)⟩

/-- One step of the recent interruptions: what is too old is forgotten; the new one is taken if it fits. -/
def stepQ (win bud : Int) (q : List IP) (x : IP) : List IP := if sumC (dropT (x.1 - win) q) + x.2 ≤ bud then dropT (x.1 - win) q ++ [x] else dropT (x.1 - win) q
def okQ (win bud : Int) (q : List IP) (x : IP) : Bool := decide (sumC (dropT (x.1 - win) q) + x.2 ≤ bud)
/-- Bounds on interruptions. -/
def bdIP (x : IP) : Prop := 0 ≤ x.1 ∧ x.1 ≤ 100000 ∧ 0 ≤ x.2 ∧ x.2 ≤ 1000
theorem dropT_mem {t : Int} {x : IP} : ∀ {q : List IP}, x ∈ dropT t q → x ∈ q
  | [], h => h
  | y :: q, h => by
    unfold dropT at h
    split at h
    · exact List.mem_cons_of_mem _ (dropT_mem h)
    · exact h
theorem sumC_bd (l : List IP) (h : ∀ x ∈ l, bdIP x) : 0 ≤ sumC l ∧ sumC l ≤ 1000 * l.length := by
  induction l with
  | nil => simp [sumC]
  | cons x l ih =>
    have h1 := ih fun y hy => h y (List.mem_cons_of_mem _ hy)
    have h2 := h x List.mem_cons_self
    unfold bdIP at h2
    rw [sumC_cons, List.length_cons]
    omega

def DecPost (R B : Nat) (v : Value) (win bud : Int) (q : List IP) (x : IP) (w : World) (e : Ending) (w' : World) : Prop :=
  ∃ v', e = .returned (.bool (okQ win bud q x)) ∧ Rec w' R B v' win (stepQ win bud q x) ∧ Only2 w w' R v.ownBlock ∧ (∀ k, v'.ownBlock = some k → v.ownBlock = some k ∨ w.heap.size ≤ k)

set_option maxHeartbeats 2000000 in
set_option maxRecDepth 100000 in
theorem pre_decide (R B S D : Nat) (v : Value) (win bud xa xc : Int) (q : List IP) (w : World) (h : Rec w R B v win q) (hB : B ≤ w.heap.size) (hq : ∀ x ∈ q, bdIP x) (hl : q.length ≤ 1000)
    (hS : w.cell? ⟨S, 0, none⟩ = some (.func (.func 62) #[.pointer (some ⟨R, 0, none⟩)] #[])) (hD : w.cell? ⟨D, 0, none⟩ = some (.int .i64 bud)) (hSR : S ≠ R) (hDR : D ≠ R)
    (x0 : 0 ≤ xa) (x1 : xa ≤ 38399) (c0 : 0 ≤ xc) (c1 : xc ≤ 1000) (w0 : 1 ≤ win) (w1 : win ≤ 38400) :
    Calls Try.prog 63 #[.agg #[.int .i64 xa, .int .i64 xc], .pointer (some ⟨S, 0, none⟩), .pointer (some ⟨D, 0, none⟩), .pointer (some ⟨R, 0, none⟩)] w (DecPost R B v win bud q (xa, xc) w) := by
  have hRw : R < w.heap.size := (Array.getElem?_eq_some_iff.1 h.1).1
  have hRB := h.2.1
  have hne : w.heap.size ≠ R := by omega
  have HR0 := hide ((h.below (bAlloc (Below.refl _ w) (.cells #[.int .i64 xa, .int .i64 xc] 54))).below (Below.refl _ _).drew)
  have Hq := hide hq
  clear hq h
  have hS' := World.block_lt_of_cell? w _ hS
  have hD' := World.block_lt_of_cell? w _ hD
  simp only at hS' hD'
  have hsum := sumC_bd (dropT (xa - win) q) fun x hx => Hq.out x (dropT_mem hx)
  have hlen := dropT_le (xa - win) q
  have q0 : ((w.alloc (.cells #[.int .i64 xa, .int .i64 xc] 54)).drew).cell? ⟨S, 0, none⟩ = some (.func (.func 62) #[.pointer (some ⟨R, 0, none⟩)] #[]) := by simp [go_sem, hS, hS']
  have q1 : ((w.alloc (.cells #[.int .i64 xa, .int .i64 xc] 54)).drew).cell? ⟨D, 0, none⟩ = some (.int .i64 bud) := by simp [go_sem, hD, hD']
  have q2 : ((w.alloc (.cells #[.int .i64 xa, .int .i64 xc] 54)).drew).cell? ⟨w.heap.size, 0, none⟩ = some (.int .i64 xa) := by simp [go_sem]
  have q3 : ((w.alloc (.cells #[.int .i64 xa, .int .i64 xc] 54)).drew).cell? ⟨w.heap.size, 1, none⟩ = some (.int .i64 xc) := by simp [go_sem]
  have Q0 := hide q0
  have Q1 := hide q1
  have Q2 := hide q2
  have Q3 := hide q3
  clear q0 q1 q2 q3
  have b1 : xa ≤ 100000 := by omega
  have b2 : 0 ≤ win := by omega
  have b3 : win ≤ 100000 := by omega
  have ws : IntKind.i64.wrap (sumC (dropT (xa - win) q) + xc) = sumC (dropT (xa - win) q) + xc := IntWalk.i64_in _ (by omega)
  go_enter Try.func63, Try.ntmps63
  go_wp2_with fail
  go_region_held3 (fun w' => w'.cell? ⟨S, 0, none⟩ = some (.func (.func 62) #[.pointer (some ⟨R, 0, none⟩)] #[]) ∧ w'.cell? ⟨D, 0, none⟩ = some (.int .i64 bud) ∧ w'.cell? ⟨w.heap.size, 0, none⟩ = some (.int .i64 xa) ∧ w'.cell? ⟨w.heap.size, 1, none⟩ = some (.int .i64 xc)) (first | exact ⟨s0, s1, s2, s3⟩ | simp [go_sem, World.cell?_alloc_past, hS, hD, hS', hD'])
    (first
      | (go_at_call 62; refine (pre_at R B v win xa q _ HR0.out x0 b1 b2 b3 Hq.out hl).mono ?_; rintro e w2 ⟨v2, rfl, hrec, hg, hu⟩; have s0 := grown_cell hg hSR Q0.out; have s1 := grown_cell hg hDR Q1.out; have s2 := grown_cell hg hne Q2.out; have s3 := grown_cell hg hne Q3.out))
  clear ws
  have HREC := hide hrec
  have HG := hide hg
  have HU := hide hu
  clear hrec hg hu
  have hG0 : Hid (Only2 w w2 R v.ownBlock) := by
    have h1 := HG.out
    exact ⟨h1.os, h1.tape, h1.output, Nat.le_trans (by simp) h1.size, fun k hk h2 _ => (h1.block k (by simp; omega) (by simpa using h2)).trans (Below.heap_alloc w _ k hk)⟩
  by_cases hb : sumC (dropT (xa - win) q) + xc ≤ bud
  · have E1 : Hid (okQ win bud q (xa, xc) = true) := by
      show okQ win bud q (xa, xc) = true
      unfold okQ; simpa using hb
    have E2 : Hid (stepQ win bud q (xa, xc) = dropT (xa - win) q ++ [(xa, xc)]) := by
      show stepQ win bud q (xa, xc) = _
      unfold stepQ; rw [if_pos hb]
    go_wp2_with fail
    refine (pre_add R B v2 win xa xc (dropT (xa - win) q) _ HREC.out (Nat.le_trans hB hG0.out.size) (by omega) hsum.1 (by omega) c0 c1).mono ?_
    rintro e w3 ⟨v3, rfl, hrec3, ho3, hv3⟩
    have HR3 := hide hrec3
    have HO3 := hide ho3
    have HV3 := hide hv3
    clear hrec3 ho3 hv3
    go_wp2_with fail
    go_ret
    have hu' := HU.out
    refine ⟨v3, ret_bool E1.out.symm, by rw [E2.out]; exact HR3.out, hG0.out.trans (by rw [← hu']; exact HO3.out), fun k hk => ?_⟩
    rw [← hu']
    exact (HV3.out k hk).imp id fun h => Nat.le_trans hG0.out.size h
  · have E1 : Hid (okQ win bud q (xa, xc) = false) := by
      show okQ win bud q (xa, xc) = false
      unfold okQ; simpa using hb
    have E2 : Hid (stepQ win bud q (xa, xc) = dropT (xa - win) q) := by
      show stepQ win bud q (xa, xc) = _
      unfold stepQ; rw [if_neg hb]
    go_wp2_with fail
    go_ret
    have hu' := HU.out
    exact ⟨v2, ret_bool E1.out.symm, by rw [E2.out]; exact HREC.out, hG0.out, fun k hk => .inl (by rw [← hu']; exact hk)⟩

theorem stepQ_mem {win bud : Int} {q : List IP} {x y : IP} (h : y ∈ stepQ win bud q x) : y ∈ q ∨ y = x := by
  unfold stepQ at h
  split at h
  · rcases List.mem_append.1 h with h | h
    · exact .inl (dropT_mem h)
    · exact .inr (by simpa using h)
  · exact .inl (dropT_mem h)
theorem stepQ_length (win bud : Int) (q : List IP) (x : IP) : (stepQ win bud q x).length ≤ q.length + 1 := by
  have := dropT_le (x.1 - win) q
  unfold stepQ
  split <;> simp <;> omega

/-! ### The run over all interruptions -/
def qK (win bud : Int) (l : List IP) : Nat → List IP
  | 0 => []
  | k + 1 => stepQ win bud (qK win bud l k) (l.getD k (0, 0))
def outK (win bud : Int) (l : List IP) : Nat → List Bool
  | 0 => []
  | k + 1 => outK win bud l k ++ [okQ win bud (qK win bud l k) (l.getD k (0, 0))]
theorem outK_length (win bud : Int) (l : List IP) : ∀ k, (outK win bud l k).length = k
  | 0 => rfl
  | k + 1 => by rw [outK, List.length_append, outK_length win bud l k]; rfl
theorem getD_mem {l : List IP} {k : Nat} (h : k < l.length) : l.getD k (0, 0) ∈ l := by
  rw [List.getD_eq_getElem?_getD, List.getElem?_eq_getElem h]; exact List.getElem_mem h
theorem getD_at {l : List IP} {k : Nat} (h : k < l.length) : l.getD k (0, 0) = l[k] := by
  rw [List.getD_eq_getElem?_getD, List.getElem?_eq_getElem h]; rfl
theorem qK_bd (win bud : Int) {l : List IP} (hl : ∀ x ∈ l, bdIP x) : ∀ k, k ≤ l.length → (∀ x ∈ qK win bud l k, bdIP x) ∧ (qK win bud l k).length ≤ k
  | 0, _ => ⟨by simp [qK], by simp [qK]⟩
  | k + 1, hk => by
    obtain ⟨h1, h2⟩ := qK_bd win bud hl k (by omega)
    refine ⟨fun x hx => ?_, ?_⟩
    · rcases stepQ_mem hx with h | rfl
      · exact h1 x h
      · exact hl _ (getD_mem (by omega))
    · exact Nat.le_trans (stepQ_length win bud _ _) (by omega)
theorem vldGo_bd : ∀ (l : List IP) (last : Int), vldGo last l = true → ∀ x ∈ l, 0 ≤ x.1 ∧ x.1 ≤ 38399 ∧ 0 ≤ x.2 ∧ x.2 ≤ 1000
  | [], _, _, _, h => by cases h
  | y :: l, last, h, x, hx => by
    have h' : okX last y = true ∧ vldGo y.1 l = true := by simpa [vldGo] using h
    rcases List.mem_cons.1 hx with rfl | hx
    · have : inB x.1 38399 = true ∧ inB x.2 1000 = true ∧ last ≤ x.1 := by
        have := h'.1
        unfold okX at this
        simpa [and_assoc] using this
      have a := inB_yes.1 this.1
      have b := inB_yes.1 this.2.1
      exact ⟨a.1, a.2, b.1, b.2⟩
    · exact vldGo_bd l y.1 h'.2 x hx
theorem vldL_bd {l : List IP} (h : vldL l = true) : (∀ x ∈ l, 0 ≤ x.1 ∧ x.1 ≤ 38399 ∧ 0 ≤ x.2 ∧ x.2 ≤ 1000) ∧ l.length ≤ 200 := by
  have h' : vldGo 0 l = true ∧ l.length ≤ 200 := by simpa [vldL] using h
  exact ⟨vldGo_bd l 0 h'.1, h'.2⟩
end Go.Proofs.Ytahlhiiekgnmpaa
