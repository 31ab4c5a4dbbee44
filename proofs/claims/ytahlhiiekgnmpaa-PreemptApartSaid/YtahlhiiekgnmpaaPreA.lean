/- The inner functions of package preempt. -/
import Derived.Test.YtahlhiiekgnmpaaSlice
import Derived.Deep.LoopGhost
namespace Go.Proofs.Ytahlhiiekgnmpaa
open Go.RowKit

/-! ### The plain functions -/
abbrev IP := Int × Int
def vIP (x : IP) : List Value := [.int .i64 x.1, .int .i64 x.2]
theorem vIP_len (x : IP) : (vIP x).length = 2 := rfl
def sumC (l : List IP) : Int := (l.map (·.2)).sum
theorem sumC_append (l m : List IP) : sumC (l ++ m) = sumC l + sumC m := by simp [sumC]
theorem sumC_cons (x : IP) (l : List IP) : sumC (x :: l) = x.2 + sumC l := by simp [sumC]

def inB (n most : Int) : Bool := decide (0 ≤ n ∧ n ≤ most)
theorem inB_yes {n most : Int} : inB n most = true ↔ 0 ≤ n ∧ n ≤ most := by unfold inB; simp
theorem inB_no {n most : Int} : inB n most = false ↔ ¬ (0 ≤ n ∧ n ≤ most) := by unfold inB; simp only [decide_eq_false_iff_not]

theorem pre_in (n most : Int) (w : World) : Calls Try.prog 69 #[.int .i64 n, .int .i64 most] w fun e w' => e = .returned (.bool (inB n most)) ∧ w = w' := by
  by_cases c1 : 0 ≤ n
  · by_cases c2 : n ≤ most
    · go_enter Try.func69, Try.ntmps69
      go_wp2
      go_ret
      exact ⟨ret_bool (inB_yes.2 ⟨c1, c2⟩).symm, rfl⟩
    · go_enter Try.func69, Try.ntmps69
      go_wp2
      go_ret
      exact ⟨ret_bool (inB_no.2 (by omega)).symm, rfl⟩
  · go_enter Try.func69, Try.ntmps69
    go_wp2
    go_ret
    exact ⟨ret_bool (inB_no.2 (by omega)).symm, rfl⟩

/-- The state of 'recent' in block R: the slice, the window, the cost. -/
def Rec (w : World) (R B : Nat) (v : Value) (win : Int) (q : List IP) : Prop :=
  w.heap[R]? = some (.cells #[v, .int .i64 win, .int .i64 (sumC q)] 75 (0, 0)) ∧ R < B ∧ OwnS w B 2 v q.length (flatV vIP q)

theorem Try.infoIP : (Try.prog.info? 54).map (fun i => (i.zero, i.size, i.bytes)) = some (some (.agg #[.int .i64 0, .int .i64 0]), 2, 16) := by kernel_rfl

set_option maxHeartbeats 1000000 in
set_option maxRecDepth 100000 in
theorem pre_add (R B : Nat) (v : Value) (win at_ c : Int) (q : List IP) (w : World) (h : Rec w R B v win q) (hB : B ≤ w.heap.size) (hq : q.length ≤ 100000) (hs : 0 ≤ sumC q) (hs2 : sumC q ≤ 100000000) (hc : 0 ≤ c) (hc2 : c ≤ 1000) :
    Calls Try.prog 64 #[.pointer (some ⟨R, 0, none⟩), .agg #[.int .i64 at_, .int .i64 c]] w fun e w' => ∃ v', e = .returned (.tuple #[]) ∧ Rec w' R B v' win (q ++ [(at_, c)]) ∧ Only2 w w' R v.ownBlock ∧ (∀ k, v'.ownBlock = some k → v.ownBlock = some k ∨ w.heap.size ≤ k) := by
  obtain ⟨i0, hi, hz0, hz1, hz2⟩ := info_parts Try.infoIP
  obtain ⟨hR, hRB, hown⟩ := h
  have c0 : w.cell? ⟨R, 0, none⟩ = some v := by simp [World.cell?, hR]
  have c2 : w.cell? ⟨R, 2, none⟩ = some (.int .i64 (sumC q)) := by simp [World.cell?, hR]
  have f0 : w.frozen? ⟨R, 0, none⟩ = false := by simp [World.frozen?, hR]
  have f2 : w.frozen? ⟨R, 2, none⟩ = false := by simp [World.frozen?, hR]
  have hRw : R < w.heap.size := by omega
  obtain ⟨ao, cp, rfl⟩ : ∃ ao cp, v = .slice ao q.length cp := by
    rcases hown.2 with ⟨ao, h1, h2, _⟩ | ⟨g, off, cap, h1, _⟩
    · exact ⟨ao, 0, by rw [h1, h2]⟩
    · exact ⟨_, _, h1⟩
  have HR := hide hR
  clear hR
  go_enter Try.func64, Try.ntmps64
  have hb0 := (bAlloc (bAlloc (Below.refl w.heap.size w) (.cells #[.int .i64 at_, .int .i64 c] 54)) (.cells #[.int .i64 at_, .int .i64 c] 54)).drew
  have hown0 := ((hown.alloc (.cells #[.int .i64 at_, .int .i64 c] 54)).alloc (.cells #[.int .i64 at_, .int .i64 c] 54)).drew
  have hone : ∀ u ∈ (#[Value.int .i64 at_, Value.int .i64 c] : Array Value).toList, u.oneCell' = true := by
    intro u hu
    simp at hu
    rcases hu with rfl | rfl <;> rfl
  have hbytes : (q.length + 1) * 16 ≤ 140737488355328 := by omega
  have hbs := Nat.le_trans hB hb0.size
  have HB0 := hide hb0
  have HO := hide hown0
  have H1 := hide hone
  have HBS := hide hbs
  clear hb0 hown0 hone hbs
  go_wp2_with fail
  have hx0 : (((w.alloc (.cells #[.int .i64 at_, .int .i64 c] 54)).alloc (.cells #[.int .i64 at_, .int .i64 c] 54)).drew).heap[w.heap.size]? = some (.cells #[.int .i64 at_, .int .i64 c] 54 (0, 0)) := by
    show ((w.heap.push _).push _)[w.heap.size]? = _
    rw [Array.getElem?_push, if_neg (by simp), Array.getElem?_push, if_pos rfl]
  have HX := hide hx0
  have HO0 := hide hown
  clear hx0 hown
  go_region_law (refine step_appendS rfl _ _ 43 rfl B 54 i0 (.agg #[.int .i64 0, .int .i64 0]) 2 16 Try.underlying43 hi hz0 hz1 hz2 rfl (by decide) _ q.length (flatV vIP q) rfl HO.out (w.heap.size + 1) #[.int .i64 at_, .int .i64 c] 54 1 rfl (heap_two w _ _) rfl H1.out hbytes (by decide) HBS.out ?_; intro g off cap w1 hown1 hg1 hat; have hr1 := hide (own_keep HB0.out HO.out hg1 hRB HR.out); obtain ⟨k0, e0⟩ := cells_of_block hr1.out 0; obtain ⟨k2, e2⟩ := cells_of_block hr1.out 2; obtain ⟨k3, _⟩ := cells_of_block (own_keep_new HO0.out hg1 (Nat.le_refl _) HX.out) 1)
  all_goals
    have HO1 := hide hown1
    have HG1 := hide hg1
    have HA := hide hat
    clear hown1 hg1 hat c0 f0 c2 f2
    go_wp2_with fail
    go_region
    all_goals
      go_wp2
      go_end0
      refine ⟨.slice (some ⟨g, off, none⟩) (q.length + 1) cap, rfl, ⟨?_, hRB, ?_⟩, ?_, ?_⟩
      · have e := block_setCell (block_setCell hr1.out 0 (.slice (some ⟨g, off, none⟩) (q.length + 1) cap)) 2 (.int .i64 (sumC q + c))
        rw [sumC_append, show sumC [(at_, c)] = c by simp [sumC]]
        exact e
      · have e := (HO1.out.setCell (p := ⟨R, 0, none⟩) hRB (.slice (some ⟨g, off, none⟩) (q.length + 1) cap)).setCell (p := ⟨R, 2, none⟩) hRB (.int .i64 (sumC q + c))
        rw [flatV_append, flatV_one, List.length_append]
        exact e.drew
      · exact ((((Only2.of_grown HB0.out HG1.out).setCell 0 _).setCell 2 _).drew)
      · intro k hk
        obtain rfl : g = k := by simpa [Value.ownBlock] using hk
        exact HA.out.imp id fun h => Nat.le_trans HB0.out.size h

/-- What is left of the interruptions when those up to a moment are forgotten from the front. -/
def dropT (t : Int) : List IP → List IP
  | [] => []
  | x :: q => if x.1 ≤ t then dropT t q else x :: q
theorem dropT_le (t : Int) : ∀ q : List IP, (dropT t q).length ≤ q.length
  | [] => Nat.le_refl _
  | x :: q => by
    unfold dropT
    split
    · exact Nat.le_trans (dropT_le t q) (by simp)
    · exact Nat.le_refl _

theorem dropT_yes {t : Int} {x : IP} {q : List IP} (h : x.1 ≤ t) : dropT t (x :: q) = dropT t q := by rw [dropT, if_pos h]
/-- A slice value that is owned and not empty: where its first element lies. -/
theorem OwnS.head {w : World} {B : Nat} {v : Value} {x : IP} {q : List IP} (h : OwnS w B 2 v (x :: q).length (flatV vIP (x :: q))) :
    ∃ g off cap, v = .slice (some ⟨g, off, none⟩) (q.length + 1) cap ∧ B ≤ g ∧ q.length + 1 ≤ cap ∧ w.cell? ⟨g, off, none⟩ = some (.int .i64 x.1) ∧ w.cell? ⟨g, off + 1, none⟩ = some (.int .i64 x.2) := by
  rcases h.2 with ⟨ao, _, h2, _⟩ | ⟨g, off, cap, hv, hb, hlt, hn, hm, hc, hx⟩
  · simp at h2
  · exact ⟨g, off, cap, hv, hb, hn, hx 0 _ rfl, hx 1 _ rfl⟩
/-- The owned slice without its first element: 's[1:len(s):len(s)]'. -/
theorem OwnS.tail {w : World} {B g off cap : Nat} {x : IP} {q : List IP} (h : OwnS w B 2 (.slice (some ⟨g, off, none⟩) (q.length + 1) cap) (x :: q).length (flatV vIP (x :: q))) :
    OwnS w B 2 (.slice (some (if q.length = 0 then ⟨g, off, none⟩ else ⟨g, off + 2, none⟩)) q.length q.length) q.length (flatV vIP q) := by
  have hl : (flatV vIP q).length = q.length * 2 := flatV_length (size := 2) vIP_len q
  rcases h.2 with ⟨ao, h1, h2, h3⟩ | ⟨g', off', cap', hv, hb, hlt, hn, hm, hc, hx⟩
  · simp at h2
  · simp only [Value.slice.injEq, Option.some.injEq, Addr.mk.injEq, and_true] at hv
    obtain ⟨⟨rfl, rfl⟩, _, rfl⟩ := hv
    refine ⟨hl, ?_⟩
    split
    · rename_i h0
      refine .inl ⟨some ⟨g, off, none⟩, by rw [h0], h0, fun a ha => ?_⟩
      obtain rfl : (⟨g, off, none⟩ : Addr) = a := by simpa using ha
      exact ⟨hb, hlt⟩
    · simp only [List.length_cons] at hn
      refine .inr ⟨g, off + 2, q.length, rfl, hb, hlt, Nat.le_refl _, by omega, fun j hj => ?_, fun j u hu => ?_⟩
      · have := hc (2 + j) (by omega)
        rw [← Nat.add_assoc] at this
        exact this
      · have := hx (2 + j) u (by
          have e : flatV vIP (x :: q) = vIP x ++ flatV vIP q := rfl
          rw [e, List.getElem?_append_right (by rw [vIP_len]; omega), vIP_len]
          simpa using hu)
        rw [← Nat.add_assoc] at this
        exact this

set_option maxHeartbeats 1000000 in
set_option maxRecDepth 100000 in
theorem pre_at (R B : Nat) (v : Value) (win m : Int) (q : List IP) (w : World) (h : Rec w R B v win q) (m0 : 0 ≤ m) (m1 : m ≤ 100000) (w0 : 0 ≤ win) (w1 : win ≤ 100000) (hq : ∀ x ∈ q, 0 ≤ x.1 ∧ x.1 ≤ 100000 ∧ 0 ≤ x.2 ∧ x.2 ≤ 1000) (hl : q.length ≤ 1000) :
    Calls Try.prog 62 #[.pointer (some ⟨R, 0, none⟩), .int .i64 m] w fun e w' => ∃ v', e = .returned (.int .i64 (sumC (dropT (m - win) q))) ∧ Rec w' R B v' win (dropT (m - win) q) ∧ w.grownBy w' (some R) ∧ v'.ownBlock = v.ownBlock := by
  have hb : ∀ l : List IP, (∀ x ∈ l, 0 ≤ x.1 ∧ x.1 ≤ 100000 ∧ 0 ≤ x.2 ∧ x.2 ≤ 1000) → 0 ≤ sumC l ∧ sumC l ≤ 1000 * l.length := by
    intro l
    induction l with
    | nil => intro _; simp [sumC]
    | cons x l ih =>
      intro hx
      have h1 := ih fun y hy => hx y (List.mem_cons_of_mem _ hy)
      have h2 := hx x List.mem_cons_self
      rw [sumC_cons, List.length_cons]
      omega
  have Hb := hide hb
  have Hq := hide hq
  have H := hide h
  clear hb hq h
  go_enter Try.func62, Try.ntmps62
  go_wp2_with fail
  go_loopg [] q.length (fun k wr => ∃ (p : List IP) (u : Value), k = p.length ∧ (∀ x ∈ p, x ∈ q) ∧ p.length ≤ q.length ∧ dropT (m - win) p = dropT (m - win) q ∧ Rec wr R B u win p ∧ w.grownBy wr (some R) ∧ u.ownBlock = v.ownBlock)
  case atStart => exact ⟨q, v, rfl, fun _ hx => hx, Nat.le_refl _, rfl, H.out, ⟨rfl, rfl, rfl, Nat.le_refl _, fun _ _ _ => rfl⟩, rfl⟩
  case round =>
    obtain ⟨p, u, rfl, hpq, hpl, hd, hrec, hg, hu⟩ := hrel
    have hsum := Hb.out p fun x hx => Hq.out x (hpq x hx)
    have HG := hide hg
    have HU := hide hu
    have HD := hide hd
    have HPQ := hide hpq
    clear hg hu hd hpq
    obtain ⟨hR, hRB, hown⟩ := hrec
    have HR := hide hR
    obtain ⟨k1, _⟩ := cells_of_block hR 1
    obtain ⟨k2, e2⟩ := cells_of_block hR 2
    obtain ⟨k0, e0⟩ := cells_of_block hR 0
    have HO := hide hown
    clear hR hown
    cases p with
    | nil =>
      obtain ⟨ao, cp, rfl⟩ : ∃ ao cp, u = .slice ao 0 cp := by
        rcases HO.out.2 with ⟨ao, h1, h2, _⟩ | ⟨g, off, cap, h1, _⟩
        · exact ⟨ao, 0, h1⟩
        · exact ⟨_, _, h1⟩
      go_wp2_with fail
      go_quiet (fail)
      go_wp2_with fail
      go_ret
      have e : dropT (m - win) q = [] := by rw [← HD.out]; rfl
      rw [e]
      exact ⟨_, rfl, ⟨HR.out, hRB, HO.out⟩, ⟨HG.out.os, HG.out.tape, HG.out.output, HG.out.size, HG.out.block⟩, HU.out⟩
    | cons x p =>
      obtain ⟨xa, xc⟩ := x
      obtain ⟨g, off, cap, rfl, hgB, hcap, c0, c1⟩ := HO.out.head
      have hx := Hq.out (xa, xc) (HPQ.out (xa, xc) List.mem_cons_self)
      simp only at hx c0 c1
      by_cases hle : xa ≤ m - win
      · have HT := hide HO.out.tail
        by_cases hp : p = []
        · subst hp
          have HT : Hid (OwnS wr B 2 (.slice (some ⟨g, off, none⟩) 0 0) ([] : List IP).length (flatV vIP [])) := HT
          go_wp2_with fail
          go_quiet (fail)
          go_wp2_with fail
          go_region
          go_wp2_with fail
          go_region
          go_wp2_with fail
          go_roundg 0
          case measure => simp
          case rel =>
            have eb := block_setCell (block_setCell HR.out 2 (.int .i64 (sumC [(xa, xc)] - xc))) 0 (.slice (some ⟨g, off, none⟩) 0 0)
            have eo := (HT.out.setCell (p := ⟨R, 2, none⟩) hRB (.int .i64 (sumC [(xa, xc)] - xc))).setCell (p := ⟨R, 0, none⟩) hRB (.slice (some ⟨g, off, none⟩) 0 0)
            have e1 : sumC [(xa, xc)] - xc = sumC [] := by rw [sumC_cons]; simp only; omega
            refine ⟨[], (.slice (some ⟨g, off, none⟩) 0 0), rfl, (fun x hx => by cases hx), Nat.le_trans (by simp) hpl, ?_, ⟨?_, hRB, eo⟩, ?_, HU.out⟩
            · exact (dropT_yes (x := (xa, xc)) hle).symm.trans HD.out
            · rw [← e1]
              exact eb
            · exact ⟨HG.out.os, HG.out.tape, HG.out.output, by simpa using HG.out.size, fun k hk hne => by
                have hne' : k ≠ R := fun e => hne (by rw [e])
                exact ((Below.heap_setCell _ _ _ _ hne').trans (Below.heap_setCell _ _ _ _ hne')).trans (HG.out.block k hk hne)⟩
        · have HT : Hid (OwnS wr B 2 (.slice (some ⟨g, off + 2, none⟩) p.length p.length) p.length (flatV vIP p)) := by
            have h0 : ¬ p.length = 0 := fun e => hp (List.eq_nil_of_length_eq_zero e)
            have := HT.out
            rw [if_neg h0] at this
            exact this
          go_wp2_with fail
          go_quiet (fail)
          go_wp2_with fail
          go_region
          go_wp2_with fail
          go_region
          go_wp2_with fail
          go_roundg p.length
          case measure => simp
          case rel =>
            have eb := block_setCell (block_setCell HR.out 2 (.int .i64 (sumC ((xa, xc) :: p) - xc))) 0 (.slice (some ⟨g, off + 2, none⟩) p.length p.length)
            have eo := (HT.out.setCell (p := ⟨R, 2, none⟩) hRB (.int .i64 (sumC ((xa, xc) :: p) - xc))).setCell (p := ⟨R, 0, none⟩) hRB (.slice (some ⟨g, off + 2, none⟩) p.length p.length)
            have e1 : sumC ((xa, xc) :: p) - xc = sumC p := by rw [sumC_cons]; simp only; omega
            refine ⟨p, (.slice (some ⟨g, off + 2, none⟩) p.length p.length), rfl, fun x hx => HPQ.out x (List.mem_cons_of_mem _ hx), Nat.le_trans (by simp) hpl, ?_, ⟨?_, hRB, eo⟩, ?_, HU.out⟩
            · exact (dropT_yes (x := (xa, xc)) hle).symm.trans HD.out
            · rw [← e1]
              exact eb
            · exact ⟨HG.out.os, HG.out.tape, HG.out.output, by simpa using HG.out.size, fun k hk hne => by
                have hne' : k ≠ R := fun e => hne (by rw [e])
                exact ((Below.heap_setCell _ _ _ _ hne').trans (Below.heap_setCell _ _ _ _ hne')).trans (HG.out.block k hk hne)⟩
      · go_wp2_with fail
        go_quiet (fail)
        go_wp2_with fail
        go_ret
        have e : dropT (m - win) q = (xa, xc) :: p := by rw [← HD.out, dropT, if_neg (by simp only; omega)]
        rw [e]
        exact ⟨_, rfl, ⟨HR.out, hRB, HO.out⟩, ⟨HG.out.os, HG.out.tape, HG.out.output, HG.out.size, HG.out.block⟩, HU.out⟩
end Go.Proofs.Ytahlhiiekgnmpaa
