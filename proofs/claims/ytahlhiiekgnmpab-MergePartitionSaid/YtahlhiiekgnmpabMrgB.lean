/- Package merge: the set in memory; root. -/
import Derived.Test.YtahlhiiekgnmpabMrgA
import Derived.Test.YtahlhiiekgnmpabMrgP
import Derived.Deep.LoopGhost
set_option linter.unusedVariables false
set_option linter.unusedSimpArgs false
namespace Go.Proofs.Ytahlhiiekgnmpab
open Go.RowKit

/-- Block R is a set: its window, its alerts' slice, its parents and sizes. -/
structure SetC (w : World) (R : Nat) (win : Int) (v : Value) (pa sz : Nat → Nat) : Prop where
  win : w.cell? ⟨R, 0, none⟩ = some (.int .i64 win)
  al : w.cell? ⟨R, 1, none⟩ = some v
  par : ∀ i, i < 200 → w.cell? ⟨R, 2 + i, none⟩ = some (.int .i64 (pa i : Int))
  siz : ∀ i, i < 200 → w.cell? ⟨R, 202 + i, none⟩ = some (.int .i64 (sz i : Int))
  fr : ∀ o, o < 402 → w.frozen? ⟨R, o, none⟩ = false
section
variable {w : World} {R : Nat} {win : Int} {v : Value} {pa sz : Nat → Nat}
theorem SetC.lt (h : SetC w R win v pa sz) : R < w.heap.size := World.block_lt_of_cell? _ _ h.win
theorem SetC.of_block (h : SetC w R win v pa sz) {w' : World} (e : w'.heap[R]? = w.heap[R]?) : SetC w' R win v pa sz :=
  ⟨(World.cell?_of_block (w := w) (a := ⟨R, 0, none⟩) e).trans h.win, (World.cell?_of_block (w := w) (a := ⟨R, 1, none⟩) e).trans h.al,
    fun i hi => (World.cell?_of_block (w := w) (a := ⟨R, 2 + i, none⟩) e).trans (h.par i hi), fun i hi => (World.cell?_of_block (w := w) (a := ⟨R, 202 + i, none⟩) e).trans (h.siz i hi),
    fun o ho => (World.frozen?_of_block (w := w) (a := ⟨R, o, none⟩) e).trans (h.fr o ho)⟩
theorem SetC.drewN (h : SetC w R win v pa sz) (n : Nat) : SetC (w.drewN n) R win v pa sz := h.of_block rfl
theorem SetC.alloc (h : SetC w R win v pa sz) (o : Obj) : SetC (w.alloc o) R win v pa sz := h.of_block (Below.heap_alloc w o R h.lt)
theorem SetC.below (h : SetC w R win v pa sz) {w' : World} (hb : Below w.heap.size w w') : SetC w' R win v pa sz := h.of_block (hb.block R h.lt)
theorem SetC.grown (h : SetC w R win v pa sz) {w' : World} {row : Option Nat} (hg : w.grownBy w' row) (hne : some R ≠ row) : SetC w' R win v pa sz := h.of_block (hg.block R h.lt hne)
theorem SetC.setPar (h : SetC w R win v pa sz) {i : Nat} (hi : i < 200) (x : Nat) : SetC (w.setCell ⟨R, 2 + i, none⟩ (.int .i64 (x : Int))) R win v (upd pa i x) sz := by
  refine ⟨?_, ?_, fun j hj => ?_, fun j hj => ?_, fun o ho => by rw [World.frozen?_setCell]; exact h.fr o ho⟩
  · rw [World.cell?_setCell_other _ _ _ _ (by intro e; injection e; omega)]; exact h.win
  · rw [World.cell?_setCell_other _ _ _ _ (by intro e; injection e; omega)]; exact h.al
  · unfold upd
    by_cases e : j = i
    · subst e; rw [if_pos rfl]; exact World.cell?_setCell_same _ _ _ (h.par j hj)
    · rw [if_neg e, World.cell?_setCell_other _ _ _ _ (by intro e'; injection e'; omega)]; exact h.par j hj
  · rw [World.cell?_setCell_other _ _ _ _ (by intro e; injection e; omega)]; exact h.siz j hj
theorem SetC.setSiz (h : SetC w R win v pa sz) {i : Nat} (hi : i < 200) (x : Nat) : SetC (w.setCell ⟨R, 202 + i, none⟩ (.int .i64 (x : Int))) R win v pa (upd sz i x) := by
  refine ⟨?_, ?_, fun j hj => ?_, fun j hj => ?_, fun o ho => by rw [World.frozen?_setCell]; exact h.fr o ho⟩
  · rw [World.cell?_setCell_other _ _ _ _ (by intro e; injection e; omega)]; exact h.win
  · rw [World.cell?_setCell_other _ _ _ _ (by intro e; injection e; omega)]; exact h.al
  · rw [World.cell?_setCell_other _ _ _ _ (by intro e; injection e; omega)]; exact h.par j hj
  · unfold upd
    by_cases e : j = i
    · subst e; rw [if_pos rfl]; exact World.cell?_setCell_same _ _ _ (h.siz j hj)
    · rw [if_neg e, World.cell?_setCell_other _ _ _ _ (by intro e'; injection e'; omega)]; exact h.siz j hj
theorem SetC.setAl (h : SetC w R win v pa sz) (u : Value) : SetC (w.setCell ⟨R, 1, none⟩ u) R win u pa sz := by
  refine ⟨?_, World.cell?_setCell_same _ _ _ h.al, fun j hj => ?_, fun j hj => ?_, fun o ho => by rw [World.frozen?_setCell]; exact h.fr o ho⟩
  · rw [World.cell?_setCell_other _ _ _ _ (by intro e; injection e; omega)]; exact h.win
  · rw [World.cell?_setCell_other _ _ _ _ (by intro e; injection e; omega)]; exact h.par j hj
  · rw [World.cell?_setCell_other _ _ _ _ (by intro e; injection e; omega)]; exact h.siz j hj
end
theorem grown_setCell {w w' : World} {R : Nat} (h : w.grownBy w' (some R)) (o : Nat) (u : Value) : w.grownBy (w'.setCell ⟨R, o, none⟩ u) (some R) :=
  ⟨h.os, h.tape, h.output, by simpa using h.size, fun k hk hne => (Below.heap_setCell _ _ _ _ (fun e => hne (by rw [e]))).trans (h.block k hk hne)⟩
theorem grown_drewN {w w' : World} {row : Option Nat} (h : w.grownBy w' row) (n : Nat) : w.grownBy (w'.drewN n) row := ⟨h.os, h.tape, h.output, h.size, h.block⟩
theorem grown_refl (w : World) (row : Option Nat) : w.grownBy w row := ⟨rfl, rfl, rfl, Nat.le_refl _, fun _ _ _ => rfl⟩
theorem grown_trans {w w1 w2 : World} {row : Option Nat} (h : w.grownBy w1 row) (k : w1.grownBy w2 row) : w.grownBy w2 row :=
  ⟨k.os.trans h.os, k.tape.trans h.tape, k.output.trans h.output, Nat.le_trans h.size k.size, fun j hj hne => (k.block j (Nat.lt_of_lt_of_le hj h.size) hne).trans (h.block j hj hne)⟩
theorem grown_below {w w1 : World} {row : Option Nat} (k : Below w.heap.size w w1) : w.grownBy w1 row := ⟨k.os, k.tape, k.output, k.size, fun j hj _ => k.block j hj⟩

def RootPost (w : World) (R : Nat) (win : Int) (v : Value) (sz : Nat → Nat) (n : Nat) (rt dep : Nat → Nat) (i : Nat) (e : Ending) (w' : World) : Prop :=
  ∃ pa', e = .returned (.int .i64 (rt i : Int)) ∧ SetC w' R win v pa' sz ∧ UF n pa' rt dep ∧ w.grownBy w' (some R)

set_option maxHeartbeats 1000000 in
set_option maxRecDepth 100000 in
theorem mrg_root (R : Nat) (win : Int) (v : Value) (pa sz : Nat → Nat) (n : Nat) (rt dep : Nat → Nat) (i : Nat) (w : World) (hS : SetC w R win v pa sz) (hU : UF n pa rt dep) (hi : i < n) (hn : n ≤ 200) :
    Calls Try.prog 52 #[.pointer (some ⟨R, 0, none⟩), .int .i64 (i : Int)] w (RootPost w R win v sz n rt dep i) := by
  have HS := hide hS
  have HU := hide hU
  clear hS hU
  go_enter Try.func52, Try.ntmps52
  have hil : i < 200 := by omega
  go_wp2_with fail
  go_step3
  go_wp2_with fail
  go_step3
  go_wp2_with fail
  go_loopg [1] (dep i) (fun g x wr => ∃ (j : Nat) (q : Nat → Nat), g = dep j ∧ j < n ∧ x = .int .i64 (j : Int) ∧ rt j = rt i ∧ SetC wr R win v q sz ∧ UF n q rt dep ∧ w.grownBy wr (some R))
  case atStart => exact ⟨i, pa, rfl, hi, rfl, rfl, HS.out, HU.out, grown_refl _ _⟩
  case round =>
    obtain ⟨j, q, rfl, hj, rfl, hrt, hS, hU, hG⟩ := hrel
    have HS1 := hide hS
    have HU1 := hide hU
    have HG1 := hide hG
    have HRT := hide hrt
    clear hS hU hG hrt HS HU
    have hj2 : j < 200 := by omega
    have hj0 : (0 : Int) ≤ (j : Int) := by omega
    have hj1 : (j : Int) < 200 := by omega
    have c0 := HS1.out.par j hj2
    have f0 := HS1.out.fr (2 + j) (by omega)
    by_cases hq : q j = j
    · have HR : Hid (rt j = j) := HU1.out.root j hj hq
      have HRI : Hid ((j : Int) = (rt i : Int)) := by
        show (j : Int) = _
        rw [← HRT.out, HR.out]
      rw [hq] at c0
      have hb : ((j : Int) == (j : Int)) = true := by simp
      clear hq
      go_wp2_with fail
      rw [Exit.noGoto_ret]
      go_ret
      exact ⟨_, ret_int HRI.out, HS1.out, HU1.out, HG1.out⟩
    · obtain ⟨n1, n2, n3⟩ := HU1.out.next hj hq
      have hq1 := HU1.out.lt j hj
      have c1 := HS1.out.par (q j) (by omega)
      have HN := hide ((HS1.out.drewN 1).setPar hj2 (q (q j)))
      have HUN := hide (HU1.out.halve hj)
      obtain ⟨m, hm⟩ : ∃ m, q j = m := ⟨_, rfl⟩
      rw [hm] at c0 c1 HN HUN n1 n2 n3 hq hq1
      obtain ⟨k, hk⟩ : ∃ k, q m = k := ⟨_, rfl⟩
      rw [hk] at c1 HN HUN n1 n2 n3
      clear hm hk
      have hb : ((m : Int) == (j : Int)) = false := beq_eq_false_iff_ne.2 (by omega)
      have hm0 : (0 : Int) ≤ (m : Int) := by omega
      have hm1 : (m : Int) < 200 := by omega
      go_wp2_with fail
      go_region
      all_goals
        go_wp2_with fail
        go_roundg (dep k)
        case measure => omega
        case rel => exact ⟨k, _, rfl, n1, rfl, n2.trans HRT.out, HN.out, HUN.out, grown_drewN (grown_setCell HG1.out _ _) 1⟩

/-- Whose group is whose: after two groups are joined. -/
def JoinPost (w : World) (R : Nat) (win : Int) (v : Value) (n : Nat) (rt : Nat → Nat) (i k : Nat) (e : Ending) (w' : World) : Prop :=
  ∃ pa' sz' rt' dep', e = .returned (.tuple #[]) ∧ SetC w' R win v pa' sz' ∧ UF n pa' rt' dep' ∧ SzOk n rt' sz' ∧ w.grownBy w' (some R) ∧
    ∀ x y, rt' x = rt' y ↔ rt x = rt y ∨ (rt x = rt i ∧ rt y = rt k) ∨ (rt x = rt k ∧ rt y = rt i)

theorem cnt_le (n : Nat) (rt : Nat → Nat) (r : Nat) : cnt n rt r ≤ n := by
  unfold cnt
  have := List.countP_le_length (p := fun x => decide (rt x = r)) (l := List.range n)
  simpa using this

set_option maxHeartbeats 1000000 in
set_option maxRecDepth 100000 in
theorem mrg_join (R : Nat) (win : Int) (v : Value) (pa sz : Nat → Nat) (n : Nat) (rt dep : Nat → Nat) (i k : Nat) (w : World) (hS : SetC w R win v pa sz) (hU : UF n pa rt dep) (hZ : SzOk n rt sz) (hi : i < n) (hk : k < n) (hn : n ≤ 200) :
    Calls Try.prog 51 #[.pointer (some ⟨R, 0, none⟩), .int .i64 (i : Int), .int .i64 (k : Int)] w (JoinPost w R win v n rt i k) := by
  have HS := hide hS
  have HU := hide hU
  have HZ := hide hZ
  clear hS hU hZ
  have ra := HU.out.rtrt hi
  have rb := HU.out.rtrt hk
  have la := HU.out.rlt hi
  have lb := HU.out.rlt hk
  obtain ⟨a, ha⟩ : ∃ a, rt i = a := ⟨_, rfl⟩
  obtain ⟨b, hb⟩ : ∃ b, rt k = b := ⟨_, rfl⟩
  rw [ha] at ra la
  rw [hb] at rb lb
  have HA := hide ha
  have HB := hide hb
  have za := HZ.out a la ra
  have zb := HZ.out b lb rb
  have za' := cnt_le n rt a
  have zb' := cnt_le n rt b
  rw [← za] at za'
  rw [← zb] at zb'
  clear ha hb za zb
  have RA := hide ra
  have RB := hide rb
  clear ra rb
  by_cases hab : a = b
  · have HE : Hid (∀ x y, rt x = rt y ↔ rt x = rt y ∨ (rt x = rt i ∧ rt y = rt k) ∨ (rt x = rt k ∧ rt y = rt i)) := by
      intro x y
      rw [HA.out, HB.out, hab]
      constructor
      · exact .inl
      · rintro (h | ⟨h1, h2⟩ | ⟨h1, h2⟩)
        · exact h
        · rw [h1, h2]
        · rw [h1, h2]
    go_enter Try.func51, Try.ntmps51
    go_wp2_with fail
    refine (mrg_root R win v pa sz n rt dep i _ HS.out HU.out hi hn).mono ?_
    rintro e w1 ⟨pa1, rfl, hS1, hU1, hG1⟩
    rw [HA.out]
    have HS1 := hide hS1
    have HU1 := hide hU1
    have HG1 := hide hG1
    clear hS1 hU1 hG1
    go_wp2_with fail
    refine (mrg_root R win v pa1 sz n rt dep k _ HS1.out HU1.out hk hn).mono ?_
    rintro e w2 ⟨pa2, rfl, hS2, hU2, hG2⟩
    rw [HB.out]
    have HS2 := hide hS2
    have HU2 := hide hU2
    have HG2 := hide (grown_trans HG1.out hG2)
    clear hS2 hU2 hG2
    have hbe : ((a : Int) == (b : Int)) = true := by rw [hab]; simp
    clear hab
    go_wp2_with fail
    go_end0
    exact ⟨pa2, sz, rt, dep, rfl, HS2.out, HU2.out, HZ.out, HG2.out, HE.out⟩
  · have hbe : ((a : Int) == (b : Int)) = false := beq_eq_false_iff_ne.2 (by omega)
    have fin : ∀ (c d : Nat), ((c = a ∧ d = b) ∨ (c = b ∧ d = a)) → c < n ∧ d < n ∧ c < 200 ∧ d < 200 ∧ sz c ≤ n ∧ sz d ≤ n ∧ ∀ (W2 W3 : World) (pa2 : Nat → Nat), SetC W2 R win v pa2 sz → UF n pa2 rt dep → w.grownBy W2 (some R) →
        W3 = ((W2.setCell ⟨R, 2 + d, none⟩ (.int .i64 (c : Int))).setCell ⟨R, 202 + c, none⟩ (.int .i64 ((sz c + sz d : Nat) : Int))) → JoinPost w R win v n rt i k (.returned (.tuple #[])) W3 := by
      intro c d hcd
      have hlt : c < n ∧ d < n ∧ rt c = c ∧ rt d = d ∧ c ≠ d ∧ sz c ≤ n ∧ sz d ≤ n := by
        rcases hcd with ⟨rfl, rfl⟩ | ⟨rfl, rfl⟩
        · exact ⟨la, lb, RA.out, RB.out, hab, za', zb'⟩
        · exact ⟨lb, la, RB.out, RA.out, fun e => hab e.symm, zb', za'⟩
      obtain ⟨q1, q2, q3, q4, q5, q6, q7⟩ := hlt
      refine ⟨q1, q2, by omega, by omega, q6, q7, fun W2 W3 pa2 h1 h2 h3 h4 => ?_⟩
      subst h4
      obtain ⟨dep', hU'⟩ := h2.union q1 q2 q3 q4 q5
      refine ⟨_, _, _, dep', rfl, (h1.setPar (show d < 200 by omega) c).setSiz (show c < 200 by omega) (sz c + sz d), hU', HZ.out.union q1 q2 q3 q4 q5, grown_setCell (grown_setCell h3 _ _) _ _, fun x y => ?_⟩
      rw [joinR_eq h2 q3 q4, HA.out, HB.out]
      rcases hcd with ⟨rfl, rfl⟩ | ⟨rfl, rfl⟩
      · exact Iff.rfl
      · constructor
        · rintro (h | h | h)
          · exact .inl h
          · exact .inr (.inr h)
          · exact .inr (.inl h)
        · rintro (h | h | h)
          · exact .inl h
          · exact .inr (.inr h)
          · exact .inr (.inl h)
    have FA := hide (fin a b (.inl ⟨rfl, rfl⟩))
    have FB := hide (fin b a (.inr ⟨rfl, rfl⟩))
    clear fin hab
    go_enter Try.func51, Try.ntmps51
    go_wp2_with fail
    refine (mrg_root R win v pa sz n rt dep i _ HS.out HU.out hi hn).mono ?_
    rintro e w1 ⟨pa1, rfl, hS1, hU1, hG1⟩
    rw [HA.out]
    have HS1 := hide hS1
    have HU1 := hide hU1
    have HG1 := hide hG1
    clear hS1 hU1 hG1
    go_wp2_with fail
    refine (mrg_root R win v pa1 sz n rt dep k _ HS1.out HU1.out hk hn).mono ?_
    rintro e w2 ⟨pa2, rfl, hS2, hU2, hG2⟩
    rw [HB.out]
    have HS2 := hide hS2
    have HU2 := hide hU2
    have HG2 := hide (grown_trans HG1.out hG2)
    clear hS2 hU2 hG2 HS1 HU1 HG1 HS
    have ha2 : (a : Int) < 200 := by omega
    have hb2 : (b : Int) < 200 := by omega
    have ha0 : (0 : Int) ≤ (a : Int) := by omega
    have hb0 : (0 : Int) ≤ (b : Int) := by omega
    have c0 := HS2.out.siz a (by omega)
    have c1 := HS2.out.siz b (by omega)
    have p0 := HS2.out.par a (by omega)
    have p1 := HS2.out.par b (by omega)
    have f0 := HS2.out.fr (202 + a) (by omega)
    have f1 := HS2.out.fr (202 + b) (by omega)
    have f2 := HS2.out.fr (2 + a) (by omega)
    have f3 := HS2.out.fr (2 + b) (by omega)
    have hza : ((sz a : Nat) : Int) ≤ 200 := by omega
    have hzb : ((sz b : Nat) : Int) ≤ 200 := by omega
    have hza0 : (0 : Int) ≤ ((sz a : Nat) : Int) := by omega
    have hzb0 : (0 : Int) ≤ ((sz b : Nat) : Int) := by omega
    by_cases hsz : ((sz a : Nat) : Int) < ((sz b : Nat) : Int)
    · go_wp2_with fail
      go_quiet (fail)
      go_wp2_with fail
      go_region
      all_goals
        go_wp2_with fail
        go_end0
        refine FB.out.2.2.2.2.2.2 ((w2.drewN nq).drew) _ pa2 ((HS2.out.drewN nq).drewN 1) HU2.out (grown_drewN (grown_drewN HG2.out nq) 1) ?_
        rw [Int.natCast_add]; rfl
    · go_wp2_with fail
      go_quiet (fail)
      go_wp2_with fail
      go_region
      all_goals
        go_wp2_with fail
        go_end0
        refine FA.out.2.2.2.2.2.2 ((w2.drewN nq).drew) _ pa2 ((HS2.out.drewN nq).drewN 1) HU2.out (grown_drewN (grown_drewN HG2.out nq) 1) ?_
        rw [Int.natCast_add]; rfl
end Go.Proofs.Ytahlhiiekgnmpab
