/- MoA, MoB, MoC, MoD, MoE, MoF in one text. -/
import Derived.Test.YtblpnekjnaaeoaaGreatDoorPkJ
import Derived.Test.YtblpnekjnaaeoaaGreatDoorNatY
set_option linter.unusedVariables false
set_option linter.unusedSimpArgs false
namespace Go.Proofs.YtblpnekjnaaeoaaGreatDoor
open Go.RowKit

theorem Tryz.gZero : Tryz.prog.globalNamed "observatory/moments.zero" = some 0 := by kernel_rfl
theorem Tryz.gOne : Tryz.prog.globalNamed "observatory/moments.one" = some 1 := by kernel_rfl
theorem Tryz.gZeroT : (Tryz.prog.globals[0]?).map (·.type) = some 29 := by kernel_rfl
theorem Tryz.gOneT : (Tryz.prog.globals[1]?).map (·.type) = some 29 := by kernel_rfl
/-- The cells of a number at the head of a block. -/
def RZ (w : World) (b : Nat) (g : Bool) (s t : ByteArray) : Prop := w.cell? ⟨b, 0, none⟩ = some (.bool g) ∧ w.cell? ⟨b, 1, none⟩ = some (.string s) ∧ w.cell? ⟨b, 2, none⟩ = some (.string t)
theorem RZ.keep {w w' : World} {b : Nat} {g : Bool} {s t : ByteArray} (h : RZ w b g s t) (hb : Below w.heap.size w w') : RZ w' b g s t := ⟨keep_cell hb h.1, keep_cell hb h.2.1, keep_cell hb h.2.2⟩
/-- The library's and the package's variables as they are laid. -/
def LawM (w : World) : Prop := LawW w ∧ RZ w 0 false ⟨#[48]⟩ ⟨#[49]⟩ ∧ RZ w 1 false ⟨#[49]⟩ ⟨#[49]⟩
theorem LawM.below {w w' : World} (h : LawM w) (hb : Below w.heap.size w w') : LawM w' := ⟨h.1.below hb, h.2.1.keep hb, h.2.2.keep hb⟩
theorem var_cells {P : Program} {w : World} {nm : String} {g : Nat} {cs : Array Value} (hg : P.globalNamed nm = some g) (h : w.var? P nm = some cs) : ∀ j u, cs[j]? = some u → w.cell? ⟨g, j, none⟩ = some u := by
  intro j u hj
  unfold World.var? at h
  rw [hg] at h
  simp only [Option.bind_some] at h
  cases hx : w.heap[g]? with
  | none => rw [hx] at h; cases h
  | some o =>
    rw [hx] at h
    cases o with
    | cells c t f =>
      simp at h
      subst h
      simp only [World.cell?, hx]
      exact hj
    | _ => simp at h
set_option maxRecDepth 100000 in
theorem laid_rat {n : String} {g : Nat} {a b : List UInt8} {W : World} (hg : Tryz.prog.globalNamed n = some g) (ht : (Tryz.prog.globals[g]?).map (·.type) = some 29)
    (h : laidMet Tryz.prog [(n, .agg [.lit (.bool false), .lit (.string a), .lit (.string b)])] W) : ∃ s t : ByteArray, s.data.toList = a ∧ t.data.toList = b ∧ RZ W g false s t := by
  obtain ⟨ps, ⟨g0, t0, cs0, f0, p0, q0, hg0, ht0, hv0, hd0, _, e0⟩, _, hrows⟩ := h
  obtain rfl := Option.some.inj (hg.symm.trans hg0)
  obtain rfl := Option.some.inj (ht.symm.trans ht0)
  have hc := var_cells hg hv0
  obtain ⟨xs, m, _, hy, hl, hx, hi⟩ := DataW.trod_struct Tryz.underlying29 hd0
  rw [Tryz.cellsRat] at hl
  have hx' : xs.length = 3 := hx
  have e0 : DataW.trod _ Tryz.prog W _ _ _ m 4 ((cs0.toList.drop 0).take (Tryz.prog.cellsOf 4)) = xs[0]? := hi 0 _ rfl
  have e1 : DataW.trod _ Tryz.prog W _ _ _ m 27 ((cs0.toList.drop 1).take (Tryz.prog.cellsOf 27)) = xs[1]? := hi 1 _ rfl
  have e2 : DataW.trod _ Tryz.prog W _ _ _ m 27 ((cs0.toList.drop 2).take (Tryz.prog.cellsOf 27)) = xs[2]? := hi 2 _ rfl
  rw [Tryz.cellsBool1, List.getElem?_eq_getElem (by omega)] at e0
  rw [Tryz.cellsNat1, List.getElem?_eq_getElem (by omega)] at e1 e2
  obtain ⟨l0⟩ := cs0
  match l0, hl with
  | [c0, c1, c2], _ =>
    obtain ⟨g1, q0, r0⟩ := DataW.trod_bool Tryz.underlying4 e0
    obtain ⟨s, q1, r1, l1⟩ := DataW.trod_string Tryz.underlying27 e1
    obtain ⟨t, q2, r2, l2⟩ := DataW.trod_string Tryz.underlying27 e2
    have h0 : c0 = .bool g1 := by simpa using q0
    have h1 : c1 = .string s := by simpa using q1
    have h2 : c2 = .string t := by simpa using q2
    subst h0 h1 h2
    match xs, hx' with
    | [x0, x1, x2], _ =>
      simp only [List.getElem_cons_zero, List.getElem_cons_succ] at r0 r1 r2
      subst r0 r1 r2
      injection hy with hy _
      simp only [List.map_cons, List.map_nil, DataW.agg.injEq, List.cons.injEq, DataW.lit.injEq, Lit.bool.injEq, Lit.string.injEq, and_true] at hy
      obtain ⟨rfl, hs, ht⟩ := hy
      exact ⟨s, t, hs.symm, ht.symm, hc 0 _ rfl, hc 1 _ rfl, hc 2 _ rfl⟩
theorem lawM_of {W : World} {l : List (String × DataW Unit)} (h : laidMet Tryz.prog l W) (hW : LawW W)
    (h1 : (l.filter fun x => x.1 == "observatory/moments.zero") = [("observatory/moments.zero", .agg [.lit (.bool false), .lit (.string [48]), .lit (.string [49])])])
    (h2 : (l.filter fun x => x.1 == "observatory/moments.one") = [("observatory/moments.one", .agg [.lit (.bool false), .lit (.string [49]), .lit (.string [49])])]) : LawM W := by
  have a := h.filter fun x => x.1 == "observatory/moments.zero"
  rw [h1] at a
  have b := h.filter fun x => x.1 == "observatory/moments.one"
  rw [h2] at b
  obtain ⟨s, t, hs, ht, hz⟩ := laid_rat Tryz.gZero Tryz.gZeroT a
  obtain ⟨s', t', hs', ht', ho⟩ := laid_rat Tryz.gOne Tryz.gOneT b
  have e : ∀ (s : ByteArray) (l : List UInt8), s.data.toList = l → s = ⟨l.toArray⟩ := fun s l h => by
    subst h; rfl
  rw [e s _ hs, e t _ ht] at hz
  rw [e s' _ hs', e t' _ ht'] at ho
  exact ⟨hW, hz, ho⟩

/-- The cell of the first error. -/
structure CE (w : World) (C : Nat) (e : Int) : Prop where
  c : w.cell? ⟨C, 0, none⟩ = some (.int .i64 e)
  f : w.frozen? ⟨C, 0, none⟩ = false
theorem CE.lt {w : World} {C : Nat} {e : Int} (h : CE w C e) : C < w.heap.size := World.block_lt_of_cell? _ _ h.c
theorem CE.below {w w' : World} {C : Nat} {e : Int} (h : CE w C e) (hb : Below w.heap.size w w') : CE w' C e := ⟨keep_cell hb h.c, (hb.frozen (p := ⟨C, 0, none⟩) h.lt).trans h.f⟩
theorem CE.set {w : World} {C : Nat} {e : Int} (h : CE w C e) (k : Int) : CE (w.setCell ⟨C, 0, none⟩ (.int .i64 k)) C k := ⟨World.cell?_setCell_same _ _ _ h.c, by rw [World.frozen?_setCell]; exact h.f⟩
theorem grown_belowM {w w' : World} (h : Below w.heap.size w w') (row : Option Nat) : w.grownBy w' row := ⟨h.os, h.tape, h.output, h.size, fun k hk _ => h.block k hk⟩
theorem grown_set (w : World) (b x : Nat) (u : Value) : w.grownBy (w.setCell ⟨b, x, none⟩ u) (some b) :=
  ⟨rfl, rfl, rfl, by simp, fun k _ hne => Below.heap_setCell _ _ _ _ fun e => hne (by rw [e])⟩
theorem bStepM {w0 w1 w2 : World} (h : Below w0.heap.size w0 w1) (k : Below w1.heap.size w1 w2) : Below w0.heap.size w0 w2 := btrans h h.size k
theorem grown_then {w w1 w2 : World} {row : Option Nat} (h : w.grownBy w1 row) (hb : Below w.heap.size w1 w2) : w.grownBy w2 row :=
  ⟨hb.os.trans h.os, hb.tape.trans h.tape, hb.output.trans h.output, Nat.le_trans h.size hb.size, fun k hk hne => (hb.block k hk).trans (h.block k hk hne)⟩
theorem grown_setM3 (w : World) (b x y z : Nat) (u v t : Value) : w.grownBy (((w.setCell ⟨b, x, none⟩ u).setCell ⟨b, y, none⟩ v).setCell ⟨b, z, none⟩ t) (some b) :=
  World.grownBy.trans (World.grownBy.trans (grown_set w b x u) (grown_set _ b y v)) (grown_set _ b z t)
theorem bSetM3 {B b x y z : Nat} {w : World} {u v t : Value} (hB : B ≤ b) (hb : b < w.heap.size) : Below B w (((w.setCell ⟨b, x, none⟩ u).setCell ⟨b, y, none⟩ v).setCell ⟨b, z, none⟩ t) :=
  (Below.refl B w).grown (grown_setM3 w b x y z u v t) (by omega) (fun k hk => by injection hk with hk; omega)
theorem RC.keptM {w w' : World} {b : Nat} {g : Bool} {s t : ByteArray} {row : Option Nat} (h : RC w b g s t) (hg : w.grownBy w' row) (hne : some b ≠ row) : RC w' b g s t := by
  have e := hg.block b h.lt hne
  exact ⟨(World.cell?_of_block (a := ⟨b, 0, none⟩) e).trans h.c0, (World.cell?_of_block (a := ⟨b, 1, none⟩) e).trans h.c1, (World.cell?_of_block (a := ⟨b, 2, none⟩) e).trans h.c2,
    (World.frozen?_of_block (a := ⟨b, 0, none⟩) e).trans h.f0, (World.frozen?_of_block (a := ⟨b, 1, none⟩) e).trans h.f1, (World.frozen?_of_block (a := ⟨b, 2, none⟩) e).trans h.f2⟩
theorem CE.keptM {w w' : World} {C : Nat} {e : Int} {row : Option Nat} (h : CE w C e) (hg : w.grownBy w' row) (hne : some C ≠ row) : CE w' C e := by
  have e := hg.block C h.lt hne
  exact ⟨(World.cell?_of_block (a := ⟨C, 0, none⟩) e).trans h.c, (World.frozen?_of_block (a := ⟨C, 0, none⟩) e).trans h.f⟩
def errU (e k : Int) : Int := if e = 0 then k else e
set_option maxHeartbeats 2000000 in
set_option maxRecDepth 100000 in
theorem mo_take (C : Nat) (g : Bool) (s t : ByteArray) (e k : Int) (w : World) (hc : CE w C e) :
    Calls Tryz.prog 59 #[.pointer (some ⟨C, 0, none⟩), .agg #[.bool g, .string s, .string t], .int .i64 k] w fun x w' => x = .returned (.agg #[.bool g, .string s, .string t]) ∧ CE w' C (errU e k) ∧ w.grownBy w' (some C) := by
  have hb := bAlloc (bAlloc (Below.refl w.heap.size w) (.cells #[.bool g, .string s, .string t] 29)) (.cells #[.bool false, .string ⟨#[]⟩, .string ⟨#[]⟩] 29)
  have HB := hide hb
  have HC := hide (hc.below hb)
  have HC0 := hide hc
  have c0 := HC.out.c
  have f0 := HC.out.f
  have hlt := hc.lt
  have n1 : C ≠ w.heap.size := by omega
  have n2 : C ≠ w.heap.size + 1 := by omega
  have n3 : w.heap.size ≠ C := by omega
  have n4 : w.heap.size + 1 ≠ C := by omega
  clear hlt
  by_cases h : e = 0
  · have e1 : (e == 0) = true := by rw [h]; rfl
    have HE : Hid (errU e k = k) := if_pos h
    clear hb hc h
    rw [HE.out]
    go_enter Tryz.func59, Tryz.ntmps59
    go_wp2_with fail
    have hR0 : RC ((w.alloc (.cells #[.bool g, .string s, .string t] 29)).alloc (.cells #[.bool false, .string ⟨#[]⟩, .string ⟨#[]⟩] 29)) (w.heap.size + 1) false ⟨#[]⟩ ⟨#[]⟩ := RC.new_at _ _ _ _ _ (by simp [go_sem])
    have hR1 := hR0.keptM (grown_set _ C 0 (.int .i64 k)) (by intro h; injection h with h; exact n4 h)
    have hlt := hR1.lt
    have hR2 := hR1.set3 g s t
    have hC1 := HC.out.set k
    have hC2 := hC1.keptM (grown_setM3 _ (w.heap.size + 1) 0 1 2 (.bool g) (.string s) (.string t)) (by intro h; injection h with h; exact n2 h)
    have hG := grown_then ((grown_belowM HB.out (some C)).trans (grown_set _ C 0 (.int .i64 k))) (bSetM3 (x := 0) (y := 1) (z := 2) (u := .bool g) (v := .string s) (t := .string t) (show w.heap.size ≤ w.heap.size + 1 by omega) hlt)
    obtain ⟨d0, d1, d2, _, _, _⟩ := (id hR2 : RC _ _ _ _ _)
    exact bodyPost_ret (v := .agg #[.bool g, .string s, .string t]) (by simp [results, Tryz.results59, go_sem, d0, d1, d2]) rfl ⟨rfl, hC2, hG⟩
  · have e1 : (e == 0) = false := beq_eq_false_iff_ne.2 h
    have HE : Hid (errU e k = e) := if_neg h
    clear hb hc h
    rw [HE.out]
    go_enter Tryz.func59, Tryz.ntmps59
    go_wp2_with fail
    have hR2 : RC ((w.alloc (.cells #[.bool g, .string s, .string t] 29)).alloc (.cells #[.bool g, .string s, .string t] 29)) (w.heap.size + 1) g s t := RC.new_at _ _ _ _ _ (by simp [go_sem])
    obtain ⟨d0, d1, d2, _, _, _⟩ := (id hR2 : RC _ _ _ _ _)
    have hb2 := bAlloc (bAlloc (Below.refl w.heap.size w) (.cells #[.bool g, .string s, .string t] 29)) (.cells #[.bool g, .string s, .string t] 29)
    exact bodyPost_ret (v := .agg #[.bool g, .string s, .string t]) (by simp [results, Tryz.results59, go_sem, d0, d1, d2]) rfl ⟨rfl, HC0.out.below hb2, grown_belowM hb2 _⟩
end Go.Proofs.YtblpnekjnaaeoaaGreatDoor
namespace Go.Proofs.YtblpnekjnaaeoaaGreatDoor
open Go.RowKit

set_option maxHeartbeats 4000000 in
set_option maxRecDepth 100000 in
theorem mo_do_err (F : FuncId) (C : Nat) (ga : Bool) (sa ta : ByteArray) (gb : Bool) (sb tb : ByteArray) (e : Int) (w : World) (hc : CE w C e) (he : e ≠ 0) (hL : LawM w) :
    Calls Tryz.prog 35 #[.pointer (some ⟨C, 0, none⟩), .func (.func F) #[] #[], .agg #[.bool ga, .string sa, .string ta], .agg #[.bool gb, .string sb, .string tb]] w fun x w' =>
      x = .returned (.agg #[.bool false, .string ⟨#[48]⟩, .string ⟨#[49]⟩]) ∧ Below w.heap.size w w' := by
  have hb := bAlloc (bAlloc (bAlloc (Below.refl w.heap.size w) (.cells #[.bool ga, .string sa, .string ta] 29)) (.cells #[.bool gb, .string sb, .string tb] 29)) (.cells #[.bool false, .string ⟨#[]⟩, .string ⟨#[]⟩] 29)
  have HB := hide hb
  have c0 := (hc.below hb).c
  obtain ⟨z0, z1, z2⟩ := (hL.below hb).2.1
  have hR0 : RC (((w.alloc (.cells #[.bool ga, .string sa, .string ta] 29)).alloc (.cells #[.bool gb, .string sb, .string tb] 29)).alloc (.cells #[.bool false, .string ⟨#[]⟩, .string ⟨#[]⟩] 29)) (w.heap.size + 1 + 1) false ⟨#[]⟩ ⟨#[]⟩ := RC.new_at _ _ _ _ _ (by simp [go_sem])
  have HR0 := hide hR0
  have e1 : (e == 0) = false := beq_eq_false_iff_ne.2 he
  clear hb hc hL hR0
  go_enter Tryz.func35, Tryz.ntmps35
  go_wp2_with fail
  have hR2 : RC (((w.alloc (.cells #[.bool ga, .string sa, .string ta] 29)).alloc (.cells #[.bool gb, .string sb, .string tb] 29)).alloc (.cells #[.bool false, .string ⟨#[48]⟩, .string ⟨#[49]⟩] 29)) (w.heap.size + 1 + 1) false ⟨#[48]⟩ ⟨#[49]⟩ := RC.new_at _ _ _ _ _ (by simp [go_sem])
  obtain ⟨d0, d1, d2, _, _, _⟩ := (id hR2 : RC _ _ _ _ _)
  have hb2 := bAlloc (bAlloc (bAlloc (Below.refl w.heap.size w) (.cells #[.bool ga, .string sa, .string ta] 29)) (.cells #[.bool gb, .string sb, .string tb] 29)) (.cells #[.bool false, .string ⟨#[48]⟩, .string ⟨#[49]⟩] 29)
  exact bodyPost_ret (v := .agg #[.bool false, .string ⟨#[48]⟩, .string ⟨#[49]⟩]) (by simp [results, Tryz.results35, go_sem, d0, d1, d2]) rfl ⟨rfl, hb2⟩
set_option maxHeartbeats 4000000 in
set_option maxRecDepth 100000 in
theorem mo_do_Add (C : Nat) (ga : Bool) (sa ta : ByteArray) (gb : Bool) (sb tb : ByteArray) (g : Bool) (s t : ByteArray) (k : Int) (w : World) (hc : CE w C 0)
    (hF : ∀ W, Below w.heap.size w W → Calls Tryz.prog 37 #[.agg #[.bool ga, .string sa, .string ta], .agg #[.bool gb, .string sb, .string tb]] W fun x w' => x = .returned (.tuple #[.agg #[.bool g, .string s, .string t], .int .i64 k]) ∧ Below W.heap.size W w') :
    Calls Tryz.prog 35 #[.pointer (some ⟨C, 0, none⟩), .func (.func 37) #[] #[], .agg #[.bool ga, .string sa, .string ta], .agg #[.bool gb, .string sb, .string tb]] w fun x w' =>
      x = .returned (.agg #[.bool g, .string s, .string t]) ∧ CE w' C k ∧ w.grownBy w' (some C) := by
  have hb := bAlloc (bAlloc (bAlloc (Below.refl w.heap.size w) (.cells #[.bool ga, .string sa, .string ta] 29)) (.cells #[.bool gb, .string sb, .string tb] 29)) (.cells #[.bool false, .string ⟨#[]⟩, .string ⟨#[]⟩] 29)
  have HB := hide hb
  have HC := hide (hc.below hb)
  have c0 := HC.out.c
  have HF := hide (fun W hW => hF W (bStepM hb hW))
  have hR0 : RC (((w.alloc (.cells #[.bool ga, .string sa, .string ta] 29)).alloc (.cells #[.bool gb, .string sb, .string tb] 29)).alloc (.cells #[.bool false, .string ⟨#[]⟩, .string ⟨#[]⟩] 29)) (w.heap.size + 1 + 1) false ⟨#[]⟩ ⟨#[]⟩ := RC.new_at _ _ _ _ _ (by simp [go_sem])
  have HR0 := hide hR0
  have HNC : Hid (C < w.heap.size) := hc.lt
  clear hb hc hF hR0
  go_enter Tryz.func35, Tryz.ntmps35
  go_wp2_with fail
  refine (HF.out _ (Below.refl _ _)).mono ?_
  rintro x w1 ⟨rfl, hb⟩
  have HC1 := hide (HC.out.below hb)
  have HB1 := hide (bStepM HB.out hb)
  have HR1 := hide (HR0.out.below hb)
  clear hb c0
  go_wp2_with fail
  refine (mo_take C g s t 0 k _ HC1.out).mono ?_
  rintro x w2 ⟨rfl, hc, hg⟩
  have hRR := HR1.out.keptM hg (by intro h; injection h with h; have := HNC.out; omega)
  obtain ⟨r0, r1, r2, f0, f1, f2⟩ := (id hRR : RC _ _ _ _ _)
  go_wp2_with fail
  have hR2 := hRR.set3 g s t
  have hlt := hRR.lt
  obtain ⟨d0, d1, d2, _, _, _⟩ := (id hR2 : RC _ _ _ _ _)
  have hC2 := hc.keptM (grown_setM3 _ (w.heap.size + 1 + 1) 0 1 2 (.bool g) (.string s) (.string t)) (by intro h; injection h with h; have := HNC.out; omega)
  have hG := grown_then ((grown_belowM HB1.out (some C)).trans hg) (bSetM3 (x := 0) (y := 1) (z := 2) (u := .bool g) (v := .string s) (t := .string t) (show w.heap.size ≤ w.heap.size + 1 + 1 by omega) hlt)
  exact bodyPost_ret (v := .agg #[.bool g, .string s, .string t]) (by simp [results, Tryz.results35, go_sem, d0, d1, d2]) rfl ⟨rfl, hC2, hG⟩
set_option maxHeartbeats 4000000 in
set_option maxRecDepth 100000 in
theorem mo_do_Mul (C : Nat) (ga : Bool) (sa ta : ByteArray) (gb : Bool) (sb tb : ByteArray) (g : Bool) (s t : ByteArray) (k : Int) (w : World) (hc : CE w C 0)
    (hF : ∀ W, Below w.heap.size w W → Calls Tryz.prog 38 #[.agg #[.bool ga, .string sa, .string ta], .agg #[.bool gb, .string sb, .string tb]] W fun x w' => x = .returned (.tuple #[.agg #[.bool g, .string s, .string t], .int .i64 k]) ∧ Below W.heap.size W w') :
    Calls Tryz.prog 35 #[.pointer (some ⟨C, 0, none⟩), .func (.func 38) #[] #[], .agg #[.bool ga, .string sa, .string ta], .agg #[.bool gb, .string sb, .string tb]] w fun x w' =>
      x = .returned (.agg #[.bool g, .string s, .string t]) ∧ CE w' C k ∧ w.grownBy w' (some C) := by
  have hb := bAlloc (bAlloc (bAlloc (Below.refl w.heap.size w) (.cells #[.bool ga, .string sa, .string ta] 29)) (.cells #[.bool gb, .string sb, .string tb] 29)) (.cells #[.bool false, .string ⟨#[]⟩, .string ⟨#[]⟩] 29)
  have HB := hide hb
  have HC := hide (hc.below hb)
  have c0 := HC.out.c
  have HF := hide (fun W hW => hF W (bStepM hb hW))
  have hR0 : RC (((w.alloc (.cells #[.bool ga, .string sa, .string ta] 29)).alloc (.cells #[.bool gb, .string sb, .string tb] 29)).alloc (.cells #[.bool false, .string ⟨#[]⟩, .string ⟨#[]⟩] 29)) (w.heap.size + 1 + 1) false ⟨#[]⟩ ⟨#[]⟩ := RC.new_at _ _ _ _ _ (by simp [go_sem])
  have HR0 := hide hR0
  have HNC : Hid (C < w.heap.size) := hc.lt
  clear hb hc hF hR0
  go_enter Tryz.func35, Tryz.ntmps35
  go_wp2_with fail
  refine (HF.out _ (Below.refl _ _)).mono ?_
  rintro x w1 ⟨rfl, hb⟩
  have HC1 := hide (HC.out.below hb)
  have HB1 := hide (bStepM HB.out hb)
  have HR1 := hide (HR0.out.below hb)
  clear hb c0
  go_wp2_with fail
  refine (mo_take C g s t 0 k _ HC1.out).mono ?_
  rintro x w2 ⟨rfl, hc, hg⟩
  have hRR := HR1.out.keptM hg (by intro h; injection h with h; have := HNC.out; omega)
  obtain ⟨r0, r1, r2, f0, f1, f2⟩ := (id hRR : RC _ _ _ _ _)
  go_wp2_with fail
  have hR2 := hRR.set3 g s t
  have hlt := hRR.lt
  obtain ⟨d0, d1, d2, _, _, _⟩ := (id hR2 : RC _ _ _ _ _)
  have hC2 := hc.keptM (grown_setM3 _ (w.heap.size + 1 + 1) 0 1 2 (.bool g) (.string s) (.string t)) (by intro h; injection h with h; have := HNC.out; omega)
  have hG := grown_then ((grown_belowM HB1.out (some C)).trans hg) (bSetM3 (x := 0) (y := 1) (z := 2) (u := .bool g) (v := .string s) (t := .string t) (show w.heap.size ≤ w.heap.size + 1 + 1 by omega) hlt)
  exact bodyPost_ret (v := .agg #[.bool g, .string s, .string t]) (by simp [results, Tryz.results35, go_sem, d0, d1, d2]) rfl ⟨rfl, hC2, hG⟩
set_option maxHeartbeats 4000000 in
set_option maxRecDepth 100000 in
theorem mo_do_Sub (C : Nat) (ga : Bool) (sa ta : ByteArray) (gb : Bool) (sb tb : ByteArray) (g : Bool) (s t : ByteArray) (k : Int) (w : World) (hc : CE w C 0)
    (hF : ∀ W, Below w.heap.size w W → Calls Tryz.prog 36 #[.agg #[.bool ga, .string sa, .string ta], .agg #[.bool gb, .string sb, .string tb]] W fun x w' => x = .returned (.tuple #[.agg #[.bool g, .string s, .string t], .int .i64 k]) ∧ Below W.heap.size W w') :
    Calls Tryz.prog 35 #[.pointer (some ⟨C, 0, none⟩), .func (.func 36) #[] #[], .agg #[.bool ga, .string sa, .string ta], .agg #[.bool gb, .string sb, .string tb]] w fun x w' =>
      x = .returned (.agg #[.bool g, .string s, .string t]) ∧ CE w' C k ∧ w.grownBy w' (some C) := by
  have hb := bAlloc (bAlloc (bAlloc (Below.refl w.heap.size w) (.cells #[.bool ga, .string sa, .string ta] 29)) (.cells #[.bool gb, .string sb, .string tb] 29)) (.cells #[.bool false, .string ⟨#[]⟩, .string ⟨#[]⟩] 29)
  have HB := hide hb
  have HC := hide (hc.below hb)
  have c0 := HC.out.c
  have HF := hide (fun W hW => hF W (bStepM hb hW))
  have hR0 : RC (((w.alloc (.cells #[.bool ga, .string sa, .string ta] 29)).alloc (.cells #[.bool gb, .string sb, .string tb] 29)).alloc (.cells #[.bool false, .string ⟨#[]⟩, .string ⟨#[]⟩] 29)) (w.heap.size + 1 + 1) false ⟨#[]⟩ ⟨#[]⟩ := RC.new_at _ _ _ _ _ (by simp [go_sem])
  have HR0 := hide hR0
  have HNC : Hid (C < w.heap.size) := hc.lt
  clear hb hc hF hR0
  go_enter Tryz.func35, Tryz.ntmps35
  go_wp2_with fail
  refine (HF.out _ (Below.refl _ _)).mono ?_
  rintro x w1 ⟨rfl, hb⟩
  have HC1 := hide (HC.out.below hb)
  have HB1 := hide (bStepM HB.out hb)
  have HR1 := hide (HR0.out.below hb)
  clear hb c0
  go_wp2_with fail
  refine (mo_take C g s t 0 k _ HC1.out).mono ?_
  rintro x w2 ⟨rfl, hc, hg⟩
  have hRR := HR1.out.keptM hg (by intro h; injection h with h; have := HNC.out; omega)
  obtain ⟨r0, r1, r2, f0, f1, f2⟩ := (id hRR : RC _ _ _ _ _)
  go_wp2_with fail
  have hR2 := hRR.set3 g s t
  have hlt := hRR.lt
  obtain ⟨d0, d1, d2, _, _, _⟩ := (id hR2 : RC _ _ _ _ _)
  have hC2 := hc.keptM (grown_setM3 _ (w.heap.size + 1 + 1) 0 1 2 (.bool g) (.string s) (.string t)) (by intro h; injection h with h; have := HNC.out; omega)
  have hG := grown_then ((grown_belowM HB1.out (some C)).trans hg) (bSetM3 (x := 0) (y := 1) (z := 2) (u := .bool g) (v := .string s) (t := .string t) (show w.heap.size ≤ w.heap.size + 1 + 1 by omega) hlt)
  exact bodyPost_ret (v := .agg #[.bool g, .string s, .string t]) (by simp [results, Tryz.results35, go_sem, d0, d1, d2]) rfl ⟨rfl, hC2, hG⟩
set_option maxHeartbeats 2000000 in
set_option maxRecDepth 100000 in
theorem mo_result_ok (C : Nat) (g : Bool) (s t : ByteArray) (w : World) (hc : CE w C 0) :
    Calls Tryz.prog 31 #[.pointer (some ⟨C, 0, none⟩), .agg #[.bool g, .string s, .string t]] w fun x w' => x = .returned (.tuple #[.agg #[.bool g, .string s, .string t], .int .i64 0]) ∧ Below w.heap.size w w' := by
  have hb := bAlloc (bAlloc (Below.refl w.heap.size w) (.cells #[.bool g, .string s, .string t] 29)) (.cells #[.bool false, .string ⟨#[]⟩, .string ⟨#[]⟩] 29)
  have c0 := (hc.below hb).c
  clear hb hc
  go_enter Tryz.func31, Tryz.ntmps31
  go_wp2_with fail
  have hR2 : RC ((w.alloc (.cells #[.bool g, .string s, .string t] 29)).alloc (.cells #[.bool g, .string s, .string t] 29)) (w.heap.size + 1) g s t := RC.new_at _ _ _ _ _ (by simp [go_sem])
  obtain ⟨d0, d1, d2, _, _, _⟩ := (id hR2 : RC _ _ _ _ _)
  exact bodyPost_ret (v := .tuple #[.agg #[.bool g, .string s, .string t], .int .i64 0]) (by simp [results, Tryz.results31, go_sem, d0, d1, d2]) rfl ⟨rfl, bAlloc (bAlloc (Below.refl _ _) _) _⟩
set_option maxHeartbeats 2000000 in
set_option maxRecDepth 100000 in
theorem mo_result_err (C : Nat) (g : Bool) (s t : ByteArray) (e : Int) (he : e ≠ 0) (w : World) (hc : CE w C e) :
    Calls Tryz.prog 31 #[.pointer (some ⟨C, 0, none⟩), .agg #[.bool g, .string s, .string t]] w fun x w' => x = .returned (.tuple #[.agg #[.bool false, .string ⟨#[]⟩, .string ⟨#[]⟩], .int .i64 e]) ∧ Below w.heap.size w w' := by
  have hb := bAlloc (bAlloc (Below.refl w.heap.size w) (.cells #[.bool g, .string s, .string t] 29)) (.cells #[.bool false, .string ⟨#[]⟩, .string ⟨#[]⟩] 29)
  have HB := hide hb
  have HC := hide (hc.below hb)
  have hR0 : RC ((w.alloc (.cells #[.bool g, .string s, .string t] 29)).alloc (.cells #[.bool false, .string ⟨#[]⟩, .string ⟨#[]⟩] 29)) (w.heap.size + 1) false ⟨#[]⟩ ⟨#[]⟩ := RC.new_at _ _ _ _ _ (by simp [go_sem])
  have HR0 := hide hR0
  have c0 := HC.out.c
  have e1 : (e == 0) = false := beq_eq_false_iff_ne.2 he
  have n1 : C ≠ w.heap.size + 1 := by have := hc.lt; omega
  have n2 : w.heap.size + 1 ≠ C := by omega
  clear hb hc hR0
  go_enter Tryz.func31, Tryz.ntmps31
  go_wp2_with fail
  obtain ⟨W, hW⟩ : ∃ W, (w.alloc (.cells #[.bool g, .string s, .string t] 29)).alloc (.cells #[.bool false, .string ⟨#[]⟩, .string ⟨#[]⟩] 29) = W := ⟨_, rfl⟩
  obtain ⟨A, hA⟩ : ∃ A, w.heap.size + 1 = A := ⟨_, rfl⟩
  rw [hW] at HB HC HR0 c0
  rw [hA] at HR0 n1 n2
  rw [hW, hA]
  have HAW : Hid (w.heap.size ≤ A) := by show _ ≤ _; omega
  clear hW hA
  have q0 : W.drew.cell? ⟨A, 0, none⟩ = some (.bool false) := HR0.out.c0
  have q1 : W.drew.cell? ⟨A, 1, none⟩ = some (.string ⟨#[]⟩) := HR0.out.c1
  have q2 : W.drew.cell? ⟨A, 2, none⟩ = some (.string ⟨#[]⟩) := HR0.out.c2
  have q3 : W.drew.frozen? ⟨A, 0, none⟩ = false := HR0.out.f0
  have q4 : W.drew.frozen? ⟨A, 1, none⟩ = false := HR0.out.f1
  have q5 : W.drew.frozen? ⟨A, 2, none⟩ = false := HR0.out.f2
  have q6 : W.drew.cell? ⟨C, 0, none⟩ = some (.int .i64 e) := c0
  obtain ⟨p0, p1, p2, p3, p4, p5⟩ := (id HR0.out : RC _ _ _ _ _)
  have HRE := hide (HR0.out.set3 false ⟨#[]⟩ ⟨#[]⟩)
  have HBE := hide (bDraw (HB.out.trans (bSetM3 (x := 0) (y := 1) (z := 2) (u := .bool false) (v := .string ⟨#[]⟩) (t := .string ⟨#[]⟩) HAW.out HR0.out.lt)))
  go_region_held3 (fun w' => w'.cell? ⟨C, 0, none⟩ = some (.int .i64 e)) (first | exact c0 | go_keep) (fail)
  go_wp2_with fail
  obtain ⟨d0, d1, d2, _, _, _⟩ := (id HRE.out : RC _ _ _ _ _)
  have d0' := World.cell?_setCell_same W ⟨A, 0, none⟩ (.bool false) p0
  have d1' : ((W.setCell ⟨A, 0, none⟩ (.bool false)).setCell ⟨A, 1, none⟩ (.string ⟨#[]⟩)).cell? ⟨A, 1, none⟩ = some (.string ⟨#[]⟩) := World.cell?_setCell_same _ _ _ ((World.cell?_setCell_other _ _ _ _ (by simp)).trans p1)
  have d1'' := World.cell?_setCell_same W ⟨A, 1, none⟩ (.string ⟨#[]⟩) p1
  have d2'' := World.cell?_setCell_same W ⟨A, 2, none⟩ (.string ⟨#[]⟩) p2
  exact bodyPost_ret (v := .tuple #[.agg #[.bool false, .string ⟨#[]⟩, .string ⟨#[]⟩], .int .i64 e]) (by simp [results, Tryz.results31, go_sem, d0, d1, d2, d0', d1', d1'', d2'']) rfl ⟨rfl, HBE.out⟩
end Go.Proofs.YtblpnekjnaaeoaaGreatDoor
namespace Go.Proofs.YtblpnekjnaaeoaaGreatDoor
open Go.RowKit

/-- The texts of a number. -/
def rqM (q : Rat) : Bool × ByteArray × ByteArray := (ngQ q, natS (nmQ q), natS q.den)
def IsT (q : Rat) (x : Bool × ByteArray × ByteArray) : Prop := IsQ q x.1 x.2.1 x.2.2
theorem IsT.self (q : Rat) : IsT q (rqM q) := rfl
theorem IsT.eq {q : Rat} {x : Bool × ByteArray × ByteArray} (h : IsT q x) : x = rqM q := by
  unfold IsT IsQ rqV at h
  simp only [Value.agg.injEq, Array.mk.injEq, List.cons.injEq, Value.bool.injEq, Value.string.injEq, and_true] at h
  obtain ⟨a, b, c⟩ := x
  obtain ⟨h1, h2, h3⟩ := h
  simp only at h1 h2 h3
  subst h1 h2 h3; rfl
theorem addR_fit {p q r : Rat} (h : addR p q = some r) : r = p + q ∧ FitQ r := by
  unfold addR at h
  split at h
  · rename_i hf
    injection h with h
    subst h
    refine ⟨rfl, ?_⟩
    obtain ⟨h1, h2, h3, h4⟩ := hf
    have hd := Nat.mul_pos (den_pos p) (den_pos q)
    by_cases hs : ngQ p = ngQ q
    · have hm := mkQ_le (ngQ p) (nmQ p * q.den + nmQ q * p.den) (p.den * q.den) hd
      rw [add_same hs] at hm
      exact ⟨Nat.lt_of_le_of_lt hm.1 (h4 hs), Nat.lt_of_le_of_lt hm.2 h3⟩
    · by_cases hle : nmQ q * p.den ≤ nmQ p * q.den
      · have hm := mkQ_le (ngQ p) (nmQ p * q.den - nmQ q * p.den) (p.den * q.den) hd
        rw [add_left hs hle] at hm
        exact ⟨Nat.lt_of_le_of_lt hm.1 (Nat.lt_of_le_of_lt (Nat.sub_le _ _) h1), Nat.lt_of_le_of_lt hm.2 h3⟩
      · have hm := mkQ_le (ngQ q) (nmQ q * p.den - nmQ p * q.den) (p.den * q.den) hd
        rw [add_right hs (by omega)] at hm
        exact ⟨Nat.lt_of_le_of_lt hm.1 (Nat.lt_of_le_of_lt (Nat.sub_le _ _) h2), Nat.lt_of_le_of_lt hm.2 h3⟩
  · cases h
theorem mulR_fit {p q r : Rat} (h : mulR p q = some r) : r = p * q ∧ FitQ r := by
  unfold mulR at h
  split at h
  · rename_i hf
    injection h with h
    subst h
    refine ⟨rfl, ?_⟩
    have hm := mkQ_le (ngQ p != ngQ q) (nmQ p * nmQ q) (p.den * q.den) (Nat.mul_pos (den_pos p) (den_pos q))
    rw [mul_mk] at hm
    exact ⟨Nat.lt_of_le_of_lt hm.1 hf.1, Nat.lt_of_le_of_lt hm.2 hf.2⟩
  · cases h
theorem FitQ.neg {q : Rat} (h : FitQ q) : FitQ (-q) := by
  obtain ⟨_, e2, e3⟩ := neg_parts q
  exact ⟨by rw [e2]; exact h.1, by rw [e3]; exact h.2⟩
def subR (p q : Rat) : Option Rat := addR p (-q)
theorem subR_fit {p q r : Rat} (h : subR p q = some r) : r = p - q ∧ FitQ r := by
  obtain ⟨h1, h2⟩ := addR_fit h
  exact ⟨by rw [h1, Rat.sub_eq_add_neg], h2⟩
def eO {α : Type} : Option α → Int
  | some _ => 0
  | none => 2
theorem rv_text (r : Option Rat) : ∃ g s t, rvV r = .agg #[.bool g, .string s, .string t] ∧ ∀ q, r = some q → IsQ q g s t := by
  cases r with
  | none => exact ⟨false, ⟨#[]⟩, ⟨#[]⟩, rfl, fun q h => by cases h⟩
  | some q => exact ⟨_, _, _, rfl, fun q' h => by injection h with h; subst h; rfl⟩
theorem rvE_eO (r : Option Rat) : rvE r = eO r := by cases r <;> rfl
theorem rat_Sub (p q : Rat) (w : World) (hp : FitQ p) (hq : FitQ q) (hw : LawW w) : Calls Tryz.prog 36 #[rqV p, rqV q] w (RvPost w (subR p q)) := by
  obtain ⟨g, s, t, ht, _⟩ := rv_text (subR p q)
  unfold RvPost
  rw [ht]
  exact rat_Sub_any (ngQ p) (ngQ q) (natS (nmQ p)) (natS p.den) (natS (nmQ q)) (natS q.den) (ngQ (-q)) (natS (nmQ (-q))) (natS (-q).den) g s t (rvE (subR p q)) w hw
    (hide fun X hX => rat_valid_q q X hq hX) (hide fun X => rat_minus q X) (hide fun X hX => by
      have h := rat_Add p (-q) X hp hq.neg hX
      unfold RvPost at h
      rw [show addR p (-q) = subR p q from rfl, ht] at h
      exact h)

theorem mo_dE_Add (C : Nat) (o : Option (Rat × Rat)) (a b : Bool × ByteArray × ByteArray) (w : World) (hL : LawM w) (hc : CE w C (eO o)) (h : ∀ p q, o = some (p, q) → IsT p a ∧ IsT q b ∧ FitQ p ∧ FitQ q) :
    Calls Tryz.prog 35 #[.pointer (some ⟨C, 0, none⟩), .func (.func 37) #[] #[], .agg #[.bool a.1, .string a.2.1, .string a.2.2], .agg #[.bool b.1, .string b.2.1, .string b.2.2]] w fun x w' =>
      ∃ r : Bool × ByteArray × ByteArray, x = .returned (.agg #[.bool r.1, .string r.2.1, .string r.2.2]) ∧ CE w' C (eO (o.bind fun z => addR z.1 z.2)) ∧ (∀ q, (o.bind fun z => addR z.1 z.2) = some q → IsT q r ∧ FitQ q) ∧ w.grownBy w' (some C) := by
  cases o with
  | none =>
    refine (mo_do_err 37 C a.1 a.2.1 a.2.2 b.1 b.2.1 b.2.2 2 w hc (by decide) hL).mono ?_
    rintro x w' ⟨rfl, hb⟩
    exact ⟨(false, ⟨#[48]⟩, ⟨#[49]⟩), rfl, hc.below hb, (fun q hq => by cases hq), grown_belowM hb _⟩
  | some z =>
    obtain ⟨p, q⟩ := z
    obtain ⟨hp, hq, fp, fq⟩ := h p q rfl
    simp only [Option.bind_some]
    obtain ⟨g, s, t, ht, hi⟩ := rv_text (addR p q)
    refine (mo_do_Add C a.1 a.2.1 a.2.2 b.1 b.2.1 b.2.2 g s t (eO (addR p q)) w hc (fun W hW => ?_)).mono ?_
    · have h := rat_Add p q W fp fq (hL.below hW).1
      unfold RvPost at h
      rw [ht, rvE_eO, hp, hq] at h
      exact h
    · rintro x w' ⟨rfl, hc', hg⟩
      exact ⟨(g, s, t), rfl, hc', fun r hr => ⟨hi r hr, (addR_fit hr).2⟩, hg⟩
theorem mo_dE_Mul (C : Nat) (o : Option (Rat × Rat)) (a b : Bool × ByteArray × ByteArray) (w : World) (hL : LawM w) (hc : CE w C (eO o)) (h : ∀ p q, o = some (p, q) → IsT p a ∧ IsT q b ∧ FitQ p ∧ FitQ q) :
    Calls Tryz.prog 35 #[.pointer (some ⟨C, 0, none⟩), .func (.func 38) #[] #[], .agg #[.bool a.1, .string a.2.1, .string a.2.2], .agg #[.bool b.1, .string b.2.1, .string b.2.2]] w fun x w' =>
      ∃ r : Bool × ByteArray × ByteArray, x = .returned (.agg #[.bool r.1, .string r.2.1, .string r.2.2]) ∧ CE w' C (eO (o.bind fun z => mulR z.1 z.2)) ∧ (∀ q, (o.bind fun z => mulR z.1 z.2) = some q → IsT q r ∧ FitQ q) ∧ w.grownBy w' (some C) := by
  cases o with
  | none =>
    refine (mo_do_err 38 C a.1 a.2.1 a.2.2 b.1 b.2.1 b.2.2 2 w hc (by decide) hL).mono ?_
    rintro x w' ⟨rfl, hb⟩
    exact ⟨(false, ⟨#[48]⟩, ⟨#[49]⟩), rfl, hc.below hb, (fun q hq => by cases hq), grown_belowM hb _⟩
  | some z =>
    obtain ⟨p, q⟩ := z
    obtain ⟨hp, hq, fp, fq⟩ := h p q rfl
    simp only [Option.bind_some]
    obtain ⟨g, s, t, ht, hi⟩ := rv_text (mulR p q)
    refine (mo_do_Mul C a.1 a.2.1 a.2.2 b.1 b.2.1 b.2.2 g s t (eO (mulR p q)) w hc (fun W hW => ?_)).mono ?_
    · have h := rat_Mul p q W fp fq (hL.below hW).1
      unfold RvPost at h
      rw [ht, rvE_eO, hp, hq] at h
      exact h
    · rintro x w' ⟨rfl, hc', hg⟩
      exact ⟨(g, s, t), rfl, hc', fun r hr => ⟨hi r hr, (mulR_fit hr).2⟩, hg⟩
theorem mo_dE_Sub (C : Nat) (o : Option (Rat × Rat)) (a b : Bool × ByteArray × ByteArray) (w : World) (hL : LawM w) (hc : CE w C (eO o)) (h : ∀ p q, o = some (p, q) → IsT p a ∧ IsT q b ∧ FitQ p ∧ FitQ q) :
    Calls Tryz.prog 35 #[.pointer (some ⟨C, 0, none⟩), .func (.func 36) #[] #[], .agg #[.bool a.1, .string a.2.1, .string a.2.2], .agg #[.bool b.1, .string b.2.1, .string b.2.2]] w fun x w' =>
      ∃ r : Bool × ByteArray × ByteArray, x = .returned (.agg #[.bool r.1, .string r.2.1, .string r.2.2]) ∧ CE w' C (eO (o.bind fun z => subR z.1 z.2)) ∧ (∀ q, (o.bind fun z => subR z.1 z.2) = some q → IsT q r ∧ FitQ q) ∧ w.grownBy w' (some C) := by
  cases o with
  | none =>
    refine (mo_do_err 36 C a.1 a.2.1 a.2.2 b.1 b.2.1 b.2.2 2 w hc (by decide) hL).mono ?_
    rintro x w' ⟨rfl, hb⟩
    exact ⟨(false, ⟨#[48]⟩, ⟨#[49]⟩), rfl, hc.below hb, (fun q hq => by cases hq), grown_belowM hb _⟩
  | some z =>
    obtain ⟨p, q⟩ := z
    obtain ⟨hp, hq, fp, fq⟩ := h p q rfl
    simp only [Option.bind_some]
    obtain ⟨g, s, t, ht, hi⟩ := rv_text (subR p q)
    refine (mo_do_Sub C a.1 a.2.1 a.2.2 b.1 b.2.1 b.2.2 g s t (eO (subR p q)) w hc (fun W hW => ?_)).mono ?_
    · have h := rat_Sub p q W fp fq (hL.below hW).1
      unfold RvPost at h
      rw [ht, rvE_eO, hp, hq] at h
      exact h
    · rintro x w' ⟨rfl, hc', hg⟩
      exact ⟨(g, s, t), rfl, hc', fun r hr => ⟨hi r hr, (subR_fit hr).2⟩, hg⟩
end Go.Proofs.YtblpnekjnaaeoaaGreatDoor
namespace Go.Proofs.YtblpnekjnaaeoaaGreatDoor
open Go.RowKit

abbrev T3 := Bool × ByteArray × ByteArray
/-- The cells of a point. -/
def vPr (x : T3 × T3) : List Value := [.bool x.1.1, .string x.1.2.1, .string x.1.2.2, .bool x.2.1, .string x.2.2.1, .string x.2.2.2]
theorem vPr_len (x : T3 × T3) : (vPr x).length = 6 := rfl
def encP (p : Rat × Rat) : T3 × T3 := (rqM p.1, rqM p.2)
/-- A point at a place. -/
def P6 (w : World) (b o : Nat) (x : T3 × T3) : Prop := w.cell? ⟨b, o, none⟩ = some (.bool x.1.1) ∧ w.cell? ⟨b, o + 1, none⟩ = some (.string x.1.2.1) ∧ w.cell? ⟨b, o + 2, none⟩ = some (.string x.1.2.2) ∧ w.cell? ⟨b, o + 3, none⟩ = some (.bool x.2.1) ∧ w.cell? ⟨b, o + 4, none⟩ = some (.string x.2.2.1) ∧ w.cell? ⟨b, o + 5, none⟩ = some (.string x.2.2.2)
theorem P6.keep {w w' : World} {b o : Nat} {x : T3 × T3} (h : P6 w b o x) (hb : Below w.heap.size w w') : P6 w' b o x :=
  ⟨keep_cell hb h.1, keep_cell hb h.2.1, keep_cell hb h.2.2.1, keep_cell hb h.2.2.2.1, keep_cell hb h.2.2.2.2.1, keep_cell hb h.2.2.2.2.2⟩
theorem P6.lt {w : World} {b o : Nat} {x : T3 × T3} (h : P6 w b o x) : b < w.heap.size := World.block_lt_of_cell? _ _ h.1
theorem P6.kept {w w' : World} {b o : Nat} {x : T3 × T3} {row : Option Nat} (h : P6 w b o x) (hg : w.grownBy w' row) (hne : some b ≠ row) : P6 w' b o x := by
  have e := hg.block b h.lt hne
  exact ⟨(World.cell?_of_block (a := ⟨b, o, none⟩) e).trans h.1, (World.cell?_of_block (a := ⟨b, o + 1, none⟩) e).trans h.2.1, (World.cell?_of_block (a := ⟨b, o + 2, none⟩) e).trans h.2.2.1,
    (World.cell?_of_block (a := ⟨b, o + 3, none⟩) e).trans h.2.2.2.1, (World.cell?_of_block (a := ⟨b, o + 4, none⟩) e).trans h.2.2.2.2.1, (World.cell?_of_block (a := ⟨b, o + 5, none⟩) e).trans h.2.2.2.2.2⟩
theorem P6.new (w : World) (x : T3 × T3) (T : TypeId) : P6 (w.alloc (.cells #[.bool x.1.1, .string x.1.2.1, .string x.1.2.2, .bool x.2.1, .string x.2.2.1, .string x.2.2.2] T)) w.heap.size 0 x := by
  refine ⟨?_, ?_, ?_, ?_, ?_, ?_⟩ <;> simp [go_sem]
/-- The cells of a slice's point, in a later world. -/
theorem SliceOf.ptAt {w W : World} {ao : Option Addr} {cp : Nat} {l : List (T3 × T3)} {i : Nat} (h : SliceOf vPr 6 w (.slice ao l.length cp) l) (hb : Below w.heap.size w W) (hi : i < l.length) : ∃ b o, ao = some ⟨b, o, none⟩ ∧ (l.length : Int) ≤ (cp : Int) ∧ (cp : Int) ≤ 9223372036854775807 ∧ P6 W b (o + i * 6) l[i] := by
  obtain ⟨b, o, e, _, h1, h2, hc⟩ := SliceOf.at_ (h.below hb) (by omega)
  refine ⟨b, o, e, by omega, by unfold maxLen at h2; omega, ?_⟩
  exact ⟨by have := hc i hi 0 _ rfl; simpa using this, hc i hi 1 _ rfl, hc i hi 2 _ rfl, hc i hi 3 _ rfl, hc i hi 4 _ rfl, hc i hi 5 _ rfl⟩
/-- The mean of the first j points, as it is computed. -/
def meanS (o : Option Rat) (p : Rat × Rat) : Option Rat := o.bind fun s => (mulR p.1 p.2).bind fun m => addR s m
def meanO (L : List (Rat × Rat)) (j : Nat) : Option Rat := (L.take j).foldl meanS (some 0)
theorem meanO_succ {L : List (Rat × Rat)} {j : Nat} (h : j < L.length) : meanO L (j + 1) = meanS (meanO L j) L[j] := by
  unfold meanO
  rw [List.take_succ_eq_append_getElem h, List.foldl_append]; rfl
theorem bMean {w0 w w' : World} {C : Nat} (h : Below w0.heap.size w0 w) (hC : w0.heap.size ≤ C) (hg : w.grownBy w' (some C)) : Below w0.heap.size w0 w' :=
  h.grown hg h.size (fun k hk => by injection hk with hk; omega)
theorem eO_one {z : Rat × Rat} (om : Option Rat) : eO (om.bind fun _ => some z) = eO om := by cases om <;> rfl
theorem eO_two {a : Option Rat} {z : Rat × Rat} (om : Option Rat) (h : mulR z.1 z.2 = a) : eO ((om.bind fun _ => some z).bind fun z => mulR z.1 z.2) = eO (om.bind fun s => a.bind fun m => some (s, m)) := by
  cases om with
  | none => rfl
  | some s =>
    simp only [Option.bind_some, h]
    cases a <;> rfl
theorem meanS_two {a : Option Rat} {z : Rat × Rat} (om : Option Rat) (h : mulR z.1 z.2 = a) : (om.bind fun s => a.bind fun m => some (s, m)).bind (fun z => addR z.1 z.2) = meanS om z := by
  unfold meanS
  rw [h]
  cases om with
  | none => rfl
  | some s =>
    cases a with
    | none => rfl
    | some m => simp only [Option.bind_some]
theorem isT_zero : IsT 0 (false, ⟨#[48]⟩, ⟨#[49]⟩) := rqV_zero
theorem fit_zero : FitQ 0 := f_p0_1

set_option maxHeartbeats 8000000 in
set_option maxRecDepth 100000 in
theorem mo_mean (C : Nat) (L : List (Rat × Rat)) (hf : ∀ i (h : i < L.length), FitQ L[i].1 ∧ FitQ L[i].2) (hn : L.length ≤ 1000000) (v : Value) (w0 w : World) (hL : LawM w0) (hB0 : Below w0.heap.size w0 w) (hC0 : w0.heap.size ≤ C) (hs : SliceOf vPr 6 w0 v (L.map encP)) (hc : CE w C 0) :
    Calls Tryz.prog 32 #[.pointer (some ⟨C, 0, none⟩), v] w fun x w' => ∃ r : T3, x = .returned (.agg #[.bool r.1, .string r.2.1, .string r.2.2]) ∧ CE w' C (eO (meanO L L.length)) ∧ (∀ q, meanO L L.length = some q → IsT q r ∧ FitQ q) ∧ w.grownBy w' (some C) := by
  have HS := hide hs
  have HL := hide hL
  have HB0 := hide hB0
  have HC0 := hide hC0
  have HF := hide hf
  have hml : (L.map encP).length = L.length := List.length_map ..
  have HML := hide hml
  obtain ⟨ao, cp, rfl⟩ := hs.shape
  rw [hml]
  have hnI : (L.length : Int) ≤ 1000000 := by omega
  have hba := bAlloc (Below.refl w.heap.size w) (.cells #[.bool false, .string ⟨#[]⟩, .string ⟨#[]⟩] 29)
  have HR4 : RC (w.alloc (.cells #[.bool false, .string ⟨#[]⟩, .string ⟨#[]⟩] 29)) w.heap.size false ⟨#[]⟩ ⟨#[]⟩ := RC.new _ _ _ _ _
  have hc1 := hc.below hba
  have hlw : LawM (w.alloc (.cells #[.bool false, .string ⟨#[]⟩, .string ⟨#[]⟩] 29)) := (hL.below hB0).below hba
  obtain ⟨z0, z1, z2⟩ := hlw.2.1
  have hCw := hc.lt
  clear hs hL hf hml hB0 hC0 hlw
  go_enter Tryz.func32, Tryz.ntmps32
  go_upto_region 1 with fail
  obtain ⟨w1, hw1⟩ : ∃ W, w.alloc (.cells #[.bool false, .string ⟨#[]⟩, .string ⟨#[]⟩] 29) = W := ⟨_, rfl⟩
  obtain ⟨R4, hR4⟩ : ∃ A, w.heap.size = A := ⟨_, rfl⟩
  rw [hw1] at hba HR4 hc1 z0 z1 z2
  have hg1 := grown_belowM hba (some C)
  have hba' : Below w.heap.size w w1 := hba
  rw [hR4] at HR4 hCw
  rw [hw1, hR4]
  have HRW := hide hR4
  clear hw1 hR4 hc
  have hb2 := bAlloc (Below.refl w1.heap.size w1) (.cells #[.bool false, .string ⟨#[48]⟩, .string ⟨#[49]⟩] 29)
  have hR5 : RC (w1.alloc (.cells #[.bool false, .string ⟨#[48]⟩, .string ⟨#[49]⟩] 29)) w1.heap.size false ⟨#[48]⟩ ⟨#[49]⟩ := RC.new _ _ _ _ _
  have hR4' := HR4.below hb2
  have hc2 := hc1.below hb2
  have hg2 : w.grownBy (w1.alloc (.cells #[.bool false, .string ⟨#[48]⟩, .string ⟨#[49]⟩] 29)) (some C) := hg1.trans (grown_belowM hb2 _)
  have hlt4 := HR4.lt
  go_upto_region 2 with fail
  obtain ⟨w2, hw2⟩ : ∃ W, w1.alloc (.cells #[.bool false, .string ⟨#[48]⟩, .string ⟨#[49]⟩] 29) = W := ⟨_, rfl⟩
  obtain ⟨R5, hR5e⟩ : ∃ A, w1.heap.size = A := ⟨_, rfl⟩
  rw [hw2] at hR5 hR4' hc2 hg2
  rw [hR5e] at hR5 hlt4
  rw [hw2, hR5e]
  have H0 : Hid (CE w2 C (eO (meanO L 0))) := hc2
  have H4 := hide hR4'
  have H5 := hide hR5
  have HG0 := hide hg2
  have HT0 : Hid (∀ q, meanO L 0 = some q → IsT q (false, ⟨#[48]⟩, ⟨#[49]⟩) ∧ FitQ q) := fun q h => by
    injection h with h
    subst h
    exact ⟨isT_zero, fit_zero⟩
  have n45 : R4 ≠ R5 := by omega
  have n4C : R4 ≠ C := by omega
  have n5C : R5 ≠ C := by omega
  have nC4 : C ≠ R4 := by omega
  have nC5 : C ≠ R5 := by omega
  have HWR : Hid (w.heap.size = R4) := HRW.out
  have HR45 : Hid (R4 < R5) := hlt4
  clear hw2 hR5e hba hba' HR4 hc1 hc2 hg1 hg2 hb2 hR5 hR4' z0 z1 z2 hlt4 hCw HRW
  go_wp2_with fail
  go_loopw [11] (fun i wx => ∃ (k : Nat) (x : T3), k ≤ L.length ∧ i = .int .i64 (k : Int) ∧ CE wx C (eO (meanO L k)) ∧ RC wx R4 false ⟨#[]⟩ ⟨#[]⟩ ∧ RC wx R5 x.1 x.2.1 x.2.2 ∧ (∀ q, meanO L k = some q → IsT q x ∧ FitQ q) ∧ w.grownBy wx (some C)) (fun i _ => L.length - (intOf i).toNat)
  case atStart => exact ⟨0, (false, ⟨#[48]⟩, ⟨#[49]⟩), Nat.zero_le _, rfl, H0.out, H4.out, H5.out, HT0.out, HG0.out⟩
  case round =>
    obtain ⟨k, x, hk, rfl, hce, h4, h5, ht, hg⟩ := hrel
    have HCE := hide hce
    have H4 := hide h4
    have H5 := hide h5
    have HT := hide ht
    have HG := hide hg
    clear hce h4 h5 ht hg H0 HT0 HG0
    by_cases hlt : k < L.length
    · have hkI : (k : Int) < (L.length : Int) := by omega
      have hk0 : (0 : Int) ≤ (k : Int) := by omega
      have HBX := hide (bMean HB0.out HC0.out HG.out)
      have hlt' : k < (L.map encP).length := by rw [HML.out]; exact hlt
      obtain ⟨bp, op, rfl, g1, g2, hp⟩ := HS.out.ptAt HBX.out hlt'
      rw [List.getElem_map] at hp
      rw [HML.out] at g1
      have HFK := hide (HF.out k hlt)
      have HMS : Hid (meanO L (k + 1) = meanS (meanO L k) L[k]) := meanO_succ hlt
      obtain ⟨pq, hpq⟩ : ∃ pq, L[k] = pq := ⟨_, rfl⟩
      rw [hpq] at hp HFK HMS
      obtain ⟨p, hpe⟩ : ∃ p, encP pq = p := ⟨_, rfl⟩
      have HI1 : Hid (IsT pq.1 p.1) := by rw [← hpe]; exact IsT.self _
      have HI2 : Hid (IsT pq.2 p.2) := by rw [← hpe]; exact IsT.self _
      rw [hpe] at hp
      obtain ⟨y0, y1, y2, y3, y4, y5⟩ := hp
      obtain ⟨om, hom⟩ : ∃ om, meanO L k = om := ⟨_, rfl⟩
      rw [hom] at HCE HT HMS
      have hb6 := bAlloc (Below.refl wr.heap.size wr) (.cells #[.bool p.1.1, .string p.1.2.1, .string p.1.2.2, .bool p.2.1, .string p.2.2.1, .string p.2.2.2] 41)
      have hP7 := P6.new wr p 41
      clear hpq hpe hom hlt'
      go_upto_region 5 with fail
      obtain ⟨w6, hw6⟩ : ∃ W, wr.alloc (.cells #[.bool p.1.1, .string p.1.2.1, .string p.1.2.2, .bool p.2.1, .string p.2.2.1, .string p.2.2.2] 41) = W := ⟨_, rfl⟩
      obtain ⟨X, hX⟩ : ∃ A, wr.heap.size = A := ⟨_, rfl⟩
      have nX4 : X ≠ R4 := by have := H4.out.lt; omega
      have nX5 : X ≠ R5 := by have := H5.out.lt; omega
      have nXC : X ≠ C := by have := HCE.out.lt; omega
      have n5X : R5 ≠ X := nX5.symm
      rw [hw6] at hb6 hP7
      have HCE := hide (HCE.out.below hb6)
      have H4 := hide (H4.out.below hb6)
      have H5 := hide (H5.out.below hb6)
      have HG := hide (HG.out.trans (grown_belowM hb6 _))
      have HLX := hide (HL.out.below (HBX.out.trans (hb6.mono (HBX.out.size))))
      rw [hX] at hP7
      rw [hw6, hX]
      have HP7 := hide hP7
      clear hw6 hX hb6 hP7 y0 y1 y2 y3 y4 y5
      have HM : Hid (∃ a, mulR pq.1 pq.2 = a) := ⟨_, rfl⟩
      obtain ⟨am, ham⟩ := HM.out
      have HAM := hide ham
      clear ham HM
      have HDW : Hid (Below w6.heap.size w6 w6.drew) := bDraw (Below.refl _ w6)
      have HGD := hide (HG.out.trans (grown_belowM HDW.out _))
      have HD1 := hide (mo_dE_Mul C (om.bind fun _ => some pq) p.1 p.2 w6.drew (HLX.out.below HDW.out) (by rw [eO_one]; exact HCE.out.below HDW.out) (fun a b h => by
        cases om with
        | none => cases h
        | some _ =>
          injection h with h
          subst h
          exact ⟨HI1.out, HI2.out, HFK.out.1, HFK.out.2⟩))
      have HPD := hide (HP7.out.keep HDW.out)
      have H5D := hide (H5.out.below HDW.out)
      have HS1 : Hid (∀ W, P6 W X 0 p → W.cell? ⟨X, 0, none⟩ = some (.bool p.1.1) ∧ W.cell? ⟨X, 1, none⟩ = some (.string p.1.2.1) ∧ W.cell? ⟨X, 2, none⟩ = some (.string p.1.2.2) ∧ W.cell? ⟨X, 3, none⟩ = some (.bool p.2.1) ∧ W.cell? ⟨X, 4, none⟩ = some (.string p.2.2.1) ∧ W.cell? ⟨X, 5, none⟩ = some (.string p.2.2.2)) := fun W h => by
        unfold P6 at h
        simp only [Nat.zero_add] at h
        exact h
      refine wp_region_noPanic ?_
      refine wp_region_held_drew (S := (fun w' => w'.cell? ⟨X, 0, none⟩ = some (.bool p.1.1) ∧ w'.cell? ⟨X, 1, none⟩ = some (.string p.1.2.1) ∧ w'.cell? ⟨X, 2, none⟩ = some (.string p.1.2.2) ∧ w'.cell? ⟨X, 3, none⟩ = some (.bool p.2.1) ∧ w'.cell? ⟨X, 4, none⟩ = some (.string p.2.2.1) ∧ w'.cell? ⟨X, 5, none⟩ = some (.string p.2.2.2))) (by kernel_rfl) (HS1.out _ HPD.out) (fun hHeld => ?_)
      change wpAnyH _ _ _ _ _ 10 #[false, false, false, false, false, false, false, false, false, false] _ _
      refine wpAnyH_take (i := 0) (oi := _) (v := ?_) rfl (by kernel_rfl) (by kernel_rfl) (by kernel_rfl) (fun _ _ _ h => h) (Or.inl ⟨by rfl, ?_⟩) (by assumption) ?_
      rotate_left
      · intro w hSw
        (try dsimp only at hSw)
        go_simp
        try with_reducible rfl
      try simp only [List.getElem_toArray, List.getElem_cons_zero, List.getElem_cons_succ, List.get, Act.put, List.setIfInBounds_toArray, List.set_cons_zero, List.set_cons_succ]
      refine wpAnyH_take (i := 2) (oi := _) (v := ?_) rfl (by kernel_rfl) (by kernel_rfl) (by kernel_rfl) (fun _ _ _ h => h) (Or.inl ⟨by rfl, ?_⟩) (by assumption) ?_
      rotate_left
      · intro w hSw
        (try dsimp only at hSw)
        go_simp
        try with_reducible rfl
      try simp only [List.getElem_toArray, List.getElem_cons_zero, List.getElem_cons_succ, List.get, Act.put, List.setIfInBounds_toArray, List.set_cons_zero, List.set_cons_succ]
      refine wpAnyH_take (i := 3) (oi := _) (v := ?_) rfl (by kernel_rfl) (by kernel_rfl) (by kernel_rfl) (fun _ _ _ h => h) (Or.inl ⟨by rfl, ?_⟩) (by assumption) ?_
      rotate_left
      · intro w hSw
        (try dsimp only at hSw)
        go_simp
        try with_reducible rfl
      try simp only [List.getElem_toArray, List.getElem_cons_zero, List.getElem_cons_succ, List.get, Act.put, List.setIfInBounds_toArray, List.set_cons_zero, List.set_cons_succ]
      refine wpAnyH_take (i := 4) (oi := _) (v := ?_) rfl (by kernel_rfl) (by kernel_rfl) (by kernel_rfl) (fun _ _ _ h => h) (Or.inl ⟨by rfl, ?_⟩) (by assumption) ?_
      rotate_left
      · intro w hSw
        (try dsimp only at hSw)
        go_simp
        try with_reducible rfl
      try simp only [List.getElem_toArray, List.getElem_cons_zero, List.getElem_cons_succ, List.get, Act.put, List.setIfInBounds_toArray, List.set_cons_zero, List.set_cons_succ]
      refine wpAnyH_take (i := 5) (oi := _) (v := ?_) rfl (by kernel_rfl) (by kernel_rfl) (by kernel_rfl) (fun _ _ _ h => h) (Or.inl ⟨by rfl, ?_⟩) (by assumption) ?_
      rotate_left
      · intro w hSw
        (try dsimp only at hSw)
        go_simp
        try with_reducible rfl
      try simp only [List.getElem_toArray, List.getElem_cons_zero, List.getElem_cons_succ, List.get, Act.put, List.setIfInBounds_toArray, List.set_cons_zero, List.set_cons_succ]
      refine wpAnyH_take (i := 6) (oi := _) (v := ?_) rfl (by kernel_rfl) (by kernel_rfl) (by kernel_rfl) (fun _ _ _ h => h) (Or.inl ⟨by rfl, ?_⟩) (by assumption) ?_
      rotate_left
      · intro w hSw
        (try dsimp only at hSw)
        go_simp
        try with_reducible rfl
      try simp only [List.getElem_toArray, List.getElem_cons_zero, List.getElem_cons_succ, List.get, Act.put, List.setIfInBounds_toArray, List.set_cons_zero, List.set_cons_succ]
      refine wpAnyH_ready (rs := [1, 7]) (by kernel_rfl) (by simp) ?_
      refine AllReadyH.cons (o := _) rfl (fun K hK => ?_) (AllReadyH.cons (o := _) rfl (fun K hK => ?_) AllReadyH.nil)
      rotate_left
      · skip
        go_simp
        replace hK := hide hK
        refine HD1.out.mono ?_
        rintro y w7 ⟨r1, rfl, hc7, hq7, hg7⟩
        have HG7 := hide (HGD.out.trans hg7)
        have HP8 := hide (HPD.out.kept hg7 (by intro h; injection h with h; exact nXC h))
        have H57 := hide (H5D.out.keptM hg7 (by intro h; injection h with h; exact n5C h))
        have H47 := hide ((H4.out.below HDW.out).keptM hg7 (by intro h; injection h with h; exact n4C h))
        rw [eO_two om HAM.out] at hc7
        have HC7 := hide hc7
        have HQ7 := hide hq7
        clear hc7 hq7 hg7
        go_wp2_with fail
        refine hK.out _ _ (HS1.out _ HP8.out) (fun hHeld => ?_)
        clear hK K
        try simp only [List.getElem_toArray, List.getElem_cons_zero, List.getElem_cons_succ, List.get, Act.put, List.setIfInBounds_toArray, List.set_cons_zero, List.set_cons_succ]
        refine wpAnyH_ready (rs := [1]) (by kernel_rfl) (by simp) ?_
        refine AllReadyH.cons (o := _) rfl (fun K hK => ?_) AllReadyH.nil
        obtain ⟨v0, v1, v2, _, _, _⟩ := (id H57.out : RC _ _ _ _ _)
        go_simp
        clear v0 v1 v2
        refine hK.out _ _ (HS1.out _ HP8.out) (fun hHeld => ?_)
        clear hK K
        try simp only [List.getElem_toArray, List.getElem_cons_zero, List.getElem_cons_succ, List.get, Act.put, List.setIfInBounds_toArray, List.set_cons_zero, List.set_cons_succ]
        refine wpAnyH_ready (rs := [8]) (by kernel_rfl) (by simp) ?_
        refine AllReadyH.cons (o := _) rfl (fun K hK => ?_) AllReadyH.nil
        have HD2 := hide (mo_dE_Add C (om.bind fun s => am.bind fun m => some (s, m)) x r1 w7 (HL.out.below (bMean HB0.out HC0.out HG7.out)) HC7.out (fun a b h => by
          cases om with
          | none => cases h
          | some s =>
            cases am with
            | none => cases h
            | some m =>
              injection h with h
              injection h with h1 h2
              subst h1 h2
              obtain ⟨t1, t2⟩ := HT.out _ rfl
              obtain ⟨t3, t4⟩ := HQ7.out m (by simp only [Option.bind_some]; exact HAM.out)
              exact ⟨t1, t3, t2, t4⟩))
        go_simp
        replace hK := hide hK
        refine HD2.out.mono ?_
        rintro y w8 ⟨r2, rfl, hc8, hq8, hg8⟩
        have HG8 := hide (HG7.out.trans hg8)
        have HP9 := hide (HP8.out.kept hg8 (by intro h; injection h with h; exact nXC h))
        have H58 := hide (H57.out.keptM hg8 (by intro h; injection h with h; exact n5C h))
        have H48 := hide (H47.out.keptM hg8 (by intro h; injection h with h; exact n4C h))
        rw [meanS_two om HAM.out] at hc8 hq8
        have HC8 := hide hc8
        have HQ8 := hide hq8
        clear hc8 hq8 hg8
        go_wp2_with fail
        refine hK.out _ _ (HS1.out _ HP9.out) (fun hHeld => ?_)
        clear hK K
        try simp only [List.getElem_toArray, List.getElem_cons_zero, List.getElem_cons_succ, List.get, Act.put, List.setIfInBounds_toArray, List.set_cons_zero, List.set_cons_succ]
        refine wpAnyH_ready (rs := [9]) (by kernel_rfl) (by simp) ?_
        refine AllReadyH.cons (o := _) rfl (fun K hK => ?_) AllReadyH.nil
        obtain ⟨v0, v1, v2, f0, f1, f2⟩ := (id H58.out : RC _ _ _ _ _)
        go_simp
        replace hK := hide hK
        refine hK.out _ _ (by go_keep) (fun hHeld => ?_)
        clear hK K
        try simp only [List.getElem_toArray, List.getElem_cons_zero, List.getElem_cons_succ, List.get, Act.put, List.setIfInBounds_toArray, List.set_cons_zero, List.set_cons_succ]
        refine wpAnyH_done (by kernel_rfl) ?_ _
        refine NoPanic.normal ?_
        have HN5 := hide (H58.out.set3 r2.1 r2.2.1 r2.2.2)
        have HN4 := hide (H48.out.keptM (grown_setM3 w8 R5 0 1 2 (.bool r2.1) (.string r2.2.1) (.string r2.2.2)) (by intro h; injection h with h; exact n45 h))
        have HNC := hide (HC8.out.keptM (grown_setM3 w8 R5 0 1 2 (.bool r2.1) (.string r2.2.1) (.string r2.2.2)) (by intro h; injection h with h; exact nC5 h))
        have HNG := hide (grown_then HG8.out (bSetM3 (x := 0) (y := 1) (z := 2) (u := .bool r2.1) (v := .string r2.2.1) (t := .string r2.2.2) (show w.heap.size ≤ R5 by have := HWR.out; have := HR45.out; omega) H58.out.lt))
        rw [← HMS.out] at HNC HQ8
        go_wp2_with fail
        first
          | (go_roundw
             case rel => exact ⟨k + 1, r2, by omega, by go_num, HNC.out, HN4.out, HN5.out, HQ8.out, HNG.out⟩
             case measure => (simp [intOf]; omega))
          | (refine ⟨⟨k + 1, r2, by omega, by go_num, HNC.out, HN4.out, HN5.out, HQ8.out, HNG.out⟩, ?_⟩
             simp [intOf]; omega)
      have q0 : w6.drew.cell? ⟨R5, 0, none⟩ = some (.bool x.1) := H5D.out.c0
      have q1 : w6.drew.cell? ⟨R5, 1, none⟩ = some (.string x.2.1) := H5D.out.c1
      have q2 : w6.drew.cell? ⟨R5, 2, none⟩ = some (.string x.2.2) := H5D.out.c2
      obtain ⟨v0, v1, v2, _, _, _⟩ := (id H5.out : RC _ _ _ _ _)
      go_simp
      clear q0 q1 q2 v0 v1 v2
      refine hK.out _ _ (HS1.out _ HPD.out) (fun hHeld => ?_)
      clear hK K
      try simp only [List.getElem_toArray, List.getElem_cons_zero, List.getElem_cons_succ, List.get, Act.put, List.setIfInBounds_toArray, List.set_cons_zero, List.set_cons_succ]
      refine wpAnyH_ready (rs := [7]) (by kernel_rfl) (by simp) ?_
      refine AllReadyH.cons (o := _) rfl (fun K hK => ?_) AllReadyH.nil
      go_simp
      replace hK := hide hK
      refine HD1.out.mono ?_
      rintro y w7 ⟨r1, rfl, hc7, hq7, hg7⟩
      have HG7 := hide (HGD.out.trans hg7)
      have HP8 := hide (HPD.out.kept hg7 (by intro h; injection h with h; exact nXC h))
      have H57 := hide (H5D.out.keptM hg7 (by intro h; injection h with h; exact n5C h))
      have H47 := hide ((H4.out.below HDW.out).keptM hg7 (by intro h; injection h with h; exact n4C h))
      rw [eO_two om HAM.out] at hc7
      have HC7 := hide hc7
      have HQ7 := hide hq7
      clear hc7 hq7 hg7
      go_wp2_with fail
      refine hK.out _ _ (HS1.out _ HP8.out) (fun hHeld => ?_)
      clear hK K
      try simp only [List.getElem_toArray, List.getElem_cons_zero, List.getElem_cons_succ, List.get, Act.put, List.setIfInBounds_toArray, List.set_cons_zero, List.set_cons_succ]
      refine wpAnyH_ready (rs := [8]) (by kernel_rfl) (by simp) ?_
      refine AllReadyH.cons (o := _) rfl (fun K hK => ?_) AllReadyH.nil
      have HD2 := hide (mo_dE_Add C (om.bind fun s => am.bind fun m => some (s, m)) x r1 w7 (HL.out.below (bMean HB0.out HC0.out HG7.out)) HC7.out (fun a b h => by
        cases om with
        | none => cases h
        | some s =>
          cases am with
          | none => cases h
          | some m =>
            injection h with h
            injection h with h1 h2
            subst h1 h2
            obtain ⟨t1, t2⟩ := HT.out _ rfl
            obtain ⟨t3, t4⟩ := HQ7.out m (by simp only [Option.bind_some]; exact HAM.out)
            exact ⟨t1, t3, t2, t4⟩))
      go_simp
      replace hK := hide hK
      refine HD2.out.mono ?_
      rintro y w8 ⟨r2, rfl, hc8, hq8, hg8⟩
      have HG8 := hide (HG7.out.trans hg8)
      have HP9 := hide (HP8.out.kept hg8 (by intro h; injection h with h; exact nXC h))
      have H58 := hide (H57.out.keptM hg8 (by intro h; injection h with h; exact n5C h))
      have H48 := hide (H47.out.keptM hg8 (by intro h; injection h with h; exact n4C h))
      rw [meanS_two om HAM.out] at hc8 hq8
      have HC8 := hide hc8
      have HQ8 := hide hq8
      clear hc8 hq8 hg8
      go_wp2_with fail
      refine hK.out _ _ (HS1.out _ HP9.out) (fun hHeld => ?_)
      clear hK K
      try simp only [List.getElem_toArray, List.getElem_cons_zero, List.getElem_cons_succ, List.get, Act.put, List.setIfInBounds_toArray, List.set_cons_zero, List.set_cons_succ]
      refine wpAnyH_ready (rs := [9]) (by kernel_rfl) (by simp) ?_
      refine AllReadyH.cons (o := _) rfl (fun K hK => ?_) AllReadyH.nil
      obtain ⟨v0, v1, v2, f0, f1, f2⟩ := (id H58.out : RC _ _ _ _ _)
      go_simp
      replace hK := hide hK
      refine hK.out _ _ (by go_keep) (fun hHeld => ?_)
      clear hK K
      try simp only [List.getElem_toArray, List.getElem_cons_zero, List.getElem_cons_succ, List.get, Act.put, List.setIfInBounds_toArray, List.set_cons_zero, List.set_cons_succ]
      refine wpAnyH_done (by kernel_rfl) ?_ _
      refine NoPanic.normal ?_
      have HN5 := hide (H58.out.set3 r2.1 r2.2.1 r2.2.2)
      have HN4 := hide (H48.out.keptM (grown_setM3 w8 R5 0 1 2 (.bool r2.1) (.string r2.2.1) (.string r2.2.2)) (by intro h; injection h with h; exact n45 h))
      have HNC := hide (HC8.out.keptM (grown_setM3 w8 R5 0 1 2 (.bool r2.1) (.string r2.2.1) (.string r2.2.2)) (by intro h; injection h with h; exact nC5 h))
      have HNG := hide (grown_then HG8.out (bSetM3 (x := 0) (y := 1) (z := 2) (u := .bool r2.1) (v := .string r2.2.1) (t := .string r2.2.2) (show w.heap.size ≤ R5 by have := HWR.out; have := HR45.out; omega) H58.out.lt))
      rw [← HMS.out] at HNC HQ8
      go_wp2_with fail
      first
        | (go_roundw
           case rel => exact ⟨k + 1, r2, by omega, by go_num, HNC.out, HN4.out, HN5.out, HQ8.out, HNG.out⟩
           case measure => (simp [intOf]; omega))
        | (refine ⟨⟨k + 1, r2, by omega, by go_num, HNC.out, HN4.out, HN5.out, HQ8.out, HNG.out⟩, ?_⟩
           simp [intOf]; omega)
    · have hkk : k = L.length := by omega
      have dk : decide ((k : Int) < (L.length : Int)) = false := decide_eq_false (by omega)
      rw [hkk] at HCE HT
      obtain ⟨a0, a1, a2, b0, b1, b2⟩ := (id H4.out : RC _ _ _ _ _)
      obtain ⟨c0, c1, c2, _, _, _⟩ := (id H5.out : RC _ _ _ _ _)
      go_wp2_with fail
      have hR := H4.out.set3 x.1 x.2.1 x.2.2
      have hce := HCE.out.keptM (grown_setM3 wr R4 0 1 2 (.bool x.1) (.string x.2.1) (.string x.2.2)) (by intro h; injection h with h; exact nC4 h)
      have hgg := grown_then HG.out (bSetM3 (x := 0) (y := 1) (z := 2) (u := .bool x.1) (v := .string x.2.1) (t := .string x.2.2) (show w.heap.size ≤ R4 by have := HWR.out; omega) H4.out.lt)
      obtain ⟨d0, d1, d2, _, _, _⟩ := (id hR : RC _ _ _ _ _)
      exact bodyPost_ret (v := .agg #[.bool x.1, .string x.2.1, .string x.2.2]) (by simp [results, Tryz.results32, go_sem, d0, d1, d2]) rfl ⟨x, rfl, hce, HT.out, hgg⟩
end Go.Proofs.YtblpnekjnaaeoaaGreatDoor
namespace Go.Proofs.YtblpnekjnaaeoaaGreatDoor
open Go.RowKit

def rO : Option Rat → T3
  | some q => rqM q
  | none => (false, ⟨#[]⟩, ⟨#[]⟩)
theorem CE.new (w : World) (T : TypeId) : CE (w.alloc (.cells #[.int .i64 0] T)) w.heap.size 0 := ⟨by simp [go_sem], by simp [go_sem]⟩
/-- calc.result, whatever the state. -/
theorem mo_result (C : Nat) (om : Option Rat) (r : T3) (w : World) (hc : CE w C (eO om)) (h : ∀ q, om = some q → IsT q r) :
    Calls Tryz.prog 31 #[.pointer (some ⟨C, 0, none⟩), .agg #[.bool r.1, .string r.2.1, .string r.2.2]] w fun x w' => x = .returned (.tuple #[.agg #[.bool (rO om).1, .string (rO om).2.1, .string (rO om).2.2], .int .i64 (eO om)]) ∧ Below w.heap.size w w' := by
  cases om with
  | none => exact mo_result_err C r.1 r.2.1 r.2.2 2 (by decide) w hc
  | some q =>
    have e := (h q rfl).eq
    subst e
    exact mo_result_ok C _ _ _ w hc
set_option maxHeartbeats 4000000 in
set_option maxRecDepth 100000 in
theorem mo_Mean (L : List (Rat × Rat)) (hf : ∀ i (h : i < L.length), FitQ L[i].1 ∧ FitQ L[i].2) (hn : L.length ≤ 1000000) (v : Value) (w : World) (hL : LawM w) (hs : SliceOf vPr 6 w v (L.map encP)) (hv : ∀ W, Below w.heap.size w W → Calls Tryz.prog 20 #[v] W fun e w' => e = .returned (.bool true) ∧ Below W.heap.size W w') :
    Calls Tryz.prog 12 #[v] w fun x w' => x = .returned (.tuple #[.agg #[.bool (rO (meanO L L.length)).1, .string (rO (meanO L L.length)).2.1, .string (rO (meanO L L.length)).2.2], .int .i64 (eO (meanO L L.length))]) ∧ Below w.heap.size w w' := by
  have hba := bAlloc (Below.refl w.heap.size w) (.cells #[.bool false, .string ⟨#[]⟩, .string ⟨#[]⟩] 29)
  have HB := hide hba
  have HR := hide (RC.new w false ⟨#[]⟩ ⟨#[]⟩ 29)
  have HV := hide hv
  have HL := hide hL
  have HS := hide hs
  have HF := hide hf
  clear hba hv hL hs hf
  go_enter Tryz.func12, Tryz.ntmps12
  go_wp2_with fail
  refine (HV.out _ HB.out).mono ?_
  rintro x w1 ⟨rfl, hb⟩
  have HB1 := hide (bStepM HB.out hb)
  have HR1 := hide (HR.out.below hb)
  have HRW : Hid (w.heap.size < w1.heap.size) := HR1.out.lt
  clear hb HR HB
  obtain ⟨A, hA⟩ : ∃ A, w.heap.size = A := ⟨_, rfl⟩
  rw [hA] at HR1 HRW
  have HAA := hide hA
  rw [hA]
  clear hA
  have hb2 := bAlloc (Below.refl w1.heap.size w1) (.cells #[.int .i64 0] 57)
  have HC2 := hide (CE.new w1 57)
  have HR2 := hide (HR1.out.below hb2)
  have HB2 := hide hb2
  clear hb2
  go_wp2_with fail
  refine (mo_mean w1.heap.size L HF.out hn v w1 _ (HL.out.below HB1.out) HB2.out (Nat.le_refl _) (HS.out.below HB1.out) HC2.out).mono ?_
  rintro x w2 ⟨r, rfl, hc, hq, hg⟩
  have HC3 := hide hc
  have HQ3 := hide hq
  have HB3 := hide (bMean HB2.out (Nat.le_refl _) hg)
  have HR3 := hide (HR2.out.keptM hg (by intro h; injection h with h; have := HRW.out; omega))
  clear hc hq hg HC2
  go_wp2_with fail
  refine (mo_result w1.heap.size (meanO L L.length) r w2 HC3.out (fun q h => (HQ3.out q h).1)).mono ?_
  rintro x w3 ⟨rfl, hb⟩
  have HB4 := hide (bStepM HB1.out (HB3.out.trans (hb.mono HB3.out.size)))
  have HR4 := hide (HR3.out.below hb)
  obtain ⟨r0, r1, r2, f0, f1, f2⟩ := (id HR4.out : RC _ _ _ _ _)
  clear hb
  obtain ⟨om, hom⟩ : ∃ om, meanO L L.length = om := ⟨_, rfl⟩
  have HOM := hide hom
  rw [hom]
  clear hom
  go_wp2_with fail
  have hR := HR4.out.set3 (rO om).1 (rO om).2.1 (rO om).2.2
  obtain ⟨d0, d1, d2, _, _, _⟩ := (id hR : RC _ _ _ _ _)
  have hbe := HB4.out.trans (bSetM3 (x := 0) (y := 1) (z := 2) (u := .bool (rO om).1) (v := .string (rO om).2.1) (t := .string (rO om).2.2) (show w.heap.size ≤ A by have := HAA.out; omega) HR4.out.lt)
  exact bodyPost_ret (v := .tuple #[.agg #[.bool (rO om).1, .string (rO om).2.1, .string (rO om).2.2], .int .i64 (eO om)]) (by simp [results, Tryz.results12, go_sem, d0, d1, d2]) rfl ⟨by rw [HOM.out], hbe⟩
end Go.Proofs.YtblpnekjnaaeoaaGreatDoor
namespace Go.Proofs.YtblpnekjnaaeoaaGreatDoor
open Go.RowKit

/-- A point whose value is a number, and whose weight is any text. -/
def encV (p : Rat × T3) : T3 × T3 := (rqM p.1, p.2)
set_option maxHeartbeats 2000000 in
set_option maxRecDepth 100000 in
theorem mo_cmp (a b : Rat) (p : T3 × T3) (x : T3) (w : World) (ha : IsT a p.1) (hb : IsT b x) (fa : FitQ a) (fb : FitQ b) (hL : LawM w) :
    Calls Tryz.prog 71 #[.agg #[.bool p.1.1, .string p.1.2.1, .string p.1.2.2, .bool p.2.1, .string p.2.2.1, .string p.2.2.2], .agg #[.bool x.1, .string x.2.1, .string x.2.2]] w fun e w' => e = .returned (.int .i64 (cmpQ a b)) ∧ Below w.heap.size w w' := by
  have hba := bAlloc (bAlloc (Below.refl w.heap.size w) (.cells #[.bool p.1.1, .string p.1.2.1, .string p.1.2.2, .bool p.2.1, .string p.2.2.1, .string p.2.2.2] 41)) (.cells #[.bool x.1, .string x.2.1, .string x.2.2] 29)
  have HB := hide hba
  have HC := hide (fun W hX => rat_Compare a b W fa fb hX)
  unfold CqPost at HC
  have ea : rqV a = .agg #[.bool p.1.1, .string p.1.2.1, .string p.1.2.2] := ha
  have eb : rqV b = .agg #[.bool x.1, .string x.2.1, .string x.2.2] := hb
  rw [ea, eb] at HC
  have HLW := hide (hL.1.below hba)
  clear hba hL ea eb ha hb
  go_enter Tryz.func71, Tryz.ntmps71
  go_wp2_with fail
  refine (HC.out _ HLW.out).mono ?_
  rintro e w1 ⟨rfl, hb⟩
  have HB1 := hide (bStepM HB.out hb)
  clear hb
  go_wp2_with fail
  go_ret
  exact ⟨rfl, HB1.out⟩
/-- How many of the first n values are less. -/
def SrtV (L : List (Rat × T3)) : Prop := ∀ i j (hi : i < j) (hj : j < L.length), (L[i]'(by omega)).1 < L[j].1
def SrcV (L : List (Rat × T3)) (t : Rat) (k : Nat) : Prop := k ≤ L.length ∧ (∀ i (h : i < L.length), i < k → L[i].1 < t) ∧ (∀ i (h : i < L.length), k ≤ i → ¬ L[i].1 < t)
set_option maxHeartbeats 8000000 in
set_option maxRecDepth 100000 in
theorem mo_search (L : List (Rat × T3)) (t : Rat) (x : T3) (hn : L.length ≤ 1000000) (hs : SrtV L) (hf : ∀ i (h : i < L.length), FitQ L[i].1) (ft : FitQ t) (hx : IsT t x) (v : Value) (w : World) (hv : SliceOf vPr 6 w v (L.map encV)) (hL : LawM w) :
    Calls Tryz.prog 70 #[v, .agg #[.bool x.1, .string x.2.1, .string x.2.2], .func (.func 71) #[] #[]] w fun e w' => ∃ k : Nat, e = .returned (.tuple #[.int .i64 (k : Int), .bool (decide (∃ h : k < L.length, L[k].1 = t))]) ∧ SrcV L t k ∧ Below w.heap.size w w' := by
  have hba := bAlloc (Below.refl w.heap.size w) (.cells #[.bool x.1, .string x.2.1, .string x.2.2] 29)
  have HBA := hide hba
  have HV := hide (hv.below hba)
  have HL := hide (hL.below hba)
  have HX := hide (RC.new w x.1 x.2.1 x.2.2 29)
  have HF := hide hf
  have HSS := hide hs
  have hml : (L.map encV).length = L.length := List.length_map ..
  have HML := hide hml
  have HXT := hide hx
  obtain ⟨ao, cp, rfl⟩ := hv.shape
  rw [hml]
  have hnI : (L.length : Int) ≤ 1000000 := by omega
  clear hba hv hL hf hs hml hx
  go_enter Tryz.func70, Tryz.ntmps70
  go_wp2_with fail
  obtain ⟨B, hB⟩ : ∃ A, w.heap.size = A := ⟨_, rfl⟩
  obtain ⟨w0, hw0⟩ : ∃ W, w.alloc (.cells #[.bool x.1, .string x.2.1, .string x.2.2] 29) = W := ⟨_, rfl⟩
  rw [hw0] at HBA HV HL HX
  rw [hB] at HX
  rw [hw0, hB]
  have HWB := hide hB
  clear hw0 hB
  go_loopw [9, 10] (fun i j wx => ∃ a b : Nat, a ≤ b ∧ b ≤ L.length ∧ i = .int .i64 (a : Int) ∧ j = .int .i64 (b : Int) ∧ (∀ i (h : i < L.length), i < a → L[i].1 < t) ∧ (∀ i (h : i < L.length), b ≤ i → ¬ L[i].1 < t) ∧ Below w0.heap.size w0 wx) (fun i j _ => (intOf j - intOf i).toNat)
  case atStart => exact ⟨0, L.length, Nat.zero_le _, Nat.le_refl _, rfl, rfl, fun i _ h => absurd h (Nat.not_lt_zero _), fun i h h' => absurd h (by omega), Below.refl _ _⟩
  case round =>
    obtain ⟨a, b, hab, hbn, rfl, rfl, hlo, hhi, hbl⟩ := hrel
    have HLO := hide hlo
    have HHI := hide hhi
    have HBL := hide hbl
    clear hlo hhi hbl
    by_cases hlt : a < b
    · have hltI : decide ((a : Int) < (b : Int)) = true := decide_eq_true (by omega)
      have hltN : decide (a < b) = true := decide_eq_true hlt
      have hs1 : IntKind.i64.wrap ((a : Int) + (b : Int)) = (a : Int) + (b : Int) := IntWalk.i64_in _ (by omega)
      obtain ⟨m, hm⟩ : ∃ m, m = (a + b) / 2 := ⟨_, rfl⟩
      have hma : a ≤ m := by omega
      have hmb : m < b := by omega
      go_upto_region 5 with fail
      have hmI : ((a : Int) + (b : Int)) / 2 = (m : Int) := by omega
      rw [hmI]
      have hmn : m < L.length := by omega
      have hmn' : m < (L.map encV).length := by rw [HML.out]; exact hmn
      have hm0 : (0 : Int) ≤ (m : Int) := by omega
      have hmN : (m : Int) < (L.length : Int) := by omega
      obtain ⟨bp, op, rfl, g1, g2, hp⟩ := SliceOf.ptAt HV.out HBL.out hmn'
      rw [List.getElem_map] at hp
      rw [HML.out] at g1
      have HFM := hide (HF.out m hmn)
      have HLT : Hid (L[m].1 < t → ∀ i (h : i < L.length), i < m + 1 → L[i].1 < t) := fun h i hi him => by
        by_cases e : i = m
        · subst e; exact h
        · have h1 := HSS.out i m (by omega) hmn
          grind
      have HGE : Hid (¬ L[m].1 < t → ∀ i (h : i < L.length), m ≤ i → ¬ L[i].1 < t) := fun h i hi him hlt' => by
        by_cases e : i = m
        · subst e; exact h hlt'
        · have h1 := HSS.out m i (by omega) hi
          exact h (by grind)
      obtain ⟨q, hq⟩ : ∃ q, L[m].1 = q := ⟨_, rfl⟩
      obtain ⟨p, hpe⟩ : ∃ p, encV L[m] = p := ⟨_, rfl⟩
      have HI : Hid (IsT q p.1) := by rw [← hpe, ← hq]; exact IsT.self _
      rw [hpe] at hp
      rw [hq] at HFM HLT HGE
      have HP := hide hp
      have HLW := hide (HL.out.below HBL.out)
      have HXB := hide (HX.out.below HBL.out)
      have HS9 : Hid (∀ W, Below wr.heap.size wr W → (W.cell? ⟨bp, op + m * 6, none⟩ = some (.bool p.1.1) ∧ W.cell? ⟨bp, op + m * 6 + 1, none⟩ = some (.string p.1.2.1) ∧ W.cell? ⟨bp, op + m * 6 + 2, none⟩ = some (.string p.1.2.2) ∧ W.cell? ⟨bp, op + m * 6 + 3, none⟩ = some (.bool p.2.1) ∧ W.cell? ⟨bp, op + m * 6 + 4, none⟩ = some (.string p.2.2.1) ∧ W.cell? ⟨bp, op + m * 6 + 5, none⟩ = some (.string p.2.2.2)) ∧ (W.cell? ⟨B, 0, none⟩ = some (.bool x.1) ∧ W.cell? ⟨B, 1, none⟩ = some (.string x.2.1) ∧ W.cell? ⟨B, 2, none⟩ = some (.string x.2.2))) := fun W hW => ⟨HP.out.keep hW, (HXB.out.below hW).c0, (HXB.out.below hW).c1, (HXB.out.below hW).c2⟩
      have HCP := hide (fun W hW => mo_cmp q t p x W HI.out HXT.out HFM.out ft (HLW.out.below hW))
      obtain ⟨z, hz⟩ : ∃ z, cmpQ q t = z := ⟨_, rfl⟩
      rw [hz] at HCP
      have HZ := hide hz
      clear hp hpe hq hz hmn' hmI hm hs1
      go_wp2_with fail
      go_region_held3 (fun w' => (w'.cell? ⟨bp, op + m * 6, none⟩ = some (.bool p.1.1) ∧ w'.cell? ⟨bp, op + m * 6 + 1, none⟩ = some (.string p.1.2.1) ∧ w'.cell? ⟨bp, op + m * 6 + 2, none⟩ = some (.string p.1.2.2) ∧ w'.cell? ⟨bp, op + m * 6 + 3, none⟩ = some (.bool p.2.1) ∧ w'.cell? ⟨bp, op + m * 6 + 4, none⟩ = some (.string p.2.2.1) ∧ w'.cell? ⟨bp, op + m * 6 + 5, none⟩ = some (.string p.2.2.2)) ∧ (w'.cell? ⟨B, 0, none⟩ = some (.bool x.1) ∧ w'.cell? ⟨B, 1, none⟩ = some (.string x.2.1) ∧ w'.cell? ⟨B, 2, none⟩ = some (.string x.2.2)))
        (first | exact HS9.out _ HB5.out | exact HS9.out _ (bDraw (Below.refl _ wr)))
        (first
          | (go_at_call 71; refine (HCP.out _ (bDraw (Below.refl _ _))).mono ?_; rintro e w5 ⟨rfl, hb⟩; have HB5 : Hid (Below wr.heap.size wr w5) := bStepM (bDraw (Below.refl _ wr)) hb; clear hb))
      have HN := hide (bStepM HBL.out HB5.out)
      by_cases hzl : z < 0
      · have d1 : decide (z < 0) = true := decide_eq_true hzl
        have HNL := hide (HLT.out (cmpQ_neg.1 (by rw [HZ.out]; exact hzl)))
        have hs2 : IntKind.i64.wrap ((m : Int) + 1) = (m : Int) + 1 := IntWalk.i64_in _ (by omega)
        clear HLT HGE
        go_wp2_with fail
        first
          | (go_roundw
             case rel => exact ⟨m + 1, b, by omega, by omega, by go_num, rfl, HNL.out, HHI.out, HN.out⟩
             case measure => (simp [intOf]; omega))
          | (refine ⟨⟨m + 1, b, by omega, by omega, by go_num, rfl, HNL.out, HHI.out, HN.out⟩, ?_⟩
             simp [intOf]; omega)
      · have d1 : decide (z < 0) = false := decide_eq_false hzl
        have HNL := hide (HGE.out (fun h => hzl (by rw [← HZ.out]; exact cmpQ_neg.2 h)))
        clear HLT HGE
        go_wp2_with fail
        first
          | (go_roundw
             case rel => exact ⟨a, m, by omega, by omega, rfl, rfl, HLO.out, HNL.out, HN.out⟩
             case measure => (simp [intOf]; omega))
          | (refine ⟨⟨a, m, by omega, by omega, rfl, rfl, HLO.out, HNL.out, HN.out⟩, ?_⟩
             simp [intOf]; omega)
    · have hltI : decide ((a : Int) < (b : Int)) = false := decide_eq_false (by omega)
      have hltN : decide (a < b) = false := decide_eq_false hlt
      have hab' : a = b := by omega
      have HSRC : Hid (SrcV L t a) := ⟨by omega, HLO.out, by rw [hab']; exact HHI.out⟩
      have HBF := hide (bStepM HBA.out HBL.out)
      clear hab'
      by_cases han : a < L.length
      · have haI : (a : Int) < (L.length : Int) := by omega
        have ha0 : (0 : Int) ≤ (a : Int) := by omega
        have han' : a < (L.map encV).length := by rw [HML.out]; exact han
        have d2 : decide ((a : Int) < (L.length : Int)) = true := decide_eq_true haI
        obtain ⟨bp, op, rfl, g1, g2, hp⟩ := SliceOf.ptAt HV.out HBL.out han'
        rw [List.getElem_map] at hp
        rw [HML.out] at g1
        have HFM := hide (HF.out a han)
        have HEQ : Hid (decide (∃ h : a < L.length, L[a].1 = t) = decide (L[a].1 = t)) := by
          show _ = _
          exact decide_eq_decide.2 ⟨fun ⟨_, h⟩ => h, fun h => ⟨han, h⟩⟩
        obtain ⟨q, hq⟩ : ∃ q, L[a].1 = q := ⟨_, rfl⟩
        obtain ⟨p, hpe⟩ : ∃ p, encV L[a] = p := ⟨_, rfl⟩
        have HI : Hid (IsT q p.1) := by rw [← hpe, ← hq]; exact IsT.self _
        rw [hpe] at hp
        rw [hq] at HFM HEQ
        have HP := hide hp
        have HLW := hide (HL.out.below HBL.out)
        have HXB := hide (HX.out.below HBL.out)
        have HS9 : Hid (∀ W, Below wr.heap.size wr W → (W.cell? ⟨bp, op + a * 6, none⟩ = some (.bool p.1.1) ∧ W.cell? ⟨bp, op + a * 6 + 1, none⟩ = some (.string p.1.2.1) ∧ W.cell? ⟨bp, op + a * 6 + 2, none⟩ = some (.string p.1.2.2) ∧ W.cell? ⟨bp, op + a * 6 + 3, none⟩ = some (.bool p.2.1) ∧ W.cell? ⟨bp, op + a * 6 + 4, none⟩ = some (.string p.2.2.1) ∧ W.cell? ⟨bp, op + a * 6 + 5, none⟩ = some (.string p.2.2.2)) ∧ (W.cell? ⟨B, 0, none⟩ = some (.bool x.1) ∧ W.cell? ⟨B, 1, none⟩ = some (.string x.2.1) ∧ W.cell? ⟨B, 2, none⟩ = some (.string x.2.2))) := fun W hW => ⟨HP.out.keep hW, (HXB.out.below hW).c0, (HXB.out.below hW).c1, (HXB.out.below hW).c2⟩
        have HCP := hide (fun W hW => mo_cmp q t p x W HI.out HXT.out HFM.out ft (HLW.out.below hW))
        obtain ⟨z, hz⟩ : ∃ z, cmpQ q t = z := ⟨_, rfl⟩
        rw [hz] at HCP
        have HZE : Hid ((z == 0) = decide (∃ h : a < L.length, L[a].1 = t)) := by
          show _ = _
          rw [HEQ.out, ← hz, Bool.eq_iff_iff, beq_iff_eq, decide_eq_true_eq]
          exact cmpQ_zero
        clear hp hpe hq hz han' HEQ
        go_wp2_with fail
        go_region_held3 (fun w' => (w'.cell? ⟨bp, op + a * 6, none⟩ = some (.bool p.1.1) ∧ w'.cell? ⟨bp, op + a * 6 + 1, none⟩ = some (.string p.1.2.1) ∧ w'.cell? ⟨bp, op + a * 6 + 2, none⟩ = some (.string p.1.2.2) ∧ w'.cell? ⟨bp, op + a * 6 + 3, none⟩ = some (.bool p.2.1) ∧ w'.cell? ⟨bp, op + a * 6 + 4, none⟩ = some (.string p.2.2.1) ∧ w'.cell? ⟨bp, op + a * 6 + 5, none⟩ = some (.string p.2.2.2)) ∧ (w'.cell? ⟨B, 0, none⟩ = some (.bool x.1) ∧ w'.cell? ⟨B, 1, none⟩ = some (.string x.2.1) ∧ w'.cell? ⟨B, 2, none⟩ = some (.string x.2.2)))
          (first | exact HS9.out _ HB5.out | exact HS9.out _ (bDraw (Below.refl _ wr)))
          (first
            | (go_at_call 71; refine (HCP.out _ (bDraw (Below.refl _ _))).mono ?_; rintro e w5 ⟨rfl, hb⟩; have HB5 : Hid (Below wr.heap.size wr w5) := bStepM (bDraw (Below.refl _ wr)) hb; clear hb))
        have HN := hide (bStepM HBF.out HB5.out)
        go_wp2_with fail
        go_ret2
        exact ⟨a, (by rw [← HZE.out] <;> rfl), HSRC.out, HN.out⟩
      · have d2 : decide ((a : Int) < (L.length : Int)) = false := decide_eq_false (by omega)
        have d2n : decide (a < L.length) = false := decide_eq_false han
        have HEQ : Hid (decide (∃ h : a < L.length, L[a].1 = t) = false) := decide_eq_false (fun ⟨h, _⟩ => han h)
        go_wp2_with fail
        go_quiet (fail)
        obtain ⟨w5, hw5⟩ : ∃ W, wr.drewN nq = W := ⟨_, rfl⟩
        have HN : Hid (Below w.heap.size w w5) := by
          show Below _ _ _
          rw [← hw5]
          exact below_drewN HBF.out _
        rw [hw5]
        clear hw5
        go_wp2_with fail
        go_ret2
        exact ⟨a, (by rw [HEQ.out] <;> rfl), HSRC.out, HN.out⟩
end Go.Proofs.YtblpnekjnaaeoaaGreatDoor
