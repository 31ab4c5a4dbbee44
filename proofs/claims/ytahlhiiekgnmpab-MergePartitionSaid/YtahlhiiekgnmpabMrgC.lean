/- Package merge: Add. -/
import Derived.Test.YtahlhiiekgnmpabMrgB
import Derived.Test.YtahlhiiekgnmpabMrgQ
set_option linter.unusedVariables false
set_option linter.unusedSimpArgs false
namespace Go.Proofs.Ytahlhiiekgnmpab
open Go.RowKit

def adj (win : Int) (l : List Al) (x y : Nat) : Prop := ∃ a b, l[x]? = some a ∧ l[y]? = some b ∧ nearB win a b = true
theorem adj_lt {win : Int} {l : List Al} {x y : Nat} (h : adj win l x y) : x < l.length ∧ y < l.length := by
  obtain ⟨a, b, h1, h2, _⟩ := h
  exact ⟨(List.getElem?_eq_some_iff.1 h1).1, (List.getElem?_eq_some_iff.1 h2).1⟩
theorem adj_symm {win : Int} {l : List Al} {x y : Nat} (h : adj win l x y) : adj win l y x := by
  obtain ⟨a, b, h1, h2, h3⟩ := h
  exact ⟨b, a, h2, h1, by rw [nearB_symm]; exact h3⟩
def qNear (win : Int) (l : List Al) (a : Al) (i : Nat) : Prop := ∃ b, l[i]? = some b ∧ nearB win a b = true
theorem near_self {win : Int} (hw : 0 ≤ win) (a : Al) : nearB win a a = true := nearB_iff.2 ⟨by unfold distI absI; omega, rfl, by omega, by omega⟩
theorem adj_snoc {win : Int} (hw : 0 ≤ win) (l : List Al) (a : Al) (x y : Nat) :
    adj win (l ++ [a]) x y ↔ adj win l x y ∨ (x < l.length ∧ y = l.length ∧ qNear win l a x) ∨ (x = l.length ∧ y < l.length ∧ qNear win l a y) ∨ (x = l.length ∧ y = l.length) := by
  have hl : (l ++ [a])[l.length]? = some a := by simp
  have hg : ∀ {i}, i < l.length → (l ++ [a])[i]? = l[i]? := fun h => List.getElem?_append_left h
  constructor
  · rintro ⟨p, q, h1, h2, h3⟩
    have b1 := (List.getElem?_eq_some_iff.1 h1).1
    have b2 := (List.getElem?_eq_some_iff.1 h2).1
    rw [List.length_append, List.length_singleton] at b1 b2
    by_cases ex : x = l.length
    · subst ex
      rw [hl] at h1
      obtain rfl : a = p := by simpa using h1
      by_cases ey : y = l.length
      · exact .inr (.inr (.inr ⟨rfl, ey⟩))
      · rw [hg (by omega)] at h2
        exact .inr (.inr (.inl ⟨rfl, by omega, q, h2, h3⟩))
    · rw [hg (by omega)] at h1
      by_cases ey : y = l.length
      · subst ey
        rw [hl] at h2
        obtain rfl : a = q := by simpa using h2
        exact .inr (.inl ⟨by omega, rfl, p, h1, by rw [nearB_symm]; exact h3⟩)
      · rw [hg (by omega)] at h2
        exact .inl ⟨p, q, h1, h2, h3⟩
  · rintro (⟨p, q, h1, h2, h3⟩ | ⟨hx, rfl, p, h1, h2⟩ | ⟨rfl, hy, p, h1, h2⟩ | ⟨rfl, rfl⟩)
    · have b1 := (List.getElem?_eq_some_iff.1 h1).1
      have b2 := (List.getElem?_eq_some_iff.1 h2).1
      exact ⟨p, q, by rw [hg b1]; exact h1, by rw [hg b2]; exact h2, h3⟩
    · exact ⟨p, a, by rw [hg hx]; exact h1, hl, by rw [nearB_symm]; exact h2⟩
    · exact ⟨a, p, hl, by rw [hg hy]; exact h1, h2⟩
    · exact ⟨a, a, hl, hl, near_self hw a⟩

theorem bstep' {w0 w1 w2 : World} (h : Below w0.heap.size w0 w1) (k : Below w1.heap.size w1 w2) : Below w0.heap.size w0 w2 := btrans h h.size k
theorem ret_v2' {k l : IntKind} {a b c d : Int} (h : a = b) (h' : c = d) : Ending.returned (.tuple #[.int k a, .int l c]) = .returned (.tuple #[.int k b, .int l d]) := by rw [h, h']
def AllV (l : List Al) : Prop := ∀ a ∈ l, valB a = true
/-- A set in memory: its block R, its alerts' slice v. -/
structure SetI (w : World) (R B : Nat) (v : Value) (win : Int) (l : List Al) (rt : Nat → Nat) : Prop where
  cells : ∃ pa sz dep, SetC w R win v pa sz ∧ UF l.length pa rt dep ∧ SzOk l.length rt sz
  own : OwnS w B 5 v l.length (flatV vAl l)
  lt : R < B
  base : B ≤ w.heap.size
  conn : ∀ x y, x < l.length → y < l.length → (rt x = rt y ↔ Conn (adj win l) x y)
  val : AllV l
  len : l.length ≤ 200
  win : momB win = true

def AddPost (w : World) (R B : Nat) (v : Value) (win : Int) (l : List Al) (a : Al) (e : Ending) (w' : World) : Prop :=
  ∃ v' rt', e = .returned (.tuple #[.int .i64 (cnt (l.length + 1) rt' (rt' l.length) : Int), .int .i64 0]) ∧ SetI w' R B v' win (l ++ [a]) rt' ∧ Only2 w w' R v.ownBlock ∧ (∀ k, v'.ownBlock = some k → v.ownBlock = some k ∨ w.heap.size ≤ k)

theorem Try.infoAl : (Try.prog.info? 57).map (fun i => (i.zero, i.size, i.bytes)) = some (some (.agg #[.int .i64 0, .int .i64 0, .int .i64 0, .int .i64 0, .int .i64 0]), 5, 40) := by kernel_rfl

theorem Only2.grow {w wr W : World} {R : Nat} {row : Option Nat} (h : Only2 w wr R row) (hg : wr.grownBy W (some R)) : Only2 w W R row :=
  ⟨hg.os.trans h.os, hg.tape.trans h.tape, hg.output.trans h.output, Nat.le_trans h.size hg.size, fun k hk h1 h2 => (hg.block k (Nat.lt_of_lt_of_le hk h.size) (by simpa using h1)).trans (h.block k hk h1 h2)⟩
/-- What the loop of Add knows. -/
structure LSt (w wr : World) (R B : Nat) (v : Value) (row : Option Nat) (win : Int) (l : List Al) (a : Al) (k : Nat) (pa sz rt dep : Nat → Nat) : Prop where
  set_ : SetC wr R win v pa sz
  uf : UF (l.length + 1) pa rt dep
  szo : SzOk (l.length + 1) rt sz
  grp : GrpK (adj win l) (qNear win l a) l.length k rt
  own : OwnS wr B 5 v (l.length + 1) (flatV vAl (l ++ [a]))
  only : Only2 w wr R row
  box : ∀ j u, (vAl a)[j]? = some u → wr.cell? ⟨w.heap.size, j, none⟩ = some u
  RB : R < B
  Rw : R < w.heap.size
section
variable {w wr W : World} {R B : Nat} {v : Value} {row : Option Nat} {win : Int} {l : List Al} {a : Al} {k : Nat} {pa sz rt dep : Nat → Nat}
theorem LSt.keep (h : LSt w wr R B v row win l a k pa sz rt dep) (hb : Below wr.heap.size wr W) : LSt w W R B v row win l a k pa sz rt dep :=
  ⟨h.set_.below hb, h.uf, h.szo, h.grp, h.own.below hb, h.only.grow (grown_below hb), fun j u hu => keep_cell hb (h.box j u hu), h.RB, h.Rw⟩
theorem LSt.ptr (h : LSt w wr R B v row win l a k pa sz rt dep) : v.ownBlock ≠ some R := fun e => by
  have := (h.own.lt R e).1
  have := h.RB
  omega
theorem LSt.joined (h : LSt w wr R B v row win l a k pa sz rt dep) (hg : wr.grownBy W (some R)) {pa' sz' rt' dep' : Nat → Nat} (hk : k < l.length) (hq : qNear win l a k) (hC : SetC W R win v pa' sz') (hU : UF (l.length + 1) pa' rt' dep') (hZ : SzOk (l.length + 1) rt' sz')
    (hj : ∀ x y, rt' x = rt' y ↔ rt x = rt y ∨ (rt x = rt k ∧ rt y = rt l.length) ∨ (rt x = rt l.length ∧ rt y = rt k)) : LSt w W R B v row win l a (k + 1) pa' sz' rt' dep' := by
  refine ⟨hC, hU, hZ, h.grp.yes (fun x y p => adj_lt p) (fun x y p => adj_symm p) hk hq hj, h.own.kept hg (fun j hj => by injection hj with hj; subst hj; exact h.ptr), h.only.grow hg, fun j u hu => ?_, h.RB, h.Rw⟩
  have h1 := h.box j u hu
  have h2 := World.block_lt_of_cell? _ _ h1
  have h3 := h.Rw
  exact (World.cell?_of_block (w := wr) (a := ⟨w.heap.size, j, none⟩) (hg.block _ h2 (by simp only [ne_eq, Option.some.injEq]; omega))).trans h1
theorem LSt.climbed (h : LSt w wr R B v row win l a k pa sz rt dep) (hg : wr.grownBy W (some R)) {pa' : Nat → Nat} (hC : SetC W R win v pa' sz) (hU : UF (l.length + 1) pa' rt dep) : LSt w W R B v row win l a k pa' sz rt dep := by
  refine ⟨hC, hU, h.szo, h.grp, h.own.kept hg (fun j hj => by injection hj with hj; subst hj; exact h.ptr), h.only.grow hg, fun j u hu => ?_, h.RB, h.Rw⟩
  have h1 := h.box j u hu
  have h2 := World.block_lt_of_cell? _ _ h1
  have h3 := h.Rw
  exact (World.cell?_of_block (w := wr) (a := ⟨w.heap.size, j, none⟩) (hg.block _ h2 (by simp only [ne_eq, Option.some.injEq]; omega))).trans h1
theorem LSt.skip (h : LSt w wr R B v row win l a k pa sz rt dep) (hq : ¬ qNear win l a k) : LSt w wr R B v row win l a (k + 1) pa sz rt dep :=
  ⟨h.set_, h.uf, h.szo, h.grp.no hq, h.own, h.only, h.box, h.RB, h.Rw⟩
theorem LSt.cells (h : LSt w wr R B v row win l a k pa sz rt dep) : ∃ g off cap, v = .slice (some ⟨g, off, none⟩) (l.length + 1) cap ∧ l.length + 1 ≤ cap ∧ cap ≤ maxLen ∧ ∀ i (hi : i < l.length) j u, (vAl l[i])[j]? = some u → wr.cell? ⟨g, off + i * 5 + j, none⟩ = some u := by
  rcases h.own.2 with ⟨ao, _, h2, _⟩ | ⟨g, off, cap, hv, hb, hlt, hn, hm, hc, hx⟩
  · omega
  · refine ⟨g, off, cap, hv, hn, hm, fun i hi j u hu => ?_⟩
    have hj : j < 5 := by
      have := (List.getElem?_eq_some_iff.1 hu).1
      rw [vAl_len] at this; exact this
    have h3 := flatV_get vAl_len (l ++ [a]) i (by simp; omega) j hj
    rw [List.getElem_append_left hi, hu] at h3
    have := hx _ u h3
    rw [← Nat.add_assoc] at this
    exact this
/-- The set once all were looked at. -/
theorem LSt.done (h : LSt w wr R B v row win l a l.length pa sz rt dep) (hv : AllV l) (ha : valB a = true) (hl : l.length < 200) (hw : momB win = true) (hB : B ≤ wr.heap.size) : SetI wr R B v win (l ++ [a]) rt := by
  have e : (l ++ [a]).length = l.length + 1 := by simp
  refine ⟨⟨pa, sz, dep, h.set_, by rw [e]; exact h.uf, by rw [e]; exact h.szo⟩, by rw [e]; exact h.own, h.RB, hB, fun x y hx hy => ?_, fun b hb => ?_, by omega, hw⟩
  · rw [e] at hx hy
    rw [h.grp x y hx hy]
    exact (touch_conn (P' := adj win (l ++ [a])) (fun x y p => adj_lt p) (fun x y p => adj_symm p) (fun x y => adj_snoc (momB_iff.1 hw).1 l a x y)).symm
  · rcases List.mem_append.1 hb with hb | hb
    · exact hv b hb
    · obtain rfl : b = a := by simpa using hb
      exact ha
end
theorem qNear_at {win : Int} {l : List Al} {a : Al} {k : Nat} (hk : k < l.length) : qNear win l a k ↔ nearB win a l[k] = true := by
  unfold qNear
  rw [List.getElem?_eq_getElem hk]
  constructor
  · rintro ⟨b, h1, h2⟩
    obtain rfl : l[k] = b := by simpa using h1
    exact h2
  · intro h; exact ⟨_, rfl, h⟩

set_option maxHeartbeats 4000000 in
set_option maxRecDepth 100000 in
theorem mrg_add_ok (R B : Nat) (v : Value) (win : Int) (l : List Al) (rt : Nat → Nat) (a : Al) (w : World) (hI : SetI w R B v win l rt) (ha : valB a = true) (hl : l.length < 200) :
    Calls Try.prog 31 #[.pointer (some ⟨R, 0, none⟩), .agg #[.int .i64 a.tile, .int .i64 a.cell, .int .i64 a.flt, .int .i64 a.val, .int .i64 a.at_]] w (AddPost w R B v win l a) := by
  obtain ⟨i0, hi, hz0, hz1, hz2⟩ := info_parts Try.infoAl
  obtain ⟨pa, sz, dep, hC, hU, hZ⟩ := hI.cells
  obtain ⟨at_, ac, af, av, aa⟩ := a
  have HC := hide hC
  have HO := hide hI.own
  obtain ⟨ao, cp, rfl⟩ : ∃ ao cp, v = .slice ao l.length cp := by
    rcases hI.own.2 with ⟨ao, h1, h2, _⟩ | ⟨g, off, cap, h1, _⟩
    · exact ⟨ao, 0, by rw [h1, h2]⟩
    · exact ⟨_, _, h1⟩
  have HI := hide hI
  have HU := hide hU
  have HZ := hide hZ
  have HV := hide ha
  have c1 := hC.al
  clear hC hU hZ hI ha
  have hl200 : ((l.length : Int) == 200) = false := beq_eq_false_iff_ne.2 (by omega)
  go_enter Try.func31, Try.ntmps31
  go_wp2_with fail
  refine (mrg_valid_at at_ ac af av aa _).mono ?_
  rintro e w1 ⟨rfl, hb1⟩
  have HV2 : Hid (valB ⟨at_, ac, af, av, aa⟩ = true) := HV.out
  rw [HV2.out]
  have hb0 := bAlloc (Below.refl w.heap.size w) (.cells #[.int .i64 at_, .int .i64 ac, .int .i64 af, .int .i64 av, .int .i64 aa] 57)
  have B1 := hide (bstep' hb0 hb1)
  have X1 : Hid (w1.cell? ⟨w.heap.size, 0, none⟩ = some (.int .i64 at_) ∧ w1.cell? ⟨w.heap.size, 1, none⟩ = some (.int .i64 ac) ∧ w1.cell? ⟨w.heap.size, 2, none⟩ = some (.int .i64 af) ∧ w1.cell? ⟨w.heap.size, 3, none⟩ = some (.int .i64 av) ∧ w1.cell? ⟨w.heap.size, 4, none⟩ = some (.int .i64 aa)) :=
    ⟨keep_cell hb1 (by simp [go_sem]), keep_cell hb1 (by simp [go_sem]), keep_cell hb1 (by simp [go_sem]), keep_cell hb1 (by simp [go_sem]), keep_cell hb1 (by simp [go_sem])⟩
  have HC1 := hide (HC.out.below B1.out)
  have HO1 := hide (HO.out.below B1.out)
  have k1 := HC1.out.al
  have p0 := HC1.out.par l.length hl
  have s0 := HC1.out.siz l.length hl
  have f0 := HC1.out.fr (2 + l.length) (by omega)
  have f1 := HC1.out.fr (202 + l.length) (by omega)
  have hn0 : (0 : Int) ≤ (l.length : Int) := by omega
  have hn1 : (l.length : Int) < 200 := by omega
  have HSN := hide ((HC1.out.setPar hl l.length).setSiz hl 1)
  have HSM := hide ((HC1.out.setSiz hl 1).setPar hl l.length)
  clear c1 hb0 hb1
  go_wp2_with fail
  go_region
  go_wp2_with fail
  have O2 : Only2 w (((w1.setCell ⟨R, 2 + l.length, none⟩ (.int .i64 (l.length : Int))).setCell ⟨R, 202 + l.length, none⟩ (.int .i64 1)).drew) R (Value.slice ao l.length cp).ownBlock :=
    (((Only2.of_below B1.out).setCell (2 + l.length) _).setCell (202 + l.length) _).drew
  have HOa : Hid (OwnS (((w1.setCell ⟨R, 2 + l.length, none⟩ (.int .i64 (l.length : Int))).setCell ⟨R, 202 + l.length, none⟩ (.int .i64 1)).drew) B 5 (.slice ao l.length cp) l.length (flatV vAl l)) :=
    ((HO1.out.setCell (p := ⟨R, 2 + l.length, none⟩) HI.out.lt _).setCell (p := ⟨R, 202 + l.length, none⟩) HI.out.lt _).drew
  have HCa : Hid (SetC (((w1.setCell ⟨R, 2 + l.length, none⟩ (.int .i64 (l.length : Int))).setCell ⟨R, 202 + l.length, none⟩ (.int .i64 1)).drew) R win (.slice ao l.length cp) (upd pa l.length l.length) (upd sz l.length 1)) := HSN.out.drewN 1
  have hRw : R < w.heap.size := Nat.lt_of_lt_of_le HI.out.lt HI.out.base
  have HXa : Hid (∀ o u, w1.cell? ⟨w.heap.size, o, none⟩ = some u → (((w1.setCell ⟨R, 2 + l.length, none⟩ (.int .i64 (l.length : Int))).setCell ⟨R, 202 + l.length, none⟩ (.int .i64 1)).drew).cell? ⟨w.heap.size, o, none⟩ = some u) := fun o u h => by
    show ((w1.setCell ⟨R, 2 + l.length, none⟩ _).setCell ⟨R, 202 + l.length, none⟩ _).cell? _ = _
    rw [World.cell?_setCell_other _ _ _ _ (by intro e; injection e; omega), World.cell?_setCell_other _ _ _ _ (by intro e; injection e; omega)]
    exact h
  have HO2 := hide O2
  clear O2 p0 s0 f0 f1 k1
  obtain ⟨wa, hwa⟩ : ∃ wa, ((w1.setCell ⟨R, 2 + l.length, none⟩ (.int .i64 (l.length : Int))).setCell ⟨R, 202 + l.length, none⟩ (.int .i64 1)).drew = wa := ⟨_, rfl⟩
  rw [hwa] at HO2 HOa HCa HXa ⊢
  clear hwa HSN HSM HC1 HO1
  have k1 := HCa.out.al
  have x0 := HXa.out 0 _ X1.out.1
  have x1 := HXa.out 1 _ X1.out.2.1
  have x2 := HXa.out 2 _ X1.out.2.2.1
  have x3 := HXa.out 3 _ X1.out.2.2.2.1
  have x4 := HXa.out 4 _ X1.out.2.2.2.2
  have HBX := hide (HXa.out 0 _ X1.out.1)
  have hone : ∀ u ∈ (#[Value.int .i64 at_, Value.int .i64 ac, Value.int .i64 af, Value.int .i64 av, Value.int .i64 aa] : Array Value).toList, u.oneCell' = true := by
    intro u hu
    simp at hu
    rcases hu with rfl | rfl | rfl | rfl | rfl <;> rfl
  have H1 := hide hone
  have hbytes : (l.length + 1) * 40 ≤ 140737488355328 := by omega
  have HOW := hide (HOa.out.alloc (.cells #[.int .i64 at_, .int .i64 ac, .int .i64 af, .int .i64 av, .int .i64 aa] 57)).drew
  have HCW : Hid (SetC ((wa.alloc (.cells #[.int .i64 at_, .int .i64 ac, .int .i64 af, .int .i64 av, .int .i64 aa] 57)).drew) R win (.slice ao l.length cp) (upd pa l.length l.length) (upd sz l.length 1)) := (HCa.out.alloc _).drewN 1
  have HX : Hid (((wa.alloc (.cells #[.int .i64 at_, .int .i64 ac, .int .i64 af, .int .i64 av, .int .i64 aa] 57)).drew).heap[wa.heap.size]? = some (.cells #[.int .i64 at_, .int .i64 ac, .int .i64 af, .int .i64 av, .int .i64 aa] 57 (0, 0))) := new_block wa _
  have HSZ : Hid (B ≤ ((wa.alloc (.cells #[.int .i64 at_, .int .i64 ac, .int .i64 af, .int .i64 av, .int .i64 aa] 57)).drew).heap.size) := by
    show B ≤ _
    have h1 := HI.out.base
    have h2 := HO2.out.size
    simp; omega
  have HNE : Hid (some R ≠ (Value.slice ao l.length cp).ownBlock) := fun e => by
    have := (HI.out.own.lt R e.symm).1
    have := HI.out.lt
    omega
  clear hone
  have k1a := (HCa.out.alloc (.cells #[.int .i64 at_, .int .i64 ac, .int .i64 af, .int .i64 av, .int .i64 aa] 57)).al
  go_region_law (refine step_appendS rfl _ _ 42 rfl B 57 i0 (.agg #[.int .i64 0, .int .i64 0, .int .i64 0, .int .i64 0, .int .i64 0]) 5 40 Try.underlying42 hi hz0 hz1 hz2 rfl (by decide) _ l.length (flatV vAl l) rfl HOW.out wa.heap.size #[.int .i64 at_, .int .i64 ac, .int .i64 af, .int .i64 av, .int .i64 aa] 57 1 rfl HX.out rfl H1.out hbytes (by decide) HSZ.out ?_; intro g off2 cap2 w4 hown4 hg4 hat4; have HC4 := hide (HCW.out.grown hg4 HNE.out); have k4 := HC4.out.al; have f4 := HC4.out.fr 1 (by omega))
  all_goals
    have HA4 : Hid (OwnS w4 B 5 (.slice (some ⟨g, off2, none⟩) (l.length + 1) cap2) (l.length + 1) (flatV vAl (l ++ [⟨at_, ac, af, av, aa⟩]))) := by
      have h1 := hown4
      show OwnS _ _ _ _ _ _
      rw [flatV_append, flatV_one]
      exact h1
    have HO4 : Hid (Only2 w w4 R (Value.slice ao l.length cp).ownBlock) :=
      ⟨hg4.os.trans HO2.out.os, hg4.tape.trans HO2.out.tape, hg4.output.trans HO2.out.output, Nat.le_trans HO2.out.size (Nat.le_trans (by simp) hg4.size),
        fun k hk h1 h2 => (hg4.block k (by have := HO2.out.size; simp; omega) h2).trans ((Below.heap_alloc wa _ k (Nat.lt_of_lt_of_le hk HO2.out.size)).trans (HO2.out.block k hk h1 h2))⟩
    have hc2 : (l.length : Int) ≤ (cap2 : Int) := by
      rcases HA4.out.2 with ⟨_, _, h2, _⟩ | ⟨_, _, _, hv, _, _, hn, _⟩
      · omega
      · simp only [Value.slice.injEq] at hv
        omega
    have HAT : Hid ((Value.slice ao l.length cp).ownBlock = some g ∨ w.heap.size ≤ g) := by
      rcases hat4 with h | h
      · exact .inl h
      · exact .inr (Nat.le_trans HO2.out.size (Nat.le_trans (by simp) h))
    have HG4 := hide hg4
    clear hown4 hg4 hat4
    have HL0 : Hid (LSt w (w4.setCell ⟨R, 1, none⟩ (.slice (some ⟨g, off2, none⟩) (l.length + 1) cap2)) R B (.slice (some ⟨g, off2, none⟩) (l.length + 1) cap2) (Value.slice ao l.length cp).ownBlock win l ⟨at_, ac, af, av, aa⟩ 0 (upd pa l.length l.length) (upd sz l.length 1) (upd rt l.length l.length) dep) := by
      refine ⟨HC4.out.setAl _, HU.out.push, HZ.out.push HU.out, GrpK.start (fun x y p => adj_lt p) (fun x hx => HU.out.rlt hx) HI.out.conn, HA4.out.setCell (p := ⟨R, 1, none⟩) HI.out.lt _, HO4.out.setCell 1 _, fun j u hu => ?_, HI.out.lt, hRw⟩
      have h1 : wa.cell? ⟨w.heap.size, j, none⟩ = some u := by
        match j, hu with
        | 0, hu => obtain rfl : Value.int .i64 at_ = u := by simpa [vAl] using hu
                   exact HXa.out 0 _ X1.out.1
        | 1, hu => obtain rfl : Value.int .i64 ac = u := by simpa [vAl] using hu
                   exact HXa.out 1 _ X1.out.2.1
        | 2, hu => obtain rfl : Value.int .i64 af = u := by simpa [vAl] using hu
                   exact HXa.out 2 _ X1.out.2.2.1
        | 3, hu => obtain rfl : Value.int .i64 av = u := by simpa [vAl] using hu
                   exact HXa.out 3 _ X1.out.2.2.2.1
        | 4, hu => obtain rfl : Value.int .i64 aa = u := by simpa [vAl] using hu
                   exact HXa.out 4 _ X1.out.2.2.2.2
        | j + 5, hu => simp [vAl] at hu
      have h2 := World.block_lt_of_cell? _ _ h1
      rw [World.cell?_setCell_other _ _ _ _ (by intro e; injection e; omega)]
      refine (World.cell?_of_block (w := wa) (a := ⟨w.heap.size, j, none⟩) ((HG4.out.block _ (by simp at h2 ⊢; omega) (fun e => ?_)).trans (Below.heap_alloc wa _ _ h2))).trans h1
      have := (HI.out.own.lt w.heap.size e.symm).2
      omega
    go_wp2_with fail
    clear x0 x1 x2 x3 x4 k1 k1a k4 f4 HG4 HA4 HO4 HC4 HBX HOW HCW HX HSZ HNE HXa HCa HOa HO2 X1
    go_loopw [60] (fun i wr => ∃ (k : Nat) (pa sz rt dep : Nat → Nat), k ≤ l.length ∧ i = .int .i64 k ∧ LSt w wr R B (.slice (some ⟨g, off2, none⟩) (l.length + 1) cap2) (Value.slice ao l.length cp).ownBlock win l ⟨at_, ac, af, av, aa⟩ k pa sz rt dep) (fun i _ => l.length - (intOf i).toNat)
    case atStart => exact ⟨0, _, _, _, _, Nat.zero_le _, rfl, HL0.out⟩
    case round =>
      obtain ⟨k, pa', sz', rt', dep', hk, rfl, hst⟩ := hrel
      have HST := hide hst
      clear hst
      by_cases hlt : k < l.length
      · obtain ⟨g', off', cap', hv, _, hmx, hc⟩ := HST.out.cells
        simp only [Value.slice.injEq, Option.some.injEq, Addr.mk.injEq, and_true, true_and] at hv
        obtain ⟨⟨rfl, rfl⟩, rfl⟩ := hv
        have z0 := hc k hlt 0 _ rfl
        have z1 := hc k hlt 1 _ rfl
        have z2 := hc k hlt 2 _ rfl
        have z3 := hc k hlt 3 _ rfl
        have z4 := hc k hlt 4 _ rfl
        simp only [Nat.add_zero] at z0
        have HVB := hide (HI.out.val l[k] (List.getElem_mem hlt))
        have HQ := hide (qNear_at (win := win) (a := ⟨at_, ac, af, av, aa⟩) hlt)
        clear hc hmx
        obtain ⟨b, hb⟩ : ∃ b, l[k] = b := ⟨_, rfl⟩
        rw [hb] at z0 z1 z2 z3 z4 HVB HQ
        clear hb
        obtain ⟨bt, bc, bf, bv, ba⟩ := b
        simp only at z0 z1 z2 z3 z4
        have hki : (k : Int) < (l.length : Int) := by omega
        have hk0 : (0 : Int) ≤ (k : Int) := by omega
        have HS2 := hide (HST.out.keep (bAlloc (Below.refl _ wr) (.cells #[.int .i64 bt, .int .i64 bc, .int .i64 bf, .int .i64 bv, .int .i64 ba] 57)))
        have y0 := HS2.out.box 0 _ rfl
        have y1 := HS2.out.box 1 _ rfl
        have y2 := HS2.out.box 2 _ rfl
        have y3 := HS2.out.box 3 _ rfl
        have y4 := HS2.out.box 4 _ rfl
        have HW := hide HS2.out.set_.win
        go_wp2_with fail
        refine (mrg_near ⟨at_, ac, af, av, aa⟩ ⟨bt, bc, bf, bv, ba⟩ win R _ HW.out HV.out HVB.out).mono ?_
        rintro e w5 ⟨rfl, hb5⟩
        have HS5 := hide (HS2.out.keep hb5)
        clear hb5 z0 z1 z2 z3 z4 y0 y1 y2 y3 y4 HS2 HW HST
        obtain ⟨p, hp⟩ : ∃ p, nearB win ⟨at_, ac, af, av, aa⟩ ⟨bt, bc, bf, bv, ba⟩ = p := ⟨_, rfl⟩
        have HP := hide hp
        rw [hp]
        clear hp
        cases p with
        | true =>
          go_wp2_with fail
          refine (mrg_join R win _ pa' sz' (l.length + 1) rt' dep' k l.length _ HS5.out.set_ HS5.out.uf HS5.out.szo (by omega) (by omega) (by omega)).mono ?_
          rintro e w6 ⟨pa6, sz6, rt6, dep6, rfl, hC6, hU6, hZ6, hG6, hj6⟩
          have HS6 := hide (HS5.out.joined hG6 hlt (HQ.out.2 HP.out) hC6 hU6 hZ6 hj6)
          clear hC6 hU6 hZ6 hG6 hj6
          go_wp2_with fail
          go_roundw
          case rel => exact ⟨k + 1, _, _, _, _, by omega, by go_num, HS6.out⟩
          case measure => simp [intOf]; omega
        | false =>
          have HS6 := hide (HS5.out.skip (fun h => by have := HQ.out.1 h; rw [HP.out] at this; cases this))
          go_wp2_with fail
          go_roundw
          case rel => exact ⟨k + 1, _, _, _, _, by omega, by go_num, HS6.out⟩
          case measure => simp [intOf]; omega
      · have hk' : k = l.length := by omega
        subst hk'
        have HDR := hide (HST.out.keep (bDraw (Below.refl _ wr)))
        have hrl := HST.out.uf.rlt (show l.length < l.length + 1 by omega)
        have hrr := HST.out.uf.rtrt (show l.length < l.length + 1 by omega)
        have HSZR := hide (HST.out.szo _ hrl hrr)
        obtain ⟨r, hr⟩ : ∃ r, rt' l.length = r := ⟨_, rfl⟩
        rw [hr] at hrl HSZR
        have HR := hide hr
        clear hr hrr
        have hr0 : (0 : Int) ≤ (r : Int) := by omega
        have hr1 : (r : Int) < 200 := by omega
        go_wp2_with fail
        go_region_with (go_at_call 52; refine (mrg_root R win _ pa' sz' (l.length + 1) rt' dep' l.length _ HDR.out.set_ HDR.out.uf (by omega) (by omega)).mono ?_; rintro e w7 ⟨pa7, rfl, hC7, hU7, hG7⟩; rw [HR.out]; have s7 := hC7.siz r (by omega))
        all_goals
          have HS7 := hide (HDR.out.climbed hG7 hC7 hU7)
          clear hG7 hU7 hC7
          go_wp2_with fail
          go_ret2
          refine ⟨_, rt', ret_v2' (by rw [HSZR.out, HR.out]) rfl, HS7.out.done HI.out.val HV.out hl HI.out.win (Nat.le_trans HI.out.base HS7.out.only.size), HS7.out.only, fun k hk => ?_⟩
          obtain rfl : g = k := by simpa [Value.ownBlock] using hk
          exact HAT.out
end Go.Proofs.Ytahlhiiekgnmpab
