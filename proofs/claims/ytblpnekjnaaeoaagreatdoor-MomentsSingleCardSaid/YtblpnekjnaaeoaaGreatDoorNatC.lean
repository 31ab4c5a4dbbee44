/- natural: collect and its closure put. -/
import Derived.Test.YtblpnekjnaaeoaaGreatDoorPkB
import Derived.Deep.OwnRows
set_option linter.unusedVariables false
set_option linter.unusedSimpArgs false
namespace Go.Proofs.YtblpnekjnaaeoaaGreatDoor
open Go.RowKit

/-- What collect's two captured variables and its row hold. -/
structure PutI (w : World) (B C D : Nat) (v : Value) (n : Nat) (o : List Nat) (c : Int) : Prop where
  c : w.heap[C]? = some (.cells #[.int .i64 c] 3 (0, 0))
  d : w.heap[D]? = some (.cells #[v] 103 (0, 0))
  o : OwnS w B 1 v n (flatV vN o)
  nC : v.ownBlock ≠ some C
  nD : v.ownBlock ≠ some D
  cd : C ≠ D
  hC : B ≤ C
  hD : B ≤ D
theorem flat_vN_len (o : List Nat) : (flatV vN o).length = o.length := by rw [flatV_length vN_len, Nat.mul_one]
theorem PutI.len {w : World} {B C D : Nat} {v : Value} {n : Nat} {o : List Nat} {c : Int} (h : PutI w B C D v n o c) : o.length = n := by
  have := h.o.1; rw [flat_vN_len, Nat.mul_one] at this; exact this
theorem grown_setCell (w : World) (p : Addr) (u : Value) : w.grownBy (w.setCell p u) (some p.block) :=
  ⟨rfl, rfl, rfl, by simp, fun k _ hk => Below.heap_setCell _ _ _ _ fun e => hk (by rw [e])⟩
theorem PutI.setC {w : World} {B C D : Nat} {v : Value} {n : Nat} {o : List Nat} {c : Int} (h : PutI w B C D v n o c) (c' : Int) : PutI (w.setCell ⟨C, 0, none⟩ (.int .i64 c')) B C D v n o c' :=
  ⟨by have := block_setCell h.c 0 (.int .i64 c'); simpa using this, by rw [Below.heap_setCell _ _ _ _ (fun e => h.cd e.symm)]; exact h.d,
    h.o.kept (grown_setCell w _ _) fun k hk e => h.nC (by rw [e]; exact hk.symm), h.nC, h.nD, h.cd, h.hC, h.hD⟩
theorem PutI.drew {w : World} {B C D : Nat} {v : Value} {n : Nat} {o : List Nat} {c : Int} (h : PutI w B C D v n o c) : PutI w.drew B C D v n o c :=
  ⟨h.c, h.d, h.o.drew, h.nC, h.nD, h.cd, h.hC, h.hD⟩
theorem flat_vN_set (o : List Nat) (i d : Nat) : flatV vN (o.set i d) = (flatV vN o).set i (.int .i64 (d : Int)) := by
  induction o generalizing i with
  | nil => rfl
  | cons a o ih =>
    cases i with
    | zero => rfl
    | succ i =>
      show vN a ++ flatV vN (o.set i d) = (vN a ++ flatV vN o).set (i + 1) _
      rw [ih]; rfl
theorem PutI.setO {w : World} {B C D g off cap : Nat} {n : Nat} {o : List Nat} {c : Int} (h : PutI w B C D (.slice (some ⟨g, off, none⟩) n cap) n o c) {i : Nat} (hi : i < n) (d : Nat) :
    PutI (w.setCell ⟨g, off + i, none⟩ (.int .i64 (d : Int))) B C D (.slice (some ⟨g, off, none⟩) n cap) n (o.set i d) c := by
  have e1 : C ≠ g := fun e => h.nC (by rw [e]; rfl)
  have e2 : D ≠ g := fun e => h.nD (by rw [e]; rfl)
  refine ⟨by rw [Below.heap_setCell _ _ _ _ e1]; exact h.c, by rw [Below.heap_setCell _ _ _ _ e2]; exact h.d, ?_, h.nC, h.nD, h.cd, h.hC, h.hD⟩
  rw [flat_vN_set]
  exact h.o.setOwn hi _
theorem PutI.own {w : World} {B C D : Nat} {v : Value} {n : Nat} {o : List Nat} {c : Int} (h : PutI w B C D v n o c) {i : Nat} (hi : i < n) :
    ∃ g off cap, v = .slice (some ⟨g, off, none⟩) n cap ∧ (∃ u, w.cell? ⟨g, off + i, none⟩ = some u) ∧ w.frozen? ⟨g, off + i, none⟩ = false ∧ n ≤ cap ∧ B ≤ g := by
  rcases h.o.2 with ⟨ao, h1, h2, _⟩ | ⟨g, off, cap, hv, hb, hlt, hn, hm, hc, hx⟩
  · omega
  · have := hc i (by omega)
    exact ⟨g, off, cap, hv, Option.isSome_iff_exists.1 this.1, this.2, hn, hb⟩
theorem PutI.below {w w' : World} {B C D : Nat} {v : Value} {n : Nat} {o : List Nat} {c : Int} (h : PutI w B C D v n o c) (hb : Below w.heap.size w w') : PutI w' B C D v n o c :=
  ⟨by rw [hb.block C (Array.getElem?_eq_some_iff.1 h.c).1]; exact h.c, by rw [hb.block D (Array.getElem?_eq_some_iff.1 h.d).1]; exact h.d, h.o.below hb, h.nC, h.nD, h.cd, h.hC, h.hD⟩
/-- The step of the carry, by Go's truncating division. -/
theorem fdiv_of_pos {m : Int} (h : 0 ≤ m) : m = ((m % 1000000000).toNat : Int) + 1000000000 * (m / 1000000000) := by omega
theorem trunc_neg {m : Int} (h : m < 0) : m = m.tmod 1000000000 + 1000000000 * m.tdiv 1000000000 ∧ -1000000000 < m.tmod 1000000000 ∧ m.tmod 1000000000 ≤ 0 := by
  have e1 : m.tdiv 1000000000 = -((-m) / 1000000000) := by
    have := Int.neg_tdiv (-m) 1000000000
    rw [Int.neg_neg] at this
    rw [this, Int.tdiv_eq_ediv_of_nonneg (by omega)]
  have e2 : m.tmod 1000000000 = -((-m) % 1000000000) := by
    have := Int.neg_tmod (-m) 1000000000
    rw [Int.neg_neg] at this
    rw [this, Int.tmod_eq_emod_of_nonneg (by omega)]
  rw [e1, e2]
  omega
def PutPost (w : World) (B C D : Nat) (v : Value) (n : Nat) (o : List Nat) (i : Nat) (m : Int) (e : Ending) (w' : World) : Prop :=
  e = .returned (.tuple #[]) ∧ Below B w w' ∧ ∃ (d : Nat) (c' : Int), m = (d : Int) + 1000000000 * c' ∧ d < 1000000000 ∧ PutI w' B C D v n (o.set i d) c'

set_option maxHeartbeats 1000000 in
set_option maxRecDepth 100000 in
theorem put_any (B C D : Nat) (v : Value) (n i : Nat) (o : List Nat) (s c : Int) (w : World) (h : PutI w B C D v n o c) (hi : i < n) (hs0 : -2000000000000000000 ≤ s) (hs1 : s ≤ 2000000000000000000) (hc0 : -5000000000 ≤ c) (hc1 : c ≤ 5000000000) :
    Calls Tryz.prog 143 #[.int .i64 (i : Int), .int .i64 s, .pointer (some ⟨C, 0, none⟩), .pointer (some ⟨D, 0, none⟩)] w (PutPost w B C D v n o i (s + c)) := by
  obtain ⟨g, off, cap, rfl, ⟨u, hu⟩, hf, hcap, hg⟩ := h.own hi
  have HP := hide h
  have c0 := (cells_of_block h.c 0).1
  have f0 := (cells_of_block h.c 0).2
  have d0 := (cells_of_block h.d 0).1
  simp only [List.getElem?_toArray, List.getElem?_cons_zero] at c0 d0
  have nD : D ≠ C := fun e => h.cd e.symm
  have nC : g ≠ C := fun e => h.nC (by rw [← e]; rfl)
  have hi0 : (0 : Int) ≤ (i : Int) := by omega
  have hi1 : (i : Int) < (n : Int) := by omega
  have HB := hide h.hC
  have HG := hide hg
  clear h hg hcap
  have hw : IntKind.i64.wrap (s + c) = s + c := IntWalk.i64_in _ (by omega)
  by_cases hm : 0 ≤ s + c
  · have k1 : ∀ x, (w.setCell ⟨C, 0, none⟩ x).cell? ⟨D, 0, none⟩ = some (.slice (some ⟨g, off, none⟩) n cap) := fun x => by rw [World.cell?_setCell_other _ _ _ _ (by intro e; injection e; omega)]; exact d0
    have k2 : ∀ x, (w.setCell ⟨C, 0, none⟩ x).cell? ⟨g, off + i, none⟩ = some u := fun x => by rw [World.cell?_setCell_other _ _ _ _ (by intro e; injection e; omega)]; exact hu
    have hk : ((s + c) % 1000000000) = (((s + c) % 1000000000).toNat : Int) := by omega
    have r0 : 0 ≤ (s + c) % 1000000000 := by omega
    have r1 : decide ((s + c) % 1000000000 < 0) = false := by simp; omega
    have HK := hide hk
    have HM := hide (fdiv_of_pos hm)
    clear hk
    go_enter Tryz.func143, Tryz.ntmps143
    go_wp2_with fail
    go_end0
    refine ⟨rfl, ((Below.refl B w).setCell (p := ⟨C, 0, none⟩) HB.out _).setCell (p := ⟨g, off + i, none⟩) HG.out _, ((s + c) % 1000000000).toNat, (s + c) / 1000000000, HM.out, by omega, ?_⟩
    have := (HP.out.setC ((s + c) / 1000000000)).setO hi ((s + c) % 1000000000).toNat
    rw [← HK.out] at this
    first | exact this | (rw [Int.tdiv_eq_ediv_of_nonneg hm, Int.tmod_eq_emod_of_nonneg hm]; exact this)
  · have hm' : s + c < 0 := by omega
    obtain ⟨e1, e2, e3⟩ := trunc_neg hm'
    obtain ⟨q, hq⟩ : ∃ q, (s + c).tdiv 1000000000 = q := ⟨_, rfl⟩
    obtain ⟨r, hr⟩ : ∃ q, (s + c).tmod 1000000000 = q := ⟨_, rfl⟩
    rw [hq, hr] at e1
    rw [hr] at e2 e3
    have HE := hide e1
    have hqb : -10000000000 ≤ q ∧ q ≤ 10000000000 := by omega
    obtain ⟨q1, q2⟩ := hqb
    clear e1
    have k0 : ∀ x, (w.setCell ⟨C, 0, none⟩ x).cell? ⟨C, 0, none⟩ = some x := fun x => World.cell?_setCell_same _ _ _ c0
    have k1 : ∀ x, (w.setCell ⟨C, 0, none⟩ x).cell? ⟨D, 0, none⟩ = some (.slice (some ⟨g, off, none⟩) n cap) := fun x => by rw [World.cell?_setCell_other _ _ _ _ (by intro e; injection e; omega)]; exact d0
    have k2 : ∀ x, (w.setCell ⟨C, 0, none⟩ x).cell? ⟨g, off + i, none⟩ = some u := fun x => by rw [World.cell?_setCell_other _ _ _ _ (by intro e; injection e; omega)]; exact hu
    have k3 : ∀ x y, ((w.setCell ⟨C, 0, none⟩ x).setCell ⟨C, 0, none⟩ y).cell? ⟨D, 0, none⟩ = some (.slice (some ⟨g, off, none⟩) n cap) := fun x y => by rw [World.cell?_setCell_other _ _ _ _ (by intro e; injection e; omega)]; exact k1 x
    have k4 : ∀ x y, ((w.setCell ⟨C, 0, none⟩ x).setCell ⟨C, 0, none⟩ y).cell? ⟨g, off + i, none⟩ = some u := fun x y => by rw [World.cell?_setCell_other _ _ _ _ (by intro e; injection e; omega)]; exact k2 x
    by_cases hrz : r < 0
    · have w1 : IntKind.i64.wrap (r + 1000000000) = r + 1000000000 := IntWalk.i64_in _ (by omega)
      have w2 : IntKind.i64.wrap (q - 1) = q - 1 := IntWalk.i64_in _ (by omega)
      go_enter Tryz.func143, Tryz.ntmps143
      go_wp2_with fail
      go_region
      all_goals
        go_wp2_with fail
        go_end0
        refine ⟨rfl, ((((Below.refl B w).setCell (p := ⟨C, 0, none⟩) HB.out _).setCell (p := ⟨C, 0, none⟩) HB.out _).setCell (p := ⟨g, off + i, none⟩) HG.out _).drew, (r + 1000000000).toNat, q - 1, by rw [HE.out]; omega, by omega, ?_⟩
        have hk : (((r + 1000000000).toNat : Nat) : Int) = r + 1000000000 := by omega
        have := (((HP.out.setC q).setC (q - 1)).setO hi (r + 1000000000).toNat).drew
        rw [hk] at this
        exact this
    · obtain rfl : r = 0 := by omega
      go_enter Tryz.func143, Tryz.ntmps143
      go_wp2_with fail
      go_end0
      refine ⟨rfl, ((Below.refl B w).setCell (p := ⟨C, 0, none⟩) HB.out _).setCell (p := ⟨g, off + i, none⟩) HG.out _, 0, q, by rw [HE.out]; simp, by omega, ?_⟩
      have := (HP.out.setC q).setO hi 0
      exact this

theorem Tryz.infoInt : (Tryz.prog.info? 3).map (fun i => (i.zero, i.size, i.bytes)) = some (some (.int .i64 0), 1, 8) := by kernel_rfl
theorem flat_zeros (n : Nat) : flatV vN (List.replicate n 0) = List.replicate n (.int .i64 0) := by
  induction n with
  | zero => rfl
  | succ n ih =>
    rw [List.replicate_succ, List.replicate_succ]
    show vN 0 ++ flatV vN (List.replicate n 0) = _
    rw [ih]; rfl
theorem made_cell (w : World) (n : Nat) (T : TypeId) (j : Nat) (h : j < n) : (w.alloc (.cells (madeCells #[.int .i64 0] n) T)).cell? ⟨w.heap.size, 0 + j, none⟩ = some (.int .i64 0) := by
  rw [World.cell?_alloc_at _ _ _ _ rfl]; simp [madeCells, h, Nat.mod_one]
theorem OwnS.made0 (w : World) (n : Nat) (T : TypeId) (hn : n ≤ maxLen) : OwnS (w.alloc (.cells (madeCells #[.int .i64 0] n) T)) w.heap.size 1 (.slice (some ⟨w.heap.size, 0, none⟩) n n) n (flatV vN (List.replicate n 0)) := by
  refine ⟨by rw [flat_zeros]; simp, .inr ⟨w.heap.size, 0, n, rfl, Nat.le_refl _, by simp, Nat.le_refl _, hn, fun j hj => ⟨?_, by simp [go_sem]⟩, fun j u hu => ?_⟩⟩
  · rw [made_cell w n T j (by omega)]; rfl
  · rw [flat_zeros] at hu
    have hj : j < n := by
      have := (List.getElem?_eq_some_iff.1 hu).1
      simpa using this
    rw [made_cell w n T j hj]
    simp [hj] at hu
    rw [hu]
theorem PutI.made (w : World) (n : Nat) (hn : n ≤ maxLen) :
    PutI (((w.alloc (.cells (madeCells #[.int .i64 0] n) 3)).alloc (.cells #[.slice (some ⟨w.heap.size, 0, none⟩) n n] 103)).alloc (.cells #[.int .i64 0] 3)) w.heap.size (w.heap.size + 1 + 1) (w.heap.size + 1) (.slice (some ⟨w.heap.size, 0, none⟩) n n) n (List.replicate n 0) 0 := by
  refine ⟨?_, ?_, ((OwnS.made0 w n _ hn).alloc _).alloc _, by simp [Value.ownBlock]; omega, by simp [Value.ownBlock], by omega, by omega, by omega⟩
  · show (((w.heap.push _).push _).push _)[w.heap.size + 1 + 1]? = _
    rw [Array.getElem?_push, if_pos (by simp)]
  · show (((w.heap.push _).push _).push _)[w.heap.size + 1]? = _
    rw [Array.getElem?_push, if_neg (by simp), Array.getElem?_push, if_pos (by simp)]

/-- What collect's loop keeps. -/
structure ColI (w : World) (B C D : Nat) (v : Value) (n : Nat) (f : Nat → Int) (k : Nat) (o : List Nat) (c : Int) : Prop where
  put : PutI w B C D v n o c
  lm : Lm o
  sum : (lval (o.take k) : Int) + c * (Bs : Int) ^ k = sumB f k
  lo : -4000000000 ≤ c
  hi : c ≤ 4000000000
theorem ColI.step {w w' : World} {B C D : Nat} {v : Value} {n : Nat} {f : Nat → Int} {k : Nat} {o : List Nat} {c : Int} (h : ColI w B C D v n f k o c) (hk : k < n) {m : Int} (hm : m = f k + c) (hf0 : -2000000000000000000 ≤ f k) (hf1 : f k ≤ 2000000000000000000)
    {d : Nat} {c' : Int} (e : m = (d : Int) + 1000000000 * c') (hd : d < 1000000000) (hp : PutI w' B C D v n (o.set k d) c') : ColI w' B C D v n f (k + 1) (o.set k d) c' := by
  have h1 := h.lo
  have h2 := h.hi
  exact ⟨hp, h.lm.set hd k, carry_step (by rw [h.put.len]; exact hk) h.sum (by rw [← hm]; exact e), by omega, by omega⟩
theorem ColI.done {w : World} {B C D : Nat} {v : Value} {n : Nat} {f : Nat → Int} {o : List Nat} {c : Int} (h : ColI w B C D v n f n o c) {V : Nat} (hV : sumB f n = (V : Int)) (hlt : V < Bs ^ n) : lval o = V :=
  carry_end h.put.len h.lm h.sum hV hlt
theorem PutI.slice {w : World} {B C D : Nat} {v : Value} {n : Nat} {o : List Nat} {c : Int} (h : PutI w B C D v n o c) : SliceOf vN 1 w v o :=
  OwnS.slice vN_len (B := B) (by rw [h.len]; exact h.o)
/-- What add, sub and times leave: a slice of their own. -/
def LimF (w : World) (V : Nat) (e : Ending) (w' : World) : Prop := ∃ v, e = .returned v ∧ SliceOf vN 1 w' v (lim V) ∧ Below w.heap.size w w' ∧ ∀ k, v.ownBlock = some k → w.heap.size ≤ k
def LimPost (w : World) (V : Nat) (e : Ending) (w' : World) : Prop := ∃ v, e = .returned v ∧ SliceOf vN 1 w' v (lim V) ∧ Below w.heap.size w w'

set_option maxHeartbeats 2000000 in
set_option maxRecDepth 100000 in
theorem collect_any (F : FuncId) (c1 c2 : Value) (f : Nat → Int) (n V : Nat) (w : World) (hn : n ≤ 1000000)
    (hE : ∀ args w, (callFunc F args).run Tryz.prog w = .ok (.enter F args) w)
    (hF : ∀ i w', i < n → Below w.heap.size w w' → Calls Tryz.prog F #[.int .i64 (i : Int), c1, c2] w' fun e w'' => e = .returned (.int .i64 (f i)) ∧ ∃ m, w'.drewN m = w'')
    (hf0 : ∀ i, i < n → -2000000000000000000 ≤ f i) (hf1 : ∀ i, i < n → f i ≤ 2000000000000000000) (hV : sumB f n = (V : Int)) (hlt : V < Bs ^ n) :
    Calls Tryz.prog 116 #[.int .i64 (n : Int), .func (.func F) #[] #[c1, c2]] w (LimF w V) := by
  have hmk := run_make_row' (P := Tryz.prog) 103 3 (.int .i64 0) 8 Tryz.underlying103 Tryz.infoInt rfl .i64 .i64 n (by omega) (by omega)
  have HPM := hide (PutI.made w n (by unfold maxLen; omega))
  have HF := hide hF
  have H0 := hide hf0
  have H1 := hide hf1
  have HV := hide hV
  have HL := hide hlt
  clear hF hf0 hf1 hV hlt
  go_enter Tryz.func116, Tryz.ntmps116
  go_wp2_with fail
  clear hmk
  go_loopw [13] (fun x wx => ∃ (k : Nat) (o : List Nat) (c : Int), k ≤ n ∧ x = .int .i64 (k : Int) ∧ ColI wx w.heap.size (w.heap.size + 1 + 1) (w.heap.size + 1) (.slice (some ⟨w.heap.size, 0, none⟩) n n) n f k o c ∧ Below w.heap.size w wx) (fun x _ => n - (intOf x).toNat)
  case atStart => exact ⟨0, _, 0, Nat.zero_le _, rfl, ⟨HPM.out, Lm.zeros n, by simp [sumB, lval], by omega, by omega⟩, (((Below.refl _ w).alloc (Nat.le_refl _) _).alloc (by simp) _).alloc (by simp; omega) _⟩
  case round =>
    obtain ⟨k, o, c, hk, rfl, hc, hbl⟩ := hrel
    have HC := hide hc
    have HB := hide hbl
    clear hc hbl HPM
    by_cases hkn : k < n
    · have hki : (k : Int) < (n : Int) := by omega
      go_wp2_with fail
      refine (HF.out k _ hkn HB.out).mono ?_
      rintro e w1 ⟨rfl, m, rfl⟩
      have q1 := H0.out k hkn
      have q2 := H1.out k hkn
      have q3 := HC.out.lo
      have q4 := HC.out.hi
      go_wp2_with fail
      refine (put_any w.heap.size (w.heap.size + 1 + 1) (w.heap.size + 1) _ n k o (f k) c _ (HC.out.put.below (below_drewN (Below.refl _ _) m)) hkn q1 q2 (by omega) (by omega)).mono ?_
      rintro e w2 ⟨rfl, hb2, d, c', e1, e2, hp⟩
      have HS := hide (HC.out.step hkn rfl q1 q2 e1 e2 hp)
      have HB2 := hide ((below_drewN HB.out m).trans hb2)
      clear e1 e2 hp hb2 q1 q2 q3 q4
      go_wp2_with fail
      go_roundw
      case rel => exact ⟨k + 1, _, c', by omega, by go_num, HS.out, HB2.out⟩
      case measure => (simp [intOf]; try omega)
    · obtain rfl : k = n := by omega
      have d0 := (cells_of_block HC.out.put.d 0).1
      simp only [List.getElem?_toArray, List.getElem?_cons_zero] at d0
      have hl := HC.out.put.len
      have HV2 := hide (HC.out.done HV.out HL.out)
      have HLN := hide hl
      clear hl
      go_wp2_with fail
      refine (trimmed_any o _ _ HC.out.put.slice (by rw [HLN.out]; exact hn) HC.out.lm).mono ?_
      rintro e w1 ⟨⟨v', rfl, hs, ho⟩, rfl⟩
      rw [HV2.out] at hs
      have HS := hide hs
      have HO : Hid (∀ q, v'.ownBlock = some q → w.heap.size ≤ q) := fun q hq => by
        rw [ho] at hq
        simp only [Value.ownBlock, Option.some.injEq] at hq
        omega
      clear hs ho
      go_wp2_with fail
      go_ret
      exact ⟨_, rfl, HS.out, HB.out, HO.out⟩
end Go.Proofs.YtblpnekjnaaeoaaGreatDoor
