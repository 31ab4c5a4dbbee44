/- debt: a map of sets. -/
import Derived.Test.YtlagoiaiodjmhaaGreatDoorDeG
set_option linter.unusedVariables false
set_option linter.unusedSimpArgs false
namespace Go.Proofs.YtlagoiaiodjmhaaGreatDoor
open Go.RowKit Go.Maps

theorem Tryz.keyed3D : Keyed Tryz.prog 3 := int_keyed Tryz.underlying3
/-- Block B is a map[int]bool of c keys: those with f, all true. -/
def SMap (w : World) (B n c : Nat) (f : Int → Bool) : Prop :=
  ∃ D : DataW Value, w.ownsMap Tryz.prog 3 rV B n D ∧ IsMap D ∧ Maps.size D = c ∧ ∀ p, Maps.has D (kI p) = f p
theorem SMap.made (w : World) : SMap (w.alloc (.map #[] 0)) w.heap.size 0 0 fun _ => false := ⟨.map [], World.ownsMap_made w _ _ _, isMap_empty, rfl, fun _ => rfl⟩
theorem SMap.lt {w : World} {B n c : Nat} {f : Int → Bool} (h : SMap w B n c f) : B < w.heap.size := by obtain ⟨D, h1, _⟩ := h; exact h1.lt
theorem SMap.kept {w w' : World} {B n c : Nat} {f : Int → Bool} {row : Option Nat} (h : SMap w B n c f) (hg : w.grownBy w' row) (hne : some B ≠ row) : SMap w' B n c f := by
  obtain ⟨D, h1, h2, h3⟩ := h
  exact ⟨D, h1.kept hg hne, h2, h3⟩
theorem SMap.mono {w : World} {B n n' c : Nat} {f : Int → Bool} (h : SMap w B n c f) (hn : n ≤ n') : SMap w B n' c f := by
  obtain ⟨D, h1, h2, h3⟩ := h
  exact ⟨D, h1.mono hn, h2, h3⟩
theorem SMap.congr {w : World} {B n c c' : Nat} {f g : Int → Bool} (h : SMap w B n c f) (e : ∀ p, f p = g p) (ec : c = c') : SMap w B n c' g := by
  have : f = g := funext e
  rw [← this, ← ec]; exact h
theorem SMap.store {w : World} {B n c : Nat} {f : Int → Bool} (h : SMap w B n c f) {T : TypeId} (ht : Tryz.prog.underlying T = some (.map 3 4)) (hn : n < maxLen) {p : Int} (hp : inI64 p) :
    ∃ w', (Instr.mapUpdate T (.map (some B)) (.int .i64 p) (.bool true)).run Tryz.prog w = .ok () w' ∧ SMap w' B (n + 1) (if f p then c else c + 1) (fun q => decide (q = p) || f q) ∧ w.grownBy w' (some B) := by
  obtain ⟨D, h1, h2, h3, h4⟩ := h
  obtain ⟨w', hrun, r1, r2⟩ := h1.update Tryz.keyed3D ht hn (keyI hp) (val := .bool true) (d := .held (.bool true)) (ps := []) rfl
  refine ⟨w', hrun, ⟨_, r1, h2.put _ _, ?_, fun q => ?_⟩, r2⟩
  · rw [size_put (h1.tidy Tryz.keyed3D), h3]
    have e := h4 p
    unfold kI at e
    rw [e]
  · show Maps.has _ _ = (decide (q = p) || f q)
    by_cases e : q = p
    · subst e
      rw [decide_eq_true rfl, Bool.true_or]
      exact has_put_same h2 (keyI_lit q) _
    · rw [decide_eq_false e, Bool.false_or, ← h4 q]
      exact has_put_other (fun h => e (kI_inj _ _ h)) _
theorem SMap.len {w : World} {B n c : Nat} {f : Int → Bool} (h : SMap w B n c f) {T : TypeId} (ht : Tryz.prog.underlying T = some (.map 3 4)) (ty : TypeId) : (Builtin.len_ #[T] ty #[.map (some B)]).run Tryz.prog w = .ok (.int .i64 (c : Int)) w := by
  obtain ⟨D, h1, h2, h3, h4⟩ := h
  rw [← h3]
  exact h1.len ht ty
def outM (U : Int → Bool) (bk : Int → Nat) (x : Int) : Option Value := if U x = true then some (.map (some (bk x))) else none
/-- Block M is a map of maps: the keys with U; that of key x is in block bk x and has the keys with F x. -/
structure ShM (w : World) (M n : Nat) (U : Int → Bool) (F : Int → Int → Bool) (bk : Int → Nat) : Prop where
  map : VMap w 3 M n kI (outM U bk)
  inn : ∀ x, U x = true → SMap w (bk x) n (cntN 64 fun p => F x (p : Int)) (F x)
  ap : ∀ x y, U x = true → U y = true → bk x = bk y → x = y
  lo : ∀ x, U x = true → M < bk x
theorem ShM.zero (w : World) (F : Int → Int → Bool) : ShM (w.alloc (.map #[] 0)) w.heap.size 0 (fun _ => false) F (fun _ => 0) :=
  ⟨(VMap.made w 3 kI).congr (fun x => by unfold outM; rw [if_neg (by simp)]), fun x h => (by cases h), fun x y h => (by cases h), fun x h => (by cases h)⟩
theorem ShM.kept {w w' : World} {M n : Nat} {U : Int → Bool} {F : Int → Int → Bool} {bk : Int → Nat} {row : Option Nat} (h : ShM w M n U F bk) (hg : w.grownBy w' row) (h1 : some M ≠ row) (h2 : ∀ x, U x = true → some (bk x) ≠ row) : ShM w' M n U F bk :=
  ⟨h.map.kept hg h1, fun x hx => (h.inn x hx).kept hg (h2 x hx), h.ap, h.lo⟩
theorem ShM.below {w w' : World} {M n : Nat} {U : Int → Bool} {F : Int → Int → Bool} {bk : Int → Nat} (h : ShM w M n U F bk) (hb : Below w.heap.size w w') : ShM w' M n U F bk :=
  h.kept (row := none) ⟨hb.os, hb.tape, hb.output, hb.size, fun k hk _ => hb.block k hk⟩ (by simp) (fun _ _ => by simp)
theorem ShM.mono {w : World} {M n n' : Nat} {U : Int → Bool} {F : Int → Int → Bool} {bk : Int → Nat} (h : ShM w M n U F bk) (hn : n ≤ n') : ShM w M n' U F bk :=
  ⟨h.map.mono hn, fun x hx => (h.inn x hx).mono hn, h.ap, h.lo⟩
theorem ShM.congr {w : World} {M n : Nat} {U U' : Int → Bool} {F F' : Int → Int → Bool} {bk : Int → Nat} (h : ShM w M n U F bk) (e : ∀ x, U x = U' x) (e2 : ∀ x, U x = true → ∀ p, F x p = F' x p) : ShM w M n U' F' bk := by
  have : U = U' := funext e
  subst this
  refine ⟨h.map, fun x hx => ?_, h.ap, h.lo⟩
  have e3 : F x = F' x := funext (e2 x hx)
  rw [← e3]
  exact h.inn x hx
/-- A new key, with an empty set. -/
theorem ShM.open_ {w w1 w2 : World} {M n : Nat} {U : Int → Bool} {F : Int → Int → Bool} {bk : Int → Nat} (h : ShM w M n U F bk) {x : Int} (hx : U x = false) {nb : Nat} (hnb : w.heap.size = nb) (hw1 : w.alloc (.map #[] 0) = w1)
    (hm : VMap w2 3 M (n + 1) kI (updL (outM U bk) x (.map (some nb)))) (hg : w1.grownBy w2 (some M)) :
    ShM w2 M (n + 1) (fun y => decide (y = x) || U y) (fun y p => if y = x then false else F y p) (fun y => if y = x then nb else bk y) := by
  subst hnb hw1
  have hlt : M < w.heap.size := h.map.lt
  have hall : ∀ y, U y = true → bk y < w.heap.size := fun y hy => (h.inn y hy).lt
  have hne : ∀ y, U y = true → y ≠ x := fun y hy e => by rw [e, hx] at hy; cases hy
  have hU : ∀ y, (decide (y = x) || U y) = true → y ≠ x → U y = true := fun y hy e => by rw [decide_eq_false e, Bool.false_or] at hy; exact hy
  refine ⟨hm.congr (fun y => ?_), fun y hy => ?_, fun y z hy hz e => ?_, fun y hy => ?_⟩
  · by_cases e : y = x
    · subst e; simp [updL, outM]
    · simp [updL, outM, e]
  · try dsimp only
    by_cases e : y = x
    · subst e
      rw [if_pos rfl]
      refine ((SMap.made w).kept hg (by simp; omega)).congr (fun p => by rw [if_pos rfl]) ?_ |>.mono (Nat.zero_le _)
      simp only [if_true]
      exact (cntN_zero 64).symm
    · rw [if_neg e]
      have h1 := h.inn y (hU y hy e)
      have h2 := (h1.kept (World.grownBy_alloc w (.map #[] 0) none) (by simp)).kept hg (by have := h.lo y (hU y hy e); simp; omega)
      exact (h2.mono (Nat.le_succ n)).congr (fun p => by rw [if_neg e]) (by simp only [if_neg e])
  · try dsimp only at e
    by_cases ey : y = x <;> by_cases ez : z = x
    · rw [ey, ez]
    · rw [if_pos ey, if_neg ez] at e
      have := hall z (hU z hz ez); omega
    · rw [if_neg ey, if_pos ez] at e
      have := hall y (hU y hy ey); omega
    · rw [if_neg ey, if_neg ez] at e
      exact h.ap y z (hU y hy ey) (hU z hz ez) e
  · try dsimp only
    by_cases e : y = x
    · rw [if_pos e]; exact hlt
    · rw [if_neg e]; exact h.lo y (hU y hy e)
/-- One more key in the set of a key. -/
theorem ShM.add {w w2 : World} {M n : Nat} {U : Int → Bool} {F : Int → Int → Bool} {bk : Int → Nat} (h : ShM w M n U F bk) {x p : Int} (hx : U x = true) (hp0 : 0 ≤ p) (hp1 : p ≤ 63)
    (hm : SMap w2 (bk x) (n + 1) (if F x p then cntN 64 (fun q => F x (q : Int)) else cntN 64 (fun q => F x (q : Int)) + 1) (fun q => decide (q = p) || F x q)) (hg : w.grownBy w2 (some (bk x))) :
    ShM w2 M (n + 1) U (fun y q => if y = x then decide (q = p) || F x q else F y q) bk := by
  refine ⟨(h.map.kept hg (by have := h.lo x hx; simp; omega)).mono (Nat.le_succ n), fun y hy => ?_, h.ap, h.lo⟩
  try dsimp only
  by_cases e : y = x
  · subst e
    refine hm.congr (fun q => by rw [if_pos rfl]) ?_
    simp only [if_true]
    obtain ⟨pn, rfl⟩ : ∃ pn : Nat, p = (pn : Int) := ⟨p.toNat, by omega⟩
    by_cases hf : F y (pn : Int) = true
    · rw [if_pos hf]
      refine cntN_congr fun q _ => ?_
      by_cases e : (q : Int) = (pn : Int)
      · rw [decide_eq_true e, Bool.true_or, e]; exact hf
      · rw [decide_eq_false e, Bool.false_or]
    · rw [if_neg hf]
      refine (cntN_new (p := pn) (by omega) (by simpa using hf) (by rw [decide_eq_true rfl, Bool.true_or]) (fun q hq => ?_)).symm
      rw [decide_eq_false (fun e : (q : Int) = (pn : Int) => hq (by omega)), Bool.false_or]
  · have h1 := ((h.inn y hy).kept hg (fun e2 => by injection e2 with e2; exact e (h.ap y x hy hx e2))).mono (Nat.le_succ n)
    exact h1.congr (fun q => by rw [if_neg e]) (by simp only [if_neg e])
end Go.Proofs.YtlagoiaiodjmhaaGreatDoor
