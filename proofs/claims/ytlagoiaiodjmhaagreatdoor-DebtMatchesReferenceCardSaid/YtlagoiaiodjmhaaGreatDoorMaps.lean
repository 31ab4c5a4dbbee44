/- Maps that the call itself has made, whatever their elements: block B holds a map that takes a key to a value by a function. -/
import Derived.Test.YtlagoiaiodjmhaaGreatDoorPkA
import Derived.Maps.OwnSet
import Derived.Maps.Views
set_option linter.unusedVariables false
set_option linter.unusedSimpArgs false
namespace Go.Proofs.YtlagoiaiodjmhaaGreatDoor
open Go.RowKit Go.Maps

def rV (v : Value) : Option (DataW Value × List MemPlace) := some (.held v, [])
section
variable {α : Type}
/-- Block B is a map of at most n entries, with keys of type K: key k has the value g k. -/
def VMap (w : World) (K : TypeId) (B n : Nat) (kf : α → Lit) (g : α → Option Value) : Prop :=
  ∃ D : DataW Value, w.ownsMap Tryz.prog K rV B n D ∧ IsMap D ∧ ∀ k, Maps.has D (kf k) = (g k).isSome ∧ ∀ v, g k = some v → ∀ z, D.atKey (kf k) z = .held v

theorem VMap.made (w : World) (K : TypeId) (kf : α → Lit) : VMap (w.alloc (.map #[] 0)) K w.heap.size 0 kf fun _ => none :=
  ⟨.map [], World.ownsMap_made w _ _ _, isMap_empty, fun k => ⟨rfl, fun v h => by cases h⟩⟩
theorem VMap.lt {w : World} {K : TypeId} {B n : Nat} {kf : α → Lit} {g : α → Option Value} (h : VMap w K B n kf g) : B < w.heap.size := by
  obtain ⟨D, h1, _⟩ := h
  exact h1.lt
theorem VMap.kept {w w' : World} {K : TypeId} {B n : Nat} {kf : α → Lit} {g : α → Option Value} {row : Option Nat} (h : VMap w K B n kf g) (hg : w.grownBy w' row) (hne : some B ≠ row) : VMap w' K B n kf g := by
  obtain ⟨D, h1, h2, h3⟩ := h
  exact ⟨D, h1.kept hg hne, h2, h3⟩
theorem VMap.below {w w' : World} {K : TypeId} {B n : Nat} {kf : α → Lit} {g : α → Option Value} (h : VMap w K B n kf g) (hb : Below w.heap.size w w') : VMap w' K B n kf g :=
  h.kept (row := none) ⟨hb.os, hb.tape, hb.output, hb.size, fun k hk _ => hb.block k hk⟩ (by simp)
theorem VMap.alloc {w : World} {K : TypeId} {B n : Nat} {kf : α → Lit} {g : α → Option Value} (h : VMap w K B n kf g) (o : Obj) : VMap (w.alloc o) K B n kf g := h.kept (World.grownBy_alloc w o none) (by simp)
theorem VMap.drewN {w : World} {K : TypeId} {B n : Nat} {kf : α → Lit} {g : α → Option Value} (h : VMap w K B n kf g) (m : Nat) : VMap (w.drewN m) K B n kf g :=
  h.kept (row := none) ⟨rfl, rfl, rfl, Nat.le_refl _, fun _ _ _ => rfl⟩ (by simp)
theorem VMap.setCell {w : World} {K : TypeId} {B n : Nat} {kf : α → Lit} {g : α → Option Value} (h : VMap w K B n kf g) {a : Addr} (hne : B ≠ a.block) (u : Value) : VMap (w.setCell a u) K B n kf g :=
  h.kept (row := some a.block) ⟨rfl, rfl, rfl, by simp, fun k _ hk => Below.heap_setCell _ _ _ _ fun e => hk (by rw [e])⟩ (fun e => hne (by simpa using e))
theorem VMap.mono {w : World} {K : TypeId} {B n n' : Nat} {kf : α → Lit} {g : α → Option Value} (h : VMap w K B n kf g) (hn : n ≤ n') : VMap w K B n' kf g := by
  obtain ⟨D, h1, h2, h3⟩ := h
  exact ⟨D, h1.mono hn, h2, h3⟩
theorem VMap.congr {w : World} {K : TypeId} {B n : Nat} {kf : α → Lit} {g g' : α → Option Value} (h : VMap w K B n kf g) (e : ∀ k, g k = g' k) : VMap w K B n kf g' := by
  have : g = g' := funext e
  rw [← this]; exact h

theorem VMap.look {w : World} {K E T : TypeId} {B n : Nat} {kf : α → Lit} {g : α → Option Value} (h : VMap w K B n kf g) (hK : Keyed Tryz.prog K) (ht : Tryz.prog.underlying T = some (.map K E)) {z : Value} (hz : (zeroValue E).run Tryz.prog w = .ok z w)
    {key : Value} {kl : α} (hkey : keyOf Tryz.prog K key = some (kf kl)) : (Instr.lookup T (.map (some B)) key false).run Tryz.prog w = .ok ((g kl).getD z) w := by
  obtain ⟨D, h1, h2, h3⟩ := h
  obtain ⟨v, ps, hrun, hv⟩ := h1.lookup hK ht hz (zd := .held z) (zp := []) rfl hkey
  obtain ⟨h4, h5⟩ := h3 kl
  rw [hrun]
  simp only [rV, Option.some.injEq, Prod.mk.injEq] at hv
  cases hg : g kl with
  | none =>
    rw [hg] at h4
    rw [atKey_of_not_has h4] at hv
    have : v = z := by simpa using hv.1
    rw [this]; rfl
  | some u =>
    rw [h5 u hg] at hv
    have : v = u := by simpa using hv.1
    rw [this]; rfl
theorem VMap.look_ok {w : World} {K E T : TypeId} {B n : Nat} {kf : α → Lit} {g : α → Option Value} (h : VMap w K B n kf g) (hK : Keyed Tryz.prog K) (ht : Tryz.prog.underlying T = some (.map K E)) {z : Value} (hz : (zeroValue E).run Tryz.prog w = .ok z w)
    {key : Value} {kl : α} (hkey : keyOf Tryz.prog K key = some (kf kl)) : (Instr.lookup T (.map (some B)) key true).run Tryz.prog w = .ok (.tuple #[(g kl).getD z, .bool (g kl).isSome]) w := by
  obtain ⟨D, h1, h2, h3⟩ := h
  obtain ⟨v, ps, hrun, hv⟩ := h1.look_ok hK ht hz (zd := .held z) (zp := []) rfl hkey
  obtain ⟨h4, h5⟩ := h3 kl
  rw [hrun, h4]
  simp only [rV, Option.some.injEq, Prod.mk.injEq] at hv
  cases hg : g kl with
  | none =>
    rw [hg] at h4
    rw [atKey_of_not_has h4] at hv
    have : v = z := by simpa using hv.1
    rw [this]; rfl
  | some u =>
    rw [h5 u hg] at hv
    have : v = u := by simpa using hv.1
    rw [this]; rfl
def updL [DecidableEq α] (g : α → Option Value) (kl : α) (v : Value) (k : α) : Option Value := if k = kl then some v else g k
theorem VMap.store [DecidableEq α] {w : World} {K E T : TypeId} {B n : Nat} {kf : α → Lit} {g : α → Option Value} (h : VMap w K B n kf g) (hK : Keyed Tryz.prog K) (ht : Tryz.prog.underlying T = some (.map K E)) (hn : n < maxLen)
    {key val : Value} {kl : α} (hkey : keyOf Tryz.prog K key = some (kf kl)) (hl : WideAt.IsKeyLit (kf kl)) (hinj : ∀ a b, kf a = kf b → a = b) :
    ∃ w', (Instr.mapUpdate T (.map (some B)) key val).run Tryz.prog w = .ok () w' ∧ VMap w' K B (n + 1) kf (updL g kl val) ∧ w.grownBy w' (some B) := by
  obtain ⟨D, h1, h2, h3⟩ := h
  obtain ⟨w', hrun, r1, r2⟩ := h1.update hK ht hn hkey (val := val) (d := .held val) (ps := []) rfl
  refine ⟨w', hrun, ⟨_, r1, h2.put _ _, fun k => ?_⟩, r2⟩
  unfold updL
  by_cases e : k = kl
  · subst e
    rw [if_pos rfl]
    refine ⟨has_put_same h2 hl _, fun v hv z => ?_⟩
    obtain rfl : val = v := by simpa using hv
    exact atKey_put_same h2 hl _ z
  · rw [if_neg e]
    refine ⟨by rw [has_put_other (fun h => e (hinj _ _ h))]; exact (h3 k).1, fun v hv z => ?_⟩
    rw [atKey_put_other (fun h => e (hinj _ _ h))]
    exact (h3 k).2 v hv z

section
variable {ops : Array Oper} {rest : List Oper} {o : Oper} {a : Act} {Q : Exit → Act → World → Prop}
/-- 'm[k]' in a plain region. -/
theorem wpList_look (w : World) (hg : o.guard = none) (m x : Operand) (T : TypeId) (hop : o.op = Op.lookup T m x false)
    (K E : TypeId) (hK : Keyed Tryz.prog K) (ht : Tryz.prog.underlying T = some (.map K E)) {z : Value} (hz : (zeroValue E).run Tryz.prog w = .ok z w) (B n : Nat) (kf : α → Lit) (g : α → Option Value)
    (hm : a.eval m = .map (some B)) (h : VMap w K B n kf g) (key : Value) (kl : α) (hx : a.eval x = key) (hkey : keyOf Tryz.prog K key = some (kf kl))
    (hk : wpList Tryz.prog ops Q rest (a.put o.dst ((g kl).getD z)) w) : wpList Tryz.prog ops Q (o :: rest) a w := by
  refine wpList_plain hg fun K' hK' => ?_
  have hrun := h.look hK ht hz hkey
  unfold Oper.wp
  simp [execOp, hop, hm, hx, hrun, Result.andThen]
  exact hK' _ _ hk
/-- 'v, ok := m[k]' in a plain region. -/
theorem wpList_look_ok (w : World) (hg : o.guard = none) (m x : Operand) (T : TypeId) (hop : o.op = Op.lookup T m x true)
    (K E : TypeId) (hK : Keyed Tryz.prog K) (ht : Tryz.prog.underlying T = some (.map K E)) {z : Value} (hz : (zeroValue E).run Tryz.prog w = .ok z w) (B n : Nat) (kf : α → Lit) (g : α → Option Value)
    (hm : a.eval m = .map (some B)) (h : VMap w K B n kf g) (key : Value) (kl : α) (hx : a.eval x = key) (hkey : keyOf Tryz.prog K key = some (kf kl))
    (hk : wpList Tryz.prog ops Q rest (a.put o.dst (.tuple #[(g kl).getD z, .bool (g kl).isSome])) w) : wpList Tryz.prog ops Q (o :: rest) a w := by
  refine wpList_plain hg fun K' hK' => ?_
  have hrun := h.look_ok hK ht hz hkey
  unfold Oper.wp
  simp [execOp, hop, hm, hx, hrun, Result.andThen]
  exact hK' _ _ hk
theorem wpList_look_ok_at (w : World) (hg : o.guard = none) (m x : Operand) (T : TypeId) (hop : o.op = Op.lookup T m x true)
    (K E : TypeId) (hK : Keyed Tryz.prog K) (ht : Tryz.prog.underlying T = some (.map K E)) {z : Value} (hz : (zeroValue E).run Tryz.prog w = .ok z w) (B n : Nat) (kf : α → Lit) (g : α → Option Value)
    (hm : a.eval m = .map (some B)) (h : VMap w K B n kf g) (key : Value) (kl : α) (hx : a.eval x = key) (hkey : keyOf Tryz.prog K key = some (kf kl)) (v0 : Value) (b0 : Bool) (hv : (g kl).getD z = v0) (hb : (g kl).isSome = b0)
    (hk : wpList Tryz.prog ops Q rest (a.put o.dst (.tuple #[v0, .bool b0])) w) : wpList Tryz.prog ops Q (o :: rest) a w := by
  subst hv hb
  exact wpList_look_ok w hg m x T hop K E hK ht hz B n kf g hm h key kl hx hkey hk
/-- 'm[k] = v' in a plain region. -/
theorem wpList_mapStore [DecidableEq α] (w : World) (hg : o.guard = none) (m x v : Operand) (T : TypeId) (hop : o.op = Op.mapUpdate T m x v)
    (K E : TypeId) (hK : Keyed Tryz.prog K) (ht : Tryz.prog.underlying T = some (.map K E)) (B n : Nat) (kf : α → Lit) (g : α → Option Value)
    (hm : a.eval m = .map (some B)) (h : VMap w K B n kf g) (hn : n < maxLen) (key val : Value) (kl : α) (hx : a.eval x = key) (hv : a.eval v = val) (hkey : keyOf Tryz.prog K key = some (kf kl)) (hl : WideAt.IsKeyLit (kf kl)) (hinj : ∀ a b, kf a = kf b → a = b)
    (hk : ∀ w', VMap w' K B (n + 1) kf (updL g kl val) → w.grownBy w' (some B) → wpList Tryz.prog ops Q rest (a.put o.dst undef) w') : wpList Tryz.prog ops Q (o :: rest) a w := by
  refine wpList_plain hg fun K' hK' => ?_
  obtain ⟨w', hrun, r1, r2⟩ := h.store hK ht hn (val := val) hkey hl hinj
  unfold Oper.wp
  simp [execOp, hop, hm, hx, hv, hrun, Result.andThen]
  exact hK' _ _ (hk w' r1 r2)
end

end

theorem Tryz.keyed3 : Keyed Tryz.prog 3 := int_keyed Tryz.underlying3
theorem keyI {x : Int} (h : inI64 x) : keyOf Tryz.prog 3 (.int .i64 x) = some (.int .i64 x) :=
  keyOf_int_mk Tryz.underlying3 (by unfold inI64 at h; simp [Lit.wf, IntKind.min, IntKind.max, IntKind.signed, IntKind.bits]; omega)
theorem keyI_lit (x : Int) : WideAt.IsKeyLit (.int .i64 x) := by simp [WideAt.IsKeyLit]
def kI (x : Int) : Lit := .int .i64 x
theorem kI_inj (a b : Int) (h : kI a = kI b) : a = b := by simpa [kI] using h
end Go.Proofs.YtlagoiaiodjmhaaGreatDoor
