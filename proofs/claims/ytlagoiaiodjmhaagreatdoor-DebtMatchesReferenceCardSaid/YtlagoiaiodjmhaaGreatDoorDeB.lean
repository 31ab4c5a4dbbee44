/- debt: maps by class; mapEntry and entryStore. -/
import Derived.Test.YtlagoiaiodjmhaaGreatDoorDeA
import Derived.Test.YtlagoiaiodjmhaaGreatDoorMaps
import Derived.DeepKeys4
import Derived.WideKeyEntry
set_option linter.unusedVariables false
set_option linter.unusedSimpArgs false
namespace Go.Proofs.YtlagoiaiodjmhaaGreatDoor
open Go.RowKit Go.Maps Go.MapKept Go.ChangeMaps

theorem Tryz.laidOutD : laidOutB Tryz.prog = true := by kernel_rfl
theorem Tryz.lawCl : WideMaps.KeyLaw Tryz.prog 65 := deep_law_laid Tryz.laidOutD (m := 2) (by omega) (of_decide_eq_true (by kernel_rfl)) (by kernel_rfl) (by kernel_rfl)
theorem Tryz.keyedCl : Keyed Tryz.prog 65 := Keyed.of_law Tryz.lawCl
def Cl : Type := {c : Int × Int × Int // inI64 c.1 ∧ inI64 c.2.1 ∧ inI64 c.2.2}
instance : DecidableEq Cl := inferInstanceAs (DecidableEq {c : Int × Int × Int // inI64 c.1 ∧ inI64 c.2.1 ∧ inI64 c.2.2})
def kC (c : Cl) : Lit := .string (keyBytes [.int .i64 c.1.1, .int .i64 c.1.2.1, .int .i64 c.1.2.2])
def vC (c : Cl) : Value := .agg #[.int .i64 c.1.1, .int .i64 c.1.2.1, .int .i64 c.1.2.2]
set_option maxRecDepth 100000 in
theorem keyC (c : Cl) : keyOf Tryz.prog 65 (vC c) = some (kC c) := by
  have w1 : (Lit.int .i64 c.1.1).wf = true := WalkArith.wf_i64 (by have := c.2.1; unfold inI64 at this; omega)
  have w2 : (Lit.int .i64 c.1.2.1).wf = true := WalkArith.wf_i64 (by have := c.2.2.1; unfold inI64 at this; omega)
  have w3 : (Lit.int .i64 c.1.2.2).wf = true := WalkArith.wf_i64 (by have := c.2.2.2; unfold inI64 at this; omega)
  have hu := Tryz.underlying65
  have hu3 := Tryz.underlying3
  have hk : Tryz.prog.keyType 65 = true := by kernel_rfl
  have hc : Tryz.prog.cellsOf 65 = 3 := by kernel_rfl
  have hc3 : Tryz.prog.cellsOf 3 = 1 := by kernel_rfl
  have hf : (vC c).formed Tryz.prog 65 = true := by simp [vC, Value.formed, hu, hc]
  obtain ⟨m, hm⟩ : ∃ m, Tryz.prog.types.size = m + 1 := ⟨Tryz.prog.types.size - 1, by kernel_rfl⟩
  unfold keyOf
  rw [hu]
  simp only [hk, hf, Bool.and_self, if_true, hm]
  unfold Program.keyLits
  rw [hu]
  simp [vC, hc, hc3, Program.keyLits, hu3, w1, w2, w3, kC, List.mapM_cons, Value.cells]
theorem kC_inj (a b : Cl) (h : kC a = kC b) : a = b := by
  have h1 := keyC a
  have h2 := keyC b
  rw [← h] at h2
  have e := Tryz.keyedCl.inj h1 h2
  unfold vC at e
  simp only [Value.agg.injEq, Array.mk.injEq, List.cons.injEq, Value.int.injEq, true_and, and_true] at e
  exact Subtype.ext (Prod.ext e.1 (Prod.ext e.2.1 e.2.2))
section
variable {α : Type}
theorem VMap.at_block {w w' : World} {K : TypeId} {B n : Nat} {kf : α → Lit} {g : α → Option Value} (h : VMap w K B n kf g) (e : w'.heap[B]? = w.heap[B]?) : VMap w' K B n kf g := by
  obtain ⟨D, ⟨es, clock, hb, F, hs, hD⟩, h2, h3⟩ := h
  exact ⟨D, ⟨es, clock, e.trans hb, F, hs, hD⟩, h2, h3⟩
theorem VMap.entry [DecidableEq α] {w : World} {K E T : TypeId} {B n : Nat} {kf : α → Lit} {g : α → Option Value} (h : VMap w K B n kf g) (hL : WideMaps.KeyLaw Tryz.prog K) (ht : Tryz.prog.underlying T = some (.map K E)) (hn : n < maxLen) {z : Value} (hz : ∀ u : World, (zeroValue E).run Tryz.prog u = .ok z u)
    {key : Value} {kl : α} (hkey : keyOf Tryz.prog K key = some (kf kl)) (hinj : ∀ a b, kf a = kf b → a = b) :
    ∃ (st : Nat) (w1 : World), (Instr.mapEntry T (.map (some B)) key).run Tryz.prog w = .ok (.tuple #[(g kl).getD z, goInt st]) w1 ∧ w.grownBy w1 (some B) ∧ w1.heap.size = w.heap.size ∧
      ∀ (w2 : World) (val : Value), w2.heap[B]? = w1.heap[B]? → ∃ w3, (Instr.entryStore T (.map (some B)) (goInt st) val).run Tryz.prog w2 = .ok () w3 ∧ VMap w3 K B (n + 1) kf (updL g kl val) ∧ w2.grownBy w3 (some B) ∧ w3.heap.size = w2.heap.size := by
  have hK := Keyed.of_law hL
  have hlook := h.look hK ht (hz w) hkey
  have hst := fun val => h.store (T := T) (val := val) hK ht hn hkey (hK.key hkey) hinj
  obtain ⟨D, ⟨es, clock, hb, F, hs, hD⟩, h2, h3⟩ := h
  obtain ⟨v0, st, es1, clock1, hrun, hv, hback⟩ := WideElems.entry_then_store hL ht hz hb F hkey
  have hl0 : (Instr.lookup T (.map (some B)) key false).run Tryz.prog w = .ok v0 w := by
    rcases hK.find w hkey es.toList F.keys with ⟨k1, k2⟩ | ⟨j, e0, k1, k2, k3⟩
    · rcases hv with ⟨e1, he1, hk1, rfl⟩ | ⟨_, rfl⟩
      · exact absurd hk1 (k2 e1 he1)
      · simp [Instr.lookup, run_underlying ht, MapKept.run_getObj_map hb, hK.check w _ hkey, k1, hz, Result.andThen]
    · have hm := List.mem_of_getElem? k2
      have e : v0 = e0.val := by
        rcases hv with ⟨e1, he1, hk1, rfl⟩ | ⟨hno, _⟩
        · have := entry_eq_of_key (List.pairwise_map.1 F.stamped.2.2) he1 hm (hk1.trans k3.symm)
          rw [this]
        · exact absurd k3 (hno e0 hm)
      rw [e]
      simp [Instr.lookup, run_underlying ht, MapKept.run_getObj_map hb, hK.check w _ hkey, k1, Result.andThen]
  have e : v0 = (g kl).getD z := by
    rw [hl0] at hlook
    injection hlook
  rw [e] at hrun
  refine ⟨st, _, hrun, ⟨rfl, rfl, rfl, by simp [setBlock], fun i _ hi => heap_setBlock_other hb _ (fun e => hi (by rw [e]))⟩, by simp [setBlock], fun w2 val hw2 => ?_⟩
  rw [heap_setBlock_same hb _] at hw2
  obtain ⟨es', clock', hr1, hr2⟩ := hback w2 val hw2
  obtain ⟨w', hu, hvm, _⟩ := hst val
  rw [hr2] at hu
  injection hu with _ hu
  refine ⟨_, hr1, hvm.at_block ?_, ⟨rfl, rfl, rfl, by simp [setBlock], fun i _ hi => heap_setBlock_other hw2 _ (fun e => hi (by rw [e]))⟩, by simp [setBlock]⟩
  rw [heap_setBlock_same hw2 _, ← hu, heap_setBlock_same hb _]
end
end Go.Proofs.YtlagoiaiodjmhaaGreatDoor
