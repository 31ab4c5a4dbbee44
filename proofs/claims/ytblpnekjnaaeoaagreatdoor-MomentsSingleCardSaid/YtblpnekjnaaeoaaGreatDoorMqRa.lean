/- Contracts of mixtures. -/
import Derived.Test.YtblpnekjnaaeoaaGreatDoorMqP
set_option linter.unusedVariables false
set_option linter.unusedSimpArgs false
namespace Go.Proofs.YtblpnekjnaaeoaaGreatDoor
open Go.RowKit

/-- A mixture of two, at the literals of its call. -/
def KMix (w : World) (x y : T3) (va vb : Value) (s : List PQ) : Prop := ∀ W, Below w.heap.size w W → Calls Tryz.prog 18 #[.slice (some ⟨W.heap.size, 0, none⟩) 2 2, .slice (some ⟨W.heap.size + 1, 0, none⟩) 2 2] ((W.alloc (.cells #[.bool x.1, .string x.2.1, .string x.2.2, .bool y.1, .string y.2.1, .string y.2.2] 29)).alloc (.cells #[va, vb] 22)) fun e w' => ∃ so cp, e = .returned (.tuple #[.slice so s.length cp, .int .i64 0]) ∧ SliceOf vPr 6 w' (.slice so s.length cp) (s.map encP) ∧ Below W.heap.size W w'
def KShr (w : World) (x y : Int) (u v : T3) : Prop := ∀ W, Below w.heap.size w W → Calls Tryz.prog 25 #[.int .u8 x, .int .u8 y] W fun e w' => e = .returned (.tuple #[.agg #[.bool u.1, .string u.2.1, .string u.2.2], .agg #[.bool v.1, .string v.2.1, .string v.2.2]]) ∧ Below W.heap.size W w'
theorem mix_later {p q : Rat} {a b s : List PQ} {va vb : Value} {w : World} (hL : LawM w) (hsa : SliceOf vPr 6 w va (a.map encP)) (hsb : SliceOf vPr 6 w vb (b.map encP)) (hx : XD [rqM p, rqM q] [a.map encP, b.map encP] [p, q] [a, b]) (hr : resO (itM [p, q] [a, b]) = some s) : KMix w (rqM p) (rqM q) va vb s := fun W hW => by
  have hb1 := bAlloc hW (.cells #[.bool (rqM p).1, .string (rqM p).2.1, .string (rqM p).2.2, .bool (rqM q).1, .string (rqM q).2.1, .string (rqM q).2.2] 29)
  have hb2 := bAlloc hb1 (.cells #[va, vb] 22)
  have hbW := bAlloc (bAlloc (Below.refl W.heap.size W) (.cells #[.bool (rqM p).1, .string (rqM p).2.1, .string (rqM p).2.2, .bool (rqM q).1, .string (rqM q).2.1, .string (rqM q).2.2] 29)) (.cells #[va, vb] 22)
  have h1 := lls_two 22 (hsa.below hb1) (hsb.below hb1)
  rw [World.size_alloc] at h1
  refine (mo_Mix [rqM p, rqM q] [a.map encP, b.map encP] (show 2 ≤ 2000 by decide) (fun x hx' => ?_) (fun M hM => ?_) _ _ _ (hL.below hb2) ((two_rats W (rqM p) (rqM q) _).below (bAlloc (Below.refl _ _) _)) h1).mono ?_
  · rcases List.mem_cons.1 hx' with rfl | hx'
    · exact rqM_size (hx.fw _ (List.mem_cons_self ..)).1
    · rw [List.mem_singleton.1 hx']
      exact rqM_size (hx.fw _ (List.mem_cons_of_mem _ (List.mem_cons_self ..))).1
  · rcases List.mem_cons.1 hM with rfl | hM
    · exact encP_size (hx.vl a (List.mem_cons_self ..)).vl.fit
    · rw [List.mem_singleton.1 hM]
      exact encP_size (hx.vl b (List.mem_cons_of_mem _ (List.mem_cons_self ..))).vl.fit
  rintro e w' hp
  have hp := mix_ok hx hp
  rw [hr] at hp
  obtain ⟨so, cp, h1, h2, h3⟩ := hp
  exact ⟨so, cp, h1, h2, bStepM hbW h3⟩
end Go.Proofs.YtblpnekjnaaeoaaGreatDoor
