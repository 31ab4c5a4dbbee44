/- a range over an iterator that writes one cell of its own between the rounds (the cell of the first error): the caller's law. -/
import Derived.Test.YtblpnekjnaaeoaaGreatDoorMoL
import Derived.RangeFuncBox
import Derived.RangeFuncNested
set_option linter.unusedVariables false
set_option linter.unusedSimpArgs false
namespace Go.Proofs.YtblpnekjnaaeoaaGreatDoor
open Go.RowKit

/-- An item of the sequence could not be computed. -/
def Bad {α : Type} (items : List (Option α)) : Prop := ∃ pre : List α, (pre.map some ++ [none]) <+: items
/-- What such an iterator owes. -/
def SeqE {α : Type} (F : Fence) (n : Nat) (P : Program) (g : Nat) (lb : Array Value) (enc : α → Array Value) (Tx : Array Value → Prop) (Kp : World → World → Prop) (items : List (Option α)) (C : Nat) (w : World) : Prop :=
  ∀ (l : Nat) (J : List α → World → Prop) (Jb Jx : World → Prop) (W : World), Below w.heap.size w W →
    (∀ pre X, J pre X → CE X C 0) → (∀ X, Jb X → CE X C 2) →
    (∀ pre X Y, J pre X → X.grownBy Y (some C) → CE Y C 0 → J pre Y) →
    (∀ pre X Y, J pre X → X.grownBy Y (some C) → CE Y C 2 → Bad items → Jb Y) →
    (∀ X Y, Jb X → X.grownBy Y (some C) → CE Y C 2 → Jb Y) →
    (∀ pre x X, J pre X → (pre ++ [x]).map some <+: items → YieldAt F (n - 1) P l (enc x) X fun e Y => e = .returned (.bool true) ∧ (J (pre ++ [x]) Y ∨ Jb Y) ∧ Kp X Y) →
    (∀ av X, Tx av → Jb X → YieldAt F (n - 1) P l av X fun e Y => e = .returned (.bool false) ∧ Jx Y ∧ Kp X Y) →
    J [] W →
    CallsIn F n P g (#[.func (.yield l) #[] #[]] ++ lb) W fun e Y => (∃ v, e = .returned v) ∧ ((∃ xs, items = xs.map some ∧ J xs Y) ∨ Jb Y ∨ Jx Y)
theorem ce_ne {X : World} {C k : Nat} {e : Int} {o : Obj} (h : CE X C e) (hk : X.heap[k]? = some o) (hc : o.isCells = false) : C ≠ k := by
  intro hh
  subst hh
  have hc0 := h.c
  unfold World.cell? at hc0
  simp only [hk] at hc0
  cases o <;> simp_all [Obj.isCells]
theorem ce_heap {X Y : World} {C k : Nat} {e : Int} {o : Obj} (h : CE X C e) (hg : X.grownBy Y (some C)) (hk : X.heap[k]? = some o) (hc : o.isCells = false) : Y.heap[k]? = some o :=
  (hg.block k (Array.getElem?_eq_some_iff.1 hk).1 (fun e => ce_ne h hk hc (by injection e with e; exact e.symm))).trans hk
theorem keepsFrom_below {W W' : World} (h : Below W.heap.size W W') (B : Nat) : KeepsFrom B W W' :=
  ⟨h.size, fun k _ _ hk _ => (h.block k (Array.getElem?_eq_some_iff.1 hk).1).trans hk⟩
theorem ownFrom_bel {β : Type} {B : Nat} {I : β → World → Prop} (h : OwnFrom B I) {s : β} {W W' : World} (hs : I s W) (hb : Below W.heap.size W W') : I s W' :=
  h s W W' none hs (grown_belowM hb none) (fun r e => by cases e)
/-- How the body of a round is left that goes on. -/
def postE (B : Nat) (Kp : World → World → Prop) (R : World → Prop) (W : World) : Exit → Act → World → Prop
  | .normal, _, W' => KeepsFrom B W W' ∧ Kp W W' ∧ R W'
  | _, _, _ => False
/-- How the body of a round is left that breaks. -/
def postX (B : Nat) (Kp : World → World → Prop) (Ix : Code → World → Prop) (W : World) : Exit → Act → World → Prop
  | .exit id, _, W' => KeepsFrom B W W' ∧ Kp W W' ∧ Ix (.exit id) W'
  | _, _, _ => False
theorem wpIn_rangeFunc_E {α : Type} {F : Fence} {n : Nat} {P : Program} {g : Operand} {ps : Array Tmp} {assign body : Code} {Q : Exit → Act → World → Prop} {a : Act} {w : World}
    (hro : F.round = none) (h1 : 1 ≤ n) {gf : Nat} {lb : Array Value} (hg : a.eval g = .func (.func gf) #[] lb) (hFg : F.fn gf) (eg : ∀ args w, (callFunc gf args).run P w = .ok (.enter gf args) w)
    {enc : α → Array Value} {Tx : Array Value → Prop} {Kp : World → World → Prop} {items : List (Option α)} {C : Nat} {w0 : World} (hseq : SeqE F (n - 1) P gf lb enc Tx Kp items C w0)
    (hKt : ∀ {A B C : World}, Kp A B → Kp B C → Kp A C) (hKb : ∀ (W : World) (l : Nat) (o o' : Obj), w.heap.size ≤ l → W.heap[l]? = some o → o.isCells = false → o.isWalk = false → Kp W (W.putObj l o'))
    (hKw : ∀ W W' : World, w.heap.size ≤ W.heap.size → Below W.heap.size W W' → Kp W W')
    (hb0 : Below w0.heap.size w0 w) (hTe : ∀ x, Tx (enc x)) (hps : ∀ av, Tx av → av.size = ps.size)
    (I : List α → World → Prop) (Ib : World → Prop) (Ix : Code → World → Prop) (hI : OwnFrom w.heap.size I) (hIb : OwnFrom w.heap.size (fun (_ : Unit) W => Ib W)) (hIx : ∀ c, OwnFrom w.heap.size (fun (_ : Unit) W => Ix c W))
    (hC0 : ∀ pre X, I pre X → CE X C 0) (hC2 : ∀ X, Ib X → CE X C 2)
    (hI0 : ∀ pre X Y, I pre X → X.grownBy Y (some C) → CE Y C 0 → I pre Y)
    (hI2 : ∀ pre X Y, I pre X → X.grownBy Y (some C) → CE Y C 2 → Bad items → Ib Y)
    (hb2 : ∀ X Y, Ib X → X.grownBy Y (some C) → CE Y C 2 → Ib Y)
    (h0 : I [] w) (Ax : Array Value → Act → World → Prop) (hAx : ∀ av a', OwnFrom w.heap.size (fun (_ : Unit) W => Ax av a' W))
    (G : World → Prop) (hG1 : ∀ pre X, I pre X → G X) (hG2 : ∀ X, Ib X → G X)
    (hassign : ∀ (l : Nat) (av : Array Value) (W : World) (K : Act → World → Prop), Tx av → w.heap.size < W.heap.size → G W → (∀ a' W', Below W.heap.size W W' → Ax av a' W' → K a' W') →
      assign.wpIn (F.inRound l) (n - 1 - 1) P (Exit.then K (fun _ _ _ => False)) { tmps := (ps.zip av).foldl (fun t (p, v) => t.setIfInBounds p v) a.tmps, defers := [] } W)
    (hbody : ∀ (l : Nat) (pre : List α) (x : α) (a' : Act) (W : World), w.heap.size ≤ l → w.heap.size < W.heap.size → (pre ++ [x]).map some <+: items → I pre W → Ax (enc x) a' W → body.wpIn (F.inRound l) (n - 1 - 1) P (postE w.heap.size Kp (fun Y => I (pre ++ [x]) Y ∨ Ib Y) W) a' W)
    (hbodyb : ∀ (l : Nat) (av : Array Value) (a' : Act) (W : World), w.heap.size ≤ l → w.heap.size < W.heap.size → Ib W → Tx av → Ax av a' W → body.wpIn (F.inRound l) (n - 1 - 1) P (postX w.heap.size Kp Ix W) a' W)
    (hdone : ∀ (D : Nat) (xs : List α) (W : World), w.heap.size ≤ D → items = xs.map some → I xs W → W.heap[D]? = some (.deferred (some [])) → Q .normal { a with defers := { target := .collected D, args := #[] } :: a.defers } W)
    (hdoneb : ∀ (D : Nat) (W : World), w.heap.size ≤ D → Ib W → W.heap[D]? = some (.deferred (some [])) → Q .normal { a with defers := { target := .collected D, args := #[] } :: a.defers } W)
    (hstop : ∀ (D : Nat) (c : Code) (W : World), w.heap.size ≤ D → Ix c W → W.heap[D]? = some (.deferred (some [])) → c.wpIn F n P Q { a with defers := { target := .collected D, args := #[] } :: a.defers } W) :
    (Code.rangeFunc g ps assign body).wpIn F n P Q a w := by
  refine wpIn_rangeFunc ?_
  intro fn hfn
  rw [hro]
  obtain ⟨rec, hrec⟩ : ∃ rec : LoopState → Option Code → Loop, rec = fun st pe => { state := st, pending := pe, fn, tmps := a.tmps, params := ps, assign, body, defers := w.heap.size } := ⟨_, rfl⟩
  obtain ⟨W1, hW1⟩ : ∃ W1, (w.alloc (.deferred (some []))).alloc (.loop (rec .ready none)) = W1 := ⟨_, rfl⟩
  have hL1 : W1.heap[w.heap.size + 1]? = some (.loop (rec .ready none)) := by
    rw [← hW1]; have := World.alloc_heap_new (w.alloc (.deferred (some []))) (.loop (rec .ready none)); rwa [World.size_alloc] at this
  have hK1 : W1.heap[w.heap.size]? = some (.deferred (some [])) := by
    rw [← hW1]; exact (Below.heap_alloc _ _ _ (by simp)).trans (World.alloc_heap_new w _)
  have hI1 : I [] W1 := by rw [← hW1]; exact hI.alloc _ (hI.alloc _ h0)
  have hb1 : Below w0.heap.size w0 W1 := by
    rw [← hW1]; exact hb0.trans ((((Below.refl _ w).alloc (Nat.le_refl _) _).alloc (by simp) _).mono hb0.size)
  refine ⟨w.heap.size + 1, [{ target := .collected w.heap.size, args := #[] }], W1, { target := .fn (.func gf) lb, args := #[.func (.yield (w.heap.size + 1)) #[] #[]] }, W1, gf,
    #[.func (.yield (w.heap.size + 1)) #[] #[]] ++ lb, W1, ?_, ?_, ?_, ?_, fun _ => h1, ?_⟩
  · rw [← hW1, hrec]; exact run_enterLoop_outer _ _ _ _ _
  · simp only [resolve, hg]
    simp [go_sem]
  · intro f' hf'; simp [Target.leads] at hf'; subst hf'; exact hFg
  · simp [invoke, go_sem, eg]
  · have round : ∀ (av : Array Value) (X : World), Tx av → G X → X.heap[w.heap.size + 1]? = some (.loop (rec .ready none)) → X.heap[w.heap.size]? = some (.deferred (some [])) →
        ∀ (R : Ending → World → Prop), (∀ a' Wa, Below X.heap.size X Wa → Ax av a' Wa → Wa.heap[w.heap.size + 1]? = some (.loop (rec .ready none)) → Wa.heap[w.heap.size]? = some (.deferred (some [])) → w.heap.size + 1 < Wa.heap.size →
          body.wpIn (F.inRound (w.heap.size + 1)) (n - 1 - 1) P (roundPost P (w.heap.size + 1) R) a' (Wa.putObj (w.heap.size + 1) (.loop { rec .ready none with state := .busy }))) →
        YieldAt F (n - 1 - 1) P (w.heap.size + 1) av X R := by
      intro av X hT hGX hl hk R hB
      have hlt : w.heap.size + 1 < X.heap.size := (Array.getElem?_eq_some_iff.1 hl).1
      have hy := run_yield (P := P) (args := av) hl (by rw [hrec]; exact hps av hT)
      rw [hrec] at hy
      refine ⟨fn, _, assign, body, hy, roundIn_of_wpIn hfn (hassign _ av X _ hT (by omega) hGX ?_)⟩
      clear hy
      intro a' Wa hbe hax
      have hkf := keepsFrom_below hbe w.heap.size
      have hl' := hkf.same _ _ (by omega) hl rfl
      have hk' := hkf.same _ _ (Nat.le_refl _) hk rfl
      refine ⟨_, run_beginRound hl' (by rw [hrec]), ?_⟩
      exact hB a' Wa hbe hax hl' hk' (Array.getElem?_eq_some_iff.1 hl').1
    have fin : ∀ (jump : Option Code) (Wa W3 : World), w.heap.size + 1 < Wa.heap.size → Wa.heap[w.heap.size]? = some (.deferred (some [])) → KeepsFrom w.heap.size (Wa.putObj (w.heap.size + 1) (.loop { rec .ready none with state := .busy })) W3 →
        (Instr.endRound (w.heap.size + 1) jump).run P W3 = .ok (.bool jump.isNone) (W3.putObj (w.heap.size + 1) (.loop (rec (if jump.isNone then .ready else .done) jump))) ∧
        W3.heap[w.heap.size + 1]? = some (.loop { rec .ready none with state := .busy }) ∧
        (W3.putObj (w.heap.size + 1) (.loop (rec (if jump.isNone then .ready else .done) jump))).heap[w.heap.size + 1]? = some (.loop (rec (if jump.isNone then .ready else .done) jump)) ∧
        (W3.putObj (w.heap.size + 1) (.loop (rec (if jump.isNone then .ready else .done) jump))).heap[w.heap.size]? = some (.deferred (some [])) := fun jump Wa W3 hlt hk hk3 => by
      have hl2 : (Wa.putObj (w.heap.size + 1) (.loop { rec .ready none with state := .busy })).heap[w.heap.size + 1]? = some (.loop { rec .ready none with state := .busy }) := World.putObj_heap_same hlt
      have hk2 : (Wa.putObj (w.heap.size + 1) (.loop { rec .ready none with state := .busy })).heap[w.heap.size]? = some (.deferred (some [])) := (World.putObj_heap_other (by omega)).trans hk
      have hl3 := hk3.same _ _ (by omega) hl2 rfl
      have := run_endRound (P := P) jump hl3
      rw [hrec] at this ⊢
      exact ⟨this, by rw [hrec] at hl3; exact hl3, World.putObj_heap_same (Array.getElem?_eq_some_iff.1 hl3).1, (World.putObj_heap_other (by omega)).trans (hk3.same _ _ (Nat.le_refl _) hk2 rfl)⟩
    refine (hseq (w.heap.size + 1)
      (fun pre W => I pre W ∧ W.heap[w.heap.size + 1]? = some (.loop (rec .ready none)) ∧ W.heap[w.heap.size]? = some (.deferred (some [])))
      (fun W => Ib W ∧ W.heap[w.heap.size + 1]? = some (.loop (rec .ready none)) ∧ W.heap[w.heap.size]? = some (.deferred (some [])))
      (fun W => ∃ c, Ix c W ∧ W.heap[w.heap.size + 1]? = some (.loop (rec .done (some c))) ∧ W.heap[w.heap.size]? = some (.deferred (some [])))
      W1 hb1 (fun pre X h => hC0 pre X h.1) (fun X h => hC2 X h.1)
      (fun pre X Y h hg hc => ⟨hI0 pre X Y h.1 hg hc, ce_heap (hC0 pre X h.1) hg h.2.1 rfl, ce_heap (hC0 pre X h.1) hg h.2.2 rfl⟩)
      (fun pre X Y h hg hc hb => ⟨hI2 pre X Y h.1 hg hc hb, ce_heap (hC0 pre X h.1) hg h.2.1 rfl, ce_heap (hC0 pre X h.1) hg h.2.2 rfl⟩)
      (fun X Y h hg hc => ⟨hb2 X Y h.1 hg hc, ce_heap (hC2 X h.1) hg h.2.1 rfl, ce_heap (hC2 X h.1) hg h.2.2 rfl⟩)
      ?_ ?_ ⟨hI1, hL1, hK1⟩).mono ?_
    · rintro pre x X ⟨hi, hl, hk⟩ hit
      refine round _ X (hTe x) (hG1 _ _ hi) hl hk _ (fun a' Wa hbe hax hl' hk' hlt => ?_)
      have hxs : w.heap.size < X.heap.size := by have := (Array.getElem?_eq_some_iff.1 hk).1; omega
      refine wpIn_mono (hbody _ pre x a' _ (by omega) (by simp; omega) hit (hI.putObj _ (ownFrom_bel hI hi hbe) (by omega) hl' rfl) ((hAx _ a').putObj (s := ()) _ hax (by omega) hl' rfl)) ?_
      rintro e a3 W3 hp
      cases e with
      | normal =>
        obtain ⟨hk3, hkp3, hi3⟩ := hp
        obtain ⟨hr, hl3, hl4, hk4⟩ := fin none Wa W3 hlt hk' hk3
        refine ⟨_, _, hr, rfl, ?_, hKt (hKw _ _ (by omega) hbe) (hKt (hKt (hKb _ _ _ _ (by omega) hl' rfl rfl) hkp3) (hKb _ _ _ _ (by omega) hl3 rfl rfl))⟩
        rcases hi3 with hi3 | hi3
        · exact .inl ⟨hI.putObj _ hi3 (by omega) hl3 rfl, hl4, hk4⟩
        · exact .inr ⟨hIb.putObj (s := ()) _ hi3 (by omega) hl3 rfl, hl4, hk4⟩
      | _ => exact hp.elim
    · rintro av X hT ⟨hi, hl, hk⟩
      refine round _ X hT (hG2 _ hi) hl hk _ (fun a' Wa hbe hax hl' hk' hlt => ?_)
      have hxs : w.heap.size < X.heap.size := by have := (Array.getElem?_eq_some_iff.1 hk).1; omega
      refine wpIn_mono (hbodyb _ av a' _ (by omega) (by simp; omega) (hIb.putObj (s := ()) _ (ownFrom_bel (s := ()) hIb hi hbe) (by omega) hl' rfl) hT ((hAx _ a').putObj (s := ()) _ hax (by omega) hl' rfl)) ?_
      rintro e a3 W3 hp
      cases e with
      | exit id =>
        obtain ⟨hk3, hkp3, hi3⟩ := hp
        obtain ⟨hr, hl3, hl4, hk4⟩ := fin (some (.exit id)) Wa W3 hlt hk' hk3
        exact ⟨_, _, hr, rfl, ⟨.exit id, (hIx _).putObj (s := ()) _ hi3 (by omega) hl3 rfl, hl4, hk4⟩, hKt (hKw _ _ (by omega) hbe) (hKt (hKt (hKb _ _ _ _ (by omega) hl' rfl rfl) hkp3) (hKb _ _ _ _ (by omega) hl3 rfl rfl))⟩
      | _ => exact hp.elim
    · rintro e W2 ⟨⟨v, rfl⟩, (⟨xs, hS, hi, hl, hk⟩ | ⟨hi, hl, hk⟩ | ⟨c, hi, hl, hk⟩)⟩
      · exact ⟨none, _, by have := run_endLoop (P := P) hl (by rw [hrec]; simp); rw [hrec] at this; exact this, hdone _ xs _ (Nat.le_refl _) hS (hI.putObj _ hi (by omega) hl rfl) ((World.putObj_heap_other (by omega)).trans hk)⟩
      · exact ⟨none, _, by have := run_endLoop (P := P) hl (by rw [hrec]; simp); rw [hrec] at this; exact this, hdoneb _ _ (Nat.le_refl _) (hIb.putObj (s := ()) _ hi (by omega) hl rfl) ((World.putObj_heap_other (by omega)).trans hk)⟩
      · exact ⟨some c, _, by have := run_endLoop (P := P) hl (by rw [hrec]; simp); rw [hrec] at this; exact this, hstop _ c _ (Nat.le_refl _) ((hIx c).putObj (s := ()) _ hi (by omega) hl rfl) ((World.putObj_heap_other (by omega)).trans hk)⟩
end Go.Proofs.YtblpnekjnaaeoaaGreatDoor
