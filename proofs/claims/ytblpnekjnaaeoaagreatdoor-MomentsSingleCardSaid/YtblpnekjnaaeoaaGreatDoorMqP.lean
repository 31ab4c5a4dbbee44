/- law 46: the rest of the plain facts, contracts in any later world. -/
import Derived.Test.YtblpnekjnaaeoaaGreatDoorMqO
import Derived.Test.YtblpnekjnaaeoaaGreatDoorPkP
import Derived.Test.YtblpnekjnaaeoaaGreatDoorMqK
set_option linter.unusedVariables false
set_option linter.unusedSimpArgs false
namespace Go.Proofs.YtblpnekjnaaeoaaGreatDoor
open Go.RowKit

theorem SliceOf.len_le {α : Type} {f : α → List Value} {size : Nat} {w : World} {v : Value} {l : List α} (h : SliceOf f size w v l) : l.length ≤ maxLen := by
  rcases h with ⟨ao, _, rfl⟩ | ⟨b, off, cap, _, _, h1, h2, _⟩
  · exact Nat.zero_le _
  · exact Nat.le_trans h1 h2
theorem szP.four {M : List (T3 × T3)} (h : ∀ x ∈ M, szP x) : ∀ x ∈ M, x.1.2.1.size ≤ maxLen ∧ x.1.2.2.size ≤ maxLen ∧ x.2.2.1.size ≤ maxLen ∧ x.2.2.2.size ≤ maxLen := fun x hx => ⟨(h x hx).1.1, (h x hx).1.2, (h x hx).2.1, (h x hx).2.2⟩
/-- Contracts in any later world: a test of a list; a sum; a number of a list. -/
def K1 (w : World) (F : FuncId) (v : Value) (b : Bool) : Prop := ∀ W, Below w.heap.size w W → Calls Tryz.prog F #[v] W fun e w' => e = .returned (.bool b) ∧ Below W.heap.size W w'
def KSum (w : World) (va vb : Value) (s : List PQ) : Prop := ∀ W, Below w.heap.size w W → Calls Tryz.prog 16 #[va, vb] W fun e w' => ∃ so cp, e = .returned (.tuple #[.slice so s.length cp, .int .i64 0]) ∧ SliceOf vPr 6 w' (.slice so s.length cp) (s.map encP) ∧ Below W.heap.size W w'
def KR (w : World) (F : FuncId) (v : Value) (x : T3) (k : Int) : Prop := ∀ W, Below w.heap.size w W → Calls Tryz.prog F #[v] W fun e w' => e = .returned (.tuple #[.agg #[.bool x.1, .string x.2.1, .string x.2.2], .int .i64 k]) ∧ Below W.heap.size W w'
def KL1 (w : World) (F : FuncId) (s : List PQ) (b : Bool) : Prop := ∀ W v, Below w.heap.size w W → SliceOf vPr 6 W v (s.map encP) → Calls Tryz.prog F #[v] W fun e w' => e = .returned (.bool b) ∧ Below W.heap.size W w'
def KLR (w : World) (F : FuncId) (s : List PQ) (x : T3) (k : Int) : Prop := ∀ W v, Below w.heap.size w W → SliceOf vPr 6 W v (s.map encP) → Calls Tryz.prog F #[v] W fun e w' => e = .returned (.tuple #[.agg #[.bool x.1, .string x.2.1, .string x.2.2], .int .i64 k]) ∧ Below W.heap.size W w'
def KSame (w : World) (s : List PQ) : Prop := ∀ W v v', Below w.heap.size w W → SliceOf vPr 6 W v (s.map encP) → SliceOf vPr 6 W v' (s.map encP) → Calls Tryz.prog 22 #[v, v'] W fun e w' => e = .returned (.bool true) ∧ Below W.heap.size W w'
theorem few_later {M : List (T3 × T3)} {v : Value} {w : World} (hs : SliceOf vPr 6 w v M) {b : Bool} (hb : fewM M = b) : K1 w 10 v b := fun W hW => by
  have h := law46_few M v W (hs.below hW) hs.len_le
  rwa [hb] at h
theorem valid_later {M : List (T3 × T3)} {v : Value} {w : World} (hz : ∀ x ∈ M, szP x) (hL : LawM w) (hs : SliceOf vPr 6 w v M) {b : Bool} (hb : vdB M = b) : K1 w 20 v b := fun W hW => by
  have h := mo_Valid M (szP.four hz) v W (hs.below hW) (hL.below hW)
  rwa [hb] at h
theorem sum_later {a b s : List PQ} {va vb : Value} {w : World} (ha : VD (a.map encP) a) (hb : VD (b.map encP) b) (hL : LawM w) (hsa : SliceOf vPr 6 w va (a.map encP)) (hsb : SliceOf vPr 6 w vb (b.map encP)) (hr : resO (itS a b) = some s) : KSum w va vb s := fun W hW => by
  have h := c_Sum ha hb (hL.below hW) (hsa.below hW) (hsb.below hW)
  rw [hr] at h
  exact h
theorem validL_later {s : List PQ} {w : World} (hL : LawM w) (h : VD (s.map encP) s) : KL1 w 20 s true := fun W v hW hs => by
  have := c_Valid h.vl.fit (hL.below hW) hs
  rwa [vdB_true ⟨s, h⟩] at this
theorem same_later {s : List PQ} {w : World} (h : s.length ≤ 1000000) : KSame w s := fun W v v' _ h1 h2 => by
  have := law46_same (s.map encP) (s.map encP) v v' W h1 h2 (by rwa [List.length_map]) (by rwa [List.length_map])
  rwa [decide_eq_true rfl] at this
theorem meanL_later {s : List PQ} {w : World} (hL : LawM w) (h : VD (s.map encP) s) : KLR w 12 s (rO (meanO s s.length)) (eO (meanO s s.length)) := fun W _ hW hs => c_Mean h (hL.below hW) hs
theorem varL_later {s : List PQ} {w : World} (hL : LawM w) (h : VD (s.map encP) s) : KLR w 14 s (rO (varO s)) (eO (varO s)) := fun W _ hW hs => c_Var h (hL.below hW) hs
theorem KLR.at {F : FuncId} {s : List PQ} {x : T3} {k : Int} {v : Value} {w : World} (h : KLR w F s x k) (hs : SliceOf vPr 6 w v (s.map encP)) : KR w F v x k := fun W hW => h W v hW (hs.below hW)
theorem eO_cases (o : Option Rat) : (eO o = 2 ∧ o = none) ∨ ∃ r, eO o = 0 ∧ o = some r := by
  cases o with
  | none => exact .inl ⟨rfl, rfl⟩
  | some r => exact .inr ⟨r, rfl, rfl⟩
theorem vdB_get {M : List (T3 × T3)} (h : vdB M = true) : ∃ L, VD M L := by
  by_cases hx : ∃ L, VD M L
  · exact hx
  · rw [vdB_false hx] at h; cases h
/-- The mean lies between the ends. -/
theorem mean_first {L : List PQ} {M : List (T3 × T3)} (h : VD M L) (h0 : 0 < L.length) : L[0].1 ≤ meanE L := by
  have h1 := dot_le (f := fun _ => L[0].1) (g := fun v => v) (l := L) (fun z hz => by
    obtain ⟨i, hi, rfl⟩ := List.getElem_of_mem hz
    rcases Nat.eq_zero_or_pos i with rfl | hp
    · exact Rat.le_refl
    · exact Rat.le_of_lt (List.pairwise_iff_getElem.1 h.vl.srt 0 i h0 hi hp)) (fun z hz => Rat.le_of_lt (h.vl.pos z hz))
  rw [dot_const, h.totE, Rat.mul_one] at h1
  exact h1
theorem mean_last {L : List PQ} {M : List (T3 × T3)} (h : VD M L) {k : Nat} (hk : k + 1 = L.length) : meanE L ≤ (L[k]'(by omega)).1 := by
  have h1 := dot_le (g := fun _ => (L[k]'(by omega)).1) (f := fun v => v) (l := L) (fun z hz => by
    obtain ⟨i, hi, rfl⟩ := List.getElem_of_mem hz
    rcases Nat.lt_or_ge i k with hp | hp
    · exact Rat.le_of_lt (List.pairwise_iff_getElem.1 h.vl.srt i k hi (by omega) hp)
    · have : i = k := by omega
      subst this
      exact Rat.le_refl) (fun z hz => Rat.le_of_lt (h.vl.pos z hz))
  rw [dot_const, h.totE, Rat.mul_one] at h1
  exact h1
theorem cmp_le {p q : Rat} (h : p ≤ q) : decide (0 < cmpQ p q) = false := decide_eq_false (by have := cmpQ_le.2 h; omega)
theorem ng_of {q : Rat} (h : 0 ≤ q) : (rqM q).1 = false := decide_eq_false (by have := Rat.num_nonneg.2 h; omega)
/-- The squares so far, as they are computed. -/
def sqPart (L : List PQ) (k : Nat) : Rat := dot (fun v => v * v) (L.take k)
theorem sqPart_succ {L : List PQ} {k : Nat} (h : k < L.length) : sqPart L (k + 1) = sqPart L k + L[k].2 * (L[k].1 * L[k].1) := by
  unfold sqPart
  rw [List.take_succ_eq_append_getElem h, dot_append]
  simp only [dot]
  rw [Rat.add_zero, Rat.mul_comm (L[k].1 * L[k].1)]
theorem mul2_some {p q r : Rat} (h : mul2 (some p) (some q) = some r) : r = p * q := by
  unfold mul2 at h
  rw [Option.bind_some, Option.bind_some] at h
  exact (mulR_fit h).1
theorem add2_some {p q r : Rat} (h : add2 (some p) (some q) = some r) : r = p + q := by
  unfold add2 at h
  rw [Option.bind_some, Option.bind_some] at h
  exact (addR_fit h).1
theorem none_or {α : Type} {o : Option α} (h : o.isNone = false) : ∃ r, o = some r := by
  cases o with
  | none => cases h
  | some r => exact ⟨r, rfl⟩
theorem or_parts {a b : Bool} (h : (a || b) = false) : a = false ∧ b = false := by cases a <;> cases b <;> simp_all
theorem mul2_get {p q : Rat} (h : (mul2 (some p) (some q)).isNone = false) : mul2 (some p) (some q) = some (p * q) := by
  obtain ⟨r, e⟩ := none_or h
  rw [e, mul2_some e]
theorem add2_get {p q : Rat} (h : (add2 (some p) (some q)).isNone = false) : add2 (some p) (some q) = some (p + q) := by
  obtain ⟨r, e⟩ := none_or h
  rw [e, add2_some e]
end Go.Proofs.YtblpnekjnaaeoaaGreatDoor
