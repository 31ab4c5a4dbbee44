/- law 46: plain facts of mixtures, of sums with a single value, of sizes that fit. -/
import Derived.Test.YtblpnekjnaaeoaaGreatDoorMqP
set_option linter.unusedVariables false
set_option linter.unusedSimpArgs false
namespace Go.Proofs.YtblpnekjnaaeoaaGreatDoor
open Go.RowKit

theorem s20_fit {q : Rat} (h : S20 q) : FitQ q := by
  have := P_lt (a := 1) (by omega)
  rw [Nat.pow_one] at this
  exact ⟨Nat.lt_of_le_of_lt h.1 this, Nat.lt_of_le_of_lt h.2 this⟩
theorem fitQ_zero : FitQ 0 := by
  have h := s20_add (p := 0) (q := 0) ⟨by unfold nmQ; exact Nat.zero_le _, P20_pos⟩ ⟨by unfold nmQ; exact Nat.zero_le _, P20_pos⟩
  have := (addR_fit h).2
  rwa [Rat.add_zero] at this
theorem meanS_fit {o : Option Rat} {p : PQ} {q : Rat} (h : meanS o p = some q) : FitQ q := by
  unfold meanS at h
  obtain ⟨s, _, h⟩ := Option.bind_eq_some_iff.1 h
  obtain ⟨m, _, h⟩ := Option.bind_eq_some_iff.1 h
  exact (addR_fit h).2
theorem meanO_fit {L : List PQ} {j : Nat} (hj : j ≤ L.length) {q : Rat} (h : meanO L j = some q) : FitQ q := by
  cases j with
  | zero =>
    have : (0 : Rat) = q := Option.some.inj h
    rw [← this]
    exact fitQ_zero
  | succ j =>
    rw [meanO_succ (by omega)] at h
    exact meanS_fit h
theorem varS_fit {m : Rat} {o : Option Rat} {p : PQ} {q : Rat} (h : varS m o p = some q) : FitQ q := by
  unfold varS at h
  obtain ⟨_, _, h⟩ := Option.bind_eq_some_iff.1 h
  obtain ⟨_, _, h⟩ := Option.bind_eq_some_iff.1 h
  obtain ⟨_, _, h⟩ := Option.bind_eq_some_iff.1 h
  obtain ⟨_, _, h⟩ := Option.bind_eq_some_iff.1 h
  exact (addR_fit h).2
theorem varK_fit {L : List PQ} {j : Nat} (hj : j ≤ L.length) {q : Rat} (h : varK L j = some q) : FitQ q := by
  cases j with
  | zero =>
    unfold varK at h
    obtain ⟨_, _, h⟩ := Option.bind_eq_some_iff.1 h
    have : (0 : Rat) = q := Option.some.inj h
    rw [← this]
    exact fitQ_zero
  | succ j =>
    rw [varK_succ (by omega)] at h
    obtain ⟨_, _, h⟩ := Option.bind_eq_some_iff.1 h
    exact varS_fit h
theorem varO_fit {L : List PQ} {q : Rat} (h : varO L = some q) : FitQ q := varK_fit (Nat.le_refl _) h
/-- What a sum, or a product, that has no error was made of. -/
theorem add2_ex {a b : Option Rat} (h : (add2 a b).isNone = false) : ∃ p q, a = some p ∧ b = some q ∧ add2 a b = some (p + q) := by
  cases a with
  | none => cases h
  | some p =>
    cases b with
    | none => cases h
    | some q => exact ⟨p, q, rfl, rfl, add2_get h⟩
theorem mul2_ex {a b : Option Rat} (h : (mul2 a b).isNone = false) : ∃ p q, a = some p ∧ b = some q ∧ mul2 a b = some (p * q) := by
  cases a with
  | none => cases h
  | some p =>
    cases b with
    | none => cases h
    | some q => exact ⟨p, q, rfl, rfl, mul2_get h⟩
theorem negO_ex {a : Option Rat} {y : Rat} (h : negO a = some y) : ∃ p, a = some p ∧ y = -p := by
  cases a with
  | none => cases h
  | some p => exact ⟨p, rfl, (Option.some.inj h).symm⟩
/-- Mixtures of two. -/
theorem dot_mix2 (f : Rat → Rat) (p q : Rat) (a b : List PQ) : dot f (mixE [p, q] [a, b]) = p * dot f a + q * dot f b := by
  rw [dot_mixE_cons, dot_mixE_cons, dot_mixE_nil, Rat.add_zero]
theorem dot_mix1 (f : Rat → Rat) (p : Rat) (a : List PQ) : dot f (mixE [p] [a]) = p * dot f a := by
  rw [dot_mixE_cons, dot_mixE_nil, Rat.add_zero]
theorem mix2_swap (p q : Rat) (a b : List PQ) : SameD (mixE [p, q] [a, b]) (mixE [q, p] [b, a]) := fun f => by rw [dot_mix2, dot_mix2, Rat.add_comm]
theorem mean_mix2 (p q : Rat) (a b : List PQ) : meanE (mixE [p, q] [a, b]) = p * meanE a + q * meanE b := dot_mix2 _ p q a b
theorem var_mix2 {p q : Rat} {a b : List PQ} (h : p + q = 1) (ha : totE a = 1) (hb : totE b = 1) : varE (mixE [p, q] [a, b]) = p * varE a + q * varE b + p * q * ((meanE a - meanE b) * (meanE a - meanE b)) := by
  have ht : totE (mixE [p, q] [a, b]) = 1 := by
    have := dot_mix2 (fun _ => 1) p q a b
    unfold totE at ha hb ⊢
    rw [this, ha, hb, Rat.mul_one, Rat.mul_one, h]
  have hs : sqE (mixE [p, q] [a, b]) = p * sqE a + q * sqE b := dot_mix2 _ p q a b
  rw [varE_eq ht, varE_eq ha, varE_eq hb, hs, mean_mix2]
  have hq : q = 1 - p := by grind
  subst hq
  grind
theorem mix1_self (a : List PQ) : SameD (mixE [1] [a]) a := fun f => by rw [dot_mix1, Rat.one_mul]
theorem mix2_self {p q : Rat} (h : p + q = 1) (a : List PQ) : SameD (mixE [p, q] [a, a]) a := fun f => by rw [dot_mix2, ← Rat.add_mul, h, Rat.one_mul]
theorem sum_zero (a : List PQ) : SameD (sumE a [(0, 1)]) a := fun f => by
  rw [dot_sumE_left]
  have : (fun v => dot (fun u => f (v + u)) [((0 : Rat), (1 : Rat))]) = f := by
    funext v
    simp only [dot]
    rw [Rat.add_zero, Rat.add_zero, Rat.mul_one]
  rw [this]
/-- The weights of few are summed without a limit. -/
theorem tot_s20 {ws : List Rat} (h : ∀ q ∈ ws, S20 q) (hl : ws.length ≤ 5) : totO ws = some (ws.foldr (fun q r => q + r) 0) := by
  have hd : dens ws ≤ P20 ^ 5 := Nat.le_trans (dens_le (fun q hq => (h q hq).2)) (P_le hl)
  have hdd : dens ws * dens ws ≤ P20 ^ 10 := by
    have := Nat.mul_le_mul hd hd
    rwa [← Nat.pow_add] at this
  have h1 : (0 + ws.length * P20) * (dens ws * dens ws) < capN := by
    rw [Nat.zero_add]
    exact P_bd (a := 1) (b := 10) (by omega) (by rw [Nat.pow_one]; exact Nat.le_refl _) hdd (by omega)
  have h2 : dens ws * dens ws < capN := Nat.lt_of_le_of_lt hdd (P_lt (by omega))
  have := totO_qd (D := dens ws) (B := P20) (dens_pos ws) ws 0 0 (fun q hq => (dens_mem hq).mono (h q hq).1) ⟨dens_pos ws, 0, by rw [Rat.zero_mul]; rfl, Nat.zero_le _⟩ h1 h2
  unfold totO
  rw [this, Rat.zero_add]
theorem xd_two {p q : Rat} {a b : List PQ} (h : Shr p q) (ha : VD (a.map encP) a) (hb : VD (b.map encP) b) : XD [rqM p, rqM q] [a.map encP, b.map encP] [p, q] [a, b] := by
  refine ⟨rfl, rfl, fun x hx => ?_, fun l hl => ?_, rfl, ?_⟩
  · rcases List.mem_cons.1 hx with rfl | hx
    · exact ⟨s20_fit h.ps, Rat.not_lt.2 h.p0⟩
    · rw [List.mem_singleton.1 hx]
      exact ⟨s20_fit h.qs, Rat.not_lt.2 h.q0⟩
  · rcases List.mem_cons.1 hl with rfl | hl
    · exact ha
    · rw [List.mem_singleton.1 hl]; exact hb
  · rw [tot_s20 (fun x hx => ?_) (by simp)]
    · simp only [List.foldr_cons, List.foldr_nil]
      rw [Rat.add_zero, h.sum]
    · rcases List.mem_cons.1 hx with rfl | hx
      · exact h.ps
      · rw [List.mem_singleton.1 hx]; exact h.qs
theorem s20_one : S20 1 := ⟨by have := P20_big; show (1 : Rat).num.natAbs ≤ P20; exact Nat.le_trans (by decide) this, by have := P20_big; exact Nat.le_trans (show (1 : Rat).den ≤ 1000 by decide) this⟩
theorem xd_one {a : List PQ} (ha : VD (a.map encP) a) : XD [rqM 1] [a.map encP] [1] [a] := by
  refine ⟨rfl, rfl, fun x hx => ?_, fun l hl => ?_, rfl, ?_⟩
  · rw [List.mem_singleton.1 hx]
    exact ⟨s20_fit s20_one, by decide⟩
  · rw [List.mem_singleton.1 hl]; exact ha
  · rw [tot_s20 (fun x hx => by rw [List.mem_singleton.1 hx]; exact s20_one) (by simp)]
    simp only [List.foldr_cons, List.foldr_nil]
    rw [Rat.add_zero]
/-- A single value. -/
def oneL (z : Int) : List PQ := [((z : Rat), 1)]
theorem oneL_pt (z : Int) : [ptQ (z, 1, 1)] = oneL z := by
  unfold ptQ oneL
  rw [show ofQ (z, 1, 1).1 1 = ofQ z 1 from rfl, ofQ_one, show ofQ (z, 1, 1).2.1 (z, 1, 1).2.2 = ofQ 1 1 from rfl, ofQ_one]
  rfl
theorem s20_int {z : Int} (h : z.natAbs ≤ 1000000) : S20 (z : Rat) := by
  refine ⟨?_, ?_⟩
  · show (z : Rat).num.natAbs ≤ P20
    rw [Rat.num_intCast]
    unfold P20
    omega
  · rw [Rat.den_intCast]
    exact P20_pos
theorem oneL_few {z : Int} (h : z.natAbs ≤ 1000000) : FewL (oneL z) := by
  refine ⟨by unfold oneL; simp, fun x hx => ?_⟩
  rw [List.mem_singleton.1 hx]
  exact ⟨s20_int h, s20_one⟩
theorem oneL_vd {z : Int} (h : z.natAbs ≤ 1000000) : VD ((oneL z).map encP) (oneL z) := by
  refine ⟨rfl, ⟨fun x hx => ?_, fun x hx => ?_, ?_⟩, by unfold oneL; simp, ?_⟩
  · rw [List.mem_singleton.1 hx]
    exact ⟨s20_fit (s20_int h), s20_fit s20_one⟩
  · rw [List.mem_singleton.1 hx]
    show (0 : Rat) < 1
    decide
  · unfold SrtQ oneL
    simp
  · rw [tot_s20 (fun x hx => by
      obtain ⟨y, hy, rfl⟩ := List.mem_map.1 hx
      rw [List.mem_singleton.1 hy]; exact s20_one) (by unfold oneL; simp)]
    simp only [oneL, List.map_cons, List.map_nil, List.foldr_cons, List.foldr_nil]
    rw [Rat.add_zero]
theorem oneL_var (z : Int) : varE (oneL z) = 0 := by
  have h : meanE (oneL z) = (z : Rat) := by
    unfold meanE oneL
    simp only [dot]
    rw [Rat.mul_one, Rat.add_zero]
  unfold varE
  rw [h]
  unfold oneL
  simp only [dot]
  grind
theorem sqPart_all (L : List PQ) : sqPart L L.length = sqE L := by unfold sqPart sqE; rw [List.take_length]
end Go.Proofs.YtblpnekjnaaeoaaGreatDoor
