/- Package field and its reference: Eval. -/
import Derived.Test.YtahlhiiekgnmpabFldC
namespace Go.Proofs.Ytahlhiiekgnmpab
open Go.RowKit

def evalB (l : List Int) (x : Int) : Bool := decide (l.length ≤ 16) && allF l && inF x
def evalV (l : List Int) (x : Int) : Int := if evalB l x then va (evalP (l.map el) (el x)) else 0
theorem map_el_va (cs : List FP) : (cs.map va).map el = cs := by
  rw [List.map_map]
  conv => rhs; rw [← List.map_id cs]
  exact List.map_congr_left fun x _ => el_va x
theorem evalV_va (cs : List FP) (x : FP) (h : cs.length ≤ 16) : evalB (cs.map va) (va x) = true ∧ evalV (cs.map va) (va x) = va (evalP cs x) := by
  have hb : evalB (cs.map va) (va x) = true := by
    unfold evalB
    rw [allF_va, inF_va, List.length_map, decide_eq_true h]; rfl
  refine ⟨hb, ?_⟩
  unfold evalV
  rw [if_pos hb, map_el_va, el_va]
theorem evalB_el {l : List Int} {x : Int} (h : evalB l x = true) : ∃ (cs : List FP) (y : FP), l = cs.map va ∧ x = va y ∧ cs.length ≤ 16 := by
  have h' : (l.length ≤ 16 ∧ allF l = true) ∧ inF x = true := by simpa [evalB] using h
  obtain ⟨cs, hcs⟩ := allF_el h'.1.2
  obtain ⟨y, hy⟩ := inF_el h'.2
  exact ⟨cs, y, hcs, hy, by have := h'.1.1; rw [hcs, List.length_map] at this; exact this⟩

def vF (x : FP) : List Value := [.int .i64 (va x)]
theorem slice_va {w : World} {v : Value} {cs : List FP} (h : SliceOf vI 1 w v (cs.map va)) : SliceOf vF 1 w v cs := by
  rcases h with ⟨ao, h1, h2⟩ | ⟨b, off, cap, h1, h2, h3, h5, h4⟩
  · exact .inl ⟨ao, h1, by simpa using h2⟩
  · rw [List.length_map] at h1 h3
    exact .inr ⟨b, off, cap, h1, h2, h3, h5, fun i hi j u hu => h4 i (by simpa using hi) j u (by rw [List.getElem_map]; exact hu)⟩
theorem slice_av {w : World} {v : Value} {cs : List FP} (h : SliceOf vF 1 w v cs) : SliceOf vI 1 w v (cs.map va) := by
  rcases h with ⟨ao, h1, h2⟩ | ⟨b, off, cap, h1, h2, h3, h5, h4⟩
  · exact .inl ⟨ao, h1, by rw [h2]; rfl⟩
  · refine .inr ⟨b, off, cap, by rw [List.length_map]; exact h1, h2, by rw [List.length_map]; exact h3, h5, fun i hi j u hu => ?_⟩
    rw [List.getElem_map] at hu
    exact h4 i (by simpa using hi) j u hu
theorem f_cell {w : World} {b off : Nat} {l : List FP} (h : ∀ i (h : i < l.length) j u, (vF l[i])[j]? = some u → w.cell? ⟨b, off + i * 1 + j, none⟩ = some u) {k : Nat} (hk : k < l.length) : w.cell? ⟨b, off + k, none⟩ = some (.int .i64 (va l[k])) := by
  have := h k hk 0 _ rfl
  simpa using this

set_option maxHeartbeats 1000000 in
theorem fld_eval_ok (cs : List FP) (x : FP) (v : Value) (w : World) (h : SliceOf vI 1 w v (cs.map va)) (hl : cs.length ≤ 16) :
    Calls Try.prog 20 #[v, .int .i64 (va x)] w fun e w' => e = .returned (.tuple #[.int .i64 (va (evalP cs x)), .int .i64 0]) ∧ w = w' := by
  obtain ⟨ao, cp, rfl⟩ := (slice_va h).shape
  have HH := hide h
  have HC := hide (slice_va h).at_
  clear h
  have hl' : (cs.length : Int) ≤ 16 := by omega
  go_enter Try.func20, Try.ntmps20
  go_wp2_with fail
  refine (fld_elements_at _ true _ _ HH.out (allF_va cs)).mono ?_
  rintro e w' ⟨rfl, rfl⟩
  go_wp2_with fail
  refine (fld_element_at _ true _ (inF_va x)).mono ?_
  rintro e w' ⟨rfl, rfl⟩
  have H0 := hide va_zero
  go_wp2_with fail
  go_loop [6, 23] (fun o i => ∃ k : Nat, k ≤ cs.length ∧ i = .int .i64 k ∧ o = .int .i64 (va (evalP (cs.drop (cs.length - k)) x))) (fun _ i => cs.length - (intOf i).toNat)
  case atStart =>
    refine ⟨0, Nat.zero_le _, rfl, ?_⟩
    rw [Nat.sub_zero, List.drop_length]
    exact congrArg (Value.int .i64) H0.out.symm
  case round =>
    obtain ⟨k, hk, rfl, rfl⟩ := hrel
    by_cases hlt : k < cs.length
    · obtain ⟨b, off, rfl, hb, h1, h2, hc⟩ := HC.out (by omega)
      have hkl : cs.length - 1 - k < cs.length := by omega
      have hx := f_cell hc hkl
      have HE := hide (evalP_drop (x := x) hkl)
      have e1 : cs.length - 1 - k + 1 = cs.length - k := by omega
      rw [e1] at HE
      have hm : (cp : Int) ≤ 9223372036854775807 := by unfold maxLen at h2; omega
      obtain ⟨o, ho⟩ : ∃ o, evalP (cs.drop (cs.length - k)) x = o := ⟨_, rfl⟩
      obtain ⟨c, hcc⟩ : ∃ c, cs[cs.length - 1 - k] = c := ⟨_, rfl⟩
      rw [ho] at HE ⊢
      rw [hcc] at HE hx
      clear hc hb h2 ho hcc e1
      have hki : (k : Int) < (cs.length : Int) := by omega
      have b1 := va_mul_bd o x
      have b2 := va_bd c
      have hw1 : IntKind.i64.wrap (va o * va x) = va o * va x := IntWalk.i64_in _ (by omega)
      have hw2 : IntKind.i64.wrap (va o * va x + va c) = va o * va x + va c := IntWalk.i64_in _ (by omega)
      have hm1 := horner_va o x c
      have hm2 := horner_va' o x c
      go_wp2_with fail
      go_round
      case rel =>
        refine ⟨k + 1, by omega, by go_num, ?_⟩
        have e2 : cs.length - (k + 1) = cs.length - 1 - k := by omega
        rw [e2, HE.out]
        refine congrArg (fun z => Value.int .i64 (va z)) ?_
        grind
      case measure => simp [intOf]; omega
    · have hk' : k = cs.length := by omega
      subst hk'
      have HE : Hid (cs.drop (cs.length - cs.length) = cs) := by show List.drop _ _ = _; simp
      rw [HE.out]
      by_cases h0 : 0 < cs.length
      · obtain ⟨b, off, rfl, hb, h1, h2, hc⟩ := HC.out h0
        clear hc
        unfold maxLen at h2
        go_wp2_with fail
        go_ret2
        exact ⟨rfl, rfl⟩
      · go_wp2_with fail
        go_ret2
        exact ⟨rfl, rfl⟩
theorem fld_eval_bad (l : List Int) (x : Int) (v : Value) (w : World) (h : SliceOf vI 1 w v l) (hbad : evalB l x = false) :
    Calls Try.prog 20 #[v, .int .i64 x] w fun e w' => e = .returned (.tuple #[.int .i64 0, .int .i64 1]) ∧ w = w' := by
  have HH := hide h
  obtain ⟨ao, cp, rfl⟩ := h.shape
  clear h
  by_cases hlen : (l.length : Int) ≤ 16
  · rcases Bool.eq_false_or_eq_true (allF l) with h1 | h1
    · have h2 : inF x = false := by
        have hd : decide (l.length ≤ 16) = true := decide_eq_true (by omega)
        simpa [evalB, h1, hd] using hbad
      clear hbad
      have H1 := hide h1
      have H2 := hide h2
      clear h1 h2
      go_enter Try.func20, Try.ntmps20
      go_wp2_with fail
      refine (fld_elements_at _ true _ _ HH.out H1.out).mono ?_
      rintro e w' ⟨rfl, rfl⟩
      go_wp2_with fail
      refine (fld_element_at _ false _ H2.out).mono ?_
      rintro e w' ⟨rfl, rfl⟩
      go_wp2_with fail
      go_ret2
      exact ⟨rfl, rfl⟩
    · clear hbad
      have H1 := hide h1
      clear h1
      go_enter Try.func20, Try.ntmps20
      go_wp2_with fail
      refine (fld_elements_at _ false _ _ HH.out H1.out).mono ?_
      rintro e w' ⟨rfl, rfl⟩
      go_wp2_with fail
      go_ret2
      exact ⟨rfl, rfl⟩
  · clear hbad
    have hlen' : (16 : Int) < (l.length : Int) := by omega
    go_enter Try.func20, Try.ntmps20
    go_wp2_with fail
    go_ret2
    exact ⟨rfl, rfl⟩
theorem fld_eval (l : List Int) (x : Int) (v : Value) (w : World) (h : SliceOf vI 1 w v l) :
    Calls Try.prog 20 #[v, .int .i64 x] w fun e w' => e = .returned (.tuple #[.int .i64 (evalV l x), .int .i64 (eC (evalB l x))]) ∧ w = w' := by
  rcases Bool.eq_false_or_eq_true (evalB l x) with hb | hb
  · obtain ⟨cs, y, rfl, rfl, hl⟩ := evalB_el hb
    obtain ⟨e1, e2⟩ := evalV_va cs y hl
    rw [e1, e2]
    exact fld_eval_ok cs y v w h hl
  · have e2 : evalV l x = 0 := by unfold evalV; rw [hb]; rfl
    rw [e2, hb]
    exact fld_eval_bad l x v w h hb

end Go.Proofs.Ytahlhiiekgnmpab
