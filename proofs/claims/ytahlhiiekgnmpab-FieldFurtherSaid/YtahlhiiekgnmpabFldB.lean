/- Package field and its reference: lists of elements, sums, products, inverses, powers, values of polynomials. -/
import Derived.Test.YtahlhiiekgnmpabFldA
import Derived.Test.YtahlhiiekgnmpabInts
namespace Go.Proofs.Ytahlhiiekgnmpab
open Go.RowKit

theorem ret_v2 {k l : IntKind} {a b c d : Int} (h : a = b) (h' : c = d) : Ending.returned (.tuple #[.int k a, .int l c]) = .returned (.tuple #[.int k b, .int l d]) := by rw [h, h']
theorem allF_take {l : List Int} {k : Nat} (hk : k < l.length) (h : allF (l.take k) = true) : allF (l.take (k + 1)) = inF l[k] := by
  have e : l.take (k + 1) = l.take k ++ [l[k]] := by rw [List.take_succ_eq_append_getElem hk]
  unfold allF at h ⊢
  rw [e, List.all_append, h]; simp
theorem allF_no {l : List Int} {k : Nat} (hk : k < l.length) (h : inF l[k] = false) : allF l = false := by
  unfold allF
  rw [List.all_eq_false]
  exact ⟨l[k], List.getElem_mem hk, by rw [h]; simp⟩

theorem fld_element_at (a : Int) (p : Bool) (w : World) (h : inF a = p) : Calls Try.prog 39 #[.int .i64 a] w fun e w' => e = .returned (.bool p) ∧ w = w' := by
  subst h; exact fld_element a w
set_option maxHeartbeats 1000000 in
theorem fld_elements (l : List Int) (v : Value) (w : World) (h : SliceOf vI 1 w v l) :
    Calls Try.prog 41 #[v] w fun e w' => e = .returned (.bool (allF l)) ∧ w = w' := by
  obtain ⟨ao, cp, rfl⟩ := h.shape
  have HC := hide h.at_
  clear h
  go_enter Try.func41, Try.ntmps41
  go_wp2_with fail
  go_loop [7] (fun i => ∃ k : Nat, k ≤ l.length ∧ i = .int .i64 k ∧ allF (l.take k) = true) (fun i => l.length - (intOf i).toNat)
  case atStart => exact ⟨0, Nat.zero_le _, rfl, rfl⟩
  case round =>
    obtain ⟨k, hk, rfl, hall⟩ := hrel
    have HA := hide hall
    clear hall
    by_cases hlt : k < l.length
    · obtain ⟨b, off, rfl, hb, h1, h2, hc⟩ := HC.out (by omega)
      have hx := int_cell hc hlt
      have hm : (cp : Int) ≤ 9223372036854775807 := by unfold maxLen at h2; omega
      have HS := hide (allF_take hlt HA.out)
      have HN := hide (fun h => allF_no (l := l) hlt h)
      clear hc hb h2
      obtain ⟨x, hxx⟩ : ∃ x, l[k] = x := ⟨_, rfl⟩
      rw [hxx] at hx HS HN
      clear hxx
      rcases Bool.eq_false_or_eq_true (inF x) with hp | hp
      · rw [hp] at HS
        have hp' := hide hp
        clear hp
        go_wp2_with fail
        refine (fld_element_at x true _ hp'.out).mono ?_
        rintro e w' ⟨rfl, rfl⟩
        go_wp2_with fail
        go_round
        case rel => exact ⟨k + 1, by omega, by go_num, HS.out⟩
        case measure => simp [intOf]; omega
      · have hf := hide (HN.out hp)
        have hp' := hide hp
        clear hp
        go_wp2_with fail
        refine (fld_element_at x false _ hp'.out).mono ?_
        rintro e w' ⟨rfl, rfl⟩
        go_wp2_with fail
        go_ret
        exact ⟨ret_bool hf.out.symm, rfl⟩
    · have hk' : k = l.length := by omega
      subst hk'
      rw [List.take_length] at HA
      have HC' := HC.out
      by_cases h0 : 0 < l.length
      · obtain ⟨b, off, rfl, hb, h1, h2, hc⟩ := HC' h0
        clear hc HC'
        unfold maxLen at h2
        go_wp2_with fail
        go_ret
        exact ⟨ret_bool HA.out.symm, rfl⟩
      · clear HC'
        go_wp2_with fail
        go_ret
        exact ⟨ret_bool HA.out.symm, rfl⟩

theorem fld_elements_at (l : List Int) (p : Bool) (v : Value) (w : World) (h : SliceOf vI 1 w v l) (hp : allF l = p) :
    Calls Try.prog 41 #[v] w fun e w' => e = .returned (.bool p) ∧ w = w' := by
  subst hp; exact fld_elements l v w h
end Go.Proofs.Ytahlhiiekgnmpab
