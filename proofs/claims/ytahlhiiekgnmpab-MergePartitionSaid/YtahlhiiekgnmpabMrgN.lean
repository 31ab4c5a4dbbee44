/- MergeMatchesReference: the walk. -/
import Derived.Test.YtahlhiiekgnmpabMrgO
set_option linter.unusedVariables false
set_option linter.unusedSimpArgs false
namespace Go.Proofs.Ytahlhiiekgnmpab
open Go.RowKit

theorem law38_few_at (ao : Option Addr) (n c : Nat) (p : Bool) (w : World) (h : fewB n = p) : Calls Try.prog 25 #[.slice ao n c] w fun e w' => e = .returned (.bool p) ∧ w = w' := by
  subst h; exact law38_few ao n c w
theorem ref38_groups_at (l : List Al) (win er : Int) (v : Value) (w : World) (h : SliceOf vAl 5 w v l) (he : gErr win l = er) :
    Calls Try.prog 27 #[v, .int .i64 win] w fun e w' => ∃ u M, e = .returned (.tuple #[u, .int .i64 er]) ∧ SliceSS vI 1 w' u M ∧ Below w.heap.size w w' ∧ GOk win l M := by
  subst he
  exact ref38_groups l win v w h

set_option maxHeartbeats 2000000 in
set_option maxRecDepth 100000 in
theorem mergeMatches_walk (l : List Al) (win : Int) (v : Value) (w : World) (h : SliceOf vAl 5 w v l) :
    Calls Try.prog 9 #[v, .int .i64 win] w fun e w' => e = .returned (.bool true) ∧ Below w.heap.size w w' := by
  have HS := hide h
  obtain ⟨ao, cp, rfl⟩ := h.shape
  clear h
  go_enter Try.func9, Try.ntmps9
  go_wp2_with fail
  refine (law38_head _).mono ?_
  rintro e w1 ⟨rfl, hb1⟩
  have HB1 := hide hb1
  have HS1 := hide (HS.out.below hb1)
  clear hb1 HS
  go_wp2_with fail
  rcases Bool.eq_false_or_eq_true (fewB l.length) with hf | hf
  · have HF := hide hf
    clear hf
    refine (law38_few_at _ _ _ true _ HF.out).mono ?_
    rintro e w2 ⟨rfl, rfl⟩
    go_wp2_with fail
    obtain ⟨er, he⟩ : ∃ er, gErr win l = er := ⟨_, rfl⟩
    have HE := hide he
    clear he
    refine (mrg_groups_at l win er _ _ HS1.out HE.out).mono ?_
    rintro e w3 ⟨u, M, rfl, hss, hb3, hok⟩
    have HA := hide hss
    have HB3 := hide hb3
    have HS3 := hide (HS1.out.below hb3)
    have HK := hide hok
    clear hss hb3 hok HS1
    go_wp2_with fail
    refine (ref38_groups_at l win er _ _ HS3.out HE.out).mono ?_
    rintro e w4 ⟨u', M', rfl, hss, hb4, hok⟩
    obtain rfl := gok_uniq HK.out hok
    have HC := hide hss
    have HA4 := hide (HA.out.below hb4)
    have HB4 := hide (bstep' (bstep' HB1.out HB3.out) hb4)
    clear hss hb4 hok HS3 HA HB3 HB1
    have hee : (er == er) = true := by simp
    go_wp2_with fail
    refine (ref38_same_eq M _ _ _ HA4.out HC.out).mono ?_
    rintro e w5 ⟨rfl, n, rfl⟩
    go_wp2_with fail
    go_ret
    exact ⟨rfl, bdraw HB4.out _⟩
  · have HF := hide hf
    clear hf
    refine (law38_few_at _ _ _ false _ HF.out).mono ?_
    rintro e w2 ⟨rfl, rfl⟩
    go_wp2_with fail
    go_ret
    exact ⟨rfl, HB1.out⟩
end Go.Proofs.Ytahlhiiekgnmpab
