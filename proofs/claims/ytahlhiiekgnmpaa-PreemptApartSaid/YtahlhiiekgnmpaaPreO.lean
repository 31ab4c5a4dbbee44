/- An argument of interruptions: it reads as a list. -/
import Derived.Test.YtahlhiiekgnmpaaPreA
import Derived.Deep.SlicePairs
namespace Go.Proofs.Ytahlhiiekgnmpaa
open Go.RowKit Go.Deep Go.ChangeShapes Go.WideShapes

theorem Try.cells3 : Try.prog.cellsOf 3 = 1 := by kernel_rfl
theorem Try.cellsIP : Try.prog.cellsOf 54 = 2 := by kernel_rfl
theorem addr_spot {w : World} {a : Addr} {v : Value} (h : w.cell? a = some v) : a = ⟨a.block, a.off, none⟩ := by
  have := World.cell?_spot h
  cases a
  simp only at this
  rw [this]
theorem open_ip {H : Type} {enc : TypeId × Value → H} {w : World} {r : Reach} {b0 : Nat} {v : Value} {d : DataW H} {p : List MemPlace} (hv : Value.okWide Try.prog w r b0 43 v)
    (h : DataW.Trod enc Try.prog w 0 (fun _ => true) true 43 v d p) : ∃ l : List IP, SliceOf vIP 2 w v l := by
  obtain ⟨a0, len0, cap0, rfl⟩ := okWide_slice Try.underlying43 hv
  obtain ⟨fuel, hf⟩ := h
  rcases open_slice_pairs Try.underlying43 Try.underlying54 Try.cellsIP rfl rfl Try.cells3 Try.cells3 hf with ⟨hcs, _⟩ | ⟨a, len, cap, m, n, V0, V1, D0, D1, P0, P1, hcs, _, hl, hm, hmm, _, hc⟩
  · have e : Value.slice a0 len0 cap0 = .slice none 0 0 := by simpa [Value.cells] using hcs
    rw [e]
    exact ⟨[], .inl ⟨none, rfl, rfl⟩⟩
  · have e : Value.slice a0 len0 cap0 = .slice (some a) len cap := by simpa [Value.cells] using hcs
    rw [e]
    have hmc : m = cap := by rw [hmm]; rfl
    by_cases h0 : cap = 0
    · have : len = 0 := by omega
      subst h0 this
      exact ⟨[], .inl ⟨some a, rfl, rfl⟩⟩
    · have hc0 := (hc 0 (by omega)).1
      have hsp : a.add (0 * 2) = a := by unfold Addr.add; simp
      rw [hsp] at hc0
      have ha := addr_spot hc0
      have hb := World.block_lt_of_cell? w _ hc0
      have hint : ∀ i, i < m → V0 i = .int .i64 (intOf (V0 i)) ∧ V1 i = .int .i64 (intOf (V1 i)) := by
        intro i hi
        obtain ⟨_, _, h3, h4⟩ := hc i hi
        obtain ⟨x, e0, _⟩ := DataW.trod_int Try.underlying3 h3
        obtain ⟨y, e1, _⟩ := DataW.trod_int Try.underlying3 h4
        have e0' : V0 i = .int .i64 x := by simpa using e0
        have e1' : V1 i = .int .i64 y := by simpa using e1
        rw [e0', e1']
        exact ⟨rfl, rfl⟩
      have hll : ((List.range len).map fun i => ((intOf (V0 i), intOf (V1 i)) : IP)).length = len := by simp
      refine ⟨(List.range len).map fun i => (intOf (V0 i), intOf (V1 i)), .inr ⟨a.block, a.off, cap, ?_, hb, by rw [hll]; exact hl, hm, fun i hi j u hu => ?_⟩⟩
      · rw [hll, ← ha]
      · rw [hll] at hi
        obtain ⟨c0, c1, _, _⟩ := hc i (by omega)
        obtain ⟨i0, i1⟩ := hint i (by omega)
        rw [ha, addr_add] at c0 c1
        have hu' : ([.int .i64 (intOf (V0 i)), .int .i64 (intOf (V1 i))] : List Value)[j]? = some u := by simpa [vIP] using hu
        match j, hu' with
        | 0, hu' =>
          have : .int .i64 (intOf (V0 i)) = u := by simpa using hu'
          rw [← this, ← i0]
          exact c0
        | 1, hu' =>
          have : .int .i64 (intOf (V1 i)) = u := by simpa using hu'
          rw [← this, ← i1]
          exact c1
        | j + 2, hu' => simp at hu'
end Go.Proofs.Ytahlhiiekgnmpaa
