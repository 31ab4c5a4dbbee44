/- repeated: a row of equal digits. -/
import Derived.Test.YtncocgfgbocnkaaGreatDoorRfB
import Derived.Test.YtncocgfgbocnkaaGreatDoorRaM
set_option linter.unusedVariables false
set_option linter.unusedSimpArgs false
namespace Go.Proofs.YtncocgfgbocnkaaGreatDoor
open Go.RowKit

theorem rep_step {n k d : Nat} (h : k < n) : (List.replicate k d ++ List.replicate (n - k) 0).set k d = List.replicate (k + 1) d ++ List.replicate (n - (k + 1)) 0 := by
  obtain ⟨m, rfl⟩ : ∃ m, n = k + 1 + m := ⟨n - (k + 1), by omega⟩
  rw [show k + 1 + m - k = m + 1 by omega, show k + 1 + m - (k + 1) = m by omega]
  rw [List.set_append_right _ _ (by simp)]
  rw [List.length_replicate, Nat.sub_self, List.replicate_succ, List.set_cons_zero, List.replicate_succ' (n := k), List.append_assoc]
  rfl
theorem TxtI.raw {w : World} {B n : Nat} {o : List Nat} (h : TxtI w B n o) (hl : o.length = n) (h256 : ∀ r ∈ o, r < 256) : ∀ j (hj : j < (o.map UInt8.ofNat).length), w.cell? (Addr.add ⟨B, 0, none⟩ j) = some (.int .u8 ((o.map UInt8.ofNat)[j].toNat : Int)) := by
  intro j hj
  have hj' : j < o.length := by simpa using hj
  rcases h.o.2 with ⟨ao, h1, h2, _⟩ | ⟨g, off, cap, hv, hb, hlt, hn, hm, hc, hx⟩
  · omega
  · simp only [Value.slice.injEq, Option.some.injEq, Addr.mk.injEq, and_true, true_and] at hv
    obtain ⟨⟨rfl, rfl⟩, rfl⟩ := hv
    have ea : Addr.add ⟨B, 0, none⟩ j = ⟨B, 0 + j, none⟩ := by simp [Addr.add]; intro h; omega
    rw [ea]
    refine hx j _ ?_
    rw [flatY, List.getElem?_map, List.getElem?_eq_getElem hj']
    simp only [List.getElem_map, Option.map_some]
    have hm := h256 _ (List.getElem_mem hj')
    congr 2
    rw [UInt8.toNat_ofNat']
    omega
set_option maxHeartbeats 2000000 in
set_option maxRecDepth 100000 in
theorem law04_repeated (d n : Nat) (w : World) (hd : d < 256) (hn : n ≤ 100000) :
    Calls Tryz.prog 37 #[.int .u8 (d : Int), .int .i64 (n : Int)] w fun e w' => e = .returned (.string (bL (List.replicate n (UInt8.ofNat d)))) ∧ Below w.heap.size w w' := by
  have hmk := run_make_row' (P := Tryz.prog) 73 5 (.int .u8 0) 1 Tryz.underlying73 Tryz.infoU8 rfl .i64 .i64 n (by omega) (by omega)
  have HD := hide hd
  clear hd
  go_enter Tryz.func37, Tryz.ntmps37
  go_wp2_with fail
  clear hmk
  go_loopw [6] (fun x wx => ∃ k : Nat, k ≤ n ∧ x = .int .i64 (k : Int) ∧ TxtI wx w.heap.size n (List.replicate k d ++ List.replicate (n - k) 0) ∧ Below w.heap.size w wx) (fun x _ => n - (intOf x).toNat)
  case atStart => exact ⟨0, Nat.zero_le _, rfl, ⟨by simpa using OwnS.madeY0 w n _ (by unfold maxLen; omega)⟩, (Below.refl _ w).alloc (Nat.le_refl _) _⟩
  case round =>
    obtain ⟨k, hk, rfl, ht, hbl⟩ := hrel
    have HT := hide ht
    have HB := hide hbl
    by_cases hkn : k < n
    · obtain ⟨u, s0, s1⟩ := ht.cell hkn
      rw [Nat.zero_add] at s0 s1
      have HS := hide (rep_step (d := d) hkn)
      have q4 : decide ((k : Int) < (n : Int)) = true := decide_eq_true (by omega)
      have q5 : IntKind.i64.wrap ((k : Int) + 1) = (k : Int) + 1 := IntWalk.i64_in _ (by omega)
      clear ht hbl
      go_wp2_with fail
      go_roundw
      case rel =>
        refine ⟨k + 1, by omega, by go_num, ?_, HB.out.setCell (p := ⟨w.heap.size, k, none⟩) (Nat.le_refl _) _⟩
        have := HT.out.set hkn d
        rw [Nat.zero_add, HS.out] at this
        exact this
      case measure => (simp [intOf]; try omega)
    · obtain rfl : k = n := by omega
      have q4 : decide ((k : Int) < (k : Int)) = false := decide_eq_false (by omega)
      rw [Nat.sub_self, List.replicate_zero, List.append_nil] at ht
      have hcv := run_convert_bytes_back (P := Tryz.prog) wr 73 22 5 ⟨w.heap.size, 0, none⟩ k ((List.replicate k d).map UInt8.ofNat) Tryz.underlying73 Tryz.underlying5 Tryz.underlying22 (ht.raw (by simp) (fun r hr => by have := List.eq_of_mem_replicate hr; have := HD.out; omega))
      rw [List.length_map, List.length_replicate, List.map_replicate] at hcv
      clear ht hbl
      go_wp2_with fail
      go_ret
      exact ⟨rfl, HB.out⟩
end Go.Proofs.YtncocgfgbocnkaaGreatDoor
