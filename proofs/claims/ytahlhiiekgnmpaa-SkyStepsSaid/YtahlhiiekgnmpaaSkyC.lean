/- sky.Near: the tiles within a distance, in order. -/
import Derived.Test.YtahlhiiekgnmpaaSkyB
namespace Go.Proofs.Ytahlhiiekgnmpaa
open Go.RowKit

/-- The tiles below k that are within r of a. -/
def nearK (a r : Int) : Nat → List Int
  | 0 => []
  | k + 1 => if distI a k ≤ r then nearK a r k ++ [(k : Int)] else nearK a r k
def nearV (a r : Int) : List Int := if isTile a && decide (0 ≤ r ∧ r < 32) then nearK a r 512 else []
def nearB (a r : Int) : Bool := isTile a && decide (0 ≤ r ∧ r < 32)
theorem nearK_le (a r : Int) : ∀ k, (nearK a r k).length ≤ k
  | 0 => by simp [nearK]
  | k + 1 => by
    have := nearK_le a r k
    unfold nearK
    split <;> simp <;> omega
theorem nearK_yes {a r : Int} {k : Nat} (h : distI a k ≤ r) : nearK a r (k + 1) = nearK a r k ++ [(k : Int)] := by rw [nearK, if_pos h]
theorem nearK_no {a r : Int} {k : Nat} (h : ¬ distI a k ≤ r) : nearK a r (k + 1) = nearK a r k := by rw [nearK, if_neg h]

theorem Try.info3 : (Try.prog.info? 3).map (fun i => (i.zero, i.size, i.bytes)) = some (some (.int .i64 0), 1, 8) := by kernel_rfl

theorem near_yes {B : Nat} {w' : World} {v' : Value} {a r : Int} {k : Nat} (h : distI a k ≤ r) (hown : w'.ownsRow B 3 1 v' ((nearK a r k).length + 1) ((nearK a r k).map (Value.int .i64) ++ [.int .i64 k])) :
    w'.ownsRow B 3 1 v' (nearK a r (k + 1)).length ((nearK a r (k + 1)).map (Value.int .i64)) := by
  rw [nearK_yes h]
  simpa using hown

set_option maxHeartbeats 1000000 in
set_option maxRecDepth 100000 in
theorem sky_near_ok (a r : Int) (w : World) (ha : isTile a = true) (h1 : 0 ≤ r) (h2 : r < 32) :
    Calls Try.prog 24 #[.int .i64 a, .int .i64 r] w fun e w' => ∃ v, e = .returned (.tuple #[v, .int .i64 0]) ∧ IntSlice w' v (nearK a r 512) ∧ Below w.heap.size w w' := by
  obtain ⟨i0, hi, hz0, hz1, hz2⟩ := info_parts Try.info3
  obtain ⟨a1, a2⟩ := isTile_iff.1 ha
  go_enter Try.func24, Try.ntmps24
  go_wp2_with fail
  refine (sky_is1 a _ _ _ (by simp [go_sem]) (by omega)).mono ?_
  rintro e w1 ⟨rfl, rfl⟩
  rw [ha]
  go_wp2_with fail
  go_loopw [6, 20] (fun v i wr => ∃ k : Nat, k ≤ 512 ∧ i = .int .i64 k ∧ wr.ownsRow w.heap.size 3 1 v (nearK a r k).length ((nearK a r k).map (Value.int .i64)) ∧ Below w.heap.size w wr)
    (fun _ i _ => 512 - (intOf i).toNat)
  case atStart => exact ⟨0, Nat.zero_le _, rfl, World.ownsRow_nil _ _ _ _, (Below.refl _ _).alloc (Nat.le_refl _) _⟩
  case round =>
    obtain ⟨k, hk, rfl, hown, hb⟩ := hrel
    by_cases hlt : k < 512
    · go_wp2_with fail
      refine (sky_distance a k _ a1 a2 (by omega) (by omega)).mono ?_
      rintro e w2 ⟨rfl, hb2⟩
      have hb3 : Below w.heap.size w w2 := btrans hb hb.size hb2
      have hown2 := owns_below hown hb2
      have hlen := nearK_le a r k
      clear hown
      by_cases hd : distI a k ≤ r
      · go_wp2_with (at_builtin; refine wpList_append1 rfl _ _ 31 rfl w.heap.size 3 i0 (.int .i64 0) 1 8 Try.underlying31 hi hz0 hz1 hz2 rfl (by decide) _ _ _ rfl hown2 #[.int .i64 k] 3 1 rfl rfl ?_ ?_ (by decide) hb3.size ?_)
        · first | rfl | (intro u hu; simp at hu; subst hu; rfl)
        · omega
        · intro v' w4 hown4 _ hb4
          have hown5 := near_yes hd hown4
          have hb5 := hb3.trans hb4
          clear hown4 hown2
          go_wp2
          go_roundw
          case rel => exact ⟨k + 1, by omega, by go_num, hown5, hb5⟩
          case measure => simp [intOf]; omega
      · have hno := nearK_no hd
        rw [← hno] at hown2
        have Hno := hide hno
        clear hno
        go_wp2_with fail
        go_roundw
        case rel => exact ⟨k + 1, by omega, by go_num, hown2, hb3⟩
        case measure => simp [intOf]; omega
    · have hk' : k = 512 := by omega
      subst hk'
      go_wp2_with fail
      go_ret2
      exact ⟨_, rfl, IntSlice.of_owns hown, hb⟩

set_option maxHeartbeats 1000000 in
theorem sky_near_bad (a r : Int) (w : World) (h : nearB a r = false) :
    Calls Try.prog 24 #[.int .i64 a, .int .i64 r] w fun e w' => e = .returned (.tuple #[.slice none 0 0, .int .i64 1]) ∧ Below w.heap.size w w' := by
  by_cases ha : isTile a = true
  · have hr : ¬ (0 ≤ r ∧ r < 32) := by simpa [nearB, ha] using h
    clear h
    by_cases h1 : 0 ≤ r
    · have h2 : ¬ r < 32 := by omega
      clear hr
      go_enter Try.func24, Try.ntmps24
      go_wp2_with fail
      refine (sky_is1 a _ _ _ (by simp [go_sem]) (by omega)).mono ?_
      rintro e w1 ⟨rfl, rfl⟩
      rw [ha]
      go_wp2_with fail
      go_ret2
      exact ⟨rfl, (Below.refl _ _).alloc (Nat.le_refl _) _⟩
    · clear hr
      go_enter Try.func24, Try.ntmps24
      go_wp2_with fail
      refine (sky_is1 a _ _ _ (by simp [go_sem]) (by omega)).mono ?_
      rintro e w1 ⟨rfl, rfl⟩
      rw [ha]
      go_wp2_with fail
      go_ret2
      exact ⟨rfl, (Below.refl _ _).alloc (Nat.le_refl _) _⟩
  · have ha' : isTile a = false := by simpa using ha
    clear ha h
    go_enter Try.func24, Try.ntmps24
    go_wp2_with fail
    refine (sky_is1 a _ _ _ (by simp [go_sem]) (by omega)).mono ?_
    rintro e w1 ⟨rfl, rfl⟩
    rw [ha']
    go_wp2_with fail
    go_ret2
    exact ⟨rfl, (Below.refl _ _).alloc (Nat.le_refl _) _⟩

theorem sky_near (a r : Int) (w : World) :
    Calls Try.prog 24 #[.int .i64 a, .int .i64 r] w fun e w' => ∃ v, e = .returned (.tuple #[v, .int .i64 (errB (nearB a r))]) ∧ IntSlice w' v (nearV a r) ∧ Below w.heap.size w w' := by
  by_cases h : nearB a r = true
  · have h' : (isTile a && decide (0 ≤ r ∧ r < 32)) = true := h
    have h2 : isTile a = true ∧ 0 ≤ r ∧ r < 32 := by simpa using h'
    rw [h]
    unfold nearV
    rw [if_pos h']
    exact sky_near_ok a r w h2.1 h2.2.1 h2.2.2
  · have h3 : nearB a r = false := by simpa using h
    have h' : ¬ (isTile a && decide (0 ≤ r ∧ r < 32)) = true := h
    rw [h3]
    unfold nearV
    rw [if_neg h']
    exact (sky_near_bad a r w h3).mono fun e w' ⟨he, hb⟩ => ⟨_, he, .inl ⟨rfl, rfl⟩, hb⟩
end Go.Proofs.Ytahlhiiekgnmpaa
