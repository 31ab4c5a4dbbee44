/- The reference functions of layer 40, and the statements' own function cost. -/
import Derived.Test.YtahlhiiekgnmpaaPreF
namespace Go.Proofs.Ytahlhiiekgnmpaa
open Go.RowKit

def winB (n : Int) : Bool := decide (1 ≤ n ∧ n ≤ 38400)
theorem winB_yes {n : Int} : winB n = true ↔ 1 ≤ n ∧ n ≤ 38400 := by unfold winB; simp
theorem winB_no {n : Int} : winB n = false ↔ ¬ (1 ≤ n ∧ n ≤ 38400) := by unfold winB; simp only [decide_eq_false_iff_not]
theorem ref40_moment (n : Int) (w : World) : Calls Try.prog 70 #[.int .i64 n] w fun e w' => e = .returned (.bool (inB n 38399)) ∧ w = w' := by
  by_cases c1 : 0 ≤ n
  · by_cases c2 : n ≤ 38399
    · have h := hide (inB_yes.2 ⟨c1, c2⟩)
      go_enter Try.func70, Try.ntmps70
      go_wp2
      go_ret
      exact ⟨ret_bool h.out.symm, rfl⟩
    · have h := hide (inB_no.2 (show ¬ (0 ≤ n ∧ n ≤ 38399) by omega))
      go_enter Try.func70, Try.ntmps70
      go_wp2
      go_ret
      exact ⟨ret_bool h.out.symm, rfl⟩
  · have h := hide (inB_no.2 (show ¬ (0 ≤ n ∧ n ≤ 38399) by omega))
    go_enter Try.func70, Try.ntmps70
    go_wp2
    go_ret
    exact ⟨ret_bool h.out.symm, rfl⟩
theorem ref40_window (n : Int) (w : World) : Calls Try.prog 66 #[.int .i64 n] w fun e w' => e = .returned (.bool (winB n)) ∧ w = w' := by
  by_cases c1 : 1 ≤ n
  · by_cases c2 : n ≤ 38400
    · have h := hide (winB_yes.2 ⟨c1, c2⟩)
      go_enter Try.func66, Try.ntmps66
      go_wp2
      go_ret
      exact ⟨ret_bool h.out.symm, rfl⟩
    · have h := hide (winB_no.2 (show ¬ (1 ≤ n ∧ n ≤ 38400) by omega))
      go_enter Try.func66, Try.ntmps66
      go_wp2
      go_ret
      exact ⟨ret_bool h.out.symm, rfl⟩
  · have h := hide (winB_no.2 (show ¬ (1 ≤ n ∧ n ≤ 38400) by omega))
    go_enter Try.func66, Try.ntmps66
    go_wp2
    go_ret
    exact ⟨ret_bool h.out.symm, rfl⟩
theorem ref40_budget (n : Int) (w : World) : Calls Try.prog 67 #[.int .i64 n] w fun e w' => e = .returned (.bool (inB n 1000000)) ∧ w = w' := by
  by_cases c1 : 0 ≤ n
  · by_cases c2 : n ≤ 1000000
    · have h := hide (inB_yes.2 ⟨c1, c2⟩)
      go_enter Try.func67, Try.ntmps67
      go_wp2
      go_ret
      exact ⟨ret_bool h.out.symm, rfl⟩
    · have h := hide (inB_no.2 (show ¬ (0 ≤ n ∧ n ≤ 1000000) by omega))
      go_enter Try.func67, Try.ntmps67
      go_wp2
      go_ret
      exact ⟨ret_bool h.out.symm, rfl⟩
  · have h := hide (inB_no.2 (show ¬ (0 ≤ n ∧ n ≤ 1000000) by omega))
    go_enter Try.func67, Try.ntmps67
    go_wp2
    go_ret
    exact ⟨ret_bool h.out.symm, rfl⟩

/-- The cost of the window that ends at a moment. -/
def costW (win m : Int) : List IP → Int
  | [] => 0
  | x :: l => (if m - win < x.1 ∧ x.1 ≤ m then x.2 else 0) + costW win m l
theorem costW_append (win m : Int) : ∀ l l' : List IP, costW win m (l ++ l') = costW win m l + costW win m l'
  | [], l' => by simp [costW]
  | x :: l, l' => by
    show (if m - win < x.1 ∧ x.1 ≤ m then x.2 else 0) + costW win m (l ++ l') = (if m - win < x.1 ∧ x.1 ≤ m then x.2 else 0) + costW win m l + costW win m l'
    rw [costW_append win m l l']; omega
theorem costW_snoc {win m : Int} {l : List IP} {k : Nat} (h : k < l.length) : costW win m (l.take (k + 1)) = costW win m (l.take k) + (if m - win < l[k].1 ∧ l[k].1 ≤ m then l[k].2 else 0) := by
  rw [List.take_succ_eq_append_getElem h, costW_append]
  simp [costW]
theorem costW_bd (win m : Int) : ∀ l : List IP, (∀ x ∈ l, bdIP x) → 0 ≤ costW win m l ∧ costW win m l ≤ 1000 * l.length
  | [], _ => by simp [costW]
  | x :: l, h => by
    have h1 := costW_bd win m l fun y hy => h y (List.mem_cons_of_mem _ hy)
    have h2 := h x List.mem_cons_self
    unfold bdIP at h2
    show 0 ≤ (if m - win < x.1 ∧ x.1 ≤ m then x.2 else 0) + costW win m l ∧ (if m - win < x.1 ∧ x.1 ≤ m then x.2 else 0) + costW win m l ≤ _
    rw [List.length_cons]
    split <;> omega

set_option maxHeartbeats 1000000 in
set_option maxRecDepth 100000 in
theorem ref40_cost_some (l : List IP) (b off cap : Nat) (win m : Int) (w : World) (hl : l.length ≤ 1000) (hbd : ∀ x ∈ l, bdIP x) (m0 : -200000 ≤ m) (m1 : m ≤ 200000) (w0 : -200000 ≤ win) (w1 : win ≤ 200000)
    (hc : ∀ i (h : i < l.length) j u, (vIP l[i])[j]? = some u → w.cell? ⟨b, off + i * 2 + j, none⟩ = some u) :
    Calls Try.prog 68 #[.slice (some ⟨b, off, none⟩) l.length cap, .int .i64 win, .int .i64 m] w fun e w' => e = .returned (.int .i64 (costW win m l)) ∧ w = w' := by
  have Hc := hide hc
  have Hbd := hide hbd
  clear hc hbd
  go_enter Try.func68, Try.ntmps68
  go_wp2_with fail
  go_loop [7, 8] (fun s i => ∃ k : Nat, k ≤ l.length ∧ i = .int .i64 k ∧ s = .int .i64 (costW win m (l.take k))) (fun _ i => l.length - (intOf i).toNat)
  case atStart => exact ⟨0, Nat.zero_le _, rfl, rfl⟩
  case round =>
    obtain ⟨k, hk, rfl, rfl⟩ := hrel
    by_cases hlt : k < l.length
    · obtain ⟨x0, x1⟩ := ip_cells Hc.out hlt
      have hki : (k : Int) < (l.length : Int) := by omega
      have hb := Hbd.out l[k] (List.getElem_mem hlt)
      have hs := hide (costW_snoc (win := win) (m := m) hlt)
      have hcb := costW_bd win m (l.take k) fun x hx => Hbd.out x (List.mem_of_mem_take hx)
      have htl : (l.take k).length ≤ k := List.length_take_le _ _
      unfold bdIP at hb
      obtain ⟨xa, hxa⟩ : ∃ x, l[k].1 = x := ⟨_, rfl⟩
      obtain ⟨xc, hxc⟩ : ∃ x, l[k].2 = x := ⟨_, rfl⟩
      rw [hxa] at x0 hb hs
      rw [hxc] at x1 hb hs
      clear hxa hxc
      by_cases c1 : m - win < xa
      · by_cases c2 : xa ≤ m
        · have hs2 : Hid (costW win m (l.take (k + 1)) = costW win m (l.take k) + xc) := by
            show costW win m (l.take (k + 1)) = _
            rw [hs.out, if_pos ⟨c1, c2⟩]
          go_wp2_with fail
          go_round
          case rel => exact ⟨k + 1, by omega, by go_num, by rw [hs2.out]⟩
          case measure => simp [intOf]; omega
        · have hs2 : Hid (costW win m (l.take (k + 1)) = costW win m (l.take k)) := by
            show costW win m (l.take (k + 1)) = _
            rw [hs.out, if_neg (by omega), Int.add_zero]
          go_wp2_with fail
          go_round
          case rel => exact ⟨k + 1, by omega, by go_num, by rw [hs2.out]⟩
          case measure => simp [intOf]; omega
      · have hs2 : Hid (costW win m (l.take (k + 1)) = costW win m (l.take k)) := by
          show costW win m (l.take (k + 1)) = _
          rw [hs.out, if_neg (by omega), Int.add_zero]
        go_wp2_with fail
        go_round
        case rel => exact ⟨k + 1, by omega, by go_num, by rw [hs2.out]⟩
        case measure => simp [intOf]; omega
    · have hk' : k = l.length := by omega
      subst hk'
      have hall : Hid (costW win m (l.take l.length) = costW win m l) := by
        show costW win m (l.take l.length) = _
        rw [List.take_length]
      go_wp2_with fail
      go_ret
      exact ⟨ret_int (by first | rfl | exact hall.out), rfl⟩
theorem ref40_cost (l : List IP) (v : Value) (win m : Int) (w : World) (h : SliceOf vIP 2 w v l) (hl : l.length ≤ 1000) (hbd : ∀ x ∈ l, bdIP x) (m0 : -200000 ≤ m) (m1 : m ≤ 200000) (w0 : -200000 ≤ win) (w1 : win ≤ 200000) :
    Calls Try.prog 68 #[v, .int .i64 win, .int .i64 m] w fun e w' => e = .returned (.int .i64 (costW win m l)) ∧ w = w' := by
  rcases h with ⟨ao, rfl, rfl⟩ | ⟨b, off, cap, rfl, hb, h1, h2, hc⟩
  · go_enter Try.func68, Try.ntmps68
    go_wp2_with fail
    go_loop [7, 8] (fun s i => i = .int .i64 0 ∧ s = .int .i64 0) (fun _ _ => 0)
    case atStart => exact ⟨rfl, rfl⟩
    case round =>
      obtain ⟨rfl, rfl⟩ := hrel
      go_wp2_with fail
      go_ret
      exact ⟨rfl, rfl⟩
  · exact ref40_cost_some l b off cap win m w hl hbd m0 m1 w0 w1 hc
set_option maxHeartbeats 1000000 in
set_option maxRecDepth 100000 in
theorem law40_cost_some (l : List IP) (b off cap : Nat) (win m : Int) (w : World) (hl : l.length ≤ 1000) (hbd : ∀ x ∈ l, bdIP x) (m0 : -200000 ≤ m) (m1 : m ≤ 200000) (w0 : -200000 ≤ win) (w1 : win ≤ 200000)
    (hc : ∀ i (h : i < l.length) j u, (vIP l[i])[j]? = some u → w.cell? ⟨b, off + i * 2 + j, none⟩ = some u) :
    Calls Try.prog 38 #[.slice (some ⟨b, off, none⟩) l.length cap, .int .i64 win, .int .i64 m] w fun e w' => e = .returned (.int .i64 (costW win m l)) ∧ w = w' := by
  have Hc := hide hc
  have Hbd := hide hbd
  clear hc hbd
  go_enter Try.func38, Try.ntmps38
  go_wp2_with fail
  go_loop [7, 8] (fun s i => ∃ k : Nat, k ≤ l.length ∧ i = .int .i64 k ∧ s = .int .i64 (costW win m (l.take k))) (fun _ i => l.length - (intOf i).toNat)
  case atStart => exact ⟨0, Nat.zero_le _, rfl, rfl⟩
  case round =>
    obtain ⟨k, hk, rfl, rfl⟩ := hrel
    by_cases hlt : k < l.length
    · obtain ⟨x0, x1⟩ := ip_cells Hc.out hlt
      have hki : (k : Int) < (l.length : Int) := by omega
      have hb := Hbd.out l[k] (List.getElem_mem hlt)
      have hs := hide (costW_snoc (win := win) (m := m) hlt)
      have hcb := costW_bd win m (l.take k) fun x hx => Hbd.out x (List.mem_of_mem_take hx)
      have htl : (l.take k).length ≤ k := List.length_take_le _ _
      unfold bdIP at hb
      obtain ⟨xa, hxa⟩ : ∃ x, l[k].1 = x := ⟨_, rfl⟩
      obtain ⟨xc, hxc⟩ : ∃ x, l[k].2 = x := ⟨_, rfl⟩
      rw [hxa] at x0 hb hs
      rw [hxc] at x1 hb hs
      clear hxa hxc
      by_cases c1 : m - win < xa
      · by_cases c2 : xa ≤ m
        · have hs2 : Hid (costW win m (l.take (k + 1)) = costW win m (l.take k) + xc) := by
            show costW win m (l.take (k + 1)) = _
            rw [hs.out, if_pos ⟨c1, c2⟩]
          go_wp2_with fail
          go_round
          case rel => exact ⟨k + 1, by omega, by go_num, by rw [hs2.out]⟩
          case measure => simp [intOf]; omega
        · have hs2 : Hid (costW win m (l.take (k + 1)) = costW win m (l.take k)) := by
            show costW win m (l.take (k + 1)) = _
            rw [hs.out, if_neg (by omega), Int.add_zero]
          go_wp2_with fail
          go_round
          case rel => exact ⟨k + 1, by omega, by go_num, by rw [hs2.out]⟩
          case measure => simp [intOf]; omega
      · have hs2 : Hid (costW win m (l.take (k + 1)) = costW win m (l.take k)) := by
          show costW win m (l.take (k + 1)) = _
          rw [hs.out, if_neg (by omega), Int.add_zero]
        go_wp2_with fail
        go_round
        case rel => exact ⟨k + 1, by omega, by go_num, by rw [hs2.out]⟩
        case measure => simp [intOf]; omega
    · have hk' : k = l.length := by omega
      subst hk'
      have hall : Hid (costW win m (l.take l.length) = costW win m l) := by
        show costW win m (l.take l.length) = _
        rw [List.take_length]
      go_wp2_with fail
      go_ret
      exact ⟨ret_int (by first | rfl | exact hall.out), rfl⟩
theorem law40_cost (l : List IP) (v : Value) (win m : Int) (w : World) (h : SliceOf vIP 2 w v l) (hl : l.length ≤ 1000) (hbd : ∀ x ∈ l, bdIP x) (m0 : -200000 ≤ m) (m1 : m ≤ 200000) (w0 : -200000 ≤ win) (w1 : win ≤ 200000) :
    Calls Try.prog 38 #[v, .int .i64 win, .int .i64 m] w fun e w' => e = .returned (.int .i64 (costW win m l)) ∧ w = w' := by
  rcases h with ⟨ao, rfl, rfl⟩ | ⟨b, off, cap, rfl, hb, h1, h2, hc⟩
  · go_enter Try.func38, Try.ntmps38
    go_wp2_with fail
    go_loop [7, 8] (fun s i => i = .int .i64 0 ∧ s = .int .i64 0) (fun _ _ => 0)
    case atStart => exact ⟨rfl, rfl⟩
    case round =>
      obtain ⟨rfl, rfl⟩ := hrel
      go_wp2_with fail
      go_ret
      exact ⟨rfl, rfl⟩
  · exact law40_cost_some l b off cap win m w hl hbd m0 m1 w0 w1 hc
end Go.Proofs.Ytahlhiiekgnmpaa
