/- observatoryref03: div. -/
import Derived.Test.YtbefdlncpobmlaaGreatDoorRfF
namespace Go.Proofs.YtbefdlncpobmlaaGreatDoor
open Go.RowKit

def bLs (l : List UInt8) : ByteArray := ⟨l.toArray⟩
theorem bLs_list (l : List UInt8) : (bLs l).data.toList = l := rfl
theorem bLs_size (l : List UInt8) : (bLs l).size = l.length := rfl
theorem bLs_nil : bLs [] = ⟨#[]⟩ := rfl
theorem ba_append (a b : ByteArray) : (a ++ b).data.toList = a.data.toList ++ b.data.toList := by
  rw [ByteArray.data_append, Array.toList_append]
theorem ba_one {s : ByteArray} {i : Nat} (h : i < s.size) : (s.extract i (i + 1)).data.toList = [s[i]] := by
  rw [ByteArray.data_extract, Array.toList_extract]
  simp only [List.extract]
  rw [show i + 1 - i = 1 by omega, List.take_one, List.head?_drop, List.getElem?_eq_getElem (by exact h)]
  rfl
theorem digits_at {n : Nat} (h : n < 10) : (⟨#[48, 49, 50, 51, 52, 53, 54, 55, 56, 57]⟩ : ByteArray)[n]'(by show n < 10; exact h) = UInt8.ofNat (48 + n) := by
  have : ∀ n : Fin 10, (⟨#[48, 49, 50, 51, 52, 53, 54, 55, 56, 57]⟩ : ByteArray)[n.val]'(by show n.val < 10; exact n.isLt) = UInt8.ofNat (48 + n.val) := by decide +kernel
  exact this ⟨n, h⟩
/-- What div's loop keeps. -/
structure QuoI (x y k : Nat) (Q : List UInt8) (q r : Nat) : Prop where
  len : Q.length = k
  dig : ∀ b ∈ Q, isDg b = true
  val : nval Q = q
  eq : q * y + r = nval ((Lib.decDigits x).take k)
  lt : r < y
theorem QuoI.start (x y : Nat) (h : 0 < y) : QuoI x y 0 [] 0 0 := ⟨rfl, by simp, rfl, by simp [nval], h⟩
theorem QuoI.next {x y k q r n : Nat} {Q : List UInt8} (h : QuoI x y k Q q r) (hk : k < (Lib.decDigits x).length) {d : Nat} (hd : dvN (Lib.decDigits x)[k] = d) (h1 : n * y ≤ r * 10 + d) (h2 : r * 10 + d - n * y < y) (h9 : n < 10) :
    QuoI x y (k + 1) (Q ++ [UInt8.ofNat (48 + n)]) (q * 10 + n) (r * 10 + d - n * y) := by
  refine ⟨by simp [h.len], fun b hb => ?_, ?_, ?_, h2⟩
  · rcases List.mem_append.1 hb with hb | hb
    · exact h.dig b hb
    · simp at hb; have := isDg_ofNat (d := n) h9; rw [hb]; simpa using this
  · rw [nval_snoc, h.val, dvN_ofNat h9]
  · rw [nval_take_succ hk, hd]
    exact quo_step h.eq h1
theorem QuoI.done {x y q r : Nat} {Q : List UInt8} (h : QuoI x y (Lib.decDigits x).length Q q r) : q = x / y ∧ r = x % y := by
  have := h.eq
  rw [nval_take_all] at this
  exact div_end this h.lt
/-- The number that a rest and a digit spell. -/
theorem rest_digit {s t : ByteArray} {r : Nat} {b : UInt8} (hs : s = natS r) (ht : t.data.toList = [b]) (hb : isDg b = true) :
    (s ++ t).size = (natS r).size + 1 ∧ (∀ c ∈ (s ++ t).data.toList, isDg c = true) ∧ nval (s ++ t).data.toList = r * 10 + dvN b := by
  subst hs
  have e : (natS r ++ t).data.toList = Lib.decDigits r ++ [b] := by rw [ba_append, ht]; rfl
  refine ⟨?_, ?_, ?_⟩
  · rw [ba_size, e, List.length_append, natS_size]; rfl
  · rw [e]
    intro c hc
    rcases List.mem_append.1 hc with hc | hc
    · exact dec_digit r c hc
    · simp at hc; rw [hc]; exact hb
  · rw [e, nval_snoc, nval_dec]
set_option maxHeartbeats 4000000 in
set_option maxRecDepth 100000 in
theorem ref_div (x y : Nat) (w : World) (hx : x < capN) (hy : y < capK 999) (h0 : 0 < y) :
    Calls Tryz.prog 38 #[.string (natS x), .string (natS y)] w fun e w' => e = .returned (.tuple #[.string (natS (x / y)), .string (natS (x % y))]) ∧ Below w.heap.size w w' := by
  have sx : 1 ≤ (natS x).size ∧ (natS x).size ≤ 1000 := by rw [natS_size]; exact ⟨dec_len_pos x, capN_len.2 hx⟩
  have sy : 1 ≤ (natS y).size ∧ (natS y).size ≤ 999 := by rw [natS_size]; exact ⟨dec_len_pos y, (capK_len (by decide)).2 hy⟩
  have hyN : y < capN := to_capN hy (by decide)
  have HYN := hide hyN
  have H10 : Hid (∀ r, r < 10 * y → r < capN) := fun r hr => by
    have : capK 999 * capK 1 = capK 1000 := capK_mul 999 1
    have e1 : capK 1 = 10 := by decide +kernel
    rw [e1] at this
    show r < capK 1000
    omega
  have HQ0 := hide (QuoI.start x y h0)
  clear hx hy hyN
  obtain ⟨la, hla⟩ : ∃ n, (natS x).size = n := ⟨_, rfl⟩
  have HLA := hide hla
  rw [hla] at sx
  have HZ0 : Hid (natS 0 = ⟨#[48]⟩) := natS_zero
  go_enter Tryz.func38, Tryz.ntmps38
  go_wp2_with fail
  go_loopw [6, 7, 8] (fun z1 z2 z3 wx => ∃ (k : Nat) (Q : List UInt8) (q r : Nat), k ≤ la ∧ z1 = .string (bLs Q) ∧ z2 = .string (natS r) ∧ z3 = .int .i64 (k : Int) ∧ QuoI x y k Q q r ∧ Below w.heap.size w wx) (fun _ _ z3 _ => la - (intOf z3).toNat)
  case atStart => exact ⟨0, [], 0, 0, Nat.zero_le _, rfl, by rw [HZ0.out], rfl, HQ0.out, Below.refl _ _⟩
  case round =>
    obtain ⟨k, Q, q, r, hk, rfl, rfl, rfl, hq, hbl⟩ := hrel
    have HQ := hide hq
    have HB := hide hbl
    have hrl : r < y := hq.lt
    have hql : Q.length = k := hq.len
    clear hq hbl HQ0
    by_cases hkl : k < la
    · have f1 : decide ((k : Int) < (la : Int)) = true := decide_eq_true (by omega)
      have q1 : IntKind.i64.wrap ((k : Int) + 1) = ((k + 1 : Nat) : Int) := IntWalk.i64_in _ (by omega)
      have hkx : k < (natS x).size := by omega
      have hkd : k < (Lib.decDigits x).length := by rw [← natS_size]; exact hkx
      have hdg : isDg (natS x)[k] = true := dec_digit x _ (List.getElem_mem hkd)
      obtain ⟨d, hd⟩ : ∃ d, dvN (Lib.decDigits x)[k] = d := ⟨_, rfl⟩
      have hd10 : d < 10 := by rw [← hd]; exact dvN_lt (dec_digit x _ (List.getElem_mem hkd))
      have HD := hide hd
      have HT : Hid (∀ W, Calls Tryz.prog 56 #[.string (natS r ++ (natS x).extract k (k + 1))] W fun e w' => e = .returned (.string (natS (r * 10 + d))) ∧ w' = W) := fun W => by
        obtain ⟨t1, t2, t3⟩ := rest_digit (s := natS r) (t := (natS x).extract k (k + 1)) rfl (ba_one hkx) hdg
        have hr1000 : (natS r).size ≤ 1000 := by
          rw [natS_size]
          exact capN_len.2 (Nat.lt_trans hrl HYN.out)
        have := ref_trimmed (natS r ++ (natS x).extract k (k + 1)) W (by rw [t1]; unfold maxLen; omega) (by rw [t1]; omega) t2
        rw [t3] at this
        rw [← HD.out]
        exact this
      have hr10 : r * 10 + d < 10 * y := by omega
      have hadd : ∀ W, (Op.stringOp .add (natS r) ((natS x).extract k (k + 1))).run Tryz.prog W = .ok (.string (natS r ++ (natS x).extract k (k + 1))) W := fun W => by
        refine run_string_add_sum W _ _ ?_
        have hr1000 : (natS r).size ≤ 1000 := by
          rw [natS_size]
          exact capN_len.2 (Nat.lt_trans hrl HYN.out)
        have := ba_size ((natS x).extract k (k + 1))
        rw [ba_one hkx] at this
        simp only [List.length_cons, List.length_nil] at this
        omega
      clear hdg hd
      go_wp2_with fail
      refine (HT.out _).mono ?_
      rintro e w1 ⟨rfl, rfl⟩
      clear HT hadd
      obtain ⟨R, hR⟩ : ∃ R, r * 10 + d = R := ⟨_, rfl⟩
      rw [hR] at hr10
      have HR0 : Hid (natS (r * 10 + d) = natS (R - 0 * y)) := by show _ = _; rw [hR, Nat.zero_mul]; rfl
      have HR := hide hR
      clear hR
      obtain ⟨wo, rfl⟩ : ∃ wo : World, wo = w1 := ⟨_, rfl⟩
      go_wp2_with fail
      go_loopw [7, 9] (fun z2 z4 wx => ∃ n : Nat, n * y ≤ R ∧ n ≤ 9 ∧ z2 = .string (natS (R - n * y)) ∧ z4 = .int .i64 (n : Int) ∧ Below w.heap.size w wx) (fun _ z4 _ => 9 - (intOf z4).toNat)
      case atStart => exact ⟨0, by omega, by omega, by rw [HR0.out], rfl, HB.out⟩
      case round =>
        obtain ⟨n, hn, hn9, rfl, rfl, hbl⟩ := hrel
        have HB2 := hide hbl
        clear hbl HR0
        have hcap : R - n * y < capN := H10.out _ (Nat.lt_of_le_of_lt (Nat.sub_le _ _) hr10)
        by_cases hlt : R - n * y < y
        · have HL : Hid (∀ W, Calls Tryz.prog 31 #[.string (natS (R - n * y)), .string (natS y)] W fun e w' => e = .returned (.bool true) ∧ W = w') := fun W => by
            have := ref_less (R - n * y) y W hcap HYN.out
            rw [decide_eq_true hlt] at this
            exact this
          have HN : Hid (QuoI x y (k + 1) (Q ++ [UInt8.ofNat (48 + n)]) (q * 10 + n) (R - n * y)) := by
            have := HQ.out.next hkd HD.out (n := n) (by rw [HR.out]; exact hn) (by rw [HR.out]; exact hlt) (by omega)
            rw [HR.out] at this
            exact this
          have hadd : ∀ W, (Op.stringOp .add (bLs Q) ((⟨#[48, 49, 50, 51, 52, 53, 54, 55, 56, 57]⟩ : ByteArray).extract n (n + 1))).run Tryz.prog W = .ok (.string (bLs (Q ++ [UInt8.ofNat (48 + n)]))) W := fun W => by
            have hsz : n < (⟨#[48, 49, 50, 51, 52, 53, 54, 55, 56, 57]⟩ : ByteArray).size := by show n < 10; omega
            have h1 := ba_one hsz
            rw [digits_at (show n < 10 by omega)] at h1
            have e : bLs Q ++ (⟨#[48, 49, 50, 51, 52, 53, 54, 55, 56, 57]⟩ : ByteArray).extract n (n + 1) = bLs (Q ++ [UInt8.ofNat (48 + n)]) := by
              apply ba_eq
              rw [ba_append, h1]; rfl
            rw [← e]
            refine run_string_add_sum W _ _ ?_
            have h2 := ba_size ((⟨#[48, 49, 50, 51, 52, 53, 54, 55, 56, 57]⟩ : ByteArray).extract n (n + 1))
            rw [h1] at h2
            simp only [List.length_cons, List.length_nil] at h2
            have h3 := bLs_size Q
            omega
          obtain ⟨Q2, hQ2⟩ : ∃ Q2, Q ++ [UInt8.ofNat (48 + n)] = Q2 := ⟨_, rfl⟩
          rw [hQ2] at HN hadd
          have q2 : IntKind.i64.wrap ((n : Int) + 1) = (n : Int) + 1 := IntWalk.i64_in _ (by omega)
          have hn0 : (0 : Int) ≤ (n : Int) := by omega
          have hn10 : (n : Int) + 1 ≤ 10 := by omega
          clear hlt hcap hQ2
          go_wp2_with fail
          refine (HL.out _).mono ?_
          rintro e w2 ⟨rfl, rfl⟩
          go_wp2_with fail
          go_roundw
          case rel => exact ⟨k + 1, _, _, _, by omega, rfl, rfl, by go_num, HN.out, HB2.out⟩
          case measure => (simp [intOf]; try omega)
        · have HL : Hid (∀ W, Calls Tryz.prog 31 #[.string (natS (R - n * y)), .string (natS y)] W fun e w' => e = .returned (.bool false) ∧ W = w') := fun W => by
            have := ref_less (R - n * y) y W hcap HYN.out
            rw [decide_eq_false hlt] at this
            exact this
          have e1 : (n + 1) * y = n * y + y := by rw [Nat.add_mul, Nat.one_mul]
          have HS : Hid (∀ W, Calls Tryz.prog 32 #[.string (natS (R - n * y)), .string (natS y)] W fun e w' => e = .returned (.string (natS (R - (n + 1) * y))) ∧ Below W.heap.size W w') := fun W => by
            have := ref_sub (R - n * y) y W hcap (by omega)
            rw [show R - n * y - y = R - (n + 1) * y by omega] at this
            exact this
          have hn1 : (n + 1) * y ≤ R := by omega
          have hn8 : n + 1 ≤ 9 := by
            have h2 : (n + 1) * y < 10 * y := Nat.lt_of_le_of_lt hn1 hr10
            have := Nat.lt_of_mul_lt_mul_right h2
            omega
          clear hlt hcap e1
          go_wp2_with fail
          refine (HL.out _).mono ?_
          rintro e w2 ⟨rfl, rfl⟩
          go_wp2_with fail
          refine (HS.out _).mono ?_
          rintro e w3 ⟨rfl, hb⟩
          have HB3 := hide (bStep HB2.out hb)
          clear hb
          go_wp2_with fail
          go_roundw
          case rel => exact ⟨n + 1, hn1, hn8, rfl, by go_num, HB3.out⟩
          case measure => (simp [intOf]; try omega)
    · obtain rfl : k = la := by omega
      have f1 : decide ((k : Int) < (k : Int)) = false := decide_eq_false (by omega)
      have hkd : k = (Lib.decDigits x).length := by rw [← natS_size]; exact hla.symm
      have hdone : q = x / y ∧ r = x % y := by
        have := HQ.out
        rw [hkd] at this
        exact this.done
      obtain ⟨rfl, rfl⟩ := hdone
      have HT : Hid (∀ W, Calls Tryz.prog 56 #[.string (bLs Q)] W fun e w' => e = .returned (.string (natS (x / y))) ∧ w' = W) := fun W => by
        have := ref_trimmed (bLs Q) W (by rw [bLs_size]; unfold maxLen; omega) (by rw [bLs_size]; omega) HQ.out.dig
        rw [bLs_list, HQ.out.val] at this
        exact this
      clear hkd
      go_wp2_with fail
      refine (HT.out _).mono ?_
      rintro e w1 ⟨rfl, rfl⟩
      go_wp2_with fail
      go_ret2
      exact ⟨rfl, HB.out⟩
end Go.Proofs.YtbefdlncpobmlaaGreatDoor
