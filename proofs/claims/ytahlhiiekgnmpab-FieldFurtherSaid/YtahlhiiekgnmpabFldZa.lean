/- The laws of layer 6: FieldFurther. -/
import Derived.Test.YtahlhiiekgnmpabFldZ
namespace Go.Proofs.Ytahlhiiekgnmpab
open Go.RowKit

theorem new_two (w : World) (o1 o2 : Obj) : ((w.alloc o1).alloc o2).heap[w.heap.size]? = some o1 := by
  show ((w.heap.push o1).push o2)[w.heap.size]? = some o1
  rw [Array.getElem?_push, if_neg (by simp), Array.getElem?_push, if_pos rfl]
theorem new_two' (w : World) (o1 o2 : Obj) : ((w.alloc o1).alloc o2).heap[w.heap.size + 1]? = some o2 := by
  show ((w.heap.push o1).push o2)[w.heap.size + 1]? = some o2
  rw [Array.getElem?_push, if_pos (by simp)]
def FurSt (w w4 : World) (l : List (Int × Int)) (v : Value) : Prop := SliceOf vP2 2 w4 v l ∧ Below w.heap.size w w4
theorem snoc_p2 {w : World} {B : Nat} {v : Value} {l : List (Int × Int)} {fx fy : Int} (h : OwnS w B 2 v (l.length + 1) (flatV vP2 l ++ (#[Value.int .i64 fx, Value.int .i64 fy] : Array Value).toList)) : SliceOf vP2 2 w v (l ++ [(fx, fy)]) := by
  refine OwnS.slice vP2_len (B := B) ?_
  rw [flatV_append, flatV_one, List.length_append]
  exact h
theorem ofB_take {x : Int} {l : List (Int × Int)} {k : Nat} (hk : k < l.length) : ofB x (l.take (k + 1)) = (ofB x (l.take k) || (l[k].1 == x)) := by
  unfold ofB
  rw [List.take_succ_eq_append_getElem hk, List.any_append]; simp

set_option maxHeartbeats 4000000 in
set_option maxRecDepth 100000 in
theorem fieldFurther_main (l : List (Int × Int)) (fx fy x : Int) (v : Value) (w : World) (h : SliceOf vP2 2 w v l) (g1 : (1 : Int) ≤ (l.length : Int)) (g2 : (l.length : Int) ≤ 15) :
    Calls Try.prog 8 #[v, .agg #[.int .i64 fx, .int .i64 fy], .int .i64 x] w fun e w' => e = .returned (.bool true) ∧ Below w.heap.size w w' := by
  obtain ⟨i0, hi, hz0, hz1, hz2⟩ := info_parts Try.infoP2
  obtain ⟨ao, cp, rfl⟩ := h.shape
  obtain ⟨b, off, rfl, hb, hcap, hmx, hc⟩ := h.at_ (by omega)
  obtain ⟨cx, hcx⟩ : ∃ cx : Nat → Int, ∀ k (hk : k < l.length), l[k].1 = cx k := ⟨fun k => (l.getD k (0, 0)).1, fun k hk => by simp [List.getD, hk]⟩
  have HC : Hid (∀ k, k < l.length → w.cell? ⟨b, off + k * 2, none⟩ = some (.int .i64 (cx k))) := fun k hk => by
    rw [← hcx k hk]; exact (p2_cells hc hk).1
  have HOF : Hid (∀ k, k < l.length → ofB x (l.take (k + 1)) = (ofB x (l.take k) || (cx k == x))) := fun k hk => by
    rw [← hcx k hk]; exact ofB_take hk
  have hmc : (cp : Int) ≤ 9223372036854775807 := by unfold maxLen at hmx; omega
  have HFA := hide (further_facts (l := l) (fu := (fx, fy)) (x := x) (by omega) (by omega))
  have HH := hide h
  obtain ⟨a, ha⟩ : ∃ a, ipV l x = a := ⟨_, rfl⟩
  obtain ⟨ae, hae⟩ : ∃ a, ipE l x = a := ⟨_, rfl⟩
  obtain ⟨c, hcv⟩ : ∃ a, ipV (l ++ [(fx, fy)]) x = a := ⟨_, rfl⟩
  obtain ⟨ce, hce⟩ : ∃ a, ipE (l ++ [(fx, fy)]) x = a := ⟨_, rfl⟩
  obtain ⟨d, hdv⟩ : ∃ a, ipV l fx = a := ⟨_, rfl⟩
  obtain ⟨de, hde⟩ : ∃ a, ipE l fx = a := ⟨_, rfl⟩
  have E1 := hide (And.intro ha hae)
  have E2 := hide (And.intro hcv hce)
  have E3 := hide (And.intro hdv hde)
  simp only [ha, hae, hcv, hce, hdv, hde] at HFA
  clear h hc hmx hcx ha hae hcv hce hdv hde
  have HBF := hide (bAlloc (Below.refl w.heap.size w) (.cells #[.int .i64 fx, .int .i64 fy] 39))
  have hbs : l.length * 16 ≤ 140737488355328 := by omega
  have hbs1 : (l.length + 1) * 16 ≤ 140737488355328 := by omega
  have hml : l.length ≤ maxLen := by unfold maxLen; omega
  have HML := hide hml
  clear hml
  have H1 : Hid (∀ u ∈ (#[Value.int .i64 fx, Value.int .i64 fy] : Array Value).toList, u.oneCell' = true) := by
    intro u hu
    simp at hu
    rcases hu with rfl | rfl <;> rfl
  go_enter Try.func8, Try.ntmps8
  go_wp2_with fail
  refine (law06_head _).mono ?_
  rintro e w1 ⟨rfl, hb1⟩
  have B1 := hide (bstep HBF.out hb1)
  have q0 : w1.cell? ⟨w.heap.size, 0, none⟩ = some (.int .i64 fx) := keep_cell hb1 (by simp [go_sem])
  have q1 : w1.cell? ⟨w.heap.size, 1, none⟩ = some (.int .i64 fy) := keep_cell hb1 (by simp [go_sem])
  have HL1 := hide (HH.out.below B1.out)
  have hw1 : w.heap.size < w1.heap.size := World.block_lt_of_cell? _ _ q0
  clear hb1
  have HQ : Hid (∀ W, Below w1.heap.size w1 W → W.cell? ⟨w.heap.size, 0, none⟩ = some (.int .i64 fx) ∧ W.cell? ⟨w.heap.size, 1, none⟩ = some (.int .i64 fy)) := fun W hW => ⟨keep_cell hW q0, keep_cell hW q1⟩
  go_wp2_with fail
  go_region_held3 (fun w' => w'.cell? ⟨w.heap.size, 0, none⟩ = some (.int .i64 fx) ∧ w'.cell? ⟨w.heap.size, 1, none⟩ = some (.int .i64 fy))
    (first | exact HQ.out _ HF.out.2 | exact HQ.out _ HB3.out | exact HQ.out _ (bAlloc HB3.out _) | exact HQ.out _ (bAlloc (bDraw (Below.refl _ w1)) _) | exact HQ.out _ (bAlloc (bAlloc (bDraw (Below.refl _ w1)) _) _) | go_keep)
    ((first
      | (refine step_appendS rfl _ _ 34 rfl w1.heap.size 39 i0 (.agg #[.int .i64 0, .int .i64 0]) 2 16 Try.underlying34 hi hz0 hz1 hz2 rfl (by decide) _ l.length (flatV vP2 l) rfl (by first | exact HO1.out | exact HO1.out.alloc _) _ #[.int .i64 fx, .int .i64 fy] 39 1 rfl (by first | exact new_block _ _ | (refine (HG1.out.block _ (by simp <;> omega) (by simp <;> omega)).trans ?_; first | exact new_two' _ _ _ | exact new_two _ _ _)) rfl H1.out hbs1 (by decide) (by first | exact HB3.out.size | exact (bAlloc HB3.out _).size) ?_; intro g off2 cap2 w4 hown4 hg4 hat4; have HF : Hid (FurSt w1 w4 (l ++ [(fx, fy)]) (.slice (some ⟨g, off2, none⟩) (l.length + 1) cap2)) := ⟨snoc_p2 hown4, by first | exact HB3.out.grown hg4 HB3.out.size (fun k hk => (HO1.out.lt k hk).1) | exact (bAlloc HB3.out _).grown hg4 (bAlloc HB3.out _).size (fun k hk => (HO1.out.lt k hk).1)⟩; clear hown4 hg4 hat4)
      | (refine step_append_slice0 rfl _ _ 34 rfl w1.heap.size 39 i0 (.agg #[.int .i64 0, .int .i64 0]) 2 16 Try.underlying34 hi hz0 hz1 hz2 rfl (by decide) vP2_len vP2_one _ rfl (by simp <;> omega) (by simp <;> omega) _ l rfl (HL1.out.below (by first | exact bAlloc (bDraw (Below.refl _ w1)) _ | exact bAlloc (bAlloc (bDraw (Below.refl _ w1)) _) _)) HML.out hbs ?_; intro ao1 cap1 w3 hown3 hg3; have HO1 := hide hown3; have HG1 := hide hg3; have HB3 : Hid (Below w1.heap.size w1 w3) := (by first | exact (bAlloc (bDraw (Below.refl _ w1)) _).grown hg3 (by simp <;> omega) (by simp <;> omega) | exact (bAlloc (bAlloc (bDraw (Below.refl _ w1)) _) _).grown hg3 (by simp <;> omega) (by simp <;> omega)); clear hown3 hg3)))
  all_goals
    have HX := hide HF.out.1
    have HL4 := hide (HL1.out.below HF.out.2)
    have B4 := hide (bstep B1.out HF.out.2)
    obtain ⟨c0, c1⟩ := HQ.out _ HF.out.2
    clear HF HB3 HO1 HG1 HL1 B1 q0 q1 HQ hw1
    go_wp2_with fail
    refine (fld_ip_at l x a ae _ _ HL4.out E1.out).mono ?_
    rintro e w5 ⟨rfl, hb5⟩
    replace HX := hide (HX.out.below hb5)
    replace HL4 := hide (HL4.out.below hb5)
    replace B4 := hide (bstep B4.out hb5)
    replace c0 := keep_cell hb5 c0
    replace c1 := keep_cell hb5 c1
    clear hb5
    go_wp2_with fail
    refine (fld_ip_at (l ++ [(fx, fy)]) x c ce _ _ HX.out E2.out).mono ?_
    rintro e w6 ⟨rfl, hb6⟩
    replace HL4 := hide (HL4.out.below hb6)
    replace B4 := hide (bstep B4.out hb6)
    replace c0 := keep_cell hb6 c0
    replace c1 := keep_cell hb6 c1
    clear hb6 HX
    go_wp2_with fail
    refine (fld_ip_at l fx d de _ _ HL4.out E3.out).mono ?_
    rintro e w7 ⟨rfl, hb7⟩
    replace B4 := hide (bstep B4.out hb7)
    replace c0 := keep_cell hb7 c0
    replace c1 := keep_cell hb7 c1
    clear hb7 HL4
    by_cases hce0 : ce = 0
    · subst hce0
      obtain ⟨r1, r2, r3⟩ := HFA.out rfl
      subst r1 r2
      have HR := hide r3
      have HT0 : Hid (ofB x (l.take 0) = false) := rfl
      clear r3 HFA
      go_wp2_with fail
      go_loop [15, 16] (fun t i => ∃ k : Nat, k ≤ l.length ∧ i = .int .i64 k ∧ t = .bool (ofB x (l.take k))) (fun _ i => l.length - (intOf i).toNat)
      case atStart => exact ⟨0, Nat.zero_le _, rfl, congrArg Value.bool HT0.out.symm⟩
      case round =>
        obtain ⟨k, hk, rfl, rfl⟩ := hrel
        by_cases hlt : k < l.length
        · have z0 := keep_cell B4.out (HC.out k hlt)
          have hki : (k : Int) < (l.length : Int) := by omega
          have hk0 : (0 : Int) ≤ (k : Int) := by omega
          have HO := hide (HOF.out k hlt)
          obtain ⟨p, hp⟩ : ∃ p, ofB x (l.take k) = p := ⟨_, rfl⟩
          rw [hp] at HO ⊢
          clear hp
          obtain ⟨q, hq⟩ : ∃ q, (cx k == x) = q := ⟨_, rfl⟩
          rw [hq] at HO
          cases p with
          | true =>
            clear hq
            go_wp2_with fail
            go_round
            case rel => exact ⟨k + 1, by omega, by go_num, by rw [HO.out]; rfl⟩
            case measure => simp [intOf]; omega
          | false =>
            go_wp2_with fail
            go_round
            case rel => exact ⟨k + 1, by omega, by go_num, by rw [HO.out]; rfl⟩
            case measure => simp [intOf]; omega
        · have hk' : k = l.length := by omega
          subst hk'
          have HTL : Hid (l.take l.length = l) := List.take_length
          rw [HTL.out]
          obtain ⟨p, hp⟩ : ∃ p, ofB x l = p := ⟨_, rfl⟩
          rw [hp] at HR ⊢
          clear hp
          cases p with
          | true =>
            have hac : (a == c) = true := by rw [HR.out.2 (.inl rfl)]; simp
            go_wp2_with fail
            go_ret
            exact ⟨rfl, B4.out⟩
          | false =>
            by_cases hd : d = fy
            · have hac : (a == c) = true := by rw [HR.out.2 (.inr hd)]; simp
              have hdb : (d == fy) = true := by rw [hd]; simp
              clear hd
              go_wp2_with fail
              go_ret
              exact ⟨rfl, B4.out⟩
            · have hac : (a == c) = false := beq_eq_false_iff_ne.2 fun e => by
                rcases HR.out.1 e with h | h
                · cases h
                · exact hd h
              have hdb : (d == fy) = false := beq_eq_false_iff_ne.2 hd
              clear hd
              go_wp2_with fail
              go_ret
              exact ⟨rfl, B4.out⟩
    · have hcb : (ce == 0) = false := beq_eq_false_iff_ne.2 hce0
      have hcn : (ce != 0) = true := by rw [bne, hcb]; rfl
      clear hce0 HFA
      by_cases ha0 : ae = 0
      · subst ha0
        go_wp2_with fail
        go_ret
        exact ⟨rfl, B4.out⟩
      · have hab : (ae == 0) = false := beq_eq_false_iff_ne.2 ha0
        have han : (ae != 0) = true := by rw [bne, hab]; rfl
        clear ha0
        go_wp2_with fail
        go_ret
        exact ⟨rfl, B4.out⟩
set_option maxHeartbeats 2000000 in
set_option maxRecDepth 100000 in
theorem fieldFurther_walk (l : List (Int × Int)) (fx fy x : Int) (v : Value) (w : World) (h : SliceOf vP2 2 w v l) :
    Calls Try.prog 8 #[v, .agg #[.int .i64 fx, .int .i64 fy], .int .i64 x] w fun e w' => e = .returned (.bool true) ∧ Below w.heap.size w w' := by
  by_cases g1 : (1 : Int) ≤ (l.length : Int)
  · by_cases g2 : (l.length : Int) ≤ 15
    · exact fieldFurther_main l fx fy x v w h g1 g2
    · obtain ⟨ao, cp, rfl⟩ := h.shape
      have g3 : (15 : Int) < (l.length : Int) := by omega
      clear h
      go_enter Try.func8, Try.ntmps8
      go_wp2_with fail
      refine (law06_head _).mono ?_
      rintro e w1 ⟨rfl, hb⟩
      go_wp2_with fail
      go_ret
      exact ⟨rfl, bstep (bAlloc (Below.refl w.heap.size w) _) hb⟩
  · obtain ⟨ao, cp, rfl⟩ := h.shape
    have g3 : (l.length : Int) < 1 := by omega
    clear h
    go_enter Try.func8, Try.ntmps8
    go_wp2_with fail
    refine (law06_head _).mono ?_
    rintro e w1 ⟨rfl, hb⟩
    go_wp2_with fail
    go_ret
    exact ⟨rfl, bstep (bAlloc (Below.refl w.heap.size w) _) hb⟩
end Go.Proofs.Ytahlhiiekgnmpab
