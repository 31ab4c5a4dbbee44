/- the iterator of Sum. -/
import Derived.Test.YtblpnekjnaaeoaaGreatDoorMoO
import Derived.RangeFuncBox
import Derived.RangeFuncLeaves
import Derived.Shelf.Abstract
import Derived.WalkKit
import Derived.OwnWalkIn
import Derived.TacticsInMore
import Derived.LoopNIn
import Derived.LoopIn
set_option linter.unusedVariables false
set_option linter.unusedSimpArgs false
namespace Go.Proofs.YtblpnekjnaaeoaaGreatDoor
open Go.RowKit Go.Shelf
attribute [local go_sem] Oper.semAt_some

theorem eO_oneG {α β : Type} {z : β} (om : Option α) : eO (om.bind fun _ => some z) = eO om := by cases om <;> rfl
theorem prS_eOg {α : Type} (op : Option α) (a b c d : Rat) (f g : Rat → Rat → Option Rat) : eO ((((op.bind fun _ => some (a, b)).bind fun z => f z.1 z.2).bind fun _ => some (c, d)).bind fun z => g z.1 z.2) = eO (op.bind fun _ => (f a b).bind fun v => (g c d).bind fun w => some (v, w)) := by
  cases op with
  | none => rfl
  | some x =>
    show eO (((f a b).bind fun _ => some (c, d)).bind fun z => g z.1 z.2) = eO ((f a b).bind fun v => (g c d).bind fun w => some (v, w))
    cases f a b with
    | none => rfl
    | some v =>
      show eO (g c d) = eO ((g c d).bind fun w => some (v, w))
      cases g c d <;> rfl
theorem prS_eO {α : Type} (op : Option α) (p q : PQ) : eO ((((op.bind fun _ => some (p.1, q.1)).bind fun z => addR z.1 z.2).bind fun _ => some (p.2, q.2)).bind fun z => mulR z.1 z.2) = eO (op.bind fun _ => prS p q) := prS_eOg op p.1 q.1 p.2 q.2 addR mulR
theorem prS_getg {α : Type} {o : α} {a b c d : Rat} {x : PQ} {f g : Rat → Rat → Option Rat} {R1 R2 : Rat → Prop} (hx : ((f a b).bind fun v => (g c d).bind fun w => some (v, w)) = some x)
    (h1 : ∀ r, (((some o).bind fun _ => some (a, b)).bind fun z => f z.1 z.2) = some r → R1 r) (h2 : ∀ r, (((((some o).bind fun _ => some (a, b)).bind fun z => f z.1 z.2).bind fun _ => some (c, d)).bind fun z => g z.1 z.2) = some r → R2 r) : R1 x.1 ∧ R2 x.2 := by
  cases hf : f a b with
  | none => rw [hf] at hx; cases hx
  | some v =>
    cases hg : g c d with
    | none => rw [hf, hg] at hx; cases hx
    | some w =>
      rw [hf, hg] at hx
      injection hx with hx
      subst hx
      refine ⟨h1 v hf, h2 w ?_⟩
      show ((f a b).bind fun _ => some (c, d)).bind (fun z => g z.1 z.2) = some w
      rw [hf]
      exact hg
theorem prS_get {α : Type} {o : α} {p q x : PQ} {R1 R2 : Rat → Prop} (hx : prS p q = some x) (h1 : ∀ r, (((some o).bind fun _ => some (p.1, q.1)).bind fun z => addR z.1 z.2) = some r → R1 r)
    (h2 : ∀ r, (((((some o).bind fun _ => some (p.1, q.1)).bind fun z => addR z.1 z.2).bind fun _ => some (p.2, q.2)).bind fun z => mulR z.1 z.2) = some r → R2 r) : R1 x.1 ∧ R2 x.2 := prS_getg (f := addR) (g := mulR) hx h1 h2
theorem drop_itS {a b : List PQ} {i : Nat} (h : i < a.length) : itS (a.drop i) b = b.map (fun q => prS a[i] q) ++ itS (a.drop (i + 1)) b := by
  rw [List.drop_eq_getElem_cons h]
  rfl
theorem drop_prS {a : PQ} {b : List PQ} {j : Nat} (h : j < b.length) : (b.drop j).map (fun q => prS a q) = prS a b[j] :: (b.drop (j + 1)).map (fun q => prS a q) := by
  rw [List.drop_eq_getElem_cons h]
  rfl
set_option maxHeartbeats 8000000 in
set_option maxRecDepth 100000 in
theorem mo_sumIt (n l A C Ba Bb : Nat) (hn : 1 ≤ n) (a b : List PQ) (ha : FitL a) (hb : FitL b) (hla : a.length ≤ 1000000) (hlb : b.length ≤ 1000000) (va vb : Value) (w0 W : World) (hL : LawM w0) (hsa : SliceOf vPr 6 w0 va (a.map encP)) (hsb : SliceOf vPr 6 w0 vb (b.map encP)) (hC : w0.heap.size ≤ C) (hAC : A ≠ C)
    (J : List PQ → World → Prop) (Jb Jx : World → Prop) (hJS : JS C (itS a b) J Jb)
    (hY : ∀ pre x X, J pre X → (pre ++ [x]).map some <+: (itS a b) → YieldAt Fence.wide (n - 1) Tryz.prog l (encA x) X fun e Y => e = .returned (.bool true) ∧ (J (pre ++ [x]) Y ∨ Jb Y) ∧ KpC w0.heap.size A C X Y)
    (hYb : ∀ av X, TxA av → Jb X → YieldAt Fence.wide (n - 1) Tryz.prog l av X fun e Y => e = .returned (.bool false) ∧ Jx Y ∧ KpC w0.heap.size A C X Y)
    (hit : ITC w0.heap.size A C w0 W [(Ba, [va]), (Bb, [vb])]) (hj : J [] W) :
    CallsIn Fence.wide n Tryz.prog 44 #[.func (.yield l) #[] #[], .pointer (some ⟨Ba, 0, none⟩), .pointer (some ⟨Bb, 0, none⟩), .pointer (some ⟨C, 0, none⟩)] W fun e W' => (∃ v, e = .returned v) ∧ ((∃ xs, itS a b = xs.map some ∧ J xs W') ∨ Jb W' ∨ Jx W') := by
  have HJS := hide hJS
  have HY := hide hY
  have HYb := hide hYb
  have HL := hide hL
  have HI := hide hit
  have HSA := hide hsa
  have HSB := hide hsb
  have HFA := hide ha
  have HFB := hide hb
  have hmla : (a.map encP).length = a.length := List.length_map ..
  have HMA := hide hmla
  have hmlb : (b.map encP).length = b.length := List.length_map ..
  have HMB := hide hmlb
  have hnA : (a.length : Int) ≤ 1000000 := by omega
  have hnB : (b.length : Int) ≤ 1000000 := by omega
  obtain ⟨ao, ca, rfl⟩ := hsa.shape
  obtain ⟨bo, cb, rfl⟩ := hsb.shape
  rw [hmla] at HI
  rw [hmlb] at HI
  have x0 := HI.out.one (b := Ba) (v := .slice ao a.length ca) (by simp)
  have HST : Hid (StC (itS a b) J Jb (itS (a.drop 0) b) (some []) W) := ⟨hj, rfl⟩
  clear hJS hY hYb hL hit hsa hsb ha hb hmla hmlb hj
  refine callsIn_of_wp Tryz.func44 rfl trivial ?_ rfl
  simp only [Tryz.ntmps44, List.size_toArray, List.length_cons, List.length_nil, Nat.reduceAdd, Nat.reduceSub, Array.replicate_succ, Array.replicate_zero, List.push_toArray, List.append_toArray, List.nil_append, List.cons_append]
  gi_wp2
  clear x0
  gi_loopw [11] (fun i wr => ∃ k : Nat, ∃ op, k ≤ a.length ∧ i = .int .i64 (k : Int) ∧ StC (itS a b) J Jb (itS (a.drop k) b) op wr ∧ ITC w0.heap.size A C w0 wr [(Ba, [.slice ao a.length ca]), (Bb, [.slice bo b.length cb])]) (fun i _ => a.length - (intOf i).toNat)
  case atStart => exact ⟨0, _, Nat.zero_le _, rfl, HST.out, HI.out⟩
  case round =>
    obtain ⟨k, op, hk, rfl, hst, hit⟩ := hrel
    have HI := hide hit
    have HS := hide hst
    clear hit hst HST
    by_cases hlt : k < a.length
    · have hkI : (k : Int) < (a.length : Int) := by omega
      have hk0 : (0 : Int) ≤ (k : Int) := by omega
      have HD : Hid (itS (a.drop k) b = b.map (fun q => prS a[k] q) ++ itS (a.drop (k + 1)) b) := drop_itS hlt
      have HFK := hide (HFA.out a[k] (List.getElem_mem hlt))
      have hlt' : k < (a.map encP).length := by rw [HMA.out]; exact hlt
      obtain ⟨bp, of, rfl, g1, g2, hp⟩ := HSA.out.ptAt HI.out.bel hlt'
      rw [List.getElem_map] at hp
      rw [HMA.out] at g1
      obtain ⟨pk, hpk⟩ : ∃ pk, a[k] = pk := ⟨_, rfl⟩
      rw [hpk] at hp HD HFK
      obtain ⟨p, hpe⟩ : ∃ p, encP pk = p := ⟨_, rfl⟩
      have HP1 : Hid (IsT pk.1 p.1) := by rw [← hpe]; exact IsT.self _
      have HP2 : Hid (IsT pk.2 p.2) := by rw [← hpe]; exact IsT.self _
      rw [hpe] at hp
      obtain ⟨y0, y1, y2, y3, y4, y5⟩ := hp
      have HSn := hide (HS.out.below HJS.out (bAlloc (Below.refl _ _) (.cells #[.bool p.1.1, .string p.1.2.1, .string p.1.2.2, .bool p.2.1, .string p.2.2.1, .string p.2.2.2] 41)))
      have HIn := hide (HI.out.push (HI.out.n rfl) (b := wr.heap.size) rfl (vPr p) 41)
      have x1 := HIn.out.one (b := Bb) (v := .slice bo b.length cb) (by simp)
      unfold vPr at HIn x1
      clear hpk hpe hlt' HI HS
      gi_wp2
      obtain ⟨w6, hw6⟩ : ∃ W, wr.alloc (.cells #[.bool p.1.1, .string p.1.2.1, .string p.1.2.2, .bool p.2.1, .string p.2.2.1, .string p.2.2.2] 41) = W := ⟨_, rfl⟩
      obtain ⟨X6, hX6⟩ : ∃ A, wr.heap.size = A := ⟨_, rfl⟩
      rw [hX6] at HIn
      have HIn : Hid (ITC w0.heap.size A C w0 w6 [(X6, vPr p), (Ba, [.slice (some ⟨bp, of, none⟩) a.length ca]), (Bb, [.slice bo b.length cb])]) := by rw [← hw6]; exact HIn
      rw [hw6] at HSn x1
      rw [hw6, hX6]
      rw [HD.out] at HSn
      clear hw6 hX6 x1 y0 y1 y2 y3 y4 y5
      gi_loopw [17] (fun j wx => ∃ m : Nat, ∃ op, m ≤ b.length ∧ j = .int .i64 (m : Int) ∧ StC (itS a b) J Jb ((b.drop m).map (fun q => prS pk q) ++ itS (a.drop (k + 1)) b) op wx ∧ ITC w0.heap.size A C w0 wx [(X6, vPr p), (Ba, [.slice (some ⟨bp, of, none⟩) a.length ca]), (Bb, [.slice bo b.length cb])]) (fun j _ => b.length - (intOf j).toNat)
      case atStart => exact ⟨0, _, Nat.zero_le _, rfl, HSn.out, HIn.out⟩
      case round =>
        obtain ⟨m, op', hm, rfl, hst, hit⟩ := hrel
        have HI := hide hit
        have HS := hide hst
        clear hit hst HSn HIn
        by_cases hlt2 : m < b.length
        · have hmI : (m : Int) < (b.length : Int) := by omega
          have hm0 : (0 : Int) ≤ (m : Int) := by omega
          have HD2 : Hid ((b.drop m).map (fun q => prS pk q) = prS pk b[m] :: (b.drop (m + 1)).map (fun q => prS pk q)) := drop_prS hlt2
          have HFM := hide (HFB.out b[m] (List.getElem_mem hlt2))
          have hlt' : m < (b.map encP).length := by rw [HMB.out]; exact hlt2
          obtain ⟨bq, oq, rfl, g3, g4, hq⟩ := HSB.out.ptAt HI.out.bel hlt'
          rw [List.getElem_map] at hq
          rw [HMB.out] at g3
          obtain ⟨qm, hqm⟩ : ∃ qm, b[m] = qm := ⟨_, rfl⟩
          rw [hqm] at hq HD2 HFM
          obtain ⟨q, hqe⟩ : ∃ q, encP qm = q := ⟨_, rfl⟩
          have HQ1 : Hid (IsT qm.1 q.1) := by rw [← hqe]; exact IsT.self _
          have HQ2 : Hid (IsT qm.2 q.2) := by rw [← hqe]; exact IsT.self _
          rw [hqe] at hq
          obtain ⟨y0, y1, y2, y3, y4, y5⟩ := hq
          have HSn := hide (HS.out.below HJS.out (bAlloc (Below.refl _ _) (.cells #[.bool q.1.1, .string q.1.2.1, .string q.1.2.2, .bool q.2.1, .string q.2.2.1, .string q.2.2.2] 41)))
          have HIn := hide (HI.out.push (HI.out.n rfl) (b := wr.heap.size) rfl (vPr q) 41)
          rw [HD2.out] at HSn
          clear hqm hqe hlt' HI HS HD2
          unfold vPr at HIn
          gi_wp2
          obtain ⟨w8, hw8⟩ : ∃ W, wr.alloc (.cells #[.bool q.1.1, .string q.1.2.1, .string q.1.2.2, .bool q.2.1, .string q.2.2.1, .string q.2.2.2] 41) = W := ⟨_, rfl⟩
          obtain ⟨X8, hX8⟩ : ∃ A, wr.heap.size = A := ⟨_, rfl⟩
          rw [hX8] at HIn
          have HIn : Hid (ITC w0.heap.size A C w0 w8 [(X8, vPr q), (X6, vPr p), (Ba, [.slice (some ⟨bp, of, none⟩) a.length ca]), (Bb, [.slice (some ⟨bq, oq, none⟩) b.length cb])]) := by rw [← hw8]; exact HIn
          rw [hw8] at HSn
          rw [hw8, hX8]
          clear hw8 hX8 y0 y1 y2 y3 y4 y5
          have HDW : Hid (Below w8.heap.size w8 w8.drew) := bDraw (Below.refl _ w8)
          have HSd := hide (HSn.out.below HJS.out HDW.out)
          have HId := hide (HIn.out.below HDW.out (HIn.out.n rfl))
          clear HSn HIn HDW
          obtain ⟨wd, hwd⟩ : ∃ W, w8.drew = W := ⟨_, rfl⟩
          rw [hwd] at HSd HId
          have HD1 := hide (mo_dE_Add C (op'.bind fun _ => some (pk.1, qm.1)) p.1 q.1 wd (HL.out.below HId.out.bel) (by rw [eO_oneG]; exact HSd.out.ce HJS.out) (fun a b h => by
            cases op' with
            | none => cases h
            | some _ => injection h with h; injection h with h1 h2; subst h1 h2; exact ⟨HP1.out, HQ1.out, HFK.out.1, HFM.out.1⟩))
          have HSS : Hid (∀ W, ITC w0.heap.size A C w0 W [(X8, vPr q), (X6, vPr p), (Ba, [.slice (some ⟨bp, of, none⟩) a.length ca]), (Bb, [.slice (some ⟨bq, oq, none⟩) b.length cb])] → (W.cell? ⟨X6, 0, none⟩ = some (.bool p.1.1) ∧ W.cell? ⟨X6, 1, none⟩ = some (.string p.1.2.1) ∧ W.cell? ⟨X6, 2, none⟩ = some (.string p.1.2.2) ∧ W.cell? ⟨X6, 3, none⟩ = some (.bool p.2.1) ∧ W.cell? ⟨X6, 4, none⟩ = some (.string p.2.2.1) ∧ W.cell? ⟨X6, 5, none⟩ = some (.string p.2.2.2)) ∧ (W.cell? ⟨X8, 0, none⟩ = some (.bool q.1.1) ∧ W.cell? ⟨X8, 1, none⟩ = some (.string q.1.2.1) ∧ W.cell? ⟨X8, 2, none⟩ = some (.string q.1.2.2) ∧ W.cell? ⟨X8, 3, none⟩ = some (.bool q.2.1) ∧ W.cell? ⟨X8, 4, none⟩ = some (.string q.2.2.1) ∧ W.cell? ⟨X8, 5, none⟩ = some (.string q.2.2.2))) := fun W h => ⟨h.pt (by simp), h.pt (by simp)⟩
          refine wpIn_region_G (S := (fun w' => (w'.cell? ⟨X6, 0, none⟩ = some (.bool p.1.1) ∧ w'.cell? ⟨X6, 1, none⟩ = some (.string p.1.2.1) ∧ w'.cell? ⟨X6, 2, none⟩ = some (.string p.1.2.2) ∧ w'.cell? ⟨X6, 3, none⟩ = some (.bool p.2.1) ∧ w'.cell? ⟨X6, 4, none⟩ = some (.string p.2.2.1) ∧ w'.cell? ⟨X6, 5, none⟩ = some (.string p.2.2.2)) ∧ (w'.cell? ⟨X8, 0, none⟩ = some (.bool q.1.1) ∧ w'.cell? ⟨X8, 1, none⟩ = some (.string q.1.2.1) ∧ w'.cell? ⟨X8, 2, none⟩ = some (.string q.1.2.2) ∧ w'.cell? ⟨X8, 3, none⟩ = some (.bool q.2.1) ∧ w'.cell? ⟨X8, 4, none⟩ = some (.string q.2.2.1) ∧ w'.cell? ⟨X8, 5, none⟩ = some (.string q.2.2.2)))) (by kernel_rfl) (by rw [hwd]; exact HSS.out _ HId.out) (fun hHeld => ?_)
          rw [hwd] at hHeld ⊢
          clear hwd
          change wpAnyG _ _ _ _ _ _ _ 14 #[false, false, false, false, false, false, false, false, false, false, false, false, false, false] _ _
          refine wpAnyG_take (i := 0) (oi := _) (v := ?_) rfl (by kernel_rfl) (by kernel_rfl) (by kernel_rfl) (by kernel_rfl) (fun _ _ _ h => h) ⟨by rfl, ?_, fun _ => rfl⟩ (by assumption) ?_
          rotate_left
          · intro w hSw
            (try dsimp only at hSw)
            go_simp
            try with_reducible rfl
          try simp only [List.getElem_toArray, List.getElem_cons_zero, List.getElem_cons_succ, List.get, Act.put, List.setIfInBounds_toArray, List.set_cons_zero, List.set_cons_succ]
          refine wpAnyG_take (i := 1) (oi := _) (v := ?_) rfl (by kernel_rfl) (by kernel_rfl) (by kernel_rfl) (by kernel_rfl) (fun _ _ _ h => h) ⟨by rfl, ?_, fun _ => rfl⟩ (by assumption) ?_
          rotate_left
          · intro w hSw
            (try dsimp only at hSw)
            go_simp
            try with_reducible rfl
          try simp only [List.getElem_toArray, List.getElem_cons_zero, List.getElem_cons_succ, List.get, Act.put, List.setIfInBounds_toArray, List.set_cons_zero, List.set_cons_succ]
          refine wpAnyG_take (i := 2) (oi := _) (v := ?_) rfl (by kernel_rfl) (by kernel_rfl) (by kernel_rfl) (by kernel_rfl) (fun _ _ _ h => h) ⟨by rfl, ?_, fun _ => rfl⟩ (by assumption) ?_
          rotate_left
          · intro w hSw
            (try dsimp only at hSw)
            go_simp
            try with_reducible rfl
          try simp only [List.getElem_toArray, List.getElem_cons_zero, List.getElem_cons_succ, List.get, Act.put, List.setIfInBounds_toArray, List.set_cons_zero, List.set_cons_succ]
          refine wpAnyG_take (i := 3) (oi := _) (v := ?_) rfl (by kernel_rfl) (by kernel_rfl) (by kernel_rfl) (by kernel_rfl) (fun _ _ _ h => h) ⟨by rfl, ?_, fun _ => rfl⟩ (by assumption) ?_
          rotate_left
          · intro w hSw
            (try dsimp only at hSw)
            go_simp
            try with_reducible rfl
          try simp only [List.getElem_toArray, List.getElem_cons_zero, List.getElem_cons_succ, List.get, Act.put, List.setIfInBounds_toArray, List.set_cons_zero, List.set_cons_succ]
          refine wpAnyG_take (i := 4) (oi := _) (v := ?_) rfl (by kernel_rfl) (by kernel_rfl) (by kernel_rfl) (by kernel_rfl) (fun _ _ _ h => h) ⟨by rfl, ?_, fun _ => rfl⟩ (by assumption) ?_
          rotate_left
          · intro w hSw
            (try dsimp only at hSw)
            go_simp
            try with_reducible rfl
          try simp only [List.getElem_toArray, List.getElem_cons_zero, List.getElem_cons_succ, List.get, Act.put, List.setIfInBounds_toArray, List.set_cons_zero, List.set_cons_succ]
          refine wpAnyG_take (i := 6) (oi := _) (v := ?_) rfl (by kernel_rfl) (by kernel_rfl) (by kernel_rfl) (by kernel_rfl) (fun _ _ _ h => h) ⟨by rfl, ?_, fun _ => rfl⟩ (by assumption) ?_
          rotate_left
          · intro w hSw
            (try dsimp only at hSw)
            go_simp
            try with_reducible rfl
          try simp only [List.getElem_toArray, List.getElem_cons_zero, List.getElem_cons_succ, List.get, Act.put, List.setIfInBounds_toArray, List.set_cons_zero, List.set_cons_succ]
          refine wpAnyG_take (i := 7) (oi := _) (v := ?_) rfl (by kernel_rfl) (by kernel_rfl) (by kernel_rfl) (by kernel_rfl) (fun _ _ _ h => h) ⟨by rfl, ?_, fun _ => rfl⟩ (by assumption) ?_
          rotate_left
          · intro w hSw
            (try dsimp only at hSw)
            go_simp
            try with_reducible rfl
          try simp only [List.getElem_toArray, List.getElem_cons_zero, List.getElem_cons_succ, List.get, Act.put, List.setIfInBounds_toArray, List.set_cons_zero, List.set_cons_succ]
          refine wpAnyG_take (i := 8) (oi := _) (v := ?_) rfl (by kernel_rfl) (by kernel_rfl) (by kernel_rfl) (by kernel_rfl) (fun _ _ _ h => h) ⟨by rfl, ?_, fun _ => rfl⟩ (by assumption) ?_
          rotate_left
          · intro w hSw
            (try dsimp only at hSw)
            go_simp
            try with_reducible rfl
          try simp only [List.getElem_toArray, List.getElem_cons_zero, List.getElem_cons_succ, List.get, Act.put, List.setIfInBounds_toArray, List.set_cons_zero, List.set_cons_succ]
          refine wpAnyG_take (i := 9) (oi := _) (v := ?_) rfl (by kernel_rfl) (by kernel_rfl) (by kernel_rfl) (by kernel_rfl) (fun _ _ _ h => h) ⟨by rfl, ?_, fun _ => rfl⟩ (by assumption) ?_
          rotate_left
          · intro w hSw
            (try dsimp only at hSw)
            go_simp
            try with_reducible rfl
          try simp only [List.getElem_toArray, List.getElem_cons_zero, List.getElem_cons_succ, List.get, Act.put, List.setIfInBounds_toArray, List.set_cons_zero, List.set_cons_succ]
          refine wpAnyG_one (i := 5) (o := _) (by kernel_rfl) rfl (by intro c h; cases h) (by rfl) (fun _ _ => trivial) ?_
          go_simp
          refine (callsIn_wide.2 HD1.out).mono ?_
          rintro e w9 ⟨r1, rfl, hc1, ht1, hg1⟩
          have HI9 := hide (HId.out.grownC hg1 hC hAC (HId.out.n rfl))
          have HD2 := hide (mo_dE_Mul C (((op'.bind fun _ => some (pk.1, qm.1)).bind fun z => addR z.1 z.2).bind fun _ => some (pk.2, qm.2)) p.2 q.2 w9 (HL.out.below HI9.out.bel) (by rw [eO_oneG]; exact hc1) (fun a b h => by
            obtain ⟨_, _, h⟩ := Option.bind_eq_some_iff.1 h
            injection h with h; injection h with h1 h2; subst h1 h2; exact ⟨HP2.out, HQ2.out, HFK.out.2, HFM.out.2⟩))
          have HT1 := hide ht1
          have HG1 := hide hg1
          clear hc1 ht1 hg1 HD1
          refine ⟨HSS.out _ HI9.out, ?_⟩
          have hHeld9 := HSS.out _ HI9.out
          try simp only [List.getElem_toArray, List.getElem_cons_zero, List.getElem_cons_succ, List.get, Act.put, List.setIfInBounds_toArray, List.set_cons_zero, List.set_cons_succ]
          refine wpAnyG_one (i := 10) (o := _) (by kernel_rfl) rfl (by intro c h; cases h) (by rfl) (fun _ _ => trivial) ?_
          go_simp
          refine (callsIn_wide.2 HD2.out).mono ?_
          rintro e w10 ⟨r2, rfl, hc2, ht2, hg2⟩
          have HI10 := hide (HI9.out.grownC hg2 hC hAC (HI9.out.n rfl))
          have HT2 := hide ht2
          have HC2 : Hid (CE w10 C (eO (op'.bind fun _ => prS pk qm))) := by
            show CE _ _ _
            rw [← prS_eO]
            exact hc2
          have HIT := hide (HSd.out.item HJS.out (HG1.out.trans hg2) HC2.out)
          clear hc2 ht2 hg2 HD2
          refine ⟨HSS.out _ HI10.out, ?_⟩
          have hHeld10 := HSS.out _ HI10.out
          try simp only [List.getElem_toArray, List.getElem_cons_zero, List.getElem_cons_succ, List.get, Act.put, List.setIfInBounds_toArray, List.set_cons_zero, List.set_cons_succ]
          refine wpAnyG_take (i := 11) (oi := _) (v := ?_) rfl (by kernel_rfl) (by kernel_rfl) (by kernel_rfl) (by kernel_rfl) (fun _ _ _ h => h) ⟨by rfl, ?_, fun _ => rfl⟩ (by assumption) ?_
          rotate_left
          · intro w hSw
            (try dsimp only at hSw)
            go_simp
            try with_reducible rfl
          try simp only [List.getElem_toArray, List.getElem_cons_zero, List.getElem_cons_succ, List.get, Act.put, List.setIfInBounds_toArray, List.set_cons_zero, List.set_cons_succ]
          rcases HIT.out with ⟨pre, x, rfl, hx, hJ10, hit10⟩ | hB10
          · have e1 : encA x = #[agP (r1, r2)] := by
              obtain ⟨t1, t2⟩ := prS_get hx HT1.out HT2.out
              show #[agP (rqM x.1, rqM x.2)] = _
              rw [t1.1.eq, t2.1.eq]
            have hYY := HY.out pre x w10 hJ10 (pre_of hit10)
            rw [e1] at hYY
            obtain ⟨fn, tmps, assign, body, hy, hR⟩ := hYY
            have HIT10 := hide hit10
            clear e1 hJ10 hit10 HT1 HT2 HIT hx
            refine wpAnyG_one (i := 12) (o := _) (by kernel_rfl) rfl (by intro c h; cases h) (by rfl) (fun _ _ => trivial) ?_
            go_simp
            refine hR.mono ?_
            rintro e W3 ⟨rfl, hJ3, hk3⟩
            have HI3 := hide (HI10.out.round hk3)
            refine ⟨HSS.out _ HI3.out, ?_⟩
            have hHeld3 := HSS.out _ HI3.out
            try simp only [List.getElem_toArray, List.getElem_cons_zero, List.getElem_cons_succ, List.get, Act.put, List.setIfInBounds_toArray, List.set_cons_zero, List.set_cons_succ]
            refine wpAnyG_take (i := 13) (oi := _) (v := ?_) rfl (by kernel_rfl) (by kernel_rfl) (by kernel_rfl) (by kernel_rfl) (fun _ _ _ h => h) ⟨by rfl, ?_, fun _ => rfl⟩ (by assumption) ?_
            rotate_left
            · intro w hSw
              go_simp
              try with_reducible rfl
            try simp only [List.getElem_toArray, List.getElem_cons_zero, List.getElem_cons_succ, List.get, Act.put, List.setIfInBounds_toArray, List.set_cons_zero, List.set_cons_succ]
            refine wpAnyG_done (by kernel_rfl) ?_ _
            have HSe : Hid (∃ op2, StC (itS a b) J Jb ((b.drop (m + 1)).map (fun q => prS pk q) ++ itS (a.drop (k + 1)) b) op2 W3) := by
              rcases hJ3 with h | h
              · exact ⟨some (pre ++ [x]), h, by rw [HIT10.out]; simp⟩
              · exact ⟨none, h⟩
            clear hy hJ3 hk3 hHeld hHeld9 hHeld10 hHeld3
            obtain ⟨op2, hop2⟩ := HSe.out
            have HSf := hide hop2
            clear hop2 HSe
            gi_wp2
            refine ⟨?_, ?measure⟩
            case measure => (simp [intOf]; try omega)
            first
              | exact ⟨m + 1, ⟨_, by omega, by go_num, HSf.out, HI3.out.sub (by simp)⟩⟩
              | exact ⟨m + 1, by omega, by go_num, ⟨_, HSf.out⟩, HI3.out.sub (by simp)⟩
              | ((repeat apply Exists.intro); refine ⟨?rel, rfl⟩; case rel => exact ⟨m + 1, _, by omega, by go_num, HSf.out, HI3.out.sub (by simp)⟩)
          · have hYY := HYb.out #[agP (r1, r2)] w10 ⟨_, rfl⟩ hB10
            obtain ⟨fn, tmps, assign, body, hy, hR⟩ := hYY
            clear hB10 HT1 HT2 HIT
            refine wpAnyG_one (i := 12) (o := _) (by kernel_rfl) rfl (by intro c h; cases h) (by rfl) (fun _ _ => trivial) ?_
            go_simp
            refine hR.mono ?_
            rintro e W3 ⟨rfl, hJ3, hk3⟩
            have HI3 := hide (HI10.out.round hk3)
            refine ⟨HSS.out _ HI3.out, ?_⟩
            have hHeld3 := HSS.out _ HI3.out
            try simp only [List.getElem_toArray, List.getElem_cons_zero, List.getElem_cons_succ, List.get, Act.put, List.setIfInBounds_toArray, List.set_cons_zero, List.set_cons_succ]
            refine wpAnyG_take (i := 13) (oi := _) (v := ?_) rfl (by kernel_rfl) (by kernel_rfl) (by kernel_rfl) (by kernel_rfl) (fun _ _ _ h => h) ⟨by rfl, ?_, fun _ => rfl⟩ (by assumption) ?_
            rotate_left
            · intro w hSw
              go_simp
              try with_reducible rfl
            try simp only [List.getElem_toArray, List.getElem_cons_zero, List.getElem_cons_succ, List.get, Act.put, List.setIfInBounds_toArray, List.set_cons_zero, List.set_cons_succ]
            refine wpAnyG_done (by kernel_rfl) ?_ _
            clear hy hk3 hHeld hHeld9 hHeld10 hHeld3
            gi_wp2
            refine bodyPost_ret (results_none rfl _ _ _) rfl ?_
            exact ⟨⟨_, rfl⟩, .inr (.inr hJ3)⟩
        · have hmn : m = b.length := by omega
          subst hmn
          have HSe : Hid (StC (itS a b) J Jb (itS (a.drop (k + 1)) b) op' wr) := by
            have := HS.out
            rw [List.drop_length] at this
            exact this
          clear HS
          gi_wp2
          refine ⟨?_, ?measure⟩
          case measure => (simp [intOf]; try omega)
          first
            | exact ⟨k + 1, ⟨_, by omega, by go_num, HSe.out, HI.out.sub (by simp)⟩⟩
            | exact ⟨k + 1, by omega, by go_num, ⟨_, HSe.out⟩, HI.out.sub (by simp)⟩
            | ((repeat apply Exists.intro); refine ⟨?rel, rfl⟩; case rel => exact ⟨k + 1, _, by omega, by go_num, HSe.out, HI.out.sub (by simp)⟩)
    · have hkn : k = a.length := by omega
      subst hkn
      have HSe : Hid (StC (itS a b) J Jb [] op wr) := by
        have := HS.out
        rw [List.drop_length] at this
        exact this
      clear HS
      gi_wp2
      go_end0
      refine ⟨⟨_, rfl⟩, ?_⟩
      have := HSe.out
      cases op with
      | none => exact .inr (.inl this)
      | some pre => exact .inl ⟨pre, by rw [this.2]; simp, this.1⟩
end Go.Proofs.YtblpnekjnaaeoaaGreatDoor
