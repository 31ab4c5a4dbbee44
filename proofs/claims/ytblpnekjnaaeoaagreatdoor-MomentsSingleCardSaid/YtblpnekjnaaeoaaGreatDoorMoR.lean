/- the iterator of Mix. -/
import Derived.Test.YtblpnekjnaaeoaaGreatDoorMoQ
import Derived.Test.YtblpnekjnaaeoaaGreatDoorMoS
import Derived.RangeFuncBox
import Derived.RangeFuncLeaves
import Derived.Shelf.Abstract
import Derived.WalkKit
import Derived.OwnWalkIn
import Derived.TacticsInMore
import Derived.LoopNIn
import Derived.LoopIn
set_option linter.unusedVariables false
set_option linter.unusedSimpArgs false
namespace Go.Proofs.YtblpnekjnaaeoaaGreatDoor
open Go.RowKit Go.Shelf
attribute [local go_sem] Oper.semAt_some

theorem ITC.rt {n₀ A C : Nat} {w0 W : World} {L : List (Nat × List Value)} (h : ITC n₀ A C w0 W L) {b : Nat} {x : T3} (hx : (b, vQ x) ∈ L) : W.cell? ⟨b, 0, none⟩ = some (.bool x.1) ∧ W.cell? ⟨b, 1, none⟩ = some (.string x.2.1) ∧ W.cell? ⟨b, 2, none⟩ = some (.string x.2.2) :=
  ⟨h.all _ hx 0 (show 0 < 3 by decide), h.all _ hx 1 (show 1 < 3 by decide), h.all _ hx 2 (show 2 < 3 by decide)⟩
theorem prM_getg {α : Type} {o : α} {c d e : Rat} {x : PQ} {g : Rat → Rat → Option Rat} {R2 : Rat → Prop} (hx : ((g c d).bind fun w => some (e, w)) = some x)
    (h2 : ∀ r, (((some o).bind fun _ => some (c, d)).bind fun z => g z.1 z.2) = some r → R2 r) : x.1 = e ∧ R2 x.2 := by
  cases hg : g c d with
  | none => rw [hg] at hx; cases hx
  | some w =>
    rw [hg] at hx
    injection hx with hx
    subst hx
    exact ⟨rfl, h2 w hg⟩
theorem prM_get {α : Type} {o : α} {c : Rat} {p x : PQ} {R2 : Rat → Prop} (hx : prM c p = some x)
    (h2 : ∀ r, (((some o).bind fun _ => some (c, p.2)).bind fun z => mulR z.1 z.2) = some r → R2 r) : x.1 = p.1 ∧ R2 x.2 := prM_getg (g := mulR) hx h2
theorem prM_eOg {α : Type} (op : Option α) (c d e : Rat) (g : Rat → Rat → Option Rat) : eO ((op.bind fun _ => some (c, d)).bind fun z => g z.1 z.2) = eO (op.bind fun _ => (g c d).bind fun w => some (e, w)) := by
  cases op with
  | none => rfl
  | some x =>
    show eO (g c d) = eO ((g c d).bind fun w => some (e, w))
    cases g c d <;> rfl
theorem prM_eO {α : Type} (op : Option α) (c : Rat) (p : PQ) : eO ((op.bind fun _ => some (c, p.2)).bind fun z => mulR z.1 z.2) = eO (op.bind fun _ => prM c p) := prM_eOg op c p.2 p.1 mulR
/-- A list of lists of points. -/
def LLs (w : World) (v : Value) (ls : List (List PQ)) : Prop := ∃ vs : List Value, SliceOf (fun v => [v]) 1 w v vs ∧ vs.length = ls.length ∧ ∀ i (h : i < ls.length) (h' : i < vs.length), SliceOf vPr 6 w vs[i] (ls[i].map encP)
theorem LLs.at_ {w W : World} {ao : Option Addr} {n cp : Nat} {ls : List (List PQ)} {i : Nat} (h : LLs w (.slice ao n cp) ls) (hb : Below w.heap.size w W) (hi : i < ls.length) : n = ls.length ∧ ∃ b o ai ci, ao = some ⟨b, o, none⟩ ∧ (ls.length : Int) ≤ (cp : Int) ∧ (cp : Int) ≤ 9223372036854775807 ∧ W.cell? ⟨b, o + i, none⟩ = some (.slice ai ls[i].length ci) ∧ SliceOf vPr 6 w (.slice ai ls[i].length ci) (ls[i].map encP) := by
  obtain ⟨vs, hs, hl, hv⟩ := h
  obtain ⟨ao', cp', e⟩ := hs.shape
  injection e with e1 e2 e3
  subst e1 e2 e3
  obtain ⟨b, o, e, _, h1, h2, hc⟩ := SliceOf.at_ (hs.below hb) (by omega)
  have hx := hv i hi (by omega)
  obtain ⟨ai, ci, ei⟩ := hx.shape
  rw [List.length_map] at ei
  refine ⟨hl, b, o, ai, ci, e, by omega, by unfold maxLen at h2; omega, ?_, by rw [← ei]; exact hx⟩
  have := hc i (by omega) 0 _ rfl
  rw [← ei]
  simpa using this
theorem LLs.shape {w : World} {v : Value} {ls : List (List PQ)} (h : LLs w v ls) : ∃ ao cp, v = .slice ao ls.length cp := by
  obtain ⟨vs, hs, hl, hv⟩ := h
  obtain ⟨ao', cp', e⟩ := hs.shape
  exact ⟨ao', cp', by rw [e, hl]⟩
theorem zip_drop {ws : List Rat} {ls : List (List PQ)} {k : Nat} (h : k < ws.length) (h' : k < ls.length) : ((ws.zip ls).drop k).flatMap (fun x => x.2.map fun q => prM x.1 q) = ls[k].map (fun q => prM ws[k] q) ++ ((ws.zip ls).drop (k + 1)).flatMap (fun x => x.2.map fun q => prM x.1 q) := by
  rw [List.drop_eq_getElem_cons (by rw [List.length_zip]; omega)]
  simp only [List.flatMap_cons, List.getElem_zip]
theorem drop_prM {c : Rat} {b : List PQ} {j : Nat} (h : j < b.length) : (b.drop j).map (fun q => prM c q) = prM c b[j] :: (b.drop (j + 1)).map (fun q => prM c q) := by
  rw [List.drop_eq_getElem_cons h]
  rfl
set_option maxHeartbeats 8000000 in
set_option maxRecDepth 100000 in
theorem mo_mixIt (n l A C Ba Bb : Nat) (hn : 1 ≤ n) (ws : List Rat) (ls : List (List PQ)) (hw : ∀ q ∈ ws, FitQ q) (hl : ∀ l ∈ ls, FitL l ∧ l.length ≤ 1000000) (hlen : ws.length = ls.length) (hla : ws.length ≤ 1000000) (va vb : Value) (w0 W : World) (hL : LawM w0) (hsa : SliceOf vQ 3 w0 va (ws.map rqM)) (hsb : LLs w0 vb ls) (hC : w0.heap.size ≤ C) (hAC : A ≠ C)
    (J : List PQ → World → Prop) (Jb Jx : World → Prop) (hJS : JS C (itM ws ls) J Jb)
    (hY : ∀ pre x X, J pre X → (pre ++ [x]).map some <+: (itM ws ls) → YieldAt Fence.wide (n - 1) Tryz.prog l (encA x) X fun e Y => e = .returned (.bool true) ∧ (J (pre ++ [x]) Y ∨ Jb Y) ∧ KpC w0.heap.size A C X Y)
    (hYb : ∀ av X, TxA av → Jb X → YieldAt Fence.wide (n - 1) Tryz.prog l av X fun e Y => e = .returned (.bool false) ∧ Jx Y ∧ KpC w0.heap.size A C X Y)
    (hit : ITC w0.heap.size A C w0 W [(Ba, [va]), (Bb, [vb])]) (hj : J [] W) :
    CallsIn Fence.wide n Tryz.prog 50 #[.func (.yield l) #[] #[], .pointer (some ⟨Ba, 0, none⟩), .pointer (some ⟨Bb, 0, none⟩), .pointer (some ⟨C, 0, none⟩)] W fun e W' => (∃ v, e = .returned v) ∧ ((∃ xs, (itM ws ls) = xs.map some ∧ J xs W') ∨ Jb W' ∨ Jx W') := by
  have HJS := hide hJS
  have HY := hide hY
  have HYb := hide hYb
  have HL := hide hL
  have HI := hide hit
  have HSA := hide hsa
  have HSB := hide hsb
  have HFA := hide hw
  have HFB := hide hl
  have HLEN := hide hlen
  have hmla : (ws.map rqM).length = ws.length := List.length_map ..
  have HMA := hide hmla
  have hnA : (ws.length : Int) ≤ 1000000 := by omega
  have hnL : (ls.length : Int) ≤ 1000000 := by omega
  obtain ⟨ao, ca, rfl⟩ := hsa.shape
  obtain ⟨bo, cb, rfl⟩ := hsb.shape
  rw [hmla] at HI
  have x0 := HI.out.one (b := Ba) (v := .slice ao ws.length ca) (by simp)
  have HST : Hid (StC (itM ws ls) J Jb (((ws.zip ls).drop 0).flatMap (fun x => x.2.map fun q => prM x.1 q)) (some []) W) := ⟨hj, rfl⟩
  clear hJS hY hYb hL hit hsa hsb hw hl hmla hj hlen
  refine callsIn_of_wp Tryz.func50 rfl trivial ?_ rfl
  simp only [Tryz.ntmps50, List.size_toArray, List.length_cons, List.length_nil, Nat.reduceAdd, Nat.reduceSub, Array.replicate_succ, Array.replicate_zero, List.push_toArray, List.append_toArray, List.nil_append, List.cons_append]
  gi_wp2
  clear x0
  gi_loopw [11] (fun i wr => ∃ k : Nat, ∃ op, k ≤ ws.length ∧ i = .int .i64 (k : Int) ∧ StC (itM ws ls) J Jb (((ws.zip ls).drop k).flatMap (fun x => x.2.map fun q => prM x.1 q)) op wr ∧ ITC w0.heap.size A C w0 wr [(Ba, [.slice ao ws.length ca]), (Bb, [.slice bo ls.length cb])]) (fun i _ => ws.length - (intOf i).toNat)
  case atStart => exact ⟨0, _, Nat.zero_le _, rfl, HST.out, HI.out⟩
  case round =>
    obtain ⟨k, op, hk, rfl, hst, hit⟩ := hrel
    have HI := hide hit
    have HS := hide hst
    clear hit hst HST
    by_cases hlt : k < ws.length
    · have hkI : (k : Int) < (ws.length : Int) := by omega
      have hkL : (k : Int) < (ls.length : Int) := by have := HLEN.out; omega
      have hk0 : (0 : Int) ≤ (k : Int) := by omega
      have hltl : k < ls.length := by omega
      have HD := hide (zip_drop (ws := ws) (ls := ls) hlt hltl)
      have HFK := hide (HFA.out ws[k] (List.getElem_mem hlt))
      have HFL := hide (HFB.out ls[k] (List.getElem_mem hltl))
      have hlt' : k < (ws.map rqM).length := by rw [HMA.out]; exact hlt
      obtain ⟨bp, of, rfl, g1, g2, hp⟩ := HSA.out.rqAt HI.out.bel hlt'
      rw [List.getElem_map] at hp
      rw [HMA.out] at g1
      obtain ⟨ck, hck⟩ : ∃ ck, ws[k] = ck := ⟨_, rfl⟩
      rw [hck] at hp HD HFK
      obtain ⟨p, hpe⟩ : ∃ p, rqM ck = p := ⟨_, rfl⟩
      have HP1 : Hid (IsT ck p) := by rw [← hpe]; exact IsT.self _
      rw [hpe] at hp
      obtain ⟨y0, y1, y2⟩ := hp
      have hba := bAlloc (Below.refl _ wr) (.cells #[.bool p.1, .string p.2.1, .string p.2.2] 29)
      have HSn := hide (HS.out.below HJS.out hba)
      have HIn := hide (HI.out.push (HI.out.n rfl) (b := wr.heap.size) rfl (vQ p) 29)
      have x1 := HIn.out.one (b := Bb) (v := .slice bo ls.length cb) (by simp)
      obtain ⟨_, bv, ov, ai, ci, rfl, g3, g4, hcv, hsv⟩ := HSB.out.at_ HIn.out.bel hltl
      have HSV := hide hsv
      obtain ⟨lk, hlk⟩ : ∃ lk, ls[k] = lk := ⟨_, rfl⟩
      rw [hlk] at hcv HSV HD HFL
      have hnB : (lk.length : Int) ≤ 1000000 := by have := HFL.out.2; omega
      have hmlb : (lk.map encP).length = lk.length := List.length_map ..
      have HMB := hide hmlb
      unfold vQ at HIn x1 hcv
      clear hck hpe hlt' HI HS hba hsv hlk hmlb
      gi_wp2
      obtain ⟨w6, hw6⟩ : ∃ W, wr.alloc (.cells #[.bool p.1, .string p.2.1, .string p.2.2] 29) = W := ⟨_, rfl⟩
      obtain ⟨X6, hX6⟩ : ∃ A, wr.heap.size = A := ⟨_, rfl⟩
      rw [hX6] at HIn
      have HIn : Hid (ITC w0.heap.size A C w0 w6 [(X6, vQ p), (Ba, [.slice (some ⟨bp, of, none⟩) ws.length ca]), (Bb, [.slice (some ⟨bv, ov, none⟩) ls.length cb])]) := by rw [← hw6]; exact HIn
      rw [hw6] at HSn x1 hcv
      rw [hw6, hX6]
      rw [HD.out] at HSn
      clear hw6 hX6 x1 y0 y1 y2 hcv
      gi_loopw [21] (fun j wx => ∃ m : Nat, ∃ op, m ≤ lk.length ∧ j = .int .i64 (m : Int) ∧ StC (itM ws ls) J Jb ((lk.drop m).map (fun q => prM ck q) ++ ((ws.zip ls).drop (k + 1)).flatMap (fun x => x.2.map fun q => prM x.1 q)) op wx ∧ ITC w0.heap.size A C w0 wx [(X6, vQ p), (Ba, [.slice (some ⟨bp, of, none⟩) ws.length ca]), (Bb, [.slice (some ⟨bv, ov, none⟩) ls.length cb])]) (fun j _ => lk.length - (intOf j).toNat)
      case atStart => exact ⟨0, _, Nat.zero_le _, rfl, HSn.out, HIn.out⟩
      case round =>
        obtain ⟨m, op', hm, rfl, hst, hit⟩ := hrel
        have HI := hide hit
        have HS := hide hst
        clear hit hst HSn HIn
        by_cases hlt2 : m < lk.length
        · have hmI : (m : Int) < (lk.length : Int) := by omega
          have hm0 : (0 : Int) ≤ (m : Int) := by omega
          have HD2 := hide (drop_prM (c := ck) hlt2)
          have HFM := hide (HFL.out.1 lk[m] (List.getElem_mem hlt2))
          have hlt' : m < (lk.map encP).length := by rw [HMB.out]; exact hlt2
          have HSV2 : Hid (SliceOf vPr 6 w0 (.slice ai (lk.map encP).length ci) (lk.map encP)) := by show SliceOf _ _ _ _ _; rw [HMB.out]; exact HSV.out
          obtain ⟨bq, oq, rfl, g5, g6, hq⟩ := HSV2.out.ptAt HI.out.bel hlt'
          rw [List.getElem_map] at hq
          rw [HMB.out] at g5
          obtain ⟨qm, hqm⟩ : ∃ qm, lk[m] = qm := ⟨_, rfl⟩
          rw [hqm] at hq HD2 HFM
          obtain ⟨q, hqe⟩ : ∃ q, encP qm = q := ⟨_, rfl⟩
          have HQ1 : Hid (IsT qm.1 q.1) := by rw [← hqe]; exact IsT.self _
          have HQ2 : Hid (IsT qm.2 q.2) := by rw [← hqe]; exact IsT.self _
          rw [hqe] at hq
          obtain ⟨y0, y1, y2, y3, y4, y5⟩ := hq
          have HSn := hide (HS.out.below HJS.out (bAlloc (Below.refl _ _) (.cells #[.bool q.1.1, .string q.1.2.1, .string q.1.2.2, .bool q.2.1, .string q.2.2.1, .string q.2.2.2] 41)))
          have HIn := hide (HI.out.push (HI.out.n rfl) (b := wr.heap.size) rfl (vPr q) 41)
          rw [HD2.out] at HSn
          clear hqm hqe hlt' HI HS HD2 HSV2
          unfold vPr at HIn
          gi_wp2
          obtain ⟨w8, hw8⟩ : ∃ W, wr.alloc (.cells #[.bool q.1.1, .string q.1.2.1, .string q.1.2.2, .bool q.2.1, .string q.2.2.1, .string q.2.2.2] 41) = W := ⟨_, rfl⟩
          obtain ⟨X8, hX8⟩ : ∃ A, wr.heap.size = A := ⟨_, rfl⟩
          rw [hX8] at HIn
          have HIn : Hid (ITC w0.heap.size A C w0 w8 [(X8, vPr q), (X6, vQ p), (Ba, [.slice (some ⟨bp, of, none⟩) ws.length ca]), (Bb, [.slice (some ⟨bv, ov, none⟩) ls.length cb])]) := by rw [← hw8]; exact HIn
          rw [hw8] at HSn
          rw [hw8, hX8]
          clear hw8 hX8 y0 y1 y2 y3 y4 y5
          have HDW : Hid (Below w8.heap.size w8 w8.drew) := bDraw (Below.refl _ w8)
          have HSd := hide (HSn.out.below HJS.out HDW.out)
          have HId := hide (HIn.out.below HDW.out (HIn.out.n rfl))
          clear HSn HIn HDW
          obtain ⟨wd, hwd⟩ : ∃ W, w8.drew = W := ⟨_, rfl⟩
          rw [hwd] at HSd HId
          have HD1 := hide (mo_dE_Mul C (op'.bind fun _ => some (ck, qm.2)) p q.2 wd (HL.out.below HId.out.bel) (by rw [eO_oneG]; exact HSd.out.ce HJS.out) (fun a b h => by
            cases op' with
            | none => cases h
            | some _ => injection h with h; injection h with h1 h2; subst h1 h2; exact ⟨HP1.out, HQ2.out, HFK.out, HFM.out.2⟩))
          have HSS : Hid (∀ W, ITC w0.heap.size A C w0 W [(X8, vPr q), (X6, vQ p), (Ba, [.slice (some ⟨bp, of, none⟩) ws.length ca]), (Bb, [.slice (some ⟨bv, ov, none⟩) ls.length cb])] → (W.cell? ⟨X6, 0, none⟩ = some (.bool p.1) ∧ W.cell? ⟨X6, 1, none⟩ = some (.string p.2.1) ∧ W.cell? ⟨X6, 2, none⟩ = some (.string p.2.2)) ∧ (W.cell? ⟨X8, 0, none⟩ = some (.bool q.1.1) ∧ W.cell? ⟨X8, 1, none⟩ = some (.string q.1.2.1) ∧ W.cell? ⟨X8, 2, none⟩ = some (.string q.1.2.2) ∧ W.cell? ⟨X8, 3, none⟩ = some (.bool q.2.1) ∧ W.cell? ⟨X8, 4, none⟩ = some (.string q.2.2.1) ∧ W.cell? ⟨X8, 5, none⟩ = some (.string q.2.2.2))) := fun W h => ⟨h.rt (by simp), h.pt (by simp)⟩
          refine wpIn_region_G (S := (fun w' => (w'.cell? ⟨X6, 0, none⟩ = some (.bool p.1) ∧ w'.cell? ⟨X6, 1, none⟩ = some (.string p.2.1) ∧ w'.cell? ⟨X6, 2, none⟩ = some (.string p.2.2)) ∧ (w'.cell? ⟨X8, 0, none⟩ = some (.bool q.1.1) ∧ w'.cell? ⟨X8, 1, none⟩ = some (.string q.1.2.1) ∧ w'.cell? ⟨X8, 2, none⟩ = some (.string q.1.2.2) ∧ w'.cell? ⟨X8, 3, none⟩ = some (.bool q.2.1) ∧ w'.cell? ⟨X8, 4, none⟩ = some (.string q.2.2.1) ∧ w'.cell? ⟨X8, 5, none⟩ = some (.string q.2.2.2)))) (by kernel_rfl) (by rw [hwd]; exact HSS.out _ HId.out) (fun hHeld => ?_)
          rw [hwd] at hHeld ⊢
          clear hwd
          change wpAnyG _ _ _ _ _ _ _ 10 #[false, false, false, false, false, false, false, false, false, false] _ _
          refine wpAnyG_take (i := 0) (oi := _) (v := ?_) rfl (by kernel_rfl) (by kernel_rfl) (by kernel_rfl) (by kernel_rfl) (fun _ _ _ h => h) ⟨by rfl, ?_, fun _ => rfl⟩ (by assumption) ?_
          rotate_left
          · intro w hSw
            (try dsimp only at hSw)
            go_simp
            try with_reducible rfl
          try simp only [List.getElem_toArray, List.getElem_cons_zero, List.getElem_cons_succ, List.get, Act.put, List.setIfInBounds_toArray, List.set_cons_zero, List.set_cons_succ]
          refine wpAnyG_take (i := 1) (oi := _) (v := ?_) rfl (by kernel_rfl) (by kernel_rfl) (by kernel_rfl) (by kernel_rfl) (fun _ _ _ h => h) ⟨by rfl, ?_, fun _ => rfl⟩ (by assumption) ?_
          rotate_left
          · intro w hSw
            (try dsimp only at hSw)
            go_simp
            try with_reducible rfl
          try simp only [List.getElem_toArray, List.getElem_cons_zero, List.getElem_cons_succ, List.get, Act.put, List.setIfInBounds_toArray, List.set_cons_zero, List.set_cons_succ]
          refine wpAnyG_take (i := 2) (oi := _) (v := ?_) rfl (by kernel_rfl) (by kernel_rfl) (by kernel_rfl) (by kernel_rfl) (fun _ _ _ h => h) ⟨by rfl, ?_, fun _ => rfl⟩ (by assumption) ?_
          rotate_left
          · intro w hSw
            (try dsimp only at hSw)
            go_simp
            try with_reducible rfl
          try simp only [List.getElem_toArray, List.getElem_cons_zero, List.getElem_cons_succ, List.get, Act.put, List.setIfInBounds_toArray, List.set_cons_zero, List.set_cons_succ]
          refine wpAnyG_take (i := 3) (oi := _) (v := ?_) rfl (by kernel_rfl) (by kernel_rfl) (by kernel_rfl) (by kernel_rfl) (fun _ _ _ h => h) ⟨by rfl, ?_, fun _ => rfl⟩ (by assumption) ?_
          rotate_left
          · intro w hSw
            (try dsimp only at hSw)
            go_simp
            try with_reducible rfl
          try simp only [List.getElem_toArray, List.getElem_cons_zero, List.getElem_cons_succ, List.get, Act.put, List.setIfInBounds_toArray, List.set_cons_zero, List.set_cons_succ]
          refine wpAnyG_take (i := 4) (oi := _) (v := ?_) rfl (by kernel_rfl) (by kernel_rfl) (by kernel_rfl) (by kernel_rfl) (fun _ _ _ h => h) ⟨by rfl, ?_, fun _ => rfl⟩ (by assumption) ?_
          rotate_left
          · intro w hSw
            (try dsimp only at hSw)
            go_simp
            try with_reducible rfl
          try simp only [List.getElem_toArray, List.getElem_cons_zero, List.getElem_cons_succ, List.get, Act.put, List.setIfInBounds_toArray, List.set_cons_zero, List.set_cons_succ]
          refine wpAnyG_take (i := 5) (oi := _) (v := ?_) rfl (by kernel_rfl) (by kernel_rfl) (by kernel_rfl) (by kernel_rfl) (fun _ _ _ h => h) ⟨by rfl, ?_, fun _ => rfl⟩ (by assumption) ?_
          rotate_left
          · intro w hSw
            (try dsimp only at hSw)
            go_simp
            try with_reducible rfl
          try simp only [List.getElem_toArray, List.getElem_cons_zero, List.getElem_cons_succ, List.get, Act.put, List.setIfInBounds_toArray, List.set_cons_zero, List.set_cons_succ]
          refine wpAnyG_one (i := 6) (o := _) (by kernel_rfl) rfl (by intro c h; cases h) (by rfl) (fun _ _ => trivial) ?_
          go_simp
          refine (callsIn_wide.2 HD1.out).mono ?_
          rintro e w9 ⟨r1, rfl, hc1, ht1, hg1⟩
          have HI10 := hide (HId.out.grownC hg1 hC hAC (HId.out.n rfl))
          have HT1 := hide ht1
          have HC2 : Hid (CE w9 C (eO (op'.bind fun _ => prM ck qm))) := by
            show CE _ _ _
            rw [← prM_eO]
            exact hc1
          have HIT := hide (HSd.out.item HJS.out hg1 HC2.out)
          clear hc1 ht1 hg1 HD1
          refine ⟨HSS.out _ HI10.out, ?_⟩
          have hHeld10 := HSS.out _ HI10.out
          try simp only [List.getElem_toArray, List.getElem_cons_zero, List.getElem_cons_succ, List.get, Act.put, List.setIfInBounds_toArray, List.set_cons_zero, List.set_cons_succ]
          refine wpAnyG_take (i := 7) (oi := _) (v := ?_) rfl (by kernel_rfl) (by kernel_rfl) (by kernel_rfl) (by kernel_rfl) (fun _ _ _ h => h) ⟨by rfl, ?_, fun _ => rfl⟩ (by assumption) ?_
          rotate_left
          · intro w hSw
            (try dsimp only at hSw)
            go_simp
            try with_reducible rfl
          try simp only [List.getElem_toArray, List.getElem_cons_zero, List.getElem_cons_succ, List.get, Act.put, List.setIfInBounds_toArray, List.set_cons_zero, List.set_cons_succ]
          rcases HIT.out with ⟨pre, x, rfl, hx, hJ10, hit10⟩ | hB10
          · have e1 : encA x = #[agP (q.1, r1)] := by
              obtain ⟨t0, t1⟩ := prM_get hx HT1.out
              show #[agP (rqM x.1, rqM x.2)] = _
              rw [t0, t1.1.eq, HQ1.out.eq]
            have hYY := HY.out pre x w9 hJ10 (pre_of hit10)
            rw [e1] at hYY
            obtain ⟨fn, tmps, assign, body, hy, hR⟩ := hYY
            have HIT10 := hide hit10
            clear e1 hJ10 hit10 HT1 HIT hx
            refine wpAnyG_one (i := 8) (o := _) (by kernel_rfl) rfl (by intro c h; cases h) (by rfl) (fun _ _ => trivial) ?_
            go_simp
            refine hR.mono ?_
            rintro e W3 ⟨rfl, hJ3, hk3⟩
            have HI3 := hide (HI10.out.round hk3)
            refine ⟨HSS.out _ HI3.out, ?_⟩
            have hHeld3 := HSS.out _ HI3.out
            try simp only [List.getElem_toArray, List.getElem_cons_zero, List.getElem_cons_succ, List.get, Act.put, List.setIfInBounds_toArray, List.set_cons_zero, List.set_cons_succ]
            refine wpAnyG_take (i := 9) (oi := _) (v := ?_) rfl (by kernel_rfl) (by kernel_rfl) (by kernel_rfl) (by kernel_rfl) (fun _ _ _ h => h) ⟨by rfl, ?_, fun _ => rfl⟩ (by assumption) ?_
            rotate_left
            · intro w hSw
              go_simp
              try with_reducible rfl
            try simp only [List.getElem_toArray, List.getElem_cons_zero, List.getElem_cons_succ, List.get, Act.put, List.setIfInBounds_toArray, List.set_cons_zero, List.set_cons_succ]
            refine wpAnyG_done (by kernel_rfl) ?_ _
            have HSe : Hid (∃ op2, StC (itM ws ls) J Jb ((lk.drop (m + 1)).map (fun q => prM ck q) ++ ((ws.zip ls).drop (k + 1)).flatMap (fun x => x.2.map fun q => prM x.1 q)) op2 W3) := by
              rcases hJ3 with h | h
              · exact ⟨some (pre ++ [x]), h, by rw [HIT10.out]; simp⟩
              · exact ⟨none, h⟩
            clear hy hJ3 hk3 hHeld hHeld10 hHeld3
            obtain ⟨op2, hop2⟩ := HSe.out
            have HSf := hide hop2
            clear hop2 HSe
            gi_wp2
            refine ⟨?_, ?measure⟩
            case measure => (simp [intOf]; try omega)
            first
              | exact ⟨m + 1, ⟨_, by omega, by go_num, HSf.out, HI3.out.sub (by simp)⟩⟩
              | exact ⟨m + 1, by omega, by go_num, ⟨_, HSf.out⟩, HI3.out.sub (by simp)⟩
              | ((repeat apply Exists.intro); refine ⟨?rel, rfl⟩; case rel => exact ⟨m + 1, _, by omega, by go_num, HSf.out, HI3.out.sub (by simp)⟩)
          · have hYY := HYb.out #[agP (q.1, r1)] w9 ⟨_, rfl⟩ hB10
            obtain ⟨fn, tmps, assign, body, hy, hR⟩ := hYY
            clear hB10 HT1 HIT
            refine wpAnyG_one (i := 8) (o := _) (by kernel_rfl) rfl (by intro c h; cases h) (by rfl) (fun _ _ => trivial) ?_
            go_simp
            refine hR.mono ?_
            rintro e W3 ⟨rfl, hJ3, hk3⟩
            have HI3 := hide (HI10.out.round hk3)
            refine ⟨HSS.out _ HI3.out, ?_⟩
            have hHeld3 := HSS.out _ HI3.out
            try simp only [List.getElem_toArray, List.getElem_cons_zero, List.getElem_cons_succ, List.get, Act.put, List.setIfInBounds_toArray, List.set_cons_zero, List.set_cons_succ]
            refine wpAnyG_take (i := 9) (oi := _) (v := ?_) rfl (by kernel_rfl) (by kernel_rfl) (by kernel_rfl) (by kernel_rfl) (fun _ _ _ h => h) ⟨by rfl, ?_, fun _ => rfl⟩ (by assumption) ?_
            rotate_left
            · intro w hSw
              go_simp
              try with_reducible rfl
            try simp only [List.getElem_toArray, List.getElem_cons_zero, List.getElem_cons_succ, List.get, Act.put, List.setIfInBounds_toArray, List.set_cons_zero, List.set_cons_succ]
            refine wpAnyG_done (by kernel_rfl) ?_ _
            clear hy hk3 hHeld hHeld10 hHeld3
            gi_wp2
            refine bodyPost_ret (results_none rfl _ _ _) rfl ?_
            exact ⟨⟨_, rfl⟩, .inr (.inr hJ3)⟩
        · have hmn : m = lk.length := by omega
          subst hmn
          have HSe : Hid (StC (itM ws ls) J Jb (((ws.zip ls).drop (k + 1)).flatMap (fun x => x.2.map fun q => prM x.1 q)) op' wr) := by
            have := HS.out
            rw [List.drop_length] at this
            exact this
          clear HS
          gi_wp2
          refine ⟨?_, ?measure⟩
          case measure => (simp [intOf]; try omega)
          first
            | exact ⟨k + 1, ⟨_, by omega, by go_num, HSe.out, HI.out.sub (by simp)⟩⟩
            | exact ⟨k + 1, by omega, by go_num, ⟨_, HSe.out⟩, HI.out.sub (by simp)⟩
            | ((repeat apply Exists.intro); refine ⟨?rel, rfl⟩; case rel => exact ⟨k + 1, _, by omega, by go_num, HSe.out, HI.out.sub (by simp)⟩)
    · have hkn : k = ws.length := by omega
      subst hkn
      have HSe : Hid (StC (itM ws ls) J Jb [] op wr) := by
        have := HS.out
        rw [List.drop_of_length_le (by rw [List.length_zip]; have := HLEN.out; omega)] at this
        exact this
      clear HS
      gi_wp2
      go_end0
      refine ⟨⟨_, rfl⟩, ?_⟩
      have := HSe.out
      cases op with
      | none => exact .inr (.inl this)
      | some pre => exact .inl ⟨pre, by rw [this.2]; simp, this.1⟩
end Go.Proofs.YtblpnekjnaaeoaaGreatDoor
