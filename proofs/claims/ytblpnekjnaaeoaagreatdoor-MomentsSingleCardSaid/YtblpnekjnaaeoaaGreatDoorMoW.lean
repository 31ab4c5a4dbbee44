/- moments: collect, the walk. -/
import Derived.Test.YtblpnekjnaaeoaaGreatDoorMoV
import Derived.RangeFuncNested
import Derived.RangeFuncBound
import Derived.RangeFuncCalls
import Derived.RangeFuncBox
import Derived.RangeFuncLeaves
import Derived.Shelf.Abstract
import Derived.Shelf.RegionOpen
import Derived.WalkKit
import Derived.OwnWalkIn
import Derived.TacticsInMore
import Derived.LoopNIn
import Derived.LoopIn
set_option linter.unusedVariables false
set_option linter.unusedSimpArgs false
namespace Go.Proofs.YtblpnekjnaaeoaaGreatDoor
open Go.RowKit Go.Shelf
attribute [local go_sem] Oper.semAt_some

theorem srcV_unmap {l : List PQ} {t : Rat} {k : Nat} (h : SrcV (l.map fun p => (p.1, rqM p.2)) t k) : k ≤ l.length ∧ (∀ i (h : i < l.length), i < k → l[i].1 < t) ∧ (∀ i (h : i < l.length), k ≤ i → ¬ l[i].1 < t) := by
  obtain ⟨h1, h2, h3⟩ := h
  simp only [List.length_map, List.getElem_map] at h1 h2 h3
  exact ⟨h1, h2, h3⟩
theorem keepsFrom_cells {W W' : World} {b : Nat} (hg : W.grownBy W' (some b)) (hc : ∃ (p : Addr) (u : Value), p.block = b ∧ W.cell? p = some u) (B : Nat) : KeepsFrom B W W' :=
  ⟨hg.size, fun k o _ hk ho => (hg.block k (Array.getElem?_eq_some_iff.1 hk).1 (fun e => by
    obtain ⟨p, u, hp, hu⟩ := hc
    exact not_cells hk ho p u hu (by injection e with e; rw [hp, e]))).trans hk⟩
theorem keepsFrom_own {W W' : World} {v : Value} (hg : W.grownBy W' v.ownBlock) (hc : ∀ k, v.ownBlock = some k → ∃ (p : Addr) (u : Value), p.block = k ∧ W.cell? p = some u) (B : Nat) : KeepsFrom B W W' :=
  ⟨hg.size, fun k o _ hk ho => (hg.block k (Array.getElem?_eq_some_iff.1 hk).1 (fun e => by
    obtain ⟨p, u, hp, hu⟩ := hc k e.symm
    exact not_cells hk ho p u hu hp)).trans hk⟩
theorem LitP.kept {w w' : World} {H : Nat} {p : T3 × T3} {row : Option Nat} (h : LitP w H p) (hg : w.grownBy w' row) (hne : some H ≠ row) : LitP w' H p := by
  obtain ⟨T, h⟩ := h
  exact ⟨T, (hg.block H (Array.getElem?_eq_some_iff.1 h).1 hne).trans h⟩
theorem LitP.below {w w' : World} {H : Nat} {p : T3 × T3} (h : LitP w H p) (hb : Below w.heap.size w w') : LitP w' H p := h.kept (grown_belowM hb none) (by simp)
theorem own_slice_kept {W W' : World} {B D m : Nat} {v : Value} {M : List (T3 × T3)} {o : Obj} (hl : M.length = m) (h : OwnS W B 6 v m (flatV vPr M)) (hg : W.grownBy W' (some D)) (ho : W.heap[D]? = some o) (hc : o.isCells = false) : SliceOf vPr 6 W' v M := by
  subst hl
  rcases OwnS.slice vPr_len h with h | ⟨b, off, cap, h1, h2, h3, h5, h4⟩
  · exact .inl h
  · refine .inr ⟨b, off, cap, h1, Nat.lt_of_lt_of_le h2 hg.size, h3, h5, fun i hi j u hu => ?_⟩
    have hx := h4 i hi j u hu
    exact (World.cell?_of_block (a := ⟨b, off + i * 6 + j, none⟩) (hg.block b h2 (fun e => not_cells ho hc _ _ hx (by injection e)))).trans hx
/-- The state of collect: what has come is in the list. -/
def GIv (items : List (Option PQ)) (n₀ C B2 A : Nat) (w0 : World) (pre : List PQ) (W : World) : Prop :=
  FitL pre ∧ pre.length ≤ items.length ∧ ∃ l v, collO (pre.map some) = some l ∧ SI n₀ C B2 A w0 W 0 (l.map encP) v
def BIv (items : List (Option PQ)) (n₀ C B2 A : Nat) (w0 : World) (W : World) : Prop :=
  collO items = none ∧ ∃ M v, M.length ≤ items.length ∧ SI n₀ C B2 A w0 W 2 M v
/-- The element in the round's variable. -/
def AxP (A : Nat) (W : World) (Bx : Nat) (p : T3 × T3) : Prop := LitP W Bx p ∧ A < Bx ∧ ∃ v, W.cell? ⟨A, 0, none⟩ = some v ∧ v.ownBlock ≠ some Bx
set_option maxHeartbeats 8000000 in
set_option maxRecDepth 100000 in
theorem mo_collect (C g : Nat) (lb : Array Value) (eg : ∀ args w, (callFunc g args).run Tryz.prog w = .ok (.enter g args) w) (items : List (Option PQ)) (hfit : ∀ x, some x ∈ items → FitQ x.1 ∧ FitQ x.2) (hlen : items.length ≤ 999999) (w0 w : World) (hL : LawM w0) (hB0 : Below w0.heap.size w0 w) (hC0 : w0.heap.size ≤ C) (hc : CE w C 0)
    (hseq : ∀ w1, Below w.heap.size w w1 → (∃ v, w1.cell? ⟨w.heap.size + 1, 0, none⟩ = some v ∧ v.ownBlock = none) → SeqE Fence.wide 5 Tryz.prog g lb encA TxA (KpC w0.heap.size (w.heap.size + 1) C) items C w1) :
    Calls Tryz.prog 43 #[.pointer (some ⟨C, 0, none⟩), .func (.func g) #[] lb] w fun e w' => ∃ ao cp, e = .returned (.tuple #[.slice ao ((resO items).getD []).length cp, .int .i64 (eO (resO items))]) ∧ SliceOf vPr 6 w' (.slice ao ((resO items).getD []).length cp) (((resO items).getD []).map encP) ∧ Below w0.heap.size w0 w' := by
  have HL := hide hL
  have HSEQ := hide hseq
  have HFIT := hide hfit
  have hCw := hc.lt
  have hn0 := hB0.size
  have HSI : Hid (SI w0.heap.size C w.heap.size (w.heap.size + 1) w0 ((w.alloc (.cells #[.pointer (some ⟨C, 0, none⟩)] 83)).alloc (.cells #[.slice none 0 0] 22)) 0 [] (.slice none 0 0)) := by
    have h1 := bAlloc (Below.refl w.heap.size w) (.cells #[.pointer (some ⟨C, 0, none⟩)] 83)
    have h2 := bAlloc h1 (.cells #[.slice none 0 0] 22)
    exact ⟨hB0.trans (h2.mono hn0), hc.below h2, by simp [go_sem], by simp [go_sem], by simp [go_sem], OwnS.nil _ _ _, fun k hk => by cases hk⟩
  have HSZ : Hid (((w.alloc (.cells #[.pointer (some ⟨C, 0, none⟩)] 83)).alloc (.cells #[.slice none 0 0] 22)).heap.size = w.heap.size + 2) := by show _ = _; simp
  have HBW : Hid (Below w.heap.size w ((w.alloc (.cells #[.pointer (some ⟨C, 0, none⟩)] 83)).alloc (.cells #[.slice none 0 0] 22))) := bAlloc (bAlloc (Below.refl w.heap.size w) _) _
  clear hL hseq hfit hc hB0
  refine (callsIn_wide (n := 6)).1 ?_
  refine callsIn_of_wp_marks Tryz.func43 rfl trivial ?_ rfl
  simp only [Tryz.ntmps43, List.size_toArray, List.length_cons, List.length_nil, Nat.reduceAdd, Nat.reduceSub, Array.replicate_succ, Array.replicate_zero, List.push_toArray, List.append_toArray, List.nil_append, List.cons_append]
  gi_wp2
  obtain ⟨wl, hwl⟩ : ∃ x, (w.alloc (.cells #[.pointer (some ⟨C, 0, none⟩)] 83)).alloc (.cells #[.slice none 0 0] 22) = x := ⟨_, rfl⟩
  rw [hwl] at HSI HSZ HBW ⊢
  clear hwl
  have hsz := HSZ.out
  refine wpIn_rangeFunc_E rfl (show 1 ≤ 6 by decide) (gf := g) (lb := lb) rfl trivial eg
    (HSEQ.out wl HBW.out ⟨_, HSI.out.cA, rfl⟩)
    KpC.trans (KpC.book (by omega) (by omega)) (fun W W' h1 h2 => KpC.of_below h2 (by omega) (by omega))
    (Below.refl _ _) (fun x => ⟨encP x, rfl⟩) (fun av h => by obtain ⟨p, rfl⟩ := h; rfl)
    (GIv items w0.heap.size C w.heap.size (w.heap.size + 1) w0) (BIv items w0.heap.size C w.heap.size (w.heap.size + 1) w0) (fun c W => c = .exit 0 ∧ BIv items w0.heap.size C w.heap.size (w.heap.size + 1) w0 W)
    (fun pre X Y row hs hg hr => ⟨hs.1, hs.2.1, by obtain ⟨l, v, h1, h2⟩ := hs.2.2; exact ⟨l, v, h1, h2.turn (by omega) (Nat.le_refl _) hg hr⟩⟩)
    (fun _ X Y row hs hg hr => ⟨hs.1, by obtain ⟨M, v, h1, h2⟩ := hs.2; exact ⟨M, v, h1, h2.turn (by omega) (Nat.le_refl _) hg hr⟩⟩)
    (fun c _ X Y row hs hg hr => ⟨hs.1, hs.2.1, by obtain ⟨M, v, h1, h2⟩ := hs.2.2; exact ⟨M, v, h1, h2.turn (by omega) (Nat.le_refl _) hg hr⟩⟩)
    (fun pre X hs => by obtain ⟨l, v, _, h⟩ := hs.2.2; exact h.ce) (fun X hs => by obtain ⟨M, v, _, h⟩ := hs.2; exact h.ce)
    (fun pre X Y hs hg hc => ⟨hs.1, hs.2.1, by obtain ⟨l, v, h1, h2⟩ := hs.2.2; exact ⟨l, v, h1, h2.grownC (Nat.le_refl _) hC0 (by omega) (by omega) hg hc⟩⟩)
    (fun pre X Y hs hg hc hb => ⟨collO_bad hb, by obtain ⟨l, v, h1, h2⟩ := hs.2.2; exact ⟨_, v, by
      have e := collO_some h1
      have := collE_len pre
      rw [List.length_map, e]
      exact Nat.le_trans this hs.2.1, h2.grownC (Nat.le_refl _) hC0 (by omega) (by omega) hg hc⟩⟩)
    (fun X Y hs hg hc => ⟨hs.1, by obtain ⟨M, v, h1, h2⟩ := hs.2; exact ⟨M, v, h1, h2.grownC (Nat.le_refl _) hC0 (by omega) (by omega) hg hc⟩⟩)
    ⟨(fun z hz => by cases hz), Nat.zero_le _, [], _, rfl, HSI.out⟩
    (fun av a' W => ∃ Bx p, av = #[agP p] ∧ AxP (w.heap.size + 1) W Bx p ∧ a' = { tmps := #[.pointer (some ⟨C, 0, none⟩), .func (.func g) #[] lb, .pointer (some ⟨w.heap.size, 0, none⟩), undef, .slice none 0 0, .int .i64 0, .pointer (some ⟨w.heap.size + 1, 0, none⟩), .pointer (some ⟨Bx, 0, none⟩), undef, undef, .func (.func g) #[] lb, agP p, undef, undef, undef, undef, undef, undef, undef, undef, undef, undef, undef, undef, undef, undef, undef, undef, undef, undef, undef, undef, undef, undef, undef, undef, undef, undef, undef, undef, undef, undef, undef, undef, undef, undef, undef, undef, undef, undef, undef, undef, undef, undef, undef, undef, undef, undef, undef, undef], defers := [] })
    (fun av a' _ X Y row hs hg hr => by
      obtain ⟨Bx, p, h1, ⟨⟨T, h2⟩, h3, v, h4, h5⟩, h6⟩ := hs
      refine ⟨Bx, p, h1, ⟨⟨T, ?_⟩, h3, v, (turn_cellC hg (fun r e => (hr r e).2) h4).1, h5⟩, h6⟩
      refine (hg.block Bx (Array.getElem?_eq_some_iff.1 h2).1 (fun e => ?_)).trans h2
      obtain ⟨_, o, ho, hc⟩ := hr Bx e.symm
      rw [h2] at ho
      cases ho
      cases hc)
    (fun W => ∃ v, W.cell? ⟨w.heap.size + 1, 0, none⟩ = some v ∧ ∀ k, v.ownBlock = some k → k < W.heap.size)
    (fun pre X hs => by obtain ⟨l, v, _, h⟩ := hs.2.2; exact ⟨v, h.cA, fun k hk => (h.own.lt k hk).2⟩) (fun X hs => by obtain ⟨M, v, _, h⟩ := hs.2; exact ⟨v, h.cA, fun k hk => (h.own.lt k hk).2⟩)
    ?assign ?body ?bodyb ?done ?doneb ?stop
  case assign =>
    rintro l av W K ⟨p, rfl⟩ hWs ⟨v, hv, hvk⟩ hK
    gi_wp2
    have hba := bAlloc (Below.refl _ W) (.cells #[.bool p.1.1, .string p.1.2.1, .string p.1.2.2, .bool p.2.1, .string p.2.2.1, .string p.2.2.2] 41)
    refine hK _ _ hba ⟨W.heap.size, p, rfl, ⟨⟨_, World.alloc_heap_new W _⟩, by omega, v, keep_cell hba hv, fun e => ?_⟩, rfl⟩
    have := hvk _ e
    omega
  case bodyb =>
    rintro l av a' W hl hWs ⟨hn, M, v, hM, hs⟩ _ ⟨Bx, p, rfl, hax, rfl⟩
    have b2 := hs.b2
    have cc : W.cell? ⟨C, 0, none⟩ = some (.int .i64 2) := hs.ce.c
    gi_wp2
    exact ⟨KeepsFrom.refl _ _, KpC.of_below (Below.refl _ _) (by omega) (by omega), rfl, hn, M, v, hM, hs⟩
  case body =>
    rintro l0 pre x a' W hl hWs hpx ⟨hfp, hpl, l, v, hcol, hs⟩ ⟨Bx, p, hxp, ⟨hlit, hBx, v', hv', hne⟩, rfl⟩
    have ev : v' = v := by
      have := hs.cA
      rw [hv'] at this
      injection this
    subst ev
    have hxp' : encP x = p := by
      have h1 : agP (encP x) = agP p := by
        have h2 : #[agP (encP x)] = #[agP p] := hxp
        simpa using h2
      simp only [Value.agg.injEq, Array.mk.injEq, List.cons.injEq, Value.bool.injEq, Value.string.injEq, and_true] at h1
      obtain ⟨e1, e2, e3, e4, e5, e6⟩ := h1
      exact Prod.ext (Prod.ext e1 (Prod.ext e2 e3)) (Prod.ext e4 (Prod.ext e5 e6))
    subst hxp'
    have hxit : some x ∈ items := by
      obtain ⟨t, ht⟩ := hpx
      rw [← ht]; simp
    have HFX := hide (HFIT.out x hxit)
    have HFL := hide (collO_fit hfp hcol)
    have hle := collO_some hcol
    have HSRT : Hid (SrtQ l) := by show SrtQ l; rw [hle]; exact collE_srt _
    have hll : l.length ≤ 999999 := by
      have := collE_len pre
      rw [← hle] at this; omega
    have hpl1 : pre.length + 1 ≤ items.length := by
      have := hpx.length_le
      simpa using this
    have HPL : Hid (l.length ≤ items.length) := by show l.length ≤ _; rw [hle]; exact Nat.le_trans (collE_len pre) hpl
    have HFP : Hid (FitL (pre ++ [x])) := fun z hz => by
      rcases List.mem_append.1 hz with hz | hz
      · exact hfp z hz
      · rw [List.mem_singleton.1 hz]; exact HFX.out
    have HLN : Hid ((pre ++ [x]).length ≤ items.length) := by show (pre ++ [x]).length ≤ _; simpa using hpl1
    have HCS : Hid (collO ((pre ++ [x]).map some) = insO l x) := by
      show collO _ = _
      rw [List.map_append]
      show collO (pre.map some ++ [some x]) = _
      rw [collO_snoc, hcol]; rfl
    have HPX := hide hpx
    have HNE := hide hne
    have HT1 : Hid (IsT x.1 (encP x).1) := IsT.self _
    have HT2 : Hid (IsT x.2 (encP x).2) := IsT.self _
    obtain ⟨p, hp⟩ : ∃ p, encP x = p := ⟨_, rfl⟩
    have HXP := hide hp
    rw [hp] at hlit HT1 HT2 ⊢
    have HLIT := hide hlit
    have HS := hide hs
    have HLW := hide (HL.out.below hs.bel)
    have hml : (l.map encP).length = l.length := List.length_map ..
    have HML := hide hml
    have HSLc : Hid (SliceOf vPr 6 W v' ((l.map fun p => (p.1, rqM p.2)).map encV)) := by
      show SliceOf _ _ _ _ _
      rw [map_encV]
      exact OwnS.slice vPr_len hs.own
    obtain ⟨ao, cap, rfl⟩ := HSLc.out.shape
    rw [List.length_map, List.length_map] at HS
    have hb2 := hs.b2
    have cc : W.cell? ⟨C, 0, none⟩ = some (.int .i64 0) := hs.ce.c
    have cA : W.cell? ⟨w.heap.size + 1, 0, none⟩ = some (.slice ao l.length cap) := HS.out.cA
    have l0_ : W.cell? ⟨Bx, 0, none⟩ = some (.bool p.1.1) := hlit.cell 0 _ rfl
    have l1_ : W.cell? ⟨Bx, 1, none⟩ = some (.string p.1.2.1) := hlit.cell 1 _ rfl
    have l2_ : W.cell? ⟨Bx, 2, none⟩ = some (.string p.1.2.2) := hlit.cell 2 _ rfl
    have HSE0 := hide (mo_search (l.map fun p => (p.1, rqM p.2)) x.1 p.1 (by simp; omega) (srtV_of HSRT.out) (fun i h => by
      simp only [List.length_map] at h
      simp only [List.getElem_map]
      exact (HFL.out _ (List.getElem_mem h)).1) HFX.out.1 HT1.out _ W HSLc.out HLW.out)
    by_cases hit : ∃ q ∈ l, q.1 = x.1
    · have HSE : Hid (Calls Tryz.prog 70 #[.slice ao l.length cap, .agg #[.bool p.1.1, .string p.1.2.1, .string p.1.2.2], .func (.func 71) #[] #[]] W fun e w' => ∃ k : Nat, e = .returned (.tuple #[.int .i64 (k : Int), .bool true]) ∧ (∃ hk : k < l.length, l[k].1 = x.1) ∧ (∀ i (h : i < l.length), i < k → l[i].1 < x.1) ∧ Below W.heap.size W w') := by
        show Calls _ _ _ _ _
        rw [show Value.slice ao l.length cap = Value.slice ao ((l.map fun p => (p.1, rqM p.2)).map encV).length cap by simp]
        refine HSE0.out.mono ?_
        rintro e w' ⟨k, rfl, hsrc, hb⟩
        have hh := (src_hit HSRT.out hsrc).2 hit
        obtain ⟨hk, e⟩ := hh
        have hs2 := srcV_unmap hsrc
        refine ⟨k, by rw [decide_eq_true ⟨hk, e⟩], ⟨by simpa using hk, by simpa using e⟩, hs2.2.1, hb⟩
      clear HSE0 HSLc hs hlit hml hp hcol hle hll hpl hpl1 hfp hpx hne hv' hit hxp hxit
      gi_wp2_with (refine ⟨trivial, ?_⟩; gi_at_call 70; refine (CallsIn.inRound l0 (callsIn_wide.2 HSE.out)).mono ?_; rintro e w1 ⟨k, rfl, ⟨hk, hek⟩, hlo, hb⟩; have HB1 := hide hb; have HEK := hide hek; have HLO := hide hlo; clear hb hek hlo HSE)
      obtain ⟨g', off', rfl⟩ : ∃ g' off', ao = some ⟨g', off', none⟩ := by
        rcases HS.out.own.2 with ⟨a, h1, h2, _⟩ | ⟨g', off', c', h1, _⟩
        · rw [HML.out] at h2; omega
        · injection h1 with h1; exact ⟨g', off', h1⟩
      have HS1 := hide (HS.out.below (Nat.le_refl _) HB1.out)
      have HL1 := hide (HLIT.out.below HB1.out)
      have HS2 := hide (HS1.out.below (Nat.le_refl _) (bDraw (Below.refl _ w1)))
      have HL2 := hide (HL1.out.below (bDraw (Below.refl _ w1)))
      have HKP1 : Hid (KpC w0.heap.size (w.heap.size + 1) C W w1.drew) := KpC.of_below (HB1.out.trans ((bDraw (Below.refl _ w1)).mono HB1.out.size)) (by omega) (by omega)
      have HKF1 : Hid (KeepsFrom wl.heap.size W w1.drew) := keepsFrom_below (HB1.out.trans ((bDraw (Below.refl _ w1)).mono HB1.out.size)) _
      obtain ⟨wd, hwd⟩ : ∃ W, w1.drew = W := ⟨_, rfl⟩
      rw [hwd] at HS2 HL2 HKP1 HKF1
      have HO2 : Hid (OwnS wd (w.heap.size + 1 + 1) 6 (.slice (some ⟨g', off', none⟩) l.length cap) l.length (flatV vPr (l.map encP))) := by
        show OwnS _ _ _ _ _ _
        have := HS2.out.own
        rwa [HML.out] at this
      obtain ⟨hAg, hgw, hP, hF⟩ := HO2.out.pt HML.out hk
      rw [List.getElem_map] at hP
      obtain ⟨y, hy⟩ : ∃ y, encP l[k] = y := ⟨_, rfl⟩
      have HY2 : Hid (IsT l[k].2 y.2) := by rw [← hy]; exact IsT.self _
      have HYE := hide hy
      rw [hy] at hP
      obtain ⟨_, _, _, c3, c4, c5⟩ := hP
      have hCS : Hid (collO ((pre ++ [x]).map some) = (addR l[k].2 x.2).map fun s => l.set k (x.1, s)) := HCS.out.trans (insO_hit hk HLO.out HEK.out)
      have HFK := hide (HFL.out l[k] (List.getElem_mem hk)).2
      have HD := hide (mo_dE_Add C (some (l[k].2, x.2)) y.2 p.2 wd (HL.out.below HS2.out.bel) HS2.out.ce (fun a b h => by
        injection h with h; injection h with h1 h2; subst h1 h2
        exact ⟨HY2.out, HT2.out, HFK.out, HFX.out.2⟩))
      simp only [Option.bind_some] at HD
      obtain ⟨ad, had⟩ : ∃ ad, addR l[k].2 x.2 = ad := ⟨_, rfl⟩
      rw [had] at HD hCS
      have hgne : g' ≠ Bx := fun e => HNE.out (by rw [← e]; rfl)
      have hlkI : (k : Int) < (l.length : Int) := by omega
      have hk0 : (0 : Int) ≤ (k : Int) := by omega
      have hcapI : (l.length : Int) ≤ (cap : Int) := by have := (HO2.out.parts (by omega)).2.2.1; omega
      have HSS : Hid (∀ W e M, SI w0.heap.size C w.heap.size (w.heap.size + 1) w0 W e M (.slice (some ⟨g', off', none⟩) l.length cap) → LitP W Bx p → W.cell? ⟨w.heap.size, 0, none⟩ = some (.pointer (some ⟨C, 0, none⟩)) ∧ W.cell? ⟨w.heap.size + 1, 0, none⟩ = some (.slice (some ⟨g', off', none⟩) l.length cap) ∧ W.cell? ⟨Bx, 3, none⟩ = some (.bool p.2.1) ∧ W.cell? ⟨Bx, 4, none⟩ = some (.string p.2.2.1) ∧ W.cell? ⟨Bx, 5, none⟩ = some (.string p.2.2.2)) := fun W e M h hl => ⟨h.b2, h.cA, hl.cell 3 _ rfl, hl.cell 4 _ rfl, hl.cell 5 _ rfl⟩
      have mixed : Tryz.prog.follows .mixedOrders = true := by kernel_rfl
      have HPL' := HPL
      clear hy HB1 HSRT HS1 HL1 HO2 hAg hgw hF had cc cA hb2 l0_ l1_ l2_
      refine wpIn_region_G (S := (fun w' => w'.cell? ⟨w.heap.size, 0, none⟩ = some (.pointer (some ⟨C, 0, none⟩)) ∧ w'.cell? ⟨w.heap.size + 1, 0, none⟩ = some (.slice (some ⟨g', off', none⟩) l.length cap) ∧ w'.cell? ⟨Bx, 3, none⟩ = some (.bool p.2.1) ∧ w'.cell? ⟨Bx, 4, none⟩ = some (.string p.2.2.1) ∧ w'.cell? ⟨Bx, 5, none⟩ = some (.string p.2.2.2))) (by kernel_rfl) (by rw [hwd]; exact HSS.out _ _ _ HS2.out HL2.out) (fun hHeld => ?_)
      rw [hwd] at hHeld ⊢
      clear hwd
      change wpAnyG _ _ _ _ _ _ _ 14 #[false, false, false, false, false, false, false, false, false, false, false, false, false, false] _ _
      refine wpAnyG_take (i := 0) (oi := _) (v := ?_) rfl (by kernel_rfl) (by kernel_rfl) (by kernel_rfl) (by kernel_rfl) (fun _ _ _ h => h) ⟨by rfl, ?_, fun _ => rfl⟩ (by assumption) ?_
      rotate_left
      · intro w hSw
        (try dsimp only at hSw)
        go_simp
        try with_reducible rfl
      try simp only [List.getElem_toArray, List.getElem_cons_zero, List.getElem_cons_succ, List.get, Act.put, List.setIfInBounds_toArray, List.set_cons_zero, List.set_cons_succ]
      refine wpAnyG_take (i := 1) (oi := _) (v := ?_) rfl (by kernel_rfl) (by kernel_rfl) (by kernel_rfl) (by kernel_rfl) (fun _ _ _ h => h) ⟨by rfl, ?_, fun _ => rfl⟩ (by assumption) ?_
      rotate_left
      · intro w hSw
        (try dsimp only at hSw)
        go_simp
        try with_reducible rfl
      try simp only [List.getElem_toArray, List.getElem_cons_zero, List.getElem_cons_succ, List.get, Act.put, List.setIfInBounds_toArray, List.set_cons_zero, List.set_cons_succ]
      refine wpAnyG_take (i := 2) (oi := _) (v := ?_) rfl (by kernel_rfl) (by kernel_rfl) (by kernel_rfl) (by kernel_rfl) (fun _ _ _ h => h) ⟨by rfl, ?_, fun _ => rfl⟩ (by assumption) ?_
      rotate_left
      · intro w hSw
        (try dsimp only at hSw)
        go_simp
        try with_reducible rfl
      try simp only [List.getElem_toArray, List.getElem_cons_zero, List.getElem_cons_succ, List.get, Act.put, List.setIfInBounds_toArray, List.set_cons_zero, List.set_cons_succ]
      refine wpAnyG_take (i := 3) (oi := _) (v := ?_) rfl (by kernel_rfl) (by kernel_rfl) (by kernel_rfl) (by kernel_rfl) (fun _ _ _ h => h) ⟨by rfl, ?_, fun _ => rfl⟩ (by assumption) ?_
      rotate_left
      · intro w hSw
        (try dsimp only at hSw)
        go_simp
        try with_reducible rfl
      try simp only [List.getElem_toArray, List.getElem_cons_zero, List.getElem_cons_succ, List.get, Act.put, List.setIfInBounds_toArray, List.set_cons_zero, List.set_cons_succ]
      refine wpAnyG_take (i := 4) (oi := _) (v := ?_) rfl (by kernel_rfl) (by kernel_rfl) (by kernel_rfl) (by kernel_rfl) (fun _ _ _ h => h) ⟨by rfl, ?_, fun _ => rfl⟩ (by assumption) ?_
      rotate_left
      · intro w hSw
        (try dsimp only at hSw)
        go_simp
        try with_reducible rfl
      try simp only [List.getElem_toArray, List.getElem_cons_zero, List.getElem_cons_succ, List.get, Act.put, List.setIfInBounds_toArray, List.set_cons_zero, List.set_cons_succ]
      refine wpAnyG_take (i := 5) (oi := _) (v := ?_) rfl (by kernel_rfl) (by kernel_rfl) (by kernel_rfl) (by kernel_rfl) (fun _ _ _ h => h) ⟨by rfl, ?_, fun _ => rfl⟩ (by assumption) ?_
      rotate_left
      · intro w hSw
        (try dsimp only at hSw)
        go_simp
        try with_reducible rfl
      try simp only [List.getElem_toArray, List.getElem_cons_zero, List.getElem_cons_succ, List.get, Act.put, List.setIfInBounds_toArray, List.set_cons_zero, List.set_cons_succ]
      refine wpAnyG_take (i := 6) (oi := _) (v := ?_) rfl (by kernel_rfl) (by kernel_rfl) (by kernel_rfl) (by kernel_rfl) (fun _ _ _ h => h) ⟨by rfl, ?_, fun _ => rfl⟩ (by assumption) ?_
      rotate_left
      · intro w hSw
        (try dsimp only at hSw)
        go_simp
        try with_reducible rfl
      try simp only [List.getElem_toArray, List.getElem_cons_zero, List.getElem_cons_succ, List.get, Act.put, List.setIfInBounds_toArray, List.set_cons_zero, List.set_cons_succ]
      refine wpAnyG_take (i := 8) (oi := _) (v := ?_) rfl (by kernel_rfl) (by kernel_rfl) (by kernel_rfl) (by kernel_rfl) (fun _ _ _ h => h) ⟨by rfl, ?_, fun _ => rfl⟩ (by assumption) ?_
      rotate_left
      · intro w hSw
        (try dsimp only at hSw)
        go_simp
        try with_reducible rfl
      try simp only [List.getElem_toArray, List.getElem_cons_zero, List.getElem_cons_succ, List.get, Act.put, List.setIfInBounds_toArray, List.set_cons_zero, List.set_cons_succ]
      refine wpAnyG_take (i := 9) (oi := _) (v := ?_) rfl (by kernel_rfl) (by kernel_rfl) (by kernel_rfl) (by kernel_rfl) (fun _ _ _ h => h) ⟨by rfl, ?_, fun _ => rfl⟩ (by assumption) ?_
      rotate_left
      · intro w hSw
        (try dsimp only at hSw)
        go_simp
        try with_reducible rfl
      try simp only [List.getElem_toArray, List.getElem_cons_zero, List.getElem_cons_succ, List.get, Act.put, List.setIfInBounds_toArray, List.set_cons_zero, List.set_cons_succ]
      refine wpAnyG_one (i := 7) (o := _) (by kernel_rfl) rfl (by intro c h; cases h) (by rfl) (fun _ _ => trivial) ?_
      go_simp
      try refine And.intro hHeld ?_
      try simp only [List.getElem_toArray, List.getElem_cons_zero, List.getElem_cons_succ, List.get, Act.put, List.setIfInBounds_toArray, List.set_cons_zero, List.set_cons_succ]
      refine wpAnyG_one (i := 10) (o := _) (by kernel_rfl) rfl (by intro c h; cases h) (by rfl) (fun _ _ => trivial) ?_
      go_simp
      refine (CallsIn.inRound l0 (callsIn_wide.2 HD.out)).mono ?_
      rintro e w2 ⟨r, rfl, hc2, ht2, hg2⟩
      have HS3 := hide (HS2.out.grownC (Nat.le_refl _) hC0 (by omega) (by omega) hg2 hc2)
      have HL3 := hide (HL2.out.kept hg2 (by intro e; injection e; omega))
      have HT3 := hide ht2
      have HKP3 : Hid (KpC w0.heap.size (w.heap.size + 1) C W w2) := HKP1.out.trans (KpC.grownC hg2 hC0 (by omega) HS2.out.lt (by have := HS2.out.bel.size; omega))
      have HKF3 : Hid (KeepsFrom wl.heap.size W w2) := HKF1.out.trans (KeepsFrom.of_grownBy hg2 (fun j e => by injection e with e; omega))
      have HO3 : Hid (OwnS w2 (w.heap.size + 1 + 1) 6 (.slice (some ⟨g', off', none⟩) l.length cap) l.length (flatV vPr (l.map encP))) := by
        show OwnS _ _ _ _ _ _
        have := HS3.out.own
        rwa [HML.out] at this
      have HPF := hide (HO3.out.pt HML.out hk)
      clear hc2 ht2 hg2 HD c3 c4 c5
      refine ⟨HSS.out _ _ _ HS3.out HL3.out, ?_⟩
      have hHeld2 := HSS.out _ _ _ HS3.out HL3.out
      try simp only [List.getElem_toArray, List.getElem_cons_zero, List.getElem_cons_succ, List.get, Act.put, List.setIfInBounds_toArray, List.set_cons_zero, List.set_cons_succ]
      refine wpAnyG_take (i := 11) (oi := _) (v := ?_) rfl (by kernel_rfl) (by kernel_rfl) (by kernel_rfl) (by kernel_rfl) (fun _ _ _ h => h) ⟨by rfl, ?_, fun _ => rfl⟩ (by assumption) ?_
      rotate_left
      · intro w hSw
        (try dsimp only at hSw)
        go_simp
        try with_reducible rfl
      try simp only [List.getElem_toArray, List.getElem_cons_zero, List.getElem_cons_succ, List.get, Act.put, List.setIfInBounds_toArray, List.set_cons_zero, List.set_cons_succ]
      refine wpAnyG_take (i := 12) (oi := _) (v := ?_) rfl (by kernel_rfl) (by kernel_rfl) (by kernel_rfl) (by kernel_rfl) (fun _ _ _ h => h) ⟨by rfl, ?_, fun _ => rfl⟩ (by assumption) ?_
      rotate_left
      · intro w hSw
        (try dsimp only at hSw)
        go_simp
        try with_reducible rfl
      try simp only [List.getElem_toArray, List.getElem_cons_zero, List.getElem_cons_succ, List.get, Act.put, List.setIfInBounds_toArray, List.set_cons_zero, List.set_cons_succ]
      refine wpAnyG_one (i := 13) (o := _) (by kernel_rfl) rfl (by intro c h; cases h) (by rfl) (fun _ _ => trivial) ?_
      obtain ⟨_, _, ⟨_, _, _, c3, c4, c5⟩, ⟨_, _, _, f3, f4, f5⟩⟩ := HPF.out
      go_simp
      have HS4 : Hid (SI w0.heap.size C w.heap.size (w.heap.size + 1) w0 (((w2.setCell ⟨g', off' + k * 6 + 3, none⟩ (.bool r.1)).setCell ⟨g', off' + k * 6 + 4, none⟩ (.string r.2.1)).setCell ⟨g', off' + k * 6 + 5, none⟩ (.string r.2.2)) (eO ad) ((l.map encP).set k (((l.map encP)[k]'(by simpa using hk)).1, r)) (.slice (some ⟨g', off', none⟩) l.length cap)) := by
        have h0 : SI w0.heap.size C w.heap.size (w.heap.size + 1) w0 w2 (eO ad) (l.map encP) (.slice (some ⟨g', off', none⟩) (l.map encP).length cap) := by rw [HML.out]; exact HS3.out
        have h1 := h0.setW (k := k) (Nat.le_refl _) hC0 (by omega) (by omega) (by rw [HML.out]; exact hk) r
        show SI _ _ _ _ _ _ _ _ _
        rw [show (Value.slice (some ⟨g', off', none⟩) l.length cap) = Value.slice (some ⟨g', off', none⟩) (l.map encP).length cap by rw [HML.out]]
        exact h1
      have hg4 := grown_setM3 w2 g' (off' + k * 6 + 3) (off' + k * 6 + 4) (off' + k * 6 + 5) (.bool r.1) (.string r.2.1) (.string r.2.2)
      have HL4 := hide (HL3.out.kept hg4 (by intro e; injection e with e; exact hgne e.symm))
      try refine And.intro (HSS.out _ _ _ HS4.out HL4.out) ?_
      try simp only [List.getElem_toArray, List.getElem_cons_zero, List.getElem_cons_succ, List.get, Act.put, List.setIfInBounds_toArray, List.set_cons_zero, List.set_cons_succ]
      refine wpAnyG_done (by kernel_rfl) ?_ _
      refine ⟨HKF3.out.trans (keepsFrom_cells hg4 ⟨_, _, rfl, c3⟩ _), HKP3.out.trans (KpC.row_ HS3.out.cA (by omega) (fun j hj => by
        have := (HS3.out.own.lt j hj).1; omega) hg4), ?_⟩
      cases ad with
      | none =>
        refine .inr ⟨collO_prefix HPX.out (by rw [hCS.out]; rfl), _, _, ?_, HS4.out⟩
        have := HPL'.out
        rw [List.length_set, HML.out]; omega
      | some sm =>
        refine .inl ⟨HFP.out, HLN.out, l.set k (x.1, sm), .slice (some ⟨g', off', none⟩) l.length cap, hCS.out, ?_⟩
        have e1 : (l.map encP).set k (((l.map encP)[k]'(by simpa using hk)).1, r) = (l.set k (x.1, sm)).map encP := by
          rw [List.map_set, List.getElem_map, (HT3.out sm rfl).1.eq]
          congr 1
          show (rqM l[k].1, rqM sm) = (rqM x.1, rqM sm)
          rw [HEK.out]
        rw [← e1]
        exact HS4.out
    · have HSE : Hid (Calls Tryz.prog 70 #[.slice ao l.length cap, .agg #[.bool p.1.1, .string p.1.2.1, .string p.1.2.2], .func (.func 71) #[] #[]] W fun e w' => ∃ k : Nat, e = .returned (.tuple #[.int .i64 (k : Int), .bool false]) ∧ k ≤ l.length ∧ insO l x = some (l.take k ++ x :: l.drop k) ∧ Below W.heap.size W w') := by
        show Calls _ _ _ _ _
        rw [show Value.slice ao l.length cap = Value.slice ao ((l.map fun p => (p.1, rqM p.2)).map encV).length cap by simp]
        refine HSE0.out.mono ?_
        rintro e w' ⟨k, rfl, hsrc, hb⟩
        have hh : ¬ ∃ h : k < (l.map fun p => (p.1, rqM p.2)).length, ((l.map fun p => (p.1, rqM p.2))[k]'h).1 = x.1 := fun h => hit ((src_hit HSRT.out hsrc).1 h)
        have hs2 := srcV_unmap hsrc
        refine ⟨k, by rw [decide_eq_false hh], hs2.1, insO_miss hs2.1 hs2.2.1 hs2.2.2 (fun ⟨h, e⟩ => hit ⟨_, List.getElem_mem h, e⟩), hb⟩
      clear HSE0 HSLc hs hlit hml hp hcol hle hll hpl hpl1 hfp hpx hne hv' hit hxp hxit
      have hBxn := hBx
      gi_wp2_with (refine ⟨trivial, ?_⟩; gi_at_call 70; refine (CallsIn.inRound l0 (callsIn_wide.2 HSE.out)).mono ?_; rintro e w1 ⟨k, rfl, hk, hins, hb⟩; have HB1 := hide hb; have HIN := hide hins; have HS1 := hide (HS.out.below (Nat.le_refl _) HB1.out); have HL1 := hide (HLIT.out.below HB1.out); have HBA := hide (bAlloc (Below.refl _ w1) (.cells #[.bool p.1.1, .string p.1.2.1, .string p.1.2.2, .bool p.2.1, .string p.2.2.1, .string p.2.2.2] 41)); have HSa := hide (HS1.out.below (Nat.le_refl _) HBA.out); have cA1 : w1.cell? ⟨w.heap.size + 1, 0, none⟩ = some (.slice ao l.length cap) := HS1.out.cA; have m0 : w1.cell? ⟨Bx, 0, none⟩ = some (.bool p.1.1) := HL1.out.cell 0 _ rfl; have m1 : w1.cell? ⟨Bx, 1, none⟩ = some (.string p.1.2.1) := HL1.out.cell 1 _ rfl; have m2 : w1.cell? ⟨Bx, 2, none⟩ = some (.string p.1.2.2) := HL1.out.cell 2 _ rfl; have m3 : w1.cell? ⟨Bx, 3, none⟩ = some (.bool p.2.1) := HL1.out.cell 3 _ rfl; have m4 : w1.cell? ⟨Bx, 4, none⟩ = some (.string p.2.2.1) := HL1.out.cell 4 _ rfl; have m5 : w1.cell? ⟨Bx, 5, none⟩ = some (.string p.2.2.2) := HL1.out.cell 5 _ rfl; have HOW : Hid (OwnS (w1.alloc (.cells #[.bool p.1.1, .string p.1.2.1, .string p.1.2.2, .bool p.2.1, .string p.2.2.1, .string p.2.2.2] 41)) (w.heap.size + 1 + 1) 6 (.slice ao l.length cap) l.length (flatV vPr (l.map encP))) := (by have := HSa.out.own; rw [HML.out] at this; exact this); clear hb hins HSE cc cA hb2 l0_ l1_ l2_)
      refine ⟨trivial, ?_⟩
      refine (CallsIn.inRound l0 (callsIn_wide.2 (mo_insert (w.heap.size + 1 + 1) l.length k w1.heap.size (l.map encP) p HML.out (by have := HPL.out; omega) hk (.slice ao l.length cap) (w1.alloc (.cells #[.bool p.1.1, .string p.1.2.1, .string p.1.2.2, .bool p.2.1, .string p.2.2.1, .string p.2.2.2] 41)) HOW.out ⟨_, World.alloc_heap_new w1 _⟩ (by have := HSa.out.lt; omega) (fun j hj => by have h1 := (HS1.out.own.lt j hj).2; omega)))).mono ?_
      rintro e w2 ⟨g', off', cap', rfl, hown2, hg2, hbl2, hat2⟩
      have HOW2 := hide hown2
      have HG2 := hide hg2
      have HAT2 := hide hat2
      have hvA : ∀ j, (Value.slice ao l.length cap).ownBlock = some j → w.heap.size + 1 < j := (fun j hj => by have h1 := (HS1.out.own.lt j hj).1; omega)
      have HVA := hide hvA
      have hAe := hg2.block (w.heap.size + 1) HSa.out.lt (fun e => by have := hvA _ e.symm; omega)
      have cA2 : w2.cell? ⟨w.heap.size + 1, 0, none⟩ = some (.slice ao l.length cap) := (World.cell?_of_block (a := ⟨w.heap.size + 1, 0, none⟩) hAe).trans HSa.out.cA
      have fA2 : w2.frozen? ⟨w.heap.size + 1, 0, none⟩ = false := (World.frozen?_of_block (a := ⟨w.heap.size + 1, 0, none⟩) hAe).trans HSa.out.fA
      clear hown2 hg2 hbl2 hat2 hvA hAe m0 m1 m2 m3 m4 m5 cA1
      gi_wp2
      have hKB : Below W.heap.size W (w1.alloc (.cells #[.bool p.1.1, .string p.1.2.1, .string p.1.2.2, .bool p.2.1, .string p.2.2.1, .string p.2.2.2] 41)) := HB1.out.trans (HBA.out.mono HB1.out.size)
      have hws : w.heap.size + 1 < W.heap.size := HS.out.lt
      refine ⟨((keepsFrom_below hKB _).trans (keepsFrom_own HG2.out HSa.out.cel _)).trans (keepsFrom_cells (grown_set w2 (w.heap.size + 1) 0 _) ⟨⟨w.heap.size + 1, 0, none⟩, _, rfl, cA2⟩ _), (KpC.of_below hKB (by omega) hws).trans (KpC.app HSa.out.cA (by omega) HVA.out HG2.out ?_ (fun j hj => (HOW2.out.lt j hj).2)), .inl ⟨HFP.out, HLN.out, l.take k ++ x :: l.drop k, .slice (some ⟨g', off', none⟩) (l.length + 1) cap', HCS.out.trans HIN.out, ?_⟩⟩
      · rcases HAT2.out with h | h
        · exact .inl (by rw [h]; rfl)
        · exact .inr ⟨g', rfl, h⟩
      · have e1 : (l.take k ++ x :: l.drop k).map encP = (l.map encP).take k ++ p :: (l.map encP).drop k := by
          rw [List.map_append, List.map_cons, List.map_take, List.map_drop, HXP.out]
        rw [e1]
        have h0 : SI w0.heap.size C w.heap.size (w.heap.size + 1) w0 (w1.alloc (.cells #[.bool p.1.1, .string p.1.2.1, .string p.1.2.2, .bool p.2.1, .string p.2.2.1, .string p.2.2.2] 41)) 0 (l.map encP) (.slice ao l.length cap) := HSa.out
        have h1 := h0.ins (M' := (l.map encP).take k ++ p :: (l.map encP).drop k) (g := g') (off := off') (cap := cap') (w1 := w2) (Nat.le_refl _) hC0 (by omega) (by omega) (by simp; omega) (by rw [HML.out]; exact HOW2.out) HG2.out
        rw [HML.out] at h1
        exact h1
  case done =>
    rintro D xs W hD rfl ⟨hfp, hpl, l, v, hcol, hs⟩ hK
    obtain ⟨M, hMe⟩ : ∃ M, l.map encP = M := ⟨_, rfl⟩
    rw [hMe] at hs
    have hml : M.length = l.length := by rw [← hMe, List.length_map]
    have hle := collO_some hcol
    have hM : M.length ≤ (xs.map some).length := by
      rw [hml, hle]
      exact Nat.le_trans (collE_len xs) hpl
    have HFL0 : Hid (M.filter (fun x => !isZ x) = (nzE l).map encP) := by show M.filter _ = _; rw [← hMe]; exact filt_nz l
    have HFZ : Hid ((M.filter fun x => !isZ x).length = (nzE l).length) := by show (M.filter _).length = _; rw [HFL0.out, List.length_map]
    have HCOL := hide hcol
    clear hMe hml hle hcol hfp hpl
    by_cases h400 : (nzE l).length ≤ 400
    · skip
      have HS := hide hs
      have hDn : w0.heap.size ≤ D := by omega
      have HDEL := hide (mo_delete (w.heap.size + 1 + 1) M.length M rfl (by omega) v w0 W HS.out.own HL.out HS.out.bel (by omega) (by have := HS.out.lt; omega))
      have cA := HS.out.cA
      obtain ⟨ao, cap, rfl⟩ : ∃ ao cap, v = .slice ao M.length cap := by
        rcases HS.out.own.2 with ⟨a, h1, h2, _⟩ | ⟨g', off', c', h1, _⟩
        · exact ⟨a, 0, by rw [h1, h2]⟩
        · exact ⟨_, _, h1⟩
      clear hs
      gi_wp2_with (refine ⟨trivial, ?_⟩; gi_at_call 73; refine (callsIn_wide.2 HDEL.out).mono ?_; rintro e w1 ⟨ao', m, cap', rfl, hm, hown, hg, hb⟩; have HG := hide hg; have HOWN := hide hown; have HMM := hide (hm.symm.trans HFZ.out); have hm4 : ¬ ((400 : Int) < (m : Int)) := (by have := HMM.out; omega); have hm5 : ¬ (400 < m) := (by omega); have hvA : ∀ j, (Value.slice ao M.length cap).ownBlock = some j → w.heap.size + 1 < j := (fun j hj => by have h1 := (HS.out.own.lt j hj).1; omega); have HVA := hide hvA; have hAe := hg.block (w.heap.size + 1) HS.out.lt (fun e => by have := hvA _ e.symm; omega); have cA2 : w1.cell? ⟨w.heap.size + 1, 0, none⟩ = some (.slice ao M.length cap) := (World.cell?_of_block (a := ⟨w.heap.size + 1, 0, none⟩) hAe).trans HS.out.cA; have fA2 : w1.frozen? ⟨w.heap.size + 1, 0, none⟩ = false := (World.frozen?_of_block (a := ⟨w.heap.size + 1, 0, none⟩) hAe).trans HS.out.fA; have hBe := hg.block w.heap.size (by have := HS.out.lt; omega) (fun e => by have := hvA _ e.symm; omega); have b22 : w1.cell? ⟨w.heap.size, 0, none⟩ = some (.pointer (some ⟨C, 0, none⟩)) := (World.cell?_of_block (a := ⟨w.heap.size, 0, none⟩) hBe).trans HS.out.b2; have hCe := hg.block C HS.out.ce.lt (fun e => by have := hvA _ e.symm; omega); have cC2 : w1.cell? ⟨C, 0, none⟩ = some (.int .i64 0) := (World.cell?_of_block (a := ⟨C, 0, none⟩) hCe).trans HS.out.ce.c; have hK1 : w1.heap[D]? = some (.deferred (some [])) := (hg.block D (Array.getElem?_eq_some_iff.1 hK).1 (fun e => by obtain ⟨p, u, hp, hu⟩ := HS.out.cel D e.symm; exact not_cells hK rfl p u hu hp)).trans hK; have HK1 := hide hK1; have hAD : w.heap.size + 1 ≠ D := not_cells hK1 rfl _ _ cA2; have HAD := hide hAD; clear hown hg hb hvA hAe hBe hCe hm HDEL cA hK1 hAD)
      have HBW := hide (((HS.out.bel.grown HG.out HS.out.bel.size (fun k e => by have := HVA.out k e; omega)).setCell (p := ⟨w.heap.size + 1, 0, none⟩) (by simp only; omega) (.slice ao' m cap')))
      have HKW : Hid ((w1.setCell ⟨w.heap.size + 1, 0, none⟩ (.slice ao' m cap')).heap[D]? = some (.deferred (some []))) := (Below.heap_setCell _ _ _ _ (fun e => HAD.out (by simpa using e.symm))).trans HK1.out
      obtain ⟨wz, hwz⟩ : ∃ x, w1.setCell ⟨w.heap.size + 1, 0, none⟩ (.slice ao' m cap') = x := ⟨_, rfl⟩
      have HOZ := hide (HOWN.out.setCell (p := ⟨w.heap.size + 1, 0, none⟩) (Nat.lt_succ_self _) (.slice ao' m cap'))
      rw [hwz] at HBW HKW HOZ ⊢
      have HR : Hid (resO (xs.map some) = some (nzE l)) := by show resO _ = _; unfold resO; rw [HCOL.out]; exact if_pos h400
      refine ⟨by simp, .inl ⟨_, _, rfl, run_takeDeferred HKW.out, ?_⟩⟩
      refine ⟨.tuple #[.slice ao' m cap', .int .i64 0], by simp [results, Tryz.results43, go_sem], ao', cap', ?_, ?_, HBW.out.trans (belowK_b (w := w) hn0 wz D _ _ (by omega) HKW.out rfl rfl)⟩
      · rw [HR.out]
        show _ = Ending.returned (.tuple #[.slice ao' (nzE l).length cap', .int .i64 0])
        rw [HMM.out]
      · rw [HR.out]
        show SliceOf vPr 6 _ (.slice ao' (nzE l).length cap') ((nzE l).map encP)
        rw [← HMM.out]
        have h1 := HOZ.out
        rw [HFL0.out] at h1
        exact own_slice_kept (by rw [List.length_map]; exact HMM.out.symm) h1 (grownBy_putObj' wz D (.deferred none)) HKW.out rfl
    · skip
      have HS := hide hs
      have hDn : w0.heap.size ≤ D := by omega
      have HDEL := hide (mo_delete (w.heap.size + 1 + 1) M.length M rfl (by omega) v w0 W HS.out.own HL.out HS.out.bel (by omega) (by have := HS.out.lt; omega))
      have cA := HS.out.cA
      obtain ⟨ao, cap, rfl⟩ : ∃ ao cap, v = .slice ao M.length cap := by
        rcases HS.out.own.2 with ⟨a, h1, h2, _⟩ | ⟨g', off', c', h1, _⟩
        · exact ⟨a, 0, by rw [h1, h2]⟩
        · exact ⟨_, _, h1⟩
      clear hs
      gi_wp2_with (refine ⟨trivial, ?_⟩; gi_at_call 73; refine (callsIn_wide.2 HDEL.out).mono ?_; rintro e w1 ⟨ao', m, cap', rfl, hm, hown, hg, hb⟩; have HG := hide hg; have HOWN := hide hown; have HMM := hide (hm.symm.trans HFZ.out); have hm4 : (400 : Int) < (m : Int) := (by have := HMM.out; omega); have hm5 : 400 < m := (by omega); have hvA : ∀ j, (Value.slice ao M.length cap).ownBlock = some j → w.heap.size + 1 < j := (fun j hj => by have h1 := (HS.out.own.lt j hj).1; omega); have HVA := hide hvA; have hAe := hg.block (w.heap.size + 1) HS.out.lt (fun e => by have := hvA _ e.symm; omega); have cA2 : w1.cell? ⟨w.heap.size + 1, 0, none⟩ = some (.slice ao M.length cap) := (World.cell?_of_block (a := ⟨w.heap.size + 1, 0, none⟩) hAe).trans HS.out.cA; have fA2 : w1.frozen? ⟨w.heap.size + 1, 0, none⟩ = false := (World.frozen?_of_block (a := ⟨w.heap.size + 1, 0, none⟩) hAe).trans HS.out.fA; have hBe := hg.block w.heap.size (by have := HS.out.lt; omega) (fun e => by have := hvA _ e.symm; omega); have b22 : w1.cell? ⟨w.heap.size, 0, none⟩ = some (.pointer (some ⟨C, 0, none⟩)) := (World.cell?_of_block (a := ⟨w.heap.size, 0, none⟩) hBe).trans HS.out.b2; have hCe := hg.block C HS.out.ce.lt (fun e => by have := hvA _ e.symm; omega); have cC2 : w1.cell? ⟨C, 0, none⟩ = some (.int .i64 0) := (World.cell?_of_block (a := ⟨C, 0, none⟩) hCe).trans HS.out.ce.c; have hK1 : w1.heap[D]? = some (.deferred (some [])) := (hg.block D (Array.getElem?_eq_some_iff.1 hK).1 (fun e => by obtain ⟨p, u, hp, hu⟩ := HS.out.cel D e.symm; exact not_cells hK rfl p u hu hp)).trans hK; have HK1 := hide hK1; have hAD : w.heap.size + 1 ≠ D := not_cells hK1 rfl _ _ cA2; have HAD := hide hAD; clear hown hg hb hvA hAe hBe hCe hm HDEL cA hK1 hAD)
      have HBW := hide (((HS.out.bel.grown HG.out HS.out.bel.size (fun k e => by have := HVA.out k e; omega)).setCell (p := ⟨w.heap.size + 1, 0, none⟩) (by simp only; omega) (.slice ao' m cap')))
      have HKW : Hid ((w1.setCell ⟨w.heap.size + 1, 0, none⟩ (.slice ao' m cap')).heap[D]? = some (.deferred (some []))) := (Below.heap_setCell _ _ _ _ (fun e => HAD.out (by simpa using e.symm))).trans HK1.out
      obtain ⟨wz, hwz⟩ : ∃ x, w1.setCell ⟨w.heap.size + 1, 0, none⟩ (.slice ao' m cap') = x := ⟨_, rfl⟩
      rw [hwz] at HBW HKW ⊢
      have HR : Hid (resO (xs.map some) = none) := by show resO _ = _; unfold resO; rw [HCOL.out]; exact if_neg h400
      refine ⟨by simp, .inl ⟨_, _, rfl, run_takeDeferred HKW.out, ?_⟩⟩
      refine ⟨.tuple #[.slice none 0 0, .int .i64 2], by simp [results, Tryz.results43, go_sem], none, 0, ?_, ?_, HBW.out.trans (belowK_b (w := w) hn0 wz D _ _ (by omega) HKW.out rfl rfl)⟩
      · rw [HR.out]; rfl
      · rw [HR.out]; exact .inl ⟨none, rfl, rfl⟩
  case doneb =>
    rintro D W hD hI hK
    obtain ⟨hn, M, v, hM, hs⟩ := hI
    have HS := hide hs
    have hDn : w0.heap.size ≤ D := by omega
    have HN := hide hn
    have HDEL := hide (mo_delete (w.heap.size + 1 + 1) M.length M rfl (by omega) v w0 W HS.out.own HL.out HS.out.bel (by omega) (by have := HS.out.lt; omega))
    have cA := HS.out.cA
    obtain ⟨ao, cap, rfl⟩ : ∃ ao cap, v = .slice ao M.length cap := by
      rcases HS.out.own.2 with ⟨a, h1, h2, _⟩ | ⟨g', off', c', h1, _⟩
      · exact ⟨a, 0, by rw [h1, h2]⟩
      · exact ⟨_, _, h1⟩
    clear hs hn
    gi_wp2_with (refine ⟨trivial, ?_⟩; gi_at_call 73; refine (callsIn_wide.2 HDEL.out).mono ?_; rintro e w1 ⟨ao', m, cap', rfl, hm, hown, hg, hb⟩; have HG := hide hg; have HOWN := hide hown; have HMM := hide hm; have hvA : ∀ j, (Value.slice ao M.length cap).ownBlock = some j → w.heap.size + 1 < j := (fun j hj => by have h1 := (HS.out.own.lt j hj).1; omega); have HVA := hide hvA; have hAe := hg.block (w.heap.size + 1) HS.out.lt (fun e => by have := hvA _ e.symm; omega); have cA2 : w1.cell? ⟨w.heap.size + 1, 0, none⟩ = some (.slice ao M.length cap) := (World.cell?_of_block (a := ⟨w.heap.size + 1, 0, none⟩) hAe).trans HS.out.cA; have fA2 : w1.frozen? ⟨w.heap.size + 1, 0, none⟩ = false := (World.frozen?_of_block (a := ⟨w.heap.size + 1, 0, none⟩) hAe).trans HS.out.fA; have hBe := hg.block w.heap.size (by have := HS.out.lt; omega) (fun e => by have := hvA _ e.symm; omega); have b22 : w1.cell? ⟨w.heap.size, 0, none⟩ = some (.pointer (some ⟨C, 0, none⟩)) := (World.cell?_of_block (a := ⟨w.heap.size, 0, none⟩) hBe).trans HS.out.b2; have hCe := hg.block C HS.out.ce.lt (fun e => by have := hvA _ e.symm; omega); have cC2 : w1.cell? ⟨C, 0, none⟩ = some (.int .i64 2) := (World.cell?_of_block (a := ⟨C, 0, none⟩) hCe).trans HS.out.ce.c; have hK1 : w1.heap[D]? = some (.deferred (some [])) := (hg.block D (Array.getElem?_eq_some_iff.1 hK).1 (fun e => by obtain ⟨p, u, hp, hu⟩ := HS.out.cel D e.symm; exact not_cells hK rfl p u hu hp)).trans hK; have HK1 := hide hK1; have hAD : w.heap.size + 1 ≠ D := not_cells hK1 rfl _ _ cA2; have HAD := hide hAD; clear hown hg hb hvA hAe hBe hCe hm HDEL cA hK1 hAD)
    have HBW := hide (((HS.out.bel.grown HG.out HS.out.bel.size (fun k e => by have := HVA.out k e; omega)).setCell (p := ⟨w.heap.size + 1, 0, none⟩) (by simp only; omega) (.slice ao' m cap')))
    have HKW : Hid ((w1.setCell ⟨w.heap.size + 1, 0, none⟩ (.slice ao' m cap')).heap[D]? = some (.deferred (some []))) := (Below.heap_setCell _ _ _ _ (fun e => HAD.out (by simpa using e.symm))).trans HK1.out
    obtain ⟨wz, hwz⟩ : ∃ x, w1.setCell ⟨w.heap.size + 1, 0, none⟩ (.slice ao' m cap') = x := ⟨_, rfl⟩
    have hz1 : wz.cell? ⟨w.heap.size, 0, none⟩ = some (.pointer (some ⟨C, 0, none⟩)) := by rw [← hwz, World.cell?_setCell_other _ _ _ _ (by first | (simp; done) | (simp; omega))]; exact b22
    have hz2 : wz.cell? ⟨C, 0, none⟩ = some (.int .i64 2) := by rw [← hwz, World.cell?_setCell_other _ _ _ _ (by first | (simp; done) | (simp; omega))]; exact cC2
    rw [hwz] at HBW HKW ⊢
    clear hwz b22 cC2 cA2 fA2
    have mixed : Tryz.prog.follows .mixedOrders = true := by kernel_rfl
    refine wpIn_mono (Q := NoPanic _) ?_ NoPanic.imp
    refine wpIn_region_G (S := (fun w' => w'.cell? ⟨w.heap.size, 0, none⟩ = some (.pointer (some ⟨C, 0, none⟩)) ∧ w'.cell? ⟨C, 0, none⟩ = some (.int .i64 2))) (by kernel_rfl) (⟨hz1, hz2⟩) (fun hHeld => ?_)
    change wpAnyG _ _ _ _ _ _ _ 6 #[false, false, false, false, false, false] _ _
    refine wpAnyG_take (i := 0) (oi := _) (v := ?_) rfl (by kernel_rfl) (by kernel_rfl) (by kernel_rfl) (by kernel_rfl) (fun _ _ _ h => h) ⟨by rfl, ?_, fun _ => rfl⟩ (by assumption) ?_
    rotate_left
    · intro w hSw
      (try dsimp only at hSw)
      go_simp
      try with_reducible rfl
    try simp only [List.getElem_toArray, List.getElem_cons_zero, List.getElem_cons_succ, List.get, Act.put, List.setIfInBounds_toArray, List.set_cons_zero, List.set_cons_succ]
    refine wpAnyG_take (i := 1) (oi := _) (v := ?_) rfl (by kernel_rfl) (by kernel_rfl) (by kernel_rfl) (by kernel_rfl) (fun _ _ _ h => h) ⟨by rfl, ?_, fun _ => rfl⟩ (by assumption) ?_
    rotate_left
    · intro w hSw
      (try dsimp only at hSw)
      go_simp
      try with_reducible rfl
    try simp only [List.getElem_toArray, List.getElem_cons_zero, List.getElem_cons_succ, List.get, Act.put, List.setIfInBounds_toArray, List.set_cons_zero, List.set_cons_succ]
    refine wpAnyG_take (i := 2) (oi := _) (v := ?_) rfl (by kernel_rfl) (by kernel_rfl) (by kernel_rfl) (by kernel_rfl) (fun _ _ _ h => h) ⟨by rfl, ?_, fun _ => rfl⟩ (by assumption) ?_
    rotate_left
    · intro w hSw
      (try dsimp only at hSw)
      go_simp
      try with_reducible rfl
    try simp only [List.getElem_toArray, List.getElem_cons_zero, List.getElem_cons_succ, List.get, Act.put, List.setIfInBounds_toArray, List.set_cons_zero, List.set_cons_succ]
    refine wpAnyG_take (i := 3) (oi := _) (v := ?_) rfl (by kernel_rfl) (by kernel_rfl) (by kernel_rfl) (by kernel_rfl) (fun _ _ _ h => h) ⟨by rfl, ?_, fun _ => rfl⟩ (by assumption) ?_
    rotate_left
    · intro w hSw
      (try dsimp only at hSw)
      go_simp
      try with_reducible rfl
    try simp only [List.getElem_toArray, List.getElem_cons_zero, List.getElem_cons_succ, List.get, Act.put, List.setIfInBounds_toArray, List.set_cons_zero, List.set_cons_succ]
    refine wpAnyG_take (i := 4) (oi := _) (v := ?_) rfl (by kernel_rfl) (by kernel_rfl) (by kernel_rfl) (by kernel_rfl) (fun _ _ _ h => h) ⟨by rfl, ?_, fun _ => rfl⟩ (by assumption) ?_
    rotate_left
    · intro w hSw
      (try dsimp only at hSw)
      go_simp
      try with_reducible rfl
    try simp only [List.getElem_toArray, List.getElem_cons_zero, List.getElem_cons_succ, List.get, Act.put, List.setIfInBounds_toArray, List.set_cons_zero, List.set_cons_succ]
    refine wpAnyG_take (i := 5) (oi := _) (v := ?_) rfl (by kernel_rfl) (by kernel_rfl) (by kernel_rfl) (by kernel_rfl) (fun _ _ _ h => h) ⟨by rfl, ?_, fun _ => rfl⟩ (by assumption) ?_
    rotate_left
    · intro w hSw
      (try dsimp only at hSw)
      go_simp
      try with_reducible rfl
    try simp only [List.getElem_toArray, List.getElem_cons_zero, List.getElem_cons_succ, List.get, Act.put, List.setIfInBounds_toArray, List.set_cons_zero, List.set_cons_succ]
    refine wpAnyG_done (by kernel_rfl) ?_ _
    refine NoPanic.normal ?_
    gi_wp2
    have HR : Hid (resO items = none) := by show resO items = none; unfold resO; rw [HN.out]; rfl
    refine ⟨by simp, .inl ⟨_, _, rfl, run_takeDeferred (show wz.drew.heap[D]? = some (.deferred (some [])) from HKW.out), ?_⟩⟩
    refine ⟨.tuple #[.slice none 0 0, .int .i64 2], by simp [results, Tryz.results43, go_sem], none, 0, ?_, ?_, (HBW.out.trans (((bDraw (Below.refl _ wz)).mono HBW.out.size))).trans (belowK_b (w := w) hn0 wz.drew D _ _ (by omega) HKW.out rfl rfl)⟩
    · rw [HR.out]; rfl
    · rw [HR.out]; exact .inl ⟨none, rfl, rfl⟩
  case stop =>
    rintro D c W hD ⟨rfl, hI⟩ hK
    obtain ⟨hn, M, v, hM, hs⟩ := hI
    have HS := hide hs
    have hDn : w0.heap.size ≤ D := by omega
    have HN := hide hn
    have HDEL := hide (mo_delete (w.heap.size + 1 + 1) M.length M rfl (by omega) v w0 W HS.out.own HL.out HS.out.bel (by omega) (by have := HS.out.lt; omega))
    have cA := HS.out.cA
    obtain ⟨ao, cap, rfl⟩ : ∃ ao cap, v = .slice ao M.length cap := by
      rcases HS.out.own.2 with ⟨a, h1, h2, _⟩ | ⟨g', off', c', h1, _⟩
      · exact ⟨a, 0, by rw [h1, h2]⟩
      · exact ⟨_, _, h1⟩
    clear hs hn
    gi_wp2_with (refine ⟨trivial, ?_⟩; gi_at_call 73; refine (callsIn_wide.2 HDEL.out).mono ?_; rintro e w1 ⟨ao', m, cap', rfl, hm, hown, hg, hb⟩; have HG := hide hg; have HOWN := hide hown; have HMM := hide hm; have hvA : ∀ j, (Value.slice ao M.length cap).ownBlock = some j → w.heap.size + 1 < j := (fun j hj => by have h1 := (HS.out.own.lt j hj).1; omega); have HVA := hide hvA; have hAe := hg.block (w.heap.size + 1) HS.out.lt (fun e => by have := hvA _ e.symm; omega); have cA2 : w1.cell? ⟨w.heap.size + 1, 0, none⟩ = some (.slice ao M.length cap) := (World.cell?_of_block (a := ⟨w.heap.size + 1, 0, none⟩) hAe).trans HS.out.cA; have fA2 : w1.frozen? ⟨w.heap.size + 1, 0, none⟩ = false := (World.frozen?_of_block (a := ⟨w.heap.size + 1, 0, none⟩) hAe).trans HS.out.fA; have hBe := hg.block w.heap.size (by have := HS.out.lt; omega) (fun e => by have := hvA _ e.symm; omega); have b22 : w1.cell? ⟨w.heap.size, 0, none⟩ = some (.pointer (some ⟨C, 0, none⟩)) := (World.cell?_of_block (a := ⟨w.heap.size, 0, none⟩) hBe).trans HS.out.b2; have hCe := hg.block C HS.out.ce.lt (fun e => by have := hvA _ e.symm; omega); have cC2 : w1.cell? ⟨C, 0, none⟩ = some (.int .i64 2) := (World.cell?_of_block (a := ⟨C, 0, none⟩) hCe).trans HS.out.ce.c; have hK1 : w1.heap[D]? = some (.deferred (some [])) := (hg.block D (Array.getElem?_eq_some_iff.1 hK).1 (fun e => by obtain ⟨p, u, hp, hu⟩ := HS.out.cel D e.symm; exact not_cells hK rfl p u hu hp)).trans hK; have HK1 := hide hK1; have hAD : w.heap.size + 1 ≠ D := not_cells hK1 rfl _ _ cA2; have HAD := hide hAD; clear hown hg hb hvA hAe hBe hCe hm HDEL cA hK1 hAD)
    have HBW := hide (((HS.out.bel.grown HG.out HS.out.bel.size (fun k e => by have := HVA.out k e; omega)).setCell (p := ⟨w.heap.size + 1, 0, none⟩) (by simp only; omega) (.slice ao' m cap')))
    have HKW : Hid ((w1.setCell ⟨w.heap.size + 1, 0, none⟩ (.slice ao' m cap')).heap[D]? = some (.deferred (some []))) := (Below.heap_setCell _ _ _ _ (fun e => HAD.out (by simpa using e.symm))).trans HK1.out
    obtain ⟨wz, hwz⟩ : ∃ x, w1.setCell ⟨w.heap.size + 1, 0, none⟩ (.slice ao' m cap') = x := ⟨_, rfl⟩
    have hz1 : wz.cell? ⟨w.heap.size, 0, none⟩ = some (.pointer (some ⟨C, 0, none⟩)) := by rw [← hwz, World.cell?_setCell_other _ _ _ _ (by first | (simp; done) | (simp; omega))]; exact b22
    have hz2 : wz.cell? ⟨C, 0, none⟩ = some (.int .i64 2) := by rw [← hwz, World.cell?_setCell_other _ _ _ _ (by first | (simp; done) | (simp; omega))]; exact cC2
    rw [hwz] at HBW HKW ⊢
    clear hwz b22 cC2 cA2 fA2
    have mixed : Tryz.prog.follows .mixedOrders = true := by kernel_rfl
    refine wpIn_mono (Q := NoPanic _) ?_ NoPanic.imp
    refine wpIn_region_G (S := (fun w' => w'.cell? ⟨w.heap.size, 0, none⟩ = some (.pointer (some ⟨C, 0, none⟩)) ∧ w'.cell? ⟨C, 0, none⟩ = some (.int .i64 2))) (by kernel_rfl) (⟨hz1, hz2⟩) (fun hHeld => ?_)
    change wpAnyG _ _ _ _ _ _ _ 6 #[false, false, false, false, false, false] _ _
    refine wpAnyG_take (i := 0) (oi := _) (v := ?_) rfl (by kernel_rfl) (by kernel_rfl) (by kernel_rfl) (by kernel_rfl) (fun _ _ _ h => h) ⟨by rfl, ?_, fun _ => rfl⟩ (by assumption) ?_
    rotate_left
    · intro w hSw
      (try dsimp only at hSw)
      go_simp
      try with_reducible rfl
    try simp only [List.getElem_toArray, List.getElem_cons_zero, List.getElem_cons_succ, List.get, Act.put, List.setIfInBounds_toArray, List.set_cons_zero, List.set_cons_succ]
    refine wpAnyG_take (i := 1) (oi := _) (v := ?_) rfl (by kernel_rfl) (by kernel_rfl) (by kernel_rfl) (by kernel_rfl) (fun _ _ _ h => h) ⟨by rfl, ?_, fun _ => rfl⟩ (by assumption) ?_
    rotate_left
    · intro w hSw
      (try dsimp only at hSw)
      go_simp
      try with_reducible rfl
    try simp only [List.getElem_toArray, List.getElem_cons_zero, List.getElem_cons_succ, List.get, Act.put, List.setIfInBounds_toArray, List.set_cons_zero, List.set_cons_succ]
    refine wpAnyG_take (i := 2) (oi := _) (v := ?_) rfl (by kernel_rfl) (by kernel_rfl) (by kernel_rfl) (by kernel_rfl) (fun _ _ _ h => h) ⟨by rfl, ?_, fun _ => rfl⟩ (by assumption) ?_
    rotate_left
    · intro w hSw
      (try dsimp only at hSw)
      go_simp
      try with_reducible rfl
    try simp only [List.getElem_toArray, List.getElem_cons_zero, List.getElem_cons_succ, List.get, Act.put, List.setIfInBounds_toArray, List.set_cons_zero, List.set_cons_succ]
    refine wpAnyG_take (i := 3) (oi := _) (v := ?_) rfl (by kernel_rfl) (by kernel_rfl) (by kernel_rfl) (by kernel_rfl) (fun _ _ _ h => h) ⟨by rfl, ?_, fun _ => rfl⟩ (by assumption) ?_
    rotate_left
    · intro w hSw
      (try dsimp only at hSw)
      go_simp
      try with_reducible rfl
    try simp only [List.getElem_toArray, List.getElem_cons_zero, List.getElem_cons_succ, List.get, Act.put, List.setIfInBounds_toArray, List.set_cons_zero, List.set_cons_succ]
    refine wpAnyG_take (i := 4) (oi := _) (v := ?_) rfl (by kernel_rfl) (by kernel_rfl) (by kernel_rfl) (by kernel_rfl) (fun _ _ _ h => h) ⟨by rfl, ?_, fun _ => rfl⟩ (by assumption) ?_
    rotate_left
    · intro w hSw
      (try dsimp only at hSw)
      go_simp
      try with_reducible rfl
    try simp only [List.getElem_toArray, List.getElem_cons_zero, List.getElem_cons_succ, List.get, Act.put, List.setIfInBounds_toArray, List.set_cons_zero, List.set_cons_succ]
    refine wpAnyG_take (i := 5) (oi := _) (v := ?_) rfl (by kernel_rfl) (by kernel_rfl) (by kernel_rfl) (by kernel_rfl) (fun _ _ _ h => h) ⟨by rfl, ?_, fun _ => rfl⟩ (by assumption) ?_
    rotate_left
    · intro w hSw
      (try dsimp only at hSw)
      go_simp
      try with_reducible rfl
    try simp only [List.getElem_toArray, List.getElem_cons_zero, List.getElem_cons_succ, List.get, Act.put, List.setIfInBounds_toArray, List.set_cons_zero, List.set_cons_succ]
    refine wpAnyG_done (by kernel_rfl) ?_ _
    refine NoPanic.normal ?_
    gi_wp2
    have HR : Hid (resO items = none) := by show resO items = none; unfold resO; rw [HN.out]; rfl
    refine ⟨by simp, .inl ⟨_, _, rfl, run_takeDeferred (show wz.drew.heap[D]? = some (.deferred (some [])) from HKW.out), ?_⟩⟩
    refine ⟨.tuple #[.slice none 0 0, .int .i64 2], by simp [results, Tryz.results43, go_sem], none, 0, ?_, ?_, (HBW.out.trans (((bDraw (Below.refl _ wz)).mono HBW.out.size))).trans (belowK_b (w := w) hn0 wz.drew D _ _ (by omega) HKW.out rfl rfl)⟩
    · rw [HR.out]; rfl
    · rw [HR.out]; exact .inl ⟨none, rfl, rfl⟩
end Go.Proofs.YtblpnekjnaaeoaaGreatDoor
