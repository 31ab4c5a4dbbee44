/- The reference functions Run, Worst and Bools of layer 40; the statements' own function accepted. -/
import Derived.Test.YtahlhiiekgnmpaaPreI
import Derived.Test.YtahlhiiekgnmpaaPreQ
namespace Go.Proofs.Ytahlhiiekgnmpaa
open Go.RowKit

theorem quiet_eqE {P : Program} {f : FuncId} {args : Array Value} {w : World} {n : Nat} {v : Value}
    (h : Calls P f args (w.drewN n) fun e w' => e = .returned v ∧ ∃ m, (w.drewN n).drewN m = w') : Calls P f args (w.drewN n) fun e w'' => e = .returned v ∧ ∃ m, w'' = w.drewN m :=
  h.mono fun _ _ ⟨he, m, hm⟩ => ⟨he, n + m, by rw [← hm, World.drewN_drewN]⟩

/-! ### Allow, asked about the interruptions that were taken -/
theorem tkK_length (win bud : Int) (l : List IP) : ∀ k, (tkK win bud l k).length ≤ k
  | 0 => by simp [tkK]
  | k + 1 => by
    have ih := tkK_length win bud l k
    rw [tkK_succ]
    split
    · simp; omega
    · omega
theorem allow_tk {win bud : Int} {l : List IP} (hv : vldL l = true) (hlim : limB win bud = true) {k : Nat} (hk : k < l.length) {x : IP} (hx : l.getD k (0, 0) = x) :
    allowV win bud x.1 x.2 (tkK win bud l k) = if decK win bud l k then 0 else 23 := by
  obtain ⟨w0, w1, d0, d1⟩ := limB_bd hlim
  have hsub := tkK_sub win bud l k (by omega)
  have hv' := vldL_sublist (hsub.trans (List.take_sublist _ _)) hv
  have hlen : (tkK win bud l k).length < 200 := by
    have := tkK_length win bud l k
    have := (vldL_iff.1 hv).2.2
    omega
  have hxb := (vldL_iff.1 hv).1 _ (getD_mem hk)
  rw [hx] at hxb
  unfold bd4 at hxb
  have hB : allowB win bud x.1 x.2 (tkK win bud l k) = true := by
    unfold allowB
    rw [hv', hlim, decide_eq_true hlen, inB_yes.2 ⟨hxb.1, hxb.2.1⟩, inB_yes.2 ⟨hxb.2.2.1, hxb.2.2.2⟩]; rfl
  have hle : ∀ y ∈ tkK win bud l k, y.1 ≤ x.1 := fun y hy => by
    have := take_le (vldL_iff.1 hv).2.1 hk y (hsub.subset hy)
    rw [hx] at this; exact this
  have hla : ¬ (0 < (tkK win bud l k).length ∧ x.1 < lastAt (tkK win bud l k)) := by
    rintro ⟨h1, h2⟩
    have := hle _ (getD_mem (l := tkK win bud l k) (k := (tkK win bud l k).length - 1) (by omega))
    unfold lastAt at h2
    omega
  have hdc := dropT_cost (win := win) (m := x.1) (vldL_iff.1 hv').2.1 hle
  have hd := decK_iff (bud := bud) hv w0 w1 hk
  rw [hx] at hd
  unfold allowV allowG
  rw [if_pos hB, if_neg hla, hdc, hd]
  by_cases h : costW win x.1 (tkK win bud l k) + x.2 ≤ bud
  · rw [if_neg (by omega), decide_eq_true h]; rfl
  · rw [if_pos (by omega), decide_eq_false h]; rfl

/-! ### Run -/
/-- Another owned slice stays while one grows, and their blocks stay apart. -/
theorem other_kept {W W' : World} {B s n g off m cap : Nat} {u v : Value} {ys : List Value} (h1 : OwnS W B s u n ys) (hne : ∀ b, v.ownBlock = some b → u.ownBlock ≠ some b) (hg : W.grownBy W' v.ownBlock) (hat : v.ownBlock = some g ∨ W.heap.size ≤ g) :
    OwnS W' B s u n ys ∧ (∀ b, (Value.slice (some ⟨g, off, none⟩) m cap).ownBlock = some b → u.ownBlock ≠ some b) := by
  refine ⟨h1.kept hg fun k hk => hne k hk, fun b hb => ?_⟩
  obtain rfl : g = b := by simpa [Value.ownBlock] using hb
  rcases hat with h | h
  · exact hne g h
  · intro e
    have := (h1.lt g e).2
    omega
def RefSt (w wr : World) (win bud : Int) (l : List IP) (v u : Value) (k : Nat) : Prop :=
  OwnS wr w.heap.size 2 v (tkK win bud l k).length (flatV vIP (tkK win bud l k)) ∧ OwnS wr w.heap.size 1 u k (flatV vB (outK win bud l k)) ∧ (∀ b, v.ownBlock = some b → u.ownBlock ≠ some b) ∧ Below w.heap.size w wr
def RefMid (w wr : World) (win bud : Int) (l : List IP) (v u : Value) (k : Nat) : Prop :=
  OwnS wr w.heap.size 2 v (tkK win bud l (k + 1)).length (flatV vIP (tkK win bud l (k + 1))) ∧ OwnS wr w.heap.size 1 u k (flatV vB (outK win bud l k)) ∧ (∀ b, v.ownBlock = some b → u.ownBlock ≠ some b) ∧ Below w.heap.size w wr
theorem RefSt.drew {w wr : World} {win bud : Int} {l : List IP} {v u : Value} {k : Nat} (h : RefSt w wr win bud l v u k) (n : Nat) : RefSt w (wr.drewN n) win bud l v u k := by
  have hb := below_drewN (Below.refl wr.heap.size wr) n
  exact ⟨h.1.below hb, h.2.1.below hb, h.2.2.1, below_drewN h.2.2.2 n⟩
theorem RefSt.no {w wr : World} {win bud : Int} {l : List IP} {v u : Value} {k : Nat} (h : RefSt w wr win bud l v u k) (hd : decK win bud l k = false) : RefMid w wr win bud l v u k := by
  have e : tkK win bud l (k + 1) = tkK win bud l k := by rw [tkK_succ, hd]; rfl
  unfold RefMid
  rw [e]
  exact h
theorem RefSt.yes {w wr W : World} {win bud : Int} {l : List IP} {v u : Value} {k g off cap : Nat} {x : IP} (h : RefSt w wr win bud l v u k) (hd : decK win bud l k = true) (hx : l.getD k (0, 0) = x)
    (hown : OwnS W w.heap.size 2 (.slice (some ⟨g, off, none⟩) ((tkK win bud l k).length + 1) cap) ((tkK win bud l k).length + 1) (flatV vIP (tkK win bud l k) ++ vIP x)) (hg : wr.grownBy W v.ownBlock) (hb : Below w.heap.size wr W) (hat : v.ownBlock = some g ∨ wr.heap.size ≤ g) :
    RefMid w W win bud l (.slice (some ⟨g, off, none⟩) ((tkK win bud l k).length + 1) cap) u k := by
  have e : tkK win bud l (k + 1) = tkK win bud l k ++ [x] := by rw [tkK_succ, hd, hx]; rfl
  obtain ⟨h1, h2⟩ := other_kept (off := off) (m := (tkK win bud l k).length + 1) (cap := cap) h.2.1 h.2.2.1 hg hat
  unfold RefMid
  rw [e, flatV_append, flatV_one, List.length_append]
  exact ⟨hown, h1, h2, h.2.2.2.trans hb⟩
theorem RefMid.step {w wr W : World} {win bud : Int} {l : List IP} {v u : Value} {k g off cap : Nat} (h : RefMid w wr win bud l v u k)
    (hown : OwnS W w.heap.size 1 (.slice (some ⟨g, off, none⟩) (k + 1) cap) (k + 1) (flatV vB (outK win bud l k) ++ [.bool (decK win bud l k)])) (hg : wr.grownBy W u.ownBlock) (hb : Below w.heap.size wr W) (hat : u.ownBlock = some g ∨ wr.heap.size ≤ g) :
    RefSt w W win bud l v (.slice (some ⟨g, off, none⟩) (k + 1) cap) (k + 1) := by
  obtain ⟨h1, h2⟩ := other_kept (off := off) (m := k + 1) (cap := cap) h.1 (fun b h3 h4 => h.2.2.1 b h4 h3) hg hat
  refine ⟨h1, ?_, fun b h3 h4 => h2 b h4 h3, h.2.2.2.trans hb⟩
  rw [outK, flatV_append]
  exact hown

set_option maxHeartbeats 4000000 in
set_option maxRecDepth 100000 in
theorem ref40_run_ok (win bud : Int) (l : List IP) (ao : Option Addr) (cp : Nat) (w : World) (h : SliceOf vIP 2 w (.slice ao l.length cp) l) (hv : vldL l = true) (hlim : limB win bud = true) :
    Calls Try.prog 31 #[.int .i64 win, .int .i64 bud, .slice ao l.length cp] w (RunPost w win bud l) := by
  obtain ⟨i0, hi, hz0, hz1, hz2⟩ := info_parts Try.info4
  obtain ⟨j0, ji, jz0, jz1, jz2⟩ := info_parts Try.infoIP
  obtain ⟨hbd, hlen⟩ := vldL_bd hv
  obtain ⟨w0, w1, d0, d1⟩ := limB_bd hlim
  have hw : winB win = true := winB_yes.2 ⟨w0, w1⟩
  have hbu : inB bud 1000000 = true := inB_yes.2 ⟨d0, d1⟩
  have H := hide h
  have HC := hide (slice_cells h)
  clear hbd h
  go_enter Try.func31, Try.ntmps31
  go_wp2_with fail
  refine (ref40_valid l _ _ H.out).mono ?_
  rintro e wa ⟨rfl, na, rfl⟩
  rw [hv]
  go_wp2_with fail
  refine (ref40_window win _).mono ?_
  rintro e wb ⟨rfl, rfl⟩
  rw [hw]
  go_wp2_with fail
  refine (ref40_budget bud _).mono ?_
  rintro e wb ⟨rfl, rfl⟩
  rw [hbu]
  go_wp2_with fail
  go_loopw [8, 9, 10] (fun u v i wr => ∃ (k : Nat), k ≤ l.length ∧ i = .int .i64 k ∧ RefSt w wr win bud l v u k) (fun _ _ i _ => l.length - (intOf i).toNat)
  case atStart => exact ⟨0, Nat.zero_le _, rfl, OwnS.nil _ _ _, OwnS.nil _ _ _, (by intro b hb; cases hb), below_drewN (Below.refl _ _) na⟩
  case round =>
    obtain ⟨k, hk, rfl, hst⟩ := hrel
    have HST := hide hst
    clear hst
    by_cases hlt : k < l.length
    · obtain ⟨b, off, rfl, hbw, hc⟩ := HC.out (by omega)
      obtain ⟨x0, x1⟩ := ip_cells hc hlt
      have hki : (k : Int) < (l.length : Int) := by omega
      have y0 := (HST.out.2.2.2.cell (p := ⟨b, off + k * 2, none⟩) hbw).trans x0
      have y1 := (HST.out.2.2.2.cell (p := ⟨b, off + k * 2 + 1, none⟩) hbw).trans x1
      have hgd : Hid (l.getD k (0, 0) = (l[k].1, l[k].2)) := by
        show l.getD k (0, 0) = _
        rw [getD_at hlt]
      obtain ⟨xa, hxa⟩ : ∃ x, l[k].1 = x := ⟨_, rfl⟩
      obtain ⟨xc, hxc⟩ : ∃ x, l[k].2 = x := ⟨_, rfl⟩
      rw [hxa] at y0 hgd
      rw [hxc] at y1 hgd
      have HV := hide (allow_tk hv hlim hlt hgd.out)
      have htl := tkK_length win bud l k
      clear hxa hxc x0 x1 hc
      have CA := hide (fun n => ref40_allow win bud xa xc (tkK win bud l k) u9 (wr.drewN n) (OwnS.slice vIP_len (HST.out.drew n).1))
      have hsz := HST.out.2.2.2.size
      rcases Bool.eq_false_or_eq_true (decK win bud l k) with hd | hd
      · have CA0 : Hid (∀ n, Calls Try.prog 35 #[u9, .int .i64 win, .int .i64 bud, .int .i64 xa, .int .i64 xc] (wr.drewN n) fun e w' => e = .returned (.int .i64 0) ∧ ∃ m, (wr.drewN n).drewN m = w') := by
          intro n
          have h1 := CA.out n
          have h2 : allowV win bud xa xc (tkK win bud l k) = 0 := HV.out.trans (by rw [hd]; rfl)
          rw [h2] at h1
          exact h1
        have HD := hide hd
        clear CA HV hd
        go_wp2_with fail
        go_quiet ((go_at_call 35; exact quiet_eqE (CA0.out _)))
        have HS2 := hide (HST.out.drew nq)
        go_wp2_with (at_builtin; refine wpList_appendS rfl _ _ 43 rfl w.heap.size 54 j0 (.agg #[.int .i64 0, .int .i64 0]) 2 16 Try.underlying43 ji jz0 jz1 jz2 rfl (by decide) _ _ _ rfl HS2.out.1 #[.int .i64 xa, .int .i64 xc] 54 1 rfl rfl ?_ ?_ (by decide) (Nat.le_trans hsz (by simp)) ?_)
        · first | exact ⟨rfl, rfl⟩ | rfl
        · omega
        · intro g off' cap' w4 hown4 hg4 hb4 hat4
          have HM := hide (HS2.out.yes HD.out hgd.out hown4 hg4 hb4 hat4)
          clear hown4 hg4 hb4 hat4
          have hsz4 := HM.out.2.2.2.size
          go_wp2_with (at_builtin; refine wpList_appendS rfl _ _ 44 rfl w.heap.size 4 i0 (.bool false) 1 1 Try.underlying44 hi hz0 hz1 hz2 rfl (by decide) _ _ _ rfl HM.out.2.1 #[.bool true] 4 1 rfl rfl ?_ ?_ (by decide) hsz4 ?_)
          · first | rfl | (intro u hu; simp at hu; subst hu; rfl)
          · omega
          · intro g' off'' cap'' w5 hown5 hg5 hb5 hat5
            have hown5' : OwnS w5 w.heap.size 1 (.slice (some ⟨g', off'', none⟩) (k + 1) cap'') (k + 1) (flatV vB (outK win bud l k) ++ [.bool (decK win bud l k)]) := by rw [HD.out]; exact hown5
            have HN := hide (HM.out.step hown5' hg5 hb5 hat5)
            clear hown5 hown5' hg5 hb5 hat5
            go_wp2_with fail
            go_roundw
            case rel => exact ⟨k + 1, by omega, by go_num, HN.out⟩
            case measure => simp [intOf]; omega
      · have CA0 : Hid (∀ n, Calls Try.prog 35 #[u9, .int .i64 win, .int .i64 bud, .int .i64 xa, .int .i64 xc] (wr.drewN n) fun e w' => e = .returned (.int .i64 23) ∧ ∃ m, (wr.drewN n).drewN m = w') := by
          intro n
          have h1 := CA.out n
          have h2 : allowV win bud xa xc (tkK win bud l k) = 23 := HV.out.trans (by rw [hd]; rfl)
          rw [h2] at h1
          exact h1
        have HD := hide hd
        clear CA HV hd
        go_wp2_with fail
        go_quiet ((go_at_call 35; exact quiet_eqE (CA0.out _)))
        have HM := hide ((HST.out.drew nq).no HD.out)
        have hsz4 := HM.out.2.2.2.size
        go_wp2_with (at_builtin; refine wpList_appendS rfl _ _ 44 rfl w.heap.size 4 i0 (.bool false) 1 1 Try.underlying44 hi hz0 hz1 hz2 rfl (by decide) _ _ _ rfl HM.out.2.1 #[.bool false] 4 1 rfl rfl ?_ ?_ (by decide) hsz4 ?_)
        · first | rfl | (intro u hu; simp at hu; subst hu; rfl)
        · omega
        · intro g' off'' cap'' w5 hown5 hg5 hb5 hat5
          have hown5' : OwnS w5 w.heap.size 1 (.slice (some ⟨g', off'', none⟩) (k + 1) cap'') (k + 1) (flatV vB (outK win bud l k) ++ [.bool (decK win bud l k)]) := by rw [HD.out]; exact hown5
          have HN := hide (HM.out.step hown5' hg5 hb5 hat5)
          clear hown5 hown5' hg5 hb5 hat5
          go_wp2_with fail
          go_roundw
          case rel => exact ⟨k + 1, by omega, by go_num, HN.out⟩
          case measure => simp [intOf]; omega
    · have hk' : k = l.length := by omega
      subst hk'
      go_wp2_with fail
      go_ret2
      have e1 : runB win bud l = true := by unfold runB; rw [hv, hlim]; rfl
      obtain ⟨h1, h2, h3, h4⟩ := HST.out
      refine ⟨u8, ret_vi (by rw [e1]; rfl), ?_, h4⟩
      unfold runV
      rw [if_pos e1]
      have hl := outK_length win bud l l.length
      have h2' : OwnS wr w.heap.size 1 u8 (outK win bud l l.length).length (flatV vB (outK win bud l l.length)) := by rw [hl]; exact h2
      exact OwnS.slice vB_len h2'
theorem ref40_run_bad (win bud : Int) (l : List IP) (vs : Value) (w : World) (h : SliceOf vIP 2 w vs l) (hv : runB win bud l = false) :
    Calls Try.prog 31 #[.int .i64 win, .int .i64 bud, vs] w (RunPost w win bud l) := by
  have E1 : Hid (errC (runB win bud l) = 1) := by
    show errC (runB win bud l) = 1
    rw [hv]; rfl
  have E2 : Hid (runV win bud l = []) := by
    show runV win bud l = []
    unfold runV; rw [hv]; rfl
  by_cases h1 : vldL l = true
  · by_cases h2 : winB win = true
    · have h3 : inB bud 1000000 = false := by simpa [runB, limB_eq, h1, h2] using hv
      clear hv
      go_enter Try.func31, Try.ntmps31
      go_wp2_with fail
      refine (ref40_valid l _ _ h).mono ?_
      rintro e wa ⟨rfl, na, rfl⟩
      rw [h1]
      go_wp2_with fail
      refine (ref40_window win _).mono ?_
      rintro e wb ⟨rfl, rfl⟩
      rw [h2]
      go_wp2_with fail
      refine (ref40_budget bud _).mono ?_
      rintro e wb ⟨rfl, rfl⟩
      rw [h3]
      go_wp2_with fail
      go_ret2
      exact ⟨.slice none 0 0, ret_vi E1.out.symm, by rw [E2.out]; exact .inl ⟨none, rfl, rfl⟩, below_drewN (Below.refl _ _) na⟩
    · have h2' : winB win = false := by simpa using h2
      clear hv
      go_enter Try.func31, Try.ntmps31
      go_wp2_with fail
      refine (ref40_valid l _ _ h).mono ?_
      rintro e wa ⟨rfl, na, rfl⟩
      rw [h1]
      go_wp2_with fail
      refine (ref40_window win _).mono ?_
      rintro e wb ⟨rfl, rfl⟩
      rw [h2']
      go_wp2_with fail
      go_ret2
      exact ⟨.slice none 0 0, ret_vi E1.out.symm, by rw [E2.out]; exact .inl ⟨none, rfl, rfl⟩, below_drewN (Below.refl _ _) na⟩
  · have h1' : vldL l = false := by simpa using h1
    clear hv
    go_enter Try.func31, Try.ntmps31
    go_wp2_with fail
    refine (ref40_valid l _ _ h).mono ?_
    rintro e wa ⟨rfl, na, rfl⟩
    rw [h1']
    go_wp2_with fail
    go_ret2
    exact ⟨.slice none 0 0, ret_vi E1.out.symm, by rw [E2.out]; exact .inl ⟨none, rfl, rfl⟩, below_drewN (Below.refl _ _) na⟩
theorem ref40_run (win bud : Int) (l : List IP) (vs : Value) (w : World) (h : SliceOf vIP 2 w vs l) :
    Calls Try.prog 31 #[.int .i64 win, .int .i64 bud, vs] w (RunPost w win bud l) := by
  by_cases hr : runB win bud l = true
  · obtain ⟨ao, cp, rfl⟩ := h.shape
    have h' : vldL l = true ∧ limB win bud = true := by simpa [runB] using hr
    exact ref40_run_ok win bud l ao cp w h h'.1 h'.2
  · exact ref40_run_bad win bud l vs w h (by simpa using hr)
end Go.Proofs.Ytahlhiiekgnmpaa
