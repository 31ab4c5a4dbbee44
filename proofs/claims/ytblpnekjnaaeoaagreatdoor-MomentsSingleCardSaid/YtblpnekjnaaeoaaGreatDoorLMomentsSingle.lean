/- MomentsSingle: for every input the call returns true and leaves the arguments as they were, where the listed package-level variables hold what the program's text lays (the card ties them). -/
import Derived.Test.YtblpnekjnaaeoaaGreatDoorPost
import Derived.Test.YtblpnekjnaaeoaaGreatDoorNatY
import Derived.Test.YtblpnekjnaaeoaaGreatDoorMqY
import Derived.Test.YtblpnekjnaaeoaaGreatDoorCards
import Derived.Test.YtblpnekjnaaeoaaGreatDoorTie
import Derived.Lay
import Derived.Great.ByCalls
import Derived.LaidOnce
import Derived.SevenTiedAt
import Derived.ProofKit
namespace Go.Proofs.YtblpnekjnaaeoaaGreatDoor.momentsSingle
open Go.ChangeShapes Go.WideShapes Go.ChangeAt Go.RowKit Go.Joins Go.WideMaps Go.WideElems
open Go.ChangeMaps (open_string shut_string)

theorem own : ownKnob Tryz.prog.godebug = none := by kernel_rfl
theorem laidOut : laidOutB Tryz.prog = true := by kernel_rfl
theorem readable : ([22, 52, 5, 5].all fun t => Tryz.prog.readableRec t && decide (t < Tryz.prog.types.size)) = true := by kernel_rfl
theorem pow_row : (Rows.momentsSingleRow.laid.filter fun x => x.1 == "internal/strconv.uint64pow10") = [("internal/strconv.uint64pow10", Rows.laid_internal_strconv_uint64pow10)] := by kernel_rfl
theorem range_row : (Rows.momentsSingleRow.laid.filter fun x => x.1 == "strconv.ErrRange") = [("strconv.ErrRange", Rows.laid_strconv_ErrRange)] := by kernel_rfl

set_option maxRecDepth 100000 in
theorem lifted (os : Os) (started : os.Started) (H : Type) (enc : TypeId × Value → H) :
    ReturnsInHanded {} Tryz.checked os 8 .any (fun w args => (Rows.momentsSingleSpec.pre enc Tryz.prog Tryz.f8 [] false w args ∧ laidMetH Tryz.prog Rows.momentsSingleRow.laid w) ∧ sizedMet enc Tryz.prog Tryz.f8 (OpenSpec.ofChange Rows.momentsSingleSpec) false w args)
      (Rows.momentsSingleSpec.post enc Tryz.prog Tryz.f8 false true false false) := by
  refine returnsInHanded_of_change_and (C := Tryz.checked) (X := fun w _ => laidMetH Tryz.prog Rows.momentsSingleRow.laid w) (fun _ _ _ hh h => h.of_heap hh) own started (by kernel_rfl) Tryz.func8
    (ChangeSpec.witness_shaped (enc := enc) (C := Tryz.checked) (os := os) (X := fun w _ => laidMetH Tryz.prog Rows.momentsSingleRow.laid w) false (World.laidAll Tryz.prog os Rows.momentsSingleRow.laid) #[.slice none 0 0, .int .i16 0, .int .u8 0, .int .u8 0] 8 (World.laidAll_os _ _ _)
      (World.shaped_of_ZipB (by kernel_rfl) (by kernel_rfl)) (by kernel_rfl) (by kernel_rfl) (by kernel_rfl)
      (by rw [MakeChecks.laidMetH_plain _ _ _ (by kernel_rfl)]; exact laidMet_laidAll _ (by kernel_rfl) (by kernel_rfl))) ?_
  intro W base args ds gs before hval0 hW _ _ hL _
  have hval : ∀ (j : Nat) t v, Tryz.f8.params[j]? = some t → args[j]? = some v → Value.okWide Tryz.prog W .any base t v := hval0
  have hW' := hW
  obtain ⟨p, q, hA0, hV, rfl, hfz, hnd⟩ := hW
  have hA : DataW.TrodAll enc Tryz.prog W 0 (fun _ => true) true Tryz.f8.params.toList args.toList ds p := hA0
  rw [Tryz.params8] at hA hval
  obtain ⟨rfl, rfl⟩ := trodVars_none hV
  rw [MakeChecks.laidMetH_plain _ _ _ (by kernel_rfl)] at hL
  have hLW : LawW W := lawW_of_laid hL pow_row range_row
  have hlt : ∀ x ∈ p, x.block < W.heap.size := fun x hx => hW'.lt x (by simpa using hx)
  have hst := fun (W' : World) (hb : Below W.heap.size W W') => trodAll_stays laidOut hb (ts := [22, 52, 5, 5]) (fun t ht => by have := List.all_eq_true.1 readable t ht; simpa using this) hA hlt
  obtain ⟨v0, vs0, d0, ds0, p0, q0, hargs, rfl, hp0, h0, r0⟩ := trodAll_cons hA
  obtain ⟨v1, vs1, d1, ds1, p1, q1, rfl, rfl, hp1, h1, r1⟩ := trodAll_cons r0
  obtain ⟨v2, vs2, d2, ds2, p2, q2, rfl, rfl, hp2, h2, r2⟩ := trodAll_cons r1
  obtain ⟨v3, vs3, d3, ds3, p3, q3, rfl, rfl, hp3, h3, r3⟩ := trodAll_cons r2
  obtain ⟨rfl, rfl, hpe⟩ := trodAll_nil r3
  obtain rfl : args = #[v0, v1, v2, v3] := by cases args; simp_all
  have hv0 := hval 0 22 v0 rfl rfl
  have hv1 := hval 1 52 v1 rfl rfl
  have hv2 := hval 2 5 v2 rfl rfl
  have hv3 := hval 3 5 v3 rfl rfl
  obtain ⟨a1, rfl, rfl, hq1, w1⟩ := open_int Tryz.underlying52 hv1 h1
  obtain ⟨a2, rfl, rfl, hq2, w2⟩ := open_int Tryz.underlying5 hv2 h2
  obtain ⟨a3, rfl, rfl, hq3, w3⟩ := open_int Tryz.underlying5 hv3 h3
  clear hA0 hval0
  simp only [List.append_nil] at hW'
  refine Calls.mono (R := fun e w' => e = .returned (.bool true) ∧ Below W.heap.size W w') ?_ fun e W' ⟨he, hb⟩ => ?_
  · have hLM : LawM W := lawM_of hL hLW (by kernel_rfl) (by kernel_rfl)
    obtain ⟨l0, hl0, hz0⟩ := open_pts hv0 h0
    exact law46_single l0 v0 a1 a2 a3 (i16_bd w1) (u8_bd w2) (u8_bd w3) W hLM hl0 hz0
  · subst he
    exact ⟨_, rfl, post_of_below (pa := p) (pv := []) hW' (fun _ _ _ => (trodAll_cons_mk (shut_bool Tryz.underlying4 _) trodAll_mk0)) (fun sp hsp => hst W' hb sp hsp) (fun _ _ => rfl) (by simp) hb (ok_one (by kernel_rfl) rfl (okWide_bool_mk Tryz.underlying4 _))⟩

theorem over : Rows.momentsSingleRow.holds Tryz.pinned (OpenSpec.ofChange Rows.momentsSingleSpec) :=
  OpenClaim.holds_of_wide 8 Tryz.f8 rfl rfl rfl rfl rfl rfl rfl ⟨rfl, rfl, rfl, rfl, rfl⟩ rfl rfl rfl rfl rfl (by kernel_rfl) Tryz.func8 (by kernel_rfl)
    (of_decide_eq_true (by kernel_rfl)) (by unfold Func.isWrapper; first | (rw [if_pos (by decide +kernel)]; kernel_rfl) | (rw [if_neg (by decide +kernel)]; exact ⟨rfl, rfl⟩))
    (fun os started H enc _ => lifted os started H enc)

/-- The statement. -/
theorem proved : Rows.MomentsSingleCardSaid :=
  Claim7.holds_tied_plain_at .later [] [.data, .data, .data, .data, .sentinel, .sentinel, .data, .data, .pinned] true (true, "6f3cb04588810cf43525e7c88db3b5e1b48fe7a32572d8f36e48dfccbe352add") true
    over (fun _ h => by cases h) (by kernel_rfl) (fun _ h => by cases h) momentsSingle_row_tie rfl ⟨rfl, rfl⟩ (by kernel_rfl) rfl
    (fun f fn hf hfn => by
      obtain rfl : f = 8 := Option.some.inj ((show Tryz.prog.funcNamed "observatory/observatorylaw46.MomentsSingle" = some 8 by kernel_rfl).symm.trans hf) |>.symm
      obtain rfl : fn = Tryz.f8 := (Option.some.inj (Tryz.func8.symm.trans hfn)).symm
      exact ⟨by kernel_rfl, fun j t ht => by
        rw [Tryz.params8] at ht
        have hm : t ∈ [22, 52, 5, 5] := by simpa using Array.mem_of_getElem? ht
        have hall : ([22, 52, 5, 5].all fun u => !Tryz.prog.wantsStandIn u) = true := by kernel_rfl
        exact (show Tryz.prog.wantsStandIn t = false by simpa using List.all_eq_true.1 hall t hm)⟩)
    (by kernel_rfl)
#print axioms proved
end Go.Proofs.YtblpnekjnaaeoaaGreatDoor.momentsSingle
