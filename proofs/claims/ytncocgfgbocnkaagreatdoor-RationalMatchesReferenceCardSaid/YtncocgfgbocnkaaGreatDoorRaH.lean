/- rational: Text, Parse. -/
import Derived.Test.YtncocgfgbocnkaaGreatDoorRaG
import Derived.Test.YtncocgfgbocnkaaGreatDoorRaQ
import Derived.Test.YtncocgfgbocnkaaGreatDoorRfA
set_option linter.unusedVariables false
set_option linter.unusedSimpArgs false
namespace Go.Proofs.YtncocgfgbocnkaaGreatDoor
open Go.RowKit

theorem indexByte_lt : ∀ (l : List UInt8) (c : UInt8), 0 ≤ Lib.indexByte l c → Lib.indexByte l c < l.length
  | [], _, h => by simp [Lib.indexByte] at h
  | b :: l, c, h => by
    have ih := indexByte_lt l c
    have hg := Lib.indexByte_ge l c
    rw [Lib.indexByte] at h ⊢
    by_cases h1 : (b == c) = true
    · rw [if_pos h1]; simp
    · rw [if_neg h1] at h ⊢
      by_cases h2 : (Lib.indexByte l c == -1) = true
      · rw [if_pos h2] at h; omega
      · rw [if_neg h2]
        have : Lib.indexByte l c ≠ -1 := by simpa using h2
        have := ih (by omega)
        rw [List.length_cons]; omega
def bL (l : List UInt8) : ByteArray := ⟨l.toArray⟩
theorem bL_list (l : List UInt8) : (bL l).data.toList = l := rfl
theorem bL_size (l : List UInt8) : (bL l).size = l.length := rfl
theorem bL_of (s : ByteArray) : bL s.data.toList = s := by apply ba_eq; rfl
theorem ba_append' (a b : ByteArray) : (a ++ b).data.toList = a.data.toList ++ b.data.toList := by
  rw [ByteArray.data_append, Array.toList_append]
theorem add_bL (a b : List UInt8) (h : a.length + b.length ≤ 9223372036854775807) (W : World) : (Op.stringOp .add (bL a) (bL b)).run Tryz.prog W = .ok (.string (bL (a ++ b))) W := by
  rw [run_string_add_sum W _ _ (by rw [bL_size, bL_size]; exact h)]
  congr 2
set_option maxHeartbeats 2000000 in
set_option maxRecDepth 100000 in
theorem rat_Text_q (q : Rat) (w : World) (h : FitQ q) (hw : LawW w) :
    Calls Tryz.prog 17 #[rqV q] w fun e w' => e = .returned (.tuple #[.string (bL (txtQ q)), .int .i64 0]) ∧ Below w.heap.size w w' := by
  have HV := hide (fun W hW => rat_valid_q q W h hW)
  have h1 : ((natS q.den).toList == [49]) = decide (q.den = 1) := by
    by_cases e : q.den = 1
    · rw [decide_eq_true e]; exact str_eq (by rw [e, natS_one])
    · rw [decide_eq_false e]; exact str_ne (t := ⟨#[49]⟩) (fun h => e (natS_inj (h.trans natS_one.symm))) rfl
  have hn := capN_len.2 h.1
  have hd := capN_len.2 h.2
  have HW := hide hw
  unfold rqV at HV ⊢
  unfold txtQ txtL
  have es : natS (nmQ q) = bL (Lib.decDigits (nmQ q)) := rfl
  have et : natS q.den = bL (Lib.decDigits q.den) := rfl
  rw [es, et] at HV ⊢
  rw [et] at h1
  obtain ⟨g, hg⟩ : ∃ s, ngQ q = s := ⟨_, rfl⟩
  obtain ⟨a, ha⟩ : ∃ s, Lib.decDigits (nmQ q) = s := ⟨_, rfl⟩
  obtain ⟨b, hb⟩ : ∃ s, Lib.decDigits q.den = s := ⟨_, rfl⟩
  rw [hg, ha, hb] at HV ⊢
  rw [hb] at h1 hd
  rw [ha] at hn
  by_cases hd1 : q.den = 1
  · rw [decide_eq_true hd1] at h1
    simp only [if_pos hd1, List.append_nil]
    have HR := hide (RC.new w g (bL a) (bL b) 24)
    have HB0 := hide (bAlloc (Below.refl w.heap.size w) (.cells #[.bool g, .string (bL a), .string (bL b)] 24))
    have hadd := add_bL [45] a (by simp; omega)
    have e45 : bL [45] = ⟨#[45]⟩ := rfl
    rw [e45] at hadd
    have h1' : ((bL b).toList != [49]) = false := by rw [bne, h1]; rfl
    clear hg ha hb hd1 h hw es et e45
    obtain ⟨t, ht⟩ : ∃ t, bL b = t := ⟨_, rfl⟩
    obtain ⟨s, hs⟩ : ∃ s, bL a = s := ⟨_, rfl⟩
    obtain ⟨u, hu⟩ : ∃ s, bL ([45] ++ a) = s := ⟨_, rfl⟩
    rw [ht] at HV HR HB0 h1 h1' ⊢
    rw [hs] at HV HR HB0 hadd ⊢
    rw [hu] at hadd
    have HS := hide hs
    have HU := hide hu
    clear ht hs hu
    cases g
    all_goals
      go_enter Tryz.func17, Tryz.ntmps17
      go_wp2_with fail
      refine (HV.out _ (HW.out.below HB0.out)).mono ?_
      rintro e w1 ⟨rfl, hb⟩
      have HB1 := hide (bStep HB0.out hb)
      have HR1 := hide (HR.out.below hb)
      obtain ⟨c0, c1, c2, f0, f1, f2⟩ := HR1.out
      clear hb
      go_wp2_with fail
      go_ret2
      exact ⟨by first | exact congrArg (fun x => Ending.returned (.tuple #[.string x, .int .i64 0])) HU.out.symm | exact congrArg (fun x => Ending.returned (.tuple #[.string x, .int .i64 0])) HS.out.symm, HB1.out⟩
  · rw [decide_eq_false hd1] at h1
    simp only [if_neg hd1]
    have HR := hide (RC.new w g (bL a) (bL b) 24)
    have HB0 := hide (bAlloc (Below.refl w.heap.size w) (.cells #[.bool g, .string (bL a), .string (bL b)] 24))
    have hadd1 := add_bL [47] b (by simp; omega)
    have hadd2 := add_bL a ([47] ++ b) (by simp; omega)
    have hadd3 := add_bL [45] (a ++ ([47] ++ b)) (by simp; omega)
    have e45 : bL [45] = ⟨#[45]⟩ := rfl
    have e47 : bL [47] = ⟨#[47]⟩ := rfl
    rw [e45] at hadd3
    rw [e47] at hadd1
    have h1' : ((bL b).toList != [49]) = true := by rw [bne, h1]; rfl
    clear hg ha hb hd1 h hw es et e45 e47
    have el : ∀ l : List UInt8, l ++ (a ++ (47 :: b)) = l ++ (a ++ ([47] ++ b)) := fun _ => rfl
    rw [el]
    obtain ⟨t, ht⟩ : ∃ t, bL b = t := ⟨_, rfl⟩
    obtain ⟨s, hs⟩ : ∃ s, bL a = s := ⟨_, rfl⟩
    obtain ⟨u, hu⟩ : ∃ s, bL ([47] ++ b) = s := ⟨_, rfl⟩
    obtain ⟨v, hv⟩ : ∃ s, bL (a ++ ([47] ++ b)) = s := ⟨_, rfl⟩
    obtain ⟨x, hx⟩ : ∃ s, bL ([45] ++ (a ++ ([47] ++ b))) = s := ⟨_, rfl⟩
    rw [ht] at HV HR HB0 h1 h1' hadd1 ⊢
    rw [hs] at HV HR HB0 hadd2 ⊢
    rw [hu] at hadd1 hadd2
    rw [hv] at hadd2 hadd3
    rw [hx] at hadd3
    have HX := hide hx
    have HV2 := hide hv
    clear ht hs hu hv hx el
    cases g
    all_goals
      go_enter Tryz.func17, Tryz.ntmps17
      go_wp2_with fail
      refine (HV.out _ (HW.out.below HB0.out)).mono ?_
      rintro e w1 ⟨rfl, hb⟩
      have HB1 := hide (bStep HB0.out hb)
      have HR1 := hide (HR.out.below hb)
      obtain ⟨c0, c1, c2, f0, f1, f2⟩ := HR1.out
      clear hb
      go_wp2_with fail
      go_ret2
      exact ⟨by first | exact congrArg (fun x => Ending.returned (.tuple #[.string x, .int .i64 0])) HX.out.symm | exact congrArg (fun x => Ending.returned (.tuple #[.string x, .int .i64 0])) HV2.out.symm, HB1.out⟩
set_option maxHeartbeats 2000000 in
set_option maxRecDepth 100000 in
theorem rat_Text_bad (g : Bool) (s t : ByteArray) (w : World) (hs : s.size ≤ maxLen) (ht : t.size ≤ maxLen) (hv : vldR g s t = false) (hw : LawW w) :
    Calls Tryz.prog 17 #[.agg #[.bool g, .string s, .string t]] w fun e w' => e = .returned (.tuple #[.string ⟨#[]⟩, .int .i64 1]) ∧ Below w.heap.size w w' := by
  have HV : Hid (∀ W, LawW W → Calls Tryz.prog 21 #[.agg #[.bool g, .string s, .string t]] W fun e w' => e = .returned (.bool false) ∧ Below W.heap.size W w') := fun W hW => by
    have := rat_valid g s t W hs ht hW
    rw [hv] at this; exact this
  have HW := hide hw
  have HR := hide (RC.new w g s t 24)
  have HB0 := hide (bAlloc (Below.refl w.heap.size w) (.cells #[.bool g, .string s, .string t] 24))
  clear hv hw
  go_enter Tryz.func17, Tryz.ntmps17
  go_wp2_with fail
  refine (HV.out _ (HW.out.below HB0.out)).mono ?_
  rintro e w1 ⟨rfl, hb⟩
  have HB1 := hide (bStep HB0.out hb)
  clear hb
  go_wp2_with fail
  go_ret2
  exact ⟨rfl, HB1.out⟩
set_option maxHeartbeats 2000000 in
set_option maxRecDepth 100000 in
theorem cutprefix_in (l : List UInt8) (w : World) (h : l.length ≤ 1000000) :
    Calls Tryz.prog 67 #[.string (bL l), .string ⟨#[45]⟩] w fun e w' => e = .returned (.tuple #[.string (bL (cutP l).1), .bool (cutP l).2]) ∧ w = w' := by
  have HP := hide (Tryz.stringslite_HasPrefix (bL l) ⟨#[45]⟩)
  have hsz : (bL l).size ≤ 1000000 := h
  have he : (⟨#[45]⟩ : ByteArray).data.toList = [45] := rfl
  rw [he, bL_list] at HP
  unfold cutP
  by_cases hp : Lib.hasPrefix l [45] = true
  · rw [hp] at HP
    rw [if_pos hp]
    have h1 : 1 ≤ (bL l).size := by
      rw [bL_size]
      cases l with
      | nil => simp [Lib.hasPrefix] at hp
      | cons a l => simp
    have hE : (bL l).extract 1 (bL l).size = bL (l.drop 1) := by
      apply ba_eq; rw [ext_drop]; rfl
    have HE := hide hE
    obtain ⟨s, hs⟩ : ∃ s, bL l = s := ⟨_, rfl⟩
    rw [hs] at HP hsz h1 HE ⊢
    clear hp h he hE hs
    go_enter Tryz.func67, Tryz.ntmps67
    go_wp2_with fail
    refine (HP.out _).mono ?_
    rintro e w1 ⟨rfl, rfl⟩
    go_wp2_with fail
    go_ret2
    exact ⟨congrArg (fun x => Ending.returned (.tuple #[.string x, .bool true])) HE.out, rfl⟩
  · have hp' : Lib.hasPrefix l [45] = false := by simpa using hp
    rw [hp'] at HP
    rw [if_neg hp]
    clear hp hp' h he
    go_enter Tryz.func67, Tryz.ntmps67
    go_wp2_with fail
    refine (HP.out _).mono ?_
    rintro e w1 ⟨rfl, rfl⟩
    go_wp2_with fail
    go_ret2
    exact ⟨rfl, rfl⟩
set_option maxHeartbeats 2000000 in
set_option maxRecDepth 100000 in
theorem cutprefix (l : List UInt8) (w : World) (h : l.length ≤ 1000000) :
    Calls Tryz.prog 44 #[.string (bL l), .string ⟨#[45]⟩] w fun e w' => e = .returned (.tuple #[.string (bL (cutP l).1), .bool (cutP l).2]) ∧ w = w' := by
  have HP := hide (fun W => cutprefix_in l W h)
  obtain ⟨s, hs⟩ : ∃ s, bL l = s := ⟨_, rfl⟩
  obtain ⟨t, ht⟩ : ∃ s, bL (cutP l).1 = s := ⟨_, rfl⟩
  obtain ⟨b, hb⟩ : ∃ s, (cutP l).2 = s := ⟨_, rfl⟩
  rw [hs, ht, hb] at HP ⊢
  clear hs ht hb h
  go_enter Tryz.func44, Tryz.ntmps44
  go_wp2_with fail
  refine (HP.out _).mono ?_
  rintro e w1 ⟨rfl, rfl⟩
  go_wp2_with fail
  go_ret2
  exact ⟨rfl, rfl⟩
set_option maxHeartbeats 2000000 in
set_option maxRecDepth 100000 in
theorem cut_in (l : List UInt8) (w : World) (h : l.length ≤ 1000000) :
    Calls Tryz.prog 68 #[.string (bL l), .string ⟨#[47]⟩] w fun e w' => e = .returned (.tuple #[.string (bL (cutSl l).1), .string (bL (cutSl l).2.1), .bool (cutSl l).2.2]) ∧ ∃ n, w.drewN n = w' := by
  have HP := hide (Tryz.stringslite_Index_one (bL l) 47)
  have hsz : (bL l).size ≤ 1000000 := h
  have hge := Lib.indexByte_ge l 47
  have hle := indexByte_lt l 47
  rw [bL_list] at HP
  unfold cutSl
  obtain ⟨i, hi⟩ : ∃ i, Lib.indexByte l 47 = i := ⟨_, rfl⟩
  rw [hi] at HP hge hle ⊢
  by_cases hp : 0 ≤ i
  · obtain ⟨k, rfl⟩ : ∃ k : Nat, i = (k : Int) := ⟨i.toNat, by omega⟩
    rw [if_pos hp]
    have hk : k < (bL l).size := by rw [bL_size]; have := hle hp; omega
    have hE1 : (bL l).extract 0 k = bL (l.take k) := by
      apply ba_eq; rw [extract_list, bL_list, bL_list, List.drop_zero, Nat.sub_zero]
    have hE2 : (bL l).extract (k + 1) (bL l).size = bL (l.drop (k + 1)) := by
      apply ba_eq; rw [ext_drop]; rfl
    have HE1 := hide hE1
    have HE2 := hide hE2
    obtain ⟨s, hs⟩ : ∃ s, bL l = s := ⟨_, rfl⟩
    rw [hs] at HP hsz hk HE1 HE2 ⊢
    have q1 : IntKind.i64.wrap ((k : Int) + 1) = (k : Int) + 1 := IntWalk.i64_in _ (by omega)
    have g1 : decide ((0 : Int) ≤ (k : Int)) = true := decide_eq_true hp
    have b1 : (0 : Int) ≤ (k : Int) := hp
    have b2 : (k : Int) + 1 ≤ (s.size : Int) := by omega
    clear hp h hE1 hE2 hs hge hle hi
    go_enter Tryz.func68, Tryz.ntmps68
    go_wp2_with fail
    refine (HP.out _).mono ?_
    rintro e w1 ⟨rfl, rfl⟩
    go_wp2_with fail
    go_quiet (fail)
    go_wp2_with fail
    go_ret3
    refine ⟨?_, _, rfl⟩
    rw [Int.toNat_natCast, ← HE1.out, ← HE2.out]
    rfl
  · have g1 : decide ((0 : Int) ≤ i) = false := decide_eq_false hp
    rw [if_neg hp]
    clear hp h hge hle hi
    go_enter Tryz.func68, Tryz.ntmps68
    go_wp2_with fail
    refine (HP.out _).mono ?_
    rintro e w1 ⟨rfl, rfl⟩
    go_wp2_with fail
    go_ret3
    exact ⟨rfl, 0, by simp [World.drewN_zero]⟩
set_option maxHeartbeats 2000000 in
set_option maxRecDepth 100000 in
theorem cut_sl (l : List UInt8) (w : World) (h : l.length ≤ 1000000) :
    Calls Tryz.prog 45 #[.string (bL l), .string ⟨#[47]⟩] w fun e w' => e = .returned (.tuple #[.string (bL (cutSl l).1), .string (bL (cutSl l).2.1), .bool (cutSl l).2.2]) ∧ Below w.heap.size w w' := by
  have HP := hide (fun W => cut_in l W h)
  obtain ⟨s, hs⟩ : ∃ s, bL l = s := ⟨_, rfl⟩
  obtain ⟨t, ht⟩ : ∃ s, bL (cutSl l).1 = s := ⟨_, rfl⟩
  obtain ⟨u, hu⟩ : ∃ s, bL (cutSl l).2.1 = s := ⟨_, rfl⟩
  obtain ⟨b, hb⟩ : ∃ s, (cutSl l).2.2 = s := ⟨_, rfl⟩
  rw [hs, ht, hu, hb] at HP ⊢
  clear hs ht hu hb h
  go_enter Tryz.func45, Tryz.ntmps45
  go_wp2_with fail
  refine (HP.out _).mono ?_
  rintro e w1 ⟨rfl, n, rfl⟩
  have HB := hide (below_drewN (Below.refl w.heap.size w) n)
  go_wp2_with fail
  go_ret3
  exact ⟨rfl, HB.out⟩
/-- What Parse takes a string for. -/
def parN (l : List UInt8) : List UInt8 := (cutSl (cutP l).1).1
def parD (l : List UInt8) : List UInt8 := if (cutSl (cutP l).1).2.2 then (cutSl (cutP l).1).2.1 else [49]
set_option maxHeartbeats 4000000 in
set_option maxRecDepth 100000 in
theorem rat_Parse_walk (l : List UInt8) (u : ByteArray) (k : Int) (ok : Bool) (w : World) (h : l.length ≤ 1000000) (hw : LawW w)
    (HT : Hid (∀ W, LawW W → Calls Tryz.prog 17 #[.agg #[.bool (cutP l).2, .string (bL (parN l)), .string (bL (parD l))]] W fun e w' => e = .returned (.tuple #[.string u, .int .i64 k]) ∧ Below W.heap.size W w'))
    (hok : ok = ((k == 0) && (u.toList == (bL l).toList))) :
    Calls Tryz.prog 19 #[.string (bL l)] w fun e w' => (if ok then e = .returned (.tuple #[.agg #[.bool (cutP l).2, .string (bL (parN l)), .string (bL (parD l))], .int .i64 0]) else e = .returned (.tuple #[zV, .int .i64 5])) ∧ Below w.heap.size w w' := by
  have hcl : (cutP l).1.length ≤ 1000000 := by
    unfold cutP
    split
    · rw [List.length_drop]; omega
    · exact h
  have HCP := hide (fun W => cutprefix l W h)
  have HCS := hide (fun W => cut_sl (cutP l).1 W hcl)
  have HW := hide hw
  unfold parN parD at HT ⊢
  have e49 : bL [49] = ⟨#[49]⟩ := rfl
  obtain ⟨s, hs⟩ : ∃ s, bL l = s := ⟨_, rfl⟩
  obtain ⟨r, hr⟩ : ∃ s, bL (cutP l).1 = s := ⟨_, rfl⟩
  obtain ⟨g, hg⟩ : ∃ s, (cutP l).2 = s := ⟨_, rfl⟩
  obtain ⟨a, ha⟩ : ∃ s, bL (cutSl (cutP l).1).1 = s := ⟨_, rfl⟩
  obtain ⟨b, hb⟩ : ∃ s, bL (cutSl (cutP l).1).2.1 = s := ⟨_, rfl⟩
  obtain ⟨c, hc⟩ : ∃ s, (cutSl (cutP l).1).2.2 = s := ⟨_, rfl⟩
  obtain ⟨d, hd⟩ : ∃ d, bL (if (cutSl (cutP l).1).2.2 = true then (cutSl (cutP l).1).2.1 else [49]) = d := ⟨_, rfl⟩
  rw [hs] at HCP hok ⊢
  rw [hr, hg] at HCP
  rw [hr, ha, hb, hc] at HCS
  rw [hd, hg, ha] at HT ⊢
  have hdc : d = if c then b else ⟨#[49]⟩ := by
    rw [← hd, ← hc, ← hb, ← e49]
    split <;> rfl
  clear hs hr hg ha hb hc hd h hcl hw e49
  have HB0 := hide (bAlloc (Below.refl w.heap.size w) (.cells #[.bool false, .string ⟨#[]⟩, .string ⟨#[]⟩] 24))
  have HR0 := hide (RC.new w false ⟨#[]⟩ ⟨#[]⟩ 24)
  unfold zV
  obtain ⟨b1, h1⟩ : ∃ b, (k == 0) = b := ⟨_, rfl⟩
  obtain ⟨b2, h2⟩ : ∃ b, (u.toList == s.toList) = b := ⟨_, rfl⟩
  have h1' : (k != 0) = !b1 := by rw [bne, h1]
  have h2' : (u.toList != s.toList) = !b2 := by rw [bne, h2]
  rw [h1, h2] at hok
  subst hok
  cases c <;> cases b1 <;> cases b2
  all_goals
    simp only [Bool.false_eq_true, if_false, if_true] at hdc
    simp only [Bool.and_true, Bool.and_false, Bool.false_eq_true, if_false, if_true]
    simp only [Bool.not_true, Bool.not_false] at h1' h2'
    subst hdc
    go_enter Tryz.func19, Tryz.ntmps19
    go_wp2_with fail
    refine (HCP.out _).mono ?_
    rintro e w1 ⟨rfl, rfl⟩
    go_wp2_with fail
    refine (HCS.out _).mono ?_
    rintro e w2 ⟨rfl, hb2⟩
    have HB2 := hide (bStep HB0.out hb2)
    have HR2 := hide (HR0.out.below hb2)
    clear hb2
    go_wp2_with fail
    refine (HT.out _ (HW.out.below (bAlloc HB2.out _))).mono ?_
    rintro e w4 ⟨rfl, hb4⟩
    have HB4 := hide (bStep (bAlloc HB2.out _) hb4)
    have HR4 := hide ((HR2.out.below (bAlloc (Below.refl _ _) _)).below hb4)
    have HN4 := hide ((RC.new w2 _ _ _ _).below hb4)
    obtain ⟨c0, c1, c2, f0, f1, f2⟩ := HR4.out
    obtain ⟨n0, n1, n2, _, _, _⟩ := HN4.out
    clear hb4
    go_wp2_with fail
    first
    | (obtain ⟨d0, d1, d2, _, _, _⟩ := HR4.out.set3 false ⟨#[]⟩ ⟨#[]⟩
       exact bodyPost_ret (v := .tuple #[.agg #[.bool false, .string ⟨#[]⟩, .string ⟨#[]⟩], .int .i64 5]) (by simp [results, Tryz.results19, go_sem, d0, d1, d2]) rfl ⟨rfl, bset3 HB4.out (Nat.le_refl _) _ _ _⟩)
    | (obtain ⟨d0, d1, d2, _, _, _⟩ := HR4.out.set3 g a b
       exact bodyPost_ret (v := .tuple #[.agg #[.bool g, .string a, .string b], .int .i64 0]) (by simp [results, Tryz.results19, go_sem, d0, d1, d2]) rfl ⟨rfl, bset3 HB4.out (Nat.le_refl _) _ _ _⟩)
    | (obtain ⟨d0, d1, d2, _, _, _⟩ := HR4.out.set3 g a ⟨#[49]⟩
       exact bodyPost_ret (v := .tuple #[.agg #[.bool g, .string a, .string ⟨#[49]⟩], .int .i64 0]) (by simp [results, Tryz.results19, go_sem, d0, d1, d2]) rfl ⟨rfl, bset3 HB4.out (Nat.le_refl _) _ _ _⟩)
    | (obtain ⟨d0, d1, d2, _, _, _⟩ := HR4.out.set3 g a d
       exact bodyPost_ret (v := .tuple #[.agg #[.bool g, .string a, .string d], .int .i64 0]) (by simp [results, Tryz.results19, go_sem, d0, d1, d2]) rfl ⟨rfl, bset3 HB4.out (Nat.le_refl _) _ _ _⟩)
theorem par_q (q : Rat) : (cutP (txtQ q)).2 = ngQ q ∧ parN (txtQ q) = Lib.decDigits (nmQ q) ∧ parD (txtQ q) = Lib.decDigits q.den := by
  unfold parN parD txtQ
  rw [cutP_txt, cutS_txt]
  refine ⟨rfl, rfl, ?_⟩
  by_cases h : q.den = 1
  · rw [if_neg (by simp [h]), h, dec_small (by omega)]; rfl
  · rw [if_pos (decide_eq_true h), if_neg h]
theorem txtQ_len {q : Rat} (h : FitQ q) : (txtQ q).length ≤ 1000000 := by
  have := txtL_len (ngQ q) (capN_len.2 h.1) (capN_len.2 h.2)
  unfold txtQ
  omega
theorem rat_Parse_q (q : Rat) (w : World) (h : FitQ q) (hw : LawW w) : Calls Tryz.prog 19 #[.string (bL (txtQ q))] w (RqPost w q) := by
  obtain ⟨e1, e2, e3⟩ := par_q q
  have := rat_Parse_walk (txtQ q) (bL (txtQ q)) 0 true w (txtQ_len h) hw (hide fun W hW => by
    rw [e1, e2, e3]; exact rat_Text_q q W h hW) (by simp)
  rw [e1, e2, e3] at this
  exact this.mono fun _ _ ⟨a, b⟩ => ⟨by rw [if_pos rfl] at a; exact a, b⟩
theorem parts_len (l : List UInt8) : (parN l).length ≤ l.length + 1 ∧ (parD l).length ≤ l.length + 1 := by
  have h1 : (cutP l).1.length ≤ l.length := by
    unfold cutP
    split
    · rw [List.length_drop]; omega
    · exact Nat.le_refl _
  have h2 : ∀ m : List UInt8, (cutSl m).1.length ≤ m.length ∧ (cutSl m).2.1.length ≤ m.length := fun m => by
    unfold cutSl
    split
    · exact ⟨by rw [List.length_take]; omega, by rw [List.length_drop]; omega⟩
    · exact ⟨Nat.le_refl _, Nat.zero_le _⟩
  have h3 := h2 (cutP l).1
  unfold parN parD
  refine ⟨by omega, ?_⟩
  split
  · omega
  · simp
theorem rat_Parse_no (l : List UInt8) (w : World) (hl : l.length ≤ 1000000) (h : ∀ q, FitQ q → txtQ q ≠ l) (hw : LawW w) : Calls Tryz.prog 19 #[.string (bL l)] w (ReqPost w 5) := by
  have hlen := parts_len l
  rcases Bool.eq_false_or_eq_true (vldR (cutP l).2 (bL (parN l)) (bL (parD l))) with hv | hv
  · obtain ⟨q, e1, e2, e3, hf⟩ := vldR_iff.1 hv
    have hne := h q hf
    refine (rat_Parse_walk l (bL (txtQ q)) 0 false w hl hw (hide fun W hW => ?_) ?_).mono fun _ _ ⟨a, b⟩ => ⟨by simpa using a, b⟩
    · rw [e1, e2, e3]; exact rat_Text_q q W hf hW
    · have : ((bL (txtQ q)).toList == (bL l).toList) = false := beq_eq_false_iff_ne.2 fun e => hne (by rwa [ByteArray.toList_eq, ByteArray.toList_eq] at e)
      rw [this]; rfl
  · refine (rat_Parse_walk l ⟨#[]⟩ 1 false w hl hw (hide fun W hW => ?_) (by simp)).mono fun _ _ ⟨a, b⟩ => ⟨by simpa using a, b⟩
    exact rat_Text_bad _ _ _ W (by rw [bL_size]; unfold maxLen; omega) (by rw [bL_size]; unfold maxLen; omega) hv hW
end Go.Proofs.YtncocgfgbocnkaaGreatDoor
