/-
  DERIVED. GIVEN WITH THE SEED: THE CARDS: each row of YtblpnekjnaaeoaaGreatDoorRows.lean that lists a variable, with what it lists TIED to the program's text (the seventh form; the later family's looks); each row that meets fmt, with fmt's text TOLD by the authors' own Lean function (tested against real Go, not proved from fmt's source: count such statements apart). THE CARD IS WHAT COUNTS. Prove the row's statement (the work); the ties are given (YtblpnekjnaaeoaaGreatDoorTie.lean); close each card by the builder's one call (the guide's Derived/Test/ToyasCard.lean, 'card_holds'). Laid BY PROGRAM, IN A SANDBOX (cutbox-door.mjs). By AI agents, Wed Nov 11 2026. No macro, syntax, notation, axiom, sorry.
-/
import Derived.Test.YtblpnekjnaaeoaaGreatDoorRows
import GoSem.ClaimSeven
namespace Go.Proofs.YtblpnekjnaaeoaaGreatDoor
namespace Rows

/-- THE TIED CARD OF 'observatorylaw46.MomentsMatchReference'. -/
def momentsMatchReferenceCard : Claim7 := { stood := { row := momentsMatchReferenceRow, standIns := [], harness := (true, "6f3cb04588810cf43525e7c88db3b5e1b48fe7a32572d8f36e48dfccbe352add"), looks := true }, kinds := [], alts := [], laidByText := true, laidKinds := [.data, .data, .data, .data, .sentinel, .sentinel, .data, .data, .pinned], laidTests := true, laidLooks := .later }
def MomentsMatchReferenceCardSaid : Prop := Claim7.holds Tryz.pinned (.plain (OpenSpec.ofChange momentsMatchReferenceSpec)) momentsMatchReferenceCard

/-- THE TIED CARD OF 'observatorylaw46.MomentsMany'. -/
def momentsManyCard : Claim7 := { stood := { row := momentsManyRow, standIns := [], harness := (true, "6f3cb04588810cf43525e7c88db3b5e1b48fe7a32572d8f36e48dfccbe352add"), looks := true }, kinds := [], alts := [], laidByText := true, laidKinds := [.data, .data, .data, .data, .sentinel, .sentinel, .data, .data, .pinned], laidTests := true, laidLooks := .later }
def MomentsManyCardSaid : Prop := Claim7.holds Tryz.pinned (.plain (OpenSpec.ofChange momentsManySpec)) momentsManyCard

/-- THE TIED CARD OF 'observatorylaw46.MomentsSums'. -/
def momentsSumsCard : Claim7 := { stood := { row := momentsSumsRow, standIns := [], harness := (true, "6f3cb04588810cf43525e7c88db3b5e1b48fe7a32572d8f36e48dfccbe352add"), looks := true }, kinds := [], alts := [], laidByText := true, laidKinds := [.data, .data, .data, .data, .sentinel, .sentinel, .data, .data, .pinned], laidTests := true, laidLooks := .later }
def MomentsSumsCardSaid : Prop := Claim7.holds Tryz.pinned (.plain (OpenSpec.ofChange momentsSumsSpec)) momentsSumsCard

/-- THE TIED CARD OF 'observatorylaw46.MomentsMixtures'. -/
def momentsMixturesCard : Claim7 := { stood := { row := momentsMixturesRow, standIns := [], harness := (true, "6f3cb04588810cf43525e7c88db3b5e1b48fe7a32572d8f36e48dfccbe352add"), looks := true }, kinds := [], alts := [], laidByText := true, laidKinds := [.data, .data, .data, .data, .sentinel, .sentinel, .data, .data, .pinned], laidTests := true, laidLooks := .later }
def MomentsMixturesCardSaid : Prop := Claim7.holds Tryz.pinned (.plain (OpenSpec.ofChange momentsMixturesSpec)) momentsMixturesCard

/-- THE TIED CARD OF 'observatorylaw46.MomentsLimits'. -/
def momentsLimitsCard : Claim7 := { stood := { row := momentsLimitsRow, standIns := [], harness := (true, "6f3cb04588810cf43525e7c88db3b5e1b48fe7a32572d8f36e48dfccbe352add"), looks := true }, kinds := [], alts := [], laidByText := true, laidKinds := [.data, .data, .data, .data, .sentinel, .sentinel, .data, .data, .pinned], laidTests := true, laidLooks := .later }
def MomentsLimitsCardSaid : Prop := Claim7.holds Tryz.pinned (.plain (OpenSpec.ofChange momentsLimitsSpec)) momentsLimitsCard

/-- THE TIED CARD OF 'observatorylaw46.MomentsSingle'. -/
def momentsSingleCard : Claim7 := { stood := { row := momentsSingleRow, standIns := [], harness := (true, "6f3cb04588810cf43525e7c88db3b5e1b48fe7a32572d8f36e48dfccbe352add"), looks := true }, kinds := [], alts := [], laidByText := true, laidKinds := [.data, .data, .data, .data, .sentinel, .sentinel, .data, .data, .pinned], laidTests := true, laidLooks := .later }
def MomentsSingleCardSaid : Prop := Claim7.holds Tryz.pinned (.plain (OpenSpec.ofChange momentsSingleSpec)) momentsSingleCard

/-- THE SECOND FORM's CARD OF 'observatorylaw46.MomentsMatchReference'. -/
def momentsMatchReferenceUptoCard : Claim7 := { stood := { row := momentsMatchReferenceUptoRow, standIns := [], harness := (true, "6f3cb04588810cf43525e7c88db3b5e1b48fe7a32572d8f36e48dfccbe352add"), looks := true }, kinds := [], alts := [], laidByText := true, laidKinds := [.data, .data, .data, .data, .sentinel, .sentinel, .data, .data, .pinned], laidTests := true, laidLooks := .later }
def MomentsMatchReferenceUptoCardSaid : Prop := Claim7.holds Tryz.pinned (.plain (OpenSpec.upto momentsMatchReferenceSpec)) momentsMatchReferenceUptoCard

/-- THE SECOND FORM's CARD OF 'observatorylaw46.MomentsMany'. -/
def momentsManyUptoCard : Claim7 := { stood := { row := momentsManyUptoRow, standIns := [], harness := (true, "6f3cb04588810cf43525e7c88db3b5e1b48fe7a32572d8f36e48dfccbe352add"), looks := true }, kinds := [], alts := [], laidByText := true, laidKinds := [.data, .data, .data, .data, .sentinel, .sentinel, .data, .data, .pinned], laidTests := true, laidLooks := .later }
def MomentsManyUptoCardSaid : Prop := Claim7.holds Tryz.pinned (.plain (OpenSpec.upto momentsManySpec)) momentsManyUptoCard

/-- THE SECOND FORM's CARD OF 'observatorylaw46.MomentsSums'. -/
def momentsSumsUptoCard : Claim7 := { stood := { row := momentsSumsUptoRow, standIns := [], harness := (true, "6f3cb04588810cf43525e7c88db3b5e1b48fe7a32572d8f36e48dfccbe352add"), looks := true }, kinds := [], alts := [], laidByText := true, laidKinds := [.data, .data, .data, .data, .sentinel, .sentinel, .data, .data, .pinned], laidTests := true, laidLooks := .later }
def MomentsSumsUptoCardSaid : Prop := Claim7.holds Tryz.pinned (.plain (OpenSpec.upto momentsSumsSpec)) momentsSumsUptoCard

/-- THE SECOND FORM's CARD OF 'observatorylaw46.MomentsMixtures'. -/
def momentsMixturesUptoCard : Claim7 := { stood := { row := momentsMixturesUptoRow, standIns := [], harness := (true, "6f3cb04588810cf43525e7c88db3b5e1b48fe7a32572d8f36e48dfccbe352add"), looks := true }, kinds := [], alts := [], laidByText := true, laidKinds := [.data, .data, .data, .data, .sentinel, .sentinel, .data, .data, .pinned], laidTests := true, laidLooks := .later }
def MomentsMixturesUptoCardSaid : Prop := Claim7.holds Tryz.pinned (.plain (OpenSpec.upto momentsMixturesSpec)) momentsMixturesUptoCard

/-- THE SECOND FORM's CARD OF 'observatorylaw46.MomentsLimits'. -/
def momentsLimitsUptoCard : Claim7 := { stood := { row := momentsLimitsUptoRow, standIns := [], harness := (true, "6f3cb04588810cf43525e7c88db3b5e1b48fe7a32572d8f36e48dfccbe352add"), looks := true }, kinds := [], alts := [], laidByText := true, laidKinds := [.data, .data, .data, .data, .sentinel, .sentinel, .data, .data, .pinned], laidTests := true, laidLooks := .later }
def MomentsLimitsUptoCardSaid : Prop := Claim7.holds Tryz.pinned (.plain (OpenSpec.upto momentsLimitsSpec)) momentsLimitsUptoCard

/-- THE SECOND FORM's CARD OF 'observatorylaw46.MomentsSingle'. -/
def momentsSingleUptoCard : Claim7 := { stood := { row := momentsSingleUptoRow, standIns := [], harness := (true, "6f3cb04588810cf43525e7c88db3b5e1b48fe7a32572d8f36e48dfccbe352add"), looks := true }, kinds := [], alts := [], laidByText := true, laidKinds := [.data, .data, .data, .data, .sentinel, .sentinel, .data, .data, .pinned], laidTests := true, laidLooks := .later }
def MomentsSingleUptoCardSaid : Prop := Claim7.holds Tryz.pinned (.plain (OpenSpec.upto momentsSingleSpec)) momentsSingleUptoCard
end Rows
end Go.Proofs.YtblpnekjnaaeoaaGreatDoor
