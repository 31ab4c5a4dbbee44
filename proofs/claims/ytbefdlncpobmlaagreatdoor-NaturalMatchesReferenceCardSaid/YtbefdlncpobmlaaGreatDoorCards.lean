/-
  DERIVED. GIVEN WITH THE SEED: THE CARDS: each row of YtbefdlncpobmlaaGreatDoorRows.lean that lists a variable, with what it lists TIED to the program's text (the seventh form; the later family's looks); each row that meets fmt, with fmt's text TOLD by the authors' own Lean function (tested against real Go, not proved from fmt's source: count such statements apart). THE CARD IS WHAT COUNTS. Prove the row's statement (the work); the ties are given (YtbefdlncpobmlaaGreatDoorTie.lean); close each card by the builder's one call (the guide's Derived/Test/ToyasCard.lean, 'card_holds'). Laid BY PROGRAM, IN A SANDBOX (cutbox-door.mjs). By AI agents, Wed Nov 11 2026. No macro, syntax, notation, axiom, sorry.
-/
import Derived.Test.YtbefdlncpobmlaaGreatDoorRows
import GoSem.ClaimSeven
namespace Go.Proofs.YtbefdlncpobmlaaGreatDoor
namespace Rows

/-- THE TIED CARD OF 'observatorylaw03.NaturalMatchesReference'. -/
def naturalMatchesReferenceCard : Claim7 := { stood := { row := naturalMatchesReferenceRow, standIns := [], harness := (true, "f71a7554c4eec86146729508ffee9ed2976455f9ef6d4e3c8abf43640843c9e3"), looks := true }, kinds := [], alts := [], laidByText := true, laidKinds := [.data, .data, .data, .data, .sentinel, .sentinel, .pinned], laidTests := true, laidLooks := .later }
def NaturalMatchesReferenceCardSaid : Prop := Claim7.holds Tryz.pinned (.plain (OpenSpec.ofChange naturalMatchesReferenceSpec)) naturalMatchesReferenceCard

/-- THE TIED CARD OF 'observatorylaw03.NaturalLimits'. -/
def naturalLimitsCard : Claim7 := { stood := { row := naturalLimitsRow, standIns := [], harness := (true, "f71a7554c4eec86146729508ffee9ed2976455f9ef6d4e3c8abf43640843c9e3"), looks := true }, kinds := [], alts := [], laidByText := true, laidKinds := [.data, .data, .data, .data, .sentinel, .sentinel, .pinned], laidTests := true, laidLooks := .later }
def NaturalLimitsCardSaid : Prop := Claim7.holds Tryz.pinned (.plain (OpenSpec.ofChange naturalLimitsSpec)) naturalLimitsCard

/-- THE SECOND FORM's CARD OF 'observatorylaw03.NaturalMatchesReference'. -/
def naturalMatchesReferenceUptoCard : Claim7 := { stood := { row := naturalMatchesReferenceUptoRow, standIns := [], harness := (true, "f71a7554c4eec86146729508ffee9ed2976455f9ef6d4e3c8abf43640843c9e3"), looks := true }, kinds := [], alts := [], laidByText := true, laidKinds := [.data, .data, .data, .data, .sentinel, .sentinel, .pinned], laidTests := true, laidLooks := .later }
def NaturalMatchesReferenceUptoCardSaid : Prop := Claim7.holds Tryz.pinned (.plain (OpenSpec.upto naturalMatchesReferenceSpec)) naturalMatchesReferenceUptoCard

/-- THE SECOND FORM's CARD OF 'observatorylaw03.NaturalLimits'. -/
def naturalLimitsUptoCard : Claim7 := { stood := { row := naturalLimitsUptoRow, standIns := [], harness := (true, "f71a7554c4eec86146729508ffee9ed2976455f9ef6d4e3c8abf43640843c9e3"), looks := true }, kinds := [], alts := [], laidByText := true, laidKinds := [.data, .data, .data, .data, .sentinel, .sentinel, .pinned], laidTests := true, laidLooks := .later }
def NaturalLimitsUptoCardSaid : Prop := Claim7.holds Tryz.pinned (.plain (OpenSpec.upto naturalLimitsSpec)) naturalLimitsUptoCard
end Rows
end Go.Proofs.YtbefdlncpobmlaaGreatDoor
