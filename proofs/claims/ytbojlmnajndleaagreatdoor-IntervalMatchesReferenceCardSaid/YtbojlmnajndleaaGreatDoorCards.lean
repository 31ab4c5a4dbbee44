/-
  DERIVED. GIVEN WITH THE SEED: THE CARDS: each row of YtbojlmnajndleaaGreatDoorRows.lean that lists a variable, with what it lists TIED to the program's text (the seventh form; the later family's looks); each row that meets fmt, with fmt's text TOLD by the authors' own Lean function (tested against real Go, not proved from fmt's source: count such statements apart). THE CARD IS WHAT COUNTS. Prove the row's statement (the work); the ties are given (YtbojlmnajndleaaGreatDoorTie.lean); close each card by the builder's one call (the guide's Derived/Test/ToyasCard.lean, 'card_holds'). Laid BY PROGRAM, IN A SANDBOX (cutbox-door.mjs). By AI agents, Wed Nov 11 2026. No macro, syntax, notation, axiom, sorry.
-/
import Derived.Test.YtbojlmnajndleaaGreatDoorRows
import GoSem.ClaimSeven
namespace Go.Proofs.YtbojlmnajndleaaGreatDoor
namespace Rows

/-- THE TIED CARD OF 'observatorylaw05.IntervalMatchesReference'. -/
def intervalMatchesReferenceCard : Claim7 := { stood := { row := intervalMatchesReferenceRow, standIns := [], harness := (true, "c0b0aa1fe8064600e44f7e639d7406449100ee9ee27ede7ca1ed678efd20dc45"), looks := true }, kinds := [], alts := [], laidByText := true, laidKinds := [.data, .data, .data, .data, .sentinel, .sentinel, .pinned], laidTests := true, laidLooks := .later }
def IntervalMatchesReferenceCardSaid : Prop := Claim7.holds Tryz.pinned (.plain (OpenSpec.ofChange intervalMatchesReferenceSpec)) intervalMatchesReferenceCard

/-- THE TIED CARD OF 'observatorylaw05.IntervalContains'. -/
def intervalContainsCard : Claim7 := { stood := { row := intervalContainsRow, standIns := [], harness := (true, "c0b0aa1fe8064600e44f7e639d7406449100ee9ee27ede7ca1ed678efd20dc45"), looks := true }, kinds := [], alts := [], laidByText := true, laidKinds := [.data, .data, .data, .data, .sentinel, .sentinel, .pinned], laidTests := true, laidLooks := .later }
def IntervalContainsCardSaid : Prop := Claim7.holds Tryz.pinned (.plain (OpenSpec.ofChange intervalContainsSpec)) intervalContainsCard

/-- THE TIED CARD OF 'observatorylaw05.IntervalEnds'. -/
def intervalEndsCard : Claim7 := { stood := { row := intervalEndsRow, standIns := [], harness := (true, "c0b0aa1fe8064600e44f7e639d7406449100ee9ee27ede7ca1ed678efd20dc45"), looks := true }, kinds := [], alts := [], laidByText := true, laidKinds := [.data, .data, .data, .data, .sentinel, .sentinel, .pinned], laidTests := true, laidLooks := .later }
def IntervalEndsCardSaid : Prop := Claim7.holds Tryz.pinned (.plain (OpenSpec.ofChange intervalEndsSpec)) intervalEndsCard

/-- THE TIED CARD OF 'observatorylaw05.IntervalHulls'. -/
def intervalHullsCard : Claim7 := { stood := { row := intervalHullsRow, standIns := [], harness := (true, "c0b0aa1fe8064600e44f7e639d7406449100ee9ee27ede7ca1ed678efd20dc45"), looks := true }, kinds := [], alts := [], laidByText := true, laidKinds := [.data, .data, .data, .data, .sentinel, .sentinel, .pinned], laidTests := true, laidLooks := .later }
def IntervalHullsCardSaid : Prop := Claim7.holds Tryz.pinned (.plain (OpenSpec.ofChange intervalHullsSpec)) intervalHullsCard

/-- THE TIED CARD OF 'observatorylaw05.IntervalMeets'. -/
def intervalMeetsCard : Claim7 := { stood := { row := intervalMeetsRow, standIns := [], harness := (true, "c0b0aa1fe8064600e44f7e639d7406449100ee9ee27ede7ca1ed678efd20dc45"), looks := true }, kinds := [], alts := [], laidByText := true, laidKinds := [.data, .data, .data, .data, .sentinel, .sentinel, .pinned], laidTests := true, laidLooks := .later }
def IntervalMeetsCardSaid : Prop := Claim7.holds Tryz.pinned (.plain (OpenSpec.ofChange intervalMeetsSpec)) intervalMeetsCard

/-- THE TIED CARD OF 'observatorylaw05.IntervalOrder'. -/
def intervalOrderCard : Claim7 := { stood := { row := intervalOrderRow, standIns := [], harness := (true, "c0b0aa1fe8064600e44f7e639d7406449100ee9ee27ede7ca1ed678efd20dc45"), looks := true }, kinds := [], alts := [], laidByText := true, laidKinds := [.data, .data, .data, .data, .sentinel, .sentinel, .pinned], laidTests := true, laidLooks := .later }
def IntervalOrderCardSaid : Prop := Claim7.holds Tryz.pinned (.plain (OpenSpec.ofChange intervalOrderSpec)) intervalOrderCard

/-- THE SECOND FORM's CARD OF 'observatorylaw05.IntervalMatchesReference'. -/
def intervalMatchesReferenceUptoCard : Claim7 := { stood := { row := intervalMatchesReferenceUptoRow, standIns := [], harness := (true, "c0b0aa1fe8064600e44f7e639d7406449100ee9ee27ede7ca1ed678efd20dc45"), looks := true }, kinds := [], alts := [], laidByText := true, laidKinds := [.data, .data, .data, .data, .sentinel, .sentinel, .pinned], laidTests := true, laidLooks := .later }
def IntervalMatchesReferenceUptoCardSaid : Prop := Claim7.holds Tryz.pinned (.plain (OpenSpec.upto intervalMatchesReferenceSpec)) intervalMatchesReferenceUptoCard

/-- THE SECOND FORM's CARD OF 'observatorylaw05.IntervalContains'. -/
def intervalContainsUptoCard : Claim7 := { stood := { row := intervalContainsUptoRow, standIns := [], harness := (true, "c0b0aa1fe8064600e44f7e639d7406449100ee9ee27ede7ca1ed678efd20dc45"), looks := true }, kinds := [], alts := [], laidByText := true, laidKinds := [.data, .data, .data, .data, .sentinel, .sentinel, .pinned], laidTests := true, laidLooks := .later }
def IntervalContainsUptoCardSaid : Prop := Claim7.holds Tryz.pinned (.plain (OpenSpec.upto intervalContainsSpec)) intervalContainsUptoCard

/-- THE SECOND FORM's CARD OF 'observatorylaw05.IntervalEnds'. -/
def intervalEndsUptoCard : Claim7 := { stood := { row := intervalEndsUptoRow, standIns := [], harness := (true, "c0b0aa1fe8064600e44f7e639d7406449100ee9ee27ede7ca1ed678efd20dc45"), looks := true }, kinds := [], alts := [], laidByText := true, laidKinds := [.data, .data, .data, .data, .sentinel, .sentinel, .pinned], laidTests := true, laidLooks := .later }
def IntervalEndsUptoCardSaid : Prop := Claim7.holds Tryz.pinned (.plain (OpenSpec.upto intervalEndsSpec)) intervalEndsUptoCard

/-- THE SECOND FORM's CARD OF 'observatorylaw05.IntervalHulls'. -/
def intervalHullsUptoCard : Claim7 := { stood := { row := intervalHullsUptoRow, standIns := [], harness := (true, "c0b0aa1fe8064600e44f7e639d7406449100ee9ee27ede7ca1ed678efd20dc45"), looks := true }, kinds := [], alts := [], laidByText := true, laidKinds := [.data, .data, .data, .data, .sentinel, .sentinel, .pinned], laidTests := true, laidLooks := .later }
def IntervalHullsUptoCardSaid : Prop := Claim7.holds Tryz.pinned (.plain (OpenSpec.upto intervalHullsSpec)) intervalHullsUptoCard

/-- THE SECOND FORM's CARD OF 'observatorylaw05.IntervalMeets'. -/
def intervalMeetsUptoCard : Claim7 := { stood := { row := intervalMeetsUptoRow, standIns := [], harness := (true, "c0b0aa1fe8064600e44f7e639d7406449100ee9ee27ede7ca1ed678efd20dc45"), looks := true }, kinds := [], alts := [], laidByText := true, laidKinds := [.data, .data, .data, .data, .sentinel, .sentinel, .pinned], laidTests := true, laidLooks := .later }
def IntervalMeetsUptoCardSaid : Prop := Claim7.holds Tryz.pinned (.plain (OpenSpec.upto intervalMeetsSpec)) intervalMeetsUptoCard

/-- THE SECOND FORM's CARD OF 'observatorylaw05.IntervalOrder'. -/
def intervalOrderUptoCard : Claim7 := { stood := { row := intervalOrderUptoRow, standIns := [], harness := (true, "c0b0aa1fe8064600e44f7e639d7406449100ee9ee27ede7ca1ed678efd20dc45"), looks := true }, kinds := [], alts := [], laidByText := true, laidKinds := [.data, .data, .data, .data, .sentinel, .sentinel, .pinned], laidTests := true, laidLooks := .later }
def IntervalOrderUptoCardSaid : Prop := Claim7.holds Tryz.pinned (.plain (OpenSpec.upto intervalOrderSpec)) intervalOrderUptoCard
end Rows
end Go.Proofs.YtbojlmnajndleaaGreatDoor
