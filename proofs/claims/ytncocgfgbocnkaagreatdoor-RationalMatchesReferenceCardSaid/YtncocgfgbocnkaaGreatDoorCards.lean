/-
  DERIVED. GIVEN WITH THE SEED: THE CARDS: each row of YtncocgfgbocnkaaGreatDoorRows.lean that lists a variable, with what it lists TIED to the program's text (the seventh form; the later family's looks); each row that meets fmt, with fmt's text TOLD by the authors' own Lean function (tested against real Go, not proved from fmt's source: count such statements apart). THE CARD IS WHAT COUNTS. Prove the row's statement (the work); the ties are given (YtncocgfgbocnkaaGreatDoorTie.lean); close each card by the builder's one call (the guide's Derived/Test/ToyasCard.lean, 'card_holds'). Laid BY PROGRAM, IN A SANDBOX (cutbox-door.mjs). By AI agents, Wed Nov 11 2026. No macro, syntax, notation, axiom, sorry.
-/
import Derived.Test.YtncocgfgbocnkaaGreatDoorRows
import GoSem.ClaimSeven
namespace Go.Proofs.YtncocgfgbocnkaaGreatDoor
namespace Rows

/-- THE TIED CARD OF 'observatorylaw04.RationalMatchesReference'. -/
def rationalMatchesReferenceCard : Claim7 := { stood := { row := rationalMatchesReferenceRow, standIns := [], harness := (true, "5539e11219cb6fafc022dc9fa0f5163cd2000ab0ae656c2adc7c7af177d3f43b"), looks := true }, kinds := [], alts := [], laidByText := true, laidKinds := [.data, .data, .data, .data, .sentinel, .sentinel, .pinned], laidTests := true, laidLooks := .later }
def RationalMatchesReferenceCardSaid : Prop := Claim7.holds Tryz.pinned (.plain (OpenSpec.ofChange rationalMatchesReferenceSpec)) rationalMatchesReferenceCard

/-- THE TIED CARD OF 'observatorylaw04.RationalForm'. -/
def rationalFormCard : Claim7 := { stood := { row := rationalFormRow, standIns := [], harness := (true, "5539e11219cb6fafc022dc9fa0f5163cd2000ab0ae656c2adc7c7af177d3f43b"), looks := true }, kinds := [], alts := [], laidByText := true, laidKinds := [.data, .data, .data, .data, .sentinel, .sentinel, .pinned], laidTests := true, laidLooks := .later }
def RationalFormCardSaid : Prop := Claim7.holds Tryz.pinned (.plain (OpenSpec.ofChange rationalFormSpec)) rationalFormCard

/-- THE TIED CARD OF 'observatorylaw04.RationalRing'. -/
def rationalRingCard : Claim7 := { stood := { row := rationalRingRow, standIns := [], harness := (true, "5539e11219cb6fafc022dc9fa0f5163cd2000ab0ae656c2adc7c7af177d3f43b"), looks := true }, kinds := [], alts := [], laidByText := true, laidKinds := [.data, .data, .data, .data, .sentinel, .sentinel, .pinned], laidTests := true, laidLooks := .later }
def RationalRingCardSaid : Prop := Claim7.holds Tryz.pinned (.plain (OpenSpec.ofChange rationalRingSpec)) rationalRingCard

/-- THE TIED CARD OF 'observatorylaw04.RationalBack'. -/
def rationalBackCard : Claim7 := { stood := { row := rationalBackRow, standIns := [], harness := (true, "5539e11219cb6fafc022dc9fa0f5163cd2000ab0ae656c2adc7c7af177d3f43b"), looks := true }, kinds := [], alts := [], laidByText := true, laidKinds := [.data, .data, .data, .data, .sentinel, .sentinel, .pinned], laidTests := true, laidLooks := .later }
def RationalBackCardSaid : Prop := Claim7.holds Tryz.pinned (.plain (OpenSpec.ofChange rationalBackSpec)) rationalBackCard

/-- THE TIED CARD OF 'observatorylaw04.RationalOrder'. -/
def rationalOrderCard : Claim7 := { stood := { row := rationalOrderRow, standIns := [], harness := (true, "5539e11219cb6fafc022dc9fa0f5163cd2000ab0ae656c2adc7c7af177d3f43b"), looks := true }, kinds := [], alts := [], laidByText := true, laidKinds := [.data, .data, .data, .data, .sentinel, .sentinel, .pinned], laidTests := true, laidLooks := .later }
def RationalOrderCardSaid : Prop := Claim7.holds Tryz.pinned (.plain (OpenSpec.ofChange rationalOrderSpec)) rationalOrderCard

/-- THE TIED CARD OF 'observatorylaw04.RationalTexts'. -/
def rationalTextsCard : Claim7 := { stood := { row := rationalTextsRow, standIns := [], harness := (true, "5539e11219cb6fafc022dc9fa0f5163cd2000ab0ae656c2adc7c7af177d3f43b"), looks := true }, kinds := [], alts := [], laidByText := true, laidKinds := [.data, .data, .data, .data, .sentinel, .sentinel, .pinned], laidTests := true, laidLooks := .later }
def RationalTextsCardSaid : Prop := Claim7.holds Tryz.pinned (.plain (OpenSpec.ofChange rationalTextsSpec)) rationalTextsCard

/-- THE TIED CARD OF 'observatorylaw04.RationalInts'. -/
def rationalIntsCard : Claim7 := { stood := { row := rationalIntsRow, standIns := [], harness := (true, "5539e11219cb6fafc022dc9fa0f5163cd2000ab0ae656c2adc7c7af177d3f43b"), looks := true }, kinds := [], alts := [], laidByText := true, laidKinds := [.data, .data, .data, .data, .sentinel, .sentinel, .pinned], laidTests := true, laidLooks := .later }
def RationalIntsCardSaid : Prop := Claim7.holds Tryz.pinned (.plain (OpenSpec.ofChange rationalIntsSpec)) rationalIntsCard

/-- THE TIED CARD OF 'observatorylaw04.RationalLimit'. -/
def rationalLimitCard : Claim7 := { stood := { row := rationalLimitRow, standIns := [], harness := (true, "5539e11219cb6fafc022dc9fa0f5163cd2000ab0ae656c2adc7c7af177d3f43b"), looks := true }, kinds := [], alts := [], laidByText := true, laidKinds := [.data, .data, .data, .data, .sentinel, .sentinel, .pinned], laidTests := true, laidLooks := .later }
def RationalLimitCardSaid : Prop := Claim7.holds Tryz.pinned (.plain (OpenSpec.ofChange rationalLimitSpec)) rationalLimitCard

/-- THE SECOND FORM's CARD OF 'observatorylaw04.RationalMatchesReference'. -/
def rationalMatchesReferenceUptoCard : Claim7 := { stood := { row := rationalMatchesReferenceUptoRow, standIns := [], harness := (true, "5539e11219cb6fafc022dc9fa0f5163cd2000ab0ae656c2adc7c7af177d3f43b"), looks := true }, kinds := [], alts := [], laidByText := true, laidKinds := [.data, .data, .data, .data, .sentinel, .sentinel, .pinned], laidTests := true, laidLooks := .later }
def RationalMatchesReferenceUptoCardSaid : Prop := Claim7.holds Tryz.pinned (.plain (OpenSpec.upto rationalMatchesReferenceSpec)) rationalMatchesReferenceUptoCard

/-- THE SECOND FORM's CARD OF 'observatorylaw04.RationalForm'. -/
def rationalFormUptoCard : Claim7 := { stood := { row := rationalFormUptoRow, standIns := [], harness := (true, "5539e11219cb6fafc022dc9fa0f5163cd2000ab0ae656c2adc7c7af177d3f43b"), looks := true }, kinds := [], alts := [], laidByText := true, laidKinds := [.data, .data, .data, .data, .sentinel, .sentinel, .pinned], laidTests := true, laidLooks := .later }
def RationalFormUptoCardSaid : Prop := Claim7.holds Tryz.pinned (.plain (OpenSpec.upto rationalFormSpec)) rationalFormUptoCard

/-- THE SECOND FORM's CARD OF 'observatorylaw04.RationalRing'. -/
def rationalRingUptoCard : Claim7 := { stood := { row := rationalRingUptoRow, standIns := [], harness := (true, "5539e11219cb6fafc022dc9fa0f5163cd2000ab0ae656c2adc7c7af177d3f43b"), looks := true }, kinds := [], alts := [], laidByText := true, laidKinds := [.data, .data, .data, .data, .sentinel, .sentinel, .pinned], laidTests := true, laidLooks := .later }
def RationalRingUptoCardSaid : Prop := Claim7.holds Tryz.pinned (.plain (OpenSpec.upto rationalRingSpec)) rationalRingUptoCard

/-- THE SECOND FORM's CARD OF 'observatorylaw04.RationalBack'. -/
def rationalBackUptoCard : Claim7 := { stood := { row := rationalBackUptoRow, standIns := [], harness := (true, "5539e11219cb6fafc022dc9fa0f5163cd2000ab0ae656c2adc7c7af177d3f43b"), looks := true }, kinds := [], alts := [], laidByText := true, laidKinds := [.data, .data, .data, .data, .sentinel, .sentinel, .pinned], laidTests := true, laidLooks := .later }
def RationalBackUptoCardSaid : Prop := Claim7.holds Tryz.pinned (.plain (OpenSpec.upto rationalBackSpec)) rationalBackUptoCard

/-- THE SECOND FORM's CARD OF 'observatorylaw04.RationalOrder'. -/
def rationalOrderUptoCard : Claim7 := { stood := { row := rationalOrderUptoRow, standIns := [], harness := (true, "5539e11219cb6fafc022dc9fa0f5163cd2000ab0ae656c2adc7c7af177d3f43b"), looks := true }, kinds := [], alts := [], laidByText := true, laidKinds := [.data, .data, .data, .data, .sentinel, .sentinel, .pinned], laidTests := true, laidLooks := .later }
def RationalOrderUptoCardSaid : Prop := Claim7.holds Tryz.pinned (.plain (OpenSpec.upto rationalOrderSpec)) rationalOrderUptoCard

/-- THE SECOND FORM's CARD OF 'observatorylaw04.RationalTexts'. -/
def rationalTextsUptoCard : Claim7 := { stood := { row := rationalTextsUptoRow, standIns := [], harness := (true, "5539e11219cb6fafc022dc9fa0f5163cd2000ab0ae656c2adc7c7af177d3f43b"), looks := true }, kinds := [], alts := [], laidByText := true, laidKinds := [.data, .data, .data, .data, .sentinel, .sentinel, .pinned], laidTests := true, laidLooks := .later }
def RationalTextsUptoCardSaid : Prop := Claim7.holds Tryz.pinned (.plain (OpenSpec.upto rationalTextsSpec)) rationalTextsUptoCard

/-- THE SECOND FORM's CARD OF 'observatorylaw04.RationalInts'. -/
def rationalIntsUptoCard : Claim7 := { stood := { row := rationalIntsUptoRow, standIns := [], harness := (true, "5539e11219cb6fafc022dc9fa0f5163cd2000ab0ae656c2adc7c7af177d3f43b"), looks := true }, kinds := [], alts := [], laidByText := true, laidKinds := [.data, .data, .data, .data, .sentinel, .sentinel, .pinned], laidTests := true, laidLooks := .later }
def RationalIntsUptoCardSaid : Prop := Claim7.holds Tryz.pinned (.plain (OpenSpec.upto rationalIntsSpec)) rationalIntsUptoCard

/-- THE SECOND FORM's CARD OF 'observatorylaw04.RationalLimit'. -/
def rationalLimitUptoCard : Claim7 := { stood := { row := rationalLimitUptoRow, standIns := [], harness := (true, "5539e11219cb6fafc022dc9fa0f5163cd2000ab0ae656c2adc7c7af177d3f43b"), looks := true }, kinds := [], alts := [], laidByText := true, laidKinds := [.data, .data, .data, .data, .sentinel, .sentinel, .pinned], laidTests := true, laidLooks := .later }
def RationalLimitUptoCardSaid : Prop := Claim7.holds Tryz.pinned (.plain (OpenSpec.upto rationalLimitSpec)) rationalLimitUptoCard
end Rows
end Go.Proofs.YtncocgfgbocnkaaGreatDoor
