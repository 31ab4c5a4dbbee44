/-
  DERIVED. GIVEN WITH THE SEED: THE CARDS: each row of YtcgplokdklomlaaGreatDoorRows.lean that lists a variable, with what it lists TIED to the program's text (the seventh form; the later family's looks); each row that meets fmt, with fmt's text TOLD by the authors' own Lean function (tested against real Go, not proved from fmt's source: count such statements apart). THE CARD IS WHAT COUNTS. Prove the row's statement (the work); the ties are given (YtcgplokdklomlaaGreatDoorTie.lean); close each card by the builder's one call (the guide's Derived/Test/ToyasCard.lean, 'card_holds'). Laid BY PROGRAM, IN A SANDBOX (cutbox-door.mjs). By AI agents, Wed Nov 11 2026. No macro, syntax, notation, axiom, sorry.
-/
import Derived.Test.YtcgplokdklomlaaGreatDoorRows
import GoSem.ClaimSeven
namespace Go.Proofs.YtcgplokdklomlaaGreatDoor
namespace Rows

/-- THE TIED CARD OF 'observatorylaw29.LotteryMatchesReference'. -/
def lotteryMatchesReferenceCard : Claim7 := { stood := { row := lotteryMatchesReferenceRow, standIns := [], harness := (true, "c4b3a4295a261bb355afc56a472a7becc310cbb3046c2197d3b73f46a6086090"), looks := true }, kinds := [], alts := [], laidByText := true, laidKinds := [.data, .data, .data, .data, .sentinel, .sentinel, .pinned], laidTests := true, laidLooks := .later }
def LotteryMatchesReferenceCardSaid : Prop := Claim7.holds Tryz.pinned (.plain (OpenSpec.ofChange lotteryMatchesReferenceSpec)) lotteryMatchesReferenceCard

/-- THE TIED CARD OF 'observatorylaw29.LotteryTotals'. -/
def lotteryTotalsCard : Claim7 := { stood := { row := lotteryTotalsRow, standIns := [], harness := (true, "c4b3a4295a261bb355afc56a472a7becc310cbb3046c2197d3b73f46a6086090"), looks := true }, kinds := [], alts := [], laidByText := true, laidKinds := [.data, .data, .data, .data, .sentinel, .sentinel, .pinned], laidTests := true, laidLooks := .later }
def LotteryTotalsCardSaid : Prop := Claim7.holds Tryz.pinned (.plain (OpenSpec.ofChange lotteryTotalsSpec)) lotteryTotalsCard

/-- THE TIED CARD OF 'observatorylaw29.LotteryPartners'. -/
def lotteryPartnersCard : Claim7 := { stood := { row := lotteryPartnersRow, standIns := [], harness := (true, "c4b3a4295a261bb355afc56a472a7becc310cbb3046c2197d3b73f46a6086090"), looks := true }, kinds := [], alts := [], laidByText := true, laidKinds := [.data, .data, .data, .data, .sentinel, .sentinel, .pinned], laidTests := true, laidLooks := .later }
def LotteryPartnersCardSaid : Prop := Claim7.holds Tryz.pinned (.plain (OpenSpec.ofChange lotteryPartnersSpec)) lotteryPartnersCard

/-- THE TIED CARD OF 'observatorylaw29.LotterySplits'. -/
def lotterySplitsCard : Claim7 := { stood := { row := lotterySplitsRow, standIns := [], harness := (true, "c4b3a4295a261bb355afc56a472a7becc310cbb3046c2197d3b73f46a6086090"), looks := true }, kinds := [], alts := [], laidByText := true, laidKinds := [.data, .data, .data, .data, .sentinel, .sentinel, .pinned], laidTests := true, laidLooks := .later }
def LotterySplitsCardSaid : Prop := Claim7.holds Tryz.pinned (.plain (OpenSpec.ofChange lotterySplitsSpec)) lotterySplitsCard

/-- THE TIED CARD OF 'observatorylaw29.LotteryMerits'. -/
def lotteryMeritsCard : Claim7 := { stood := { row := lotteryMeritsRow, standIns := [], harness := (true, "c4b3a4295a261bb355afc56a472a7becc310cbb3046c2197d3b73f46a6086090"), looks := true }, kinds := [], alts := [], laidByText := true, laidKinds := [.data, .data, .data, .data, .sentinel, .sentinel, .pinned], laidTests := true, laidLooks := .later }
def LotteryMeritsCardSaid : Prop := Claim7.holds Tryz.pinned (.plain (OpenSpec.ofChange lotteryMeritsSpec)) lotteryMeritsCard

/-- THE TIED CARD OF 'observatorylaw29.LotteryWithholds'. -/
def lotteryWithholdsCard : Claim7 := { stood := { row := lotteryWithholdsRow, standIns := [], harness := (true, "c4b3a4295a261bb355afc56a472a7becc310cbb3046c2197d3b73f46a6086090"), looks := true }, kinds := [], alts := [], laidByText := true, laidKinds := [.data, .data, .data, .data, .sentinel, .sentinel, .pinned], laidTests := true, laidLooks := .later }
def LotteryWithholdsCardSaid : Prop := Claim7.holds Tryz.pinned (.plain (OpenSpec.ofChange lotteryWithholdsSpec)) lotteryWithholdsCard

/-- THE TIED CARD OF 'observatorylaw29.LotteryDraws'. -/
def lotteryDrawsCard : Claim7 := { stood := { row := lotteryDrawsRow, standIns := [], harness := (true, "c4b3a4295a261bb355afc56a472a7becc310cbb3046c2197d3b73f46a6086090"), looks := true }, kinds := [], alts := [], laidByText := true, laidKinds := [.data, .data, .data, .data, .sentinel, .sentinel, .pinned], laidTests := true, laidLooks := .later }
def LotteryDrawsCardSaid : Prop := Claim7.holds Tryz.pinned (.plain (OpenSpec.ofChange lotteryDrawsSpec)) lotteryDrawsCard

/-- THE SECOND FORM's CARD OF 'observatorylaw29.LotteryMatchesReference'. -/
def lotteryMatchesReferenceUptoCard : Claim7 := { stood := { row := lotteryMatchesReferenceUptoRow, standIns := [], harness := (true, "c4b3a4295a261bb355afc56a472a7becc310cbb3046c2197d3b73f46a6086090"), looks := true }, kinds := [], alts := [], laidByText := true, laidKinds := [.data, .data, .data, .data, .sentinel, .sentinel, .pinned], laidTests := true, laidLooks := .later }
def LotteryMatchesReferenceUptoCardSaid : Prop := Claim7.holds Tryz.pinned (.plain (OpenSpec.upto lotteryMatchesReferenceSpec)) lotteryMatchesReferenceUptoCard

/-- THE SECOND FORM's CARD OF 'observatorylaw29.LotteryTotals'. -/
def lotteryTotalsUptoCard : Claim7 := { stood := { row := lotteryTotalsUptoRow, standIns := [], harness := (true, "c4b3a4295a261bb355afc56a472a7becc310cbb3046c2197d3b73f46a6086090"), looks := true }, kinds := [], alts := [], laidByText := true, laidKinds := [.data, .data, .data, .data, .sentinel, .sentinel, .pinned], laidTests := true, laidLooks := .later }
def LotteryTotalsUptoCardSaid : Prop := Claim7.holds Tryz.pinned (.plain (OpenSpec.upto lotteryTotalsSpec)) lotteryTotalsUptoCard

/-- THE SECOND FORM's CARD OF 'observatorylaw29.LotteryPartners'. -/
def lotteryPartnersUptoCard : Claim7 := { stood := { row := lotteryPartnersUptoRow, standIns := [], harness := (true, "c4b3a4295a261bb355afc56a472a7becc310cbb3046c2197d3b73f46a6086090"), looks := true }, kinds := [], alts := [], laidByText := true, laidKinds := [.data, .data, .data, .data, .sentinel, .sentinel, .pinned], laidTests := true, laidLooks := .later }
def LotteryPartnersUptoCardSaid : Prop := Claim7.holds Tryz.pinned (.plain (OpenSpec.upto lotteryPartnersSpec)) lotteryPartnersUptoCard

/-- THE SECOND FORM's CARD OF 'observatorylaw29.LotterySplits'. -/
def lotterySplitsUptoCard : Claim7 := { stood := { row := lotterySplitsUptoRow, standIns := [], harness := (true, "c4b3a4295a261bb355afc56a472a7becc310cbb3046c2197d3b73f46a6086090"), looks := true }, kinds := [], alts := [], laidByText := true, laidKinds := [.data, .data, .data, .data, .sentinel, .sentinel, .pinned], laidTests := true, laidLooks := .later }
def LotterySplitsUptoCardSaid : Prop := Claim7.holds Tryz.pinned (.plain (OpenSpec.upto lotterySplitsSpec)) lotterySplitsUptoCard

/-- THE SECOND FORM's CARD OF 'observatorylaw29.LotteryMerits'. -/
def lotteryMeritsUptoCard : Claim7 := { stood := { row := lotteryMeritsUptoRow, standIns := [], harness := (true, "c4b3a4295a261bb355afc56a472a7becc310cbb3046c2197d3b73f46a6086090"), looks := true }, kinds := [], alts := [], laidByText := true, laidKinds := [.data, .data, .data, .data, .sentinel, .sentinel, .pinned], laidTests := true, laidLooks := .later }
def LotteryMeritsUptoCardSaid : Prop := Claim7.holds Tryz.pinned (.plain (OpenSpec.upto lotteryMeritsSpec)) lotteryMeritsUptoCard

/-- THE SECOND FORM's CARD OF 'observatorylaw29.LotteryWithholds'. -/
def lotteryWithholdsUptoCard : Claim7 := { stood := { row := lotteryWithholdsUptoRow, standIns := [], harness := (true, "c4b3a4295a261bb355afc56a472a7becc310cbb3046c2197d3b73f46a6086090"), looks := true }, kinds := [], alts := [], laidByText := true, laidKinds := [.data, .data, .data, .data, .sentinel, .sentinel, .pinned], laidTests := true, laidLooks := .later }
def LotteryWithholdsUptoCardSaid : Prop := Claim7.holds Tryz.pinned (.plain (OpenSpec.upto lotteryWithholdsSpec)) lotteryWithholdsUptoCard

/-- THE SECOND FORM's CARD OF 'observatorylaw29.LotteryDraws'. -/
def lotteryDrawsUptoCard : Claim7 := { stood := { row := lotteryDrawsUptoRow, standIns := [], harness := (true, "c4b3a4295a261bb355afc56a472a7becc310cbb3046c2197d3b73f46a6086090"), looks := true }, kinds := [], alts := [], laidByText := true, laidKinds := [.data, .data, .data, .data, .sentinel, .sentinel, .pinned], laidTests := true, laidLooks := .later }
def LotteryDrawsUptoCardSaid : Prop := Claim7.holds Tryz.pinned (.plain (OpenSpec.upto lotteryDrawsSpec)) lotteryDrawsUptoCard
end Rows
end Go.Proofs.YtcgplokdklomlaaGreatDoor
