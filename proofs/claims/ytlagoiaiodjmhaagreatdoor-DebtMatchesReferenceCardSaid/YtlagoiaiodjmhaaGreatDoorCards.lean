/-
  DERIVED. GIVEN WITH THE SEED: THE CARDS: each row of YtlagoiaiodjmhaaGreatDoorRows.lean that lists a variable, with what it lists TIED to the program's text (the seventh form; the later family's looks); each row that meets fmt, with fmt's text TOLD by the authors' own Lean function (tested against real Go, not proved from fmt's source: count such statements apart). THE CARD IS WHAT COUNTS. Prove the row's statement (the work); the ties are given (YtlagoiaiodjmhaaGreatDoorTie.lean); close each card by the builder's one call (the guide's Derived/Test/ToyasCard.lean, 'card_holds'). Laid BY PROGRAM, IN A SANDBOX (cutbox-door.mjs). By AI agents, Wed Nov 11 2026. No macro, syntax, notation, axiom, sorry.
-/
import Derived.Test.YtlagoiaiodjmhaaGreatDoorRows
import GoSem.ClaimSeven
namespace Go.Proofs.YtlagoiaiodjmhaaGreatDoor
namespace Rows

/-- THE TIED CARD OF 'observatorylaw18.DebtMatchesReference'. -/
def debtMatchesReferenceCard : Claim7 := { stood := { row := debtMatchesReferenceRow, standIns := [], harness := (true, "87003117b05851552869fdda7b562e48ae11617ba2025541fb6c11f147784b73"), looks := true }, kinds := [], alts := [], laidByText := true, laidKinds := [.data, .data, .data, .data, .sentinel, .sentinel, .pinned], laidTests := true, laidLooks := .later }
def DebtMatchesReferenceCardSaid : Prop := Claim7.holds Tryz.pinned (.plain (OpenSpec.ofChange debtMatchesReferenceSpec)) debtMatchesReferenceCard

/-- THE TIED CARD OF 'observatorylaw18.DebtSettles'. -/
def debtSettlesCard : Claim7 := { stood := { row := debtSettlesRow, standIns := [], harness := (true, "87003117b05851552869fdda7b562e48ae11617ba2025541fb6c11f147784b73"), looks := true }, kinds := [], alts := [], laidByText := true, laidKinds := [.data, .data, .data, .data, .sentinel, .sentinel, .pinned], laidTests := true, laidLooks := .later }
def DebtSettlesCardSaid : Prop := Claim7.holds Tryz.pinned (.plain (OpenSpec.ofChange debtSettlesSpec)) debtSettlesCard

/-- THE TIED CARD OF 'observatorylaw18.DebtLater'. -/
def debtLaterCard : Claim7 := { stood := { row := debtLaterRow, standIns := [], harness := (true, "87003117b05851552869fdda7b562e48ae11617ba2025541fb6c11f147784b73"), looks := true }, kinds := [], alts := [], laidByText := true, laidKinds := [.data, .data, .data, .data, .sentinel, .sentinel, .pinned], laidTests := true, laidLooks := .later }
def DebtLaterCardSaid : Prop := Claim7.holds Tryz.pinned (.plain (OpenSpec.ofChange debtLaterSpec)) debtLaterCard

/-- THE TIED CARD OF 'observatorylaw18.DebtOrder'. -/
def debtOrderCard : Claim7 := { stood := { row := debtOrderRow, standIns := [], harness := (true, "87003117b05851552869fdda7b562e48ae11617ba2025541fb6c11f147784b73"), looks := true }, kinds := [], alts := [], laidByText := true, laidKinds := [.data, .data, .data, .data, .sentinel, .sentinel, .pinned], laidTests := true, laidLooks := .later }
def DebtOrderCardSaid : Prop := Claim7.holds Tryz.pinned (.plain (OpenSpec.ofChange debtOrderSpec)) debtOrderCard

/-- THE TIED CARD OF 'observatorylaw18.DebtFrames'. -/
def debtFramesCard : Claim7 := { stood := { row := debtFramesRow, standIns := [], harness := (true, "87003117b05851552869fdda7b562e48ae11617ba2025541fb6c11f147784b73"), looks := true }, kinds := [], alts := [], laidByText := true, laidKinds := [.data, .data, .data, .data, .sentinel, .sentinel, .pinned], laidTests := true, laidLooks := .later }
def DebtFramesCardSaid : Prop := Claim7.holds Tryz.pinned (.plain (OpenSpec.ofChange debtFramesSpec)) debtFramesCard

/-- THE TIED CARD OF 'observatorylaw18.DebtSplits'. -/
def debtSplitsCard : Claim7 := { stood := { row := debtSplitsRow, standIns := [], harness := (true, "87003117b05851552869fdda7b562e48ae11617ba2025541fb6c11f147784b73"), looks := true }, kinds := [], alts := [], laidByText := true, laidKinds := [.data, .data, .data, .data, .sentinel, .sentinel, .pinned], laidTests := true, laidLooks := .later }
def DebtSplitsCardSaid : Prop := Claim7.holds Tryz.pinned (.plain (OpenSpec.ofChange debtSplitsSpec)) debtSplitsCard

/-- THE SECOND FORM's CARD OF 'observatorylaw18.DebtMatchesReference'. -/
def debtMatchesReferenceUptoCard : Claim7 := { stood := { row := debtMatchesReferenceUptoRow, standIns := [], harness := (true, "87003117b05851552869fdda7b562e48ae11617ba2025541fb6c11f147784b73"), looks := true }, kinds := [], alts := [], laidByText := true, laidKinds := [.data, .data, .data, .data, .sentinel, .sentinel, .pinned], laidTests := true, laidLooks := .later }
def DebtMatchesReferenceUptoCardSaid : Prop := Claim7.holds Tryz.pinned (.plain (OpenSpec.upto debtMatchesReferenceSpec)) debtMatchesReferenceUptoCard

/-- THE SECOND FORM's CARD OF 'observatorylaw18.DebtSettles'. -/
def debtSettlesUptoCard : Claim7 := { stood := { row := debtSettlesUptoRow, standIns := [], harness := (true, "87003117b05851552869fdda7b562e48ae11617ba2025541fb6c11f147784b73"), looks := true }, kinds := [], alts := [], laidByText := true, laidKinds := [.data, .data, .data, .data, .sentinel, .sentinel, .pinned], laidTests := true, laidLooks := .later }
def DebtSettlesUptoCardSaid : Prop := Claim7.holds Tryz.pinned (.plain (OpenSpec.upto debtSettlesSpec)) debtSettlesUptoCard

/-- THE SECOND FORM's CARD OF 'observatorylaw18.DebtLater'. -/
def debtLaterUptoCard : Claim7 := { stood := { row := debtLaterUptoRow, standIns := [], harness := (true, "87003117b05851552869fdda7b562e48ae11617ba2025541fb6c11f147784b73"), looks := true }, kinds := [], alts := [], laidByText := true, laidKinds := [.data, .data, .data, .data, .sentinel, .sentinel, .pinned], laidTests := true, laidLooks := .later }
def DebtLaterUptoCardSaid : Prop := Claim7.holds Tryz.pinned (.plain (OpenSpec.upto debtLaterSpec)) debtLaterUptoCard

/-- THE SECOND FORM's CARD OF 'observatorylaw18.DebtOrder'. -/
def debtOrderUptoCard : Claim7 := { stood := { row := debtOrderUptoRow, standIns := [], harness := (true, "87003117b05851552869fdda7b562e48ae11617ba2025541fb6c11f147784b73"), looks := true }, kinds := [], alts := [], laidByText := true, laidKinds := [.data, .data, .data, .data, .sentinel, .sentinel, .pinned], laidTests := true, laidLooks := .later }
def DebtOrderUptoCardSaid : Prop := Claim7.holds Tryz.pinned (.plain (OpenSpec.upto debtOrderSpec)) debtOrderUptoCard

/-- THE SECOND FORM's CARD OF 'observatorylaw18.DebtFrames'. -/
def debtFramesUptoCard : Claim7 := { stood := { row := debtFramesUptoRow, standIns := [], harness := (true, "87003117b05851552869fdda7b562e48ae11617ba2025541fb6c11f147784b73"), looks := true }, kinds := [], alts := [], laidByText := true, laidKinds := [.data, .data, .data, .data, .sentinel, .sentinel, .pinned], laidTests := true, laidLooks := .later }
def DebtFramesUptoCardSaid : Prop := Claim7.holds Tryz.pinned (.plain (OpenSpec.upto debtFramesSpec)) debtFramesUptoCard

/-- THE SECOND FORM's CARD OF 'observatorylaw18.DebtSplits'. -/
def debtSplitsUptoCard : Claim7 := { stood := { row := debtSplitsUptoRow, standIns := [], harness := (true, "87003117b05851552869fdda7b562e48ae11617ba2025541fb6c11f147784b73"), looks := true }, kinds := [], alts := [], laidByText := true, laidKinds := [.data, .data, .data, .data, .sentinel, .sentinel, .pinned], laidTests := true, laidLooks := .later }
def DebtSplitsUptoCardSaid : Prop := Claim7.holds Tryz.pinned (.plain (OpenSpec.upto debtSplitsSpec)) debtSplitsUptoCard
end Rows
end Go.Proofs.YtlagoiaiodjmhaaGreatDoor
