/-
  DERIVED. GIVEN WITH THE SEED: THE CARDS: each row of YtbefdlncpobmlaaDoorRows.lean that lists a variable, with what it lists TIED to the program's text (the seventh form; the later family's looks); each row that meets fmt, with fmt's text TOLD by the authors' own Lean function (tested against real Go, not proved from fmt's source: count such statements apart). THE CARD IS WHAT COUNTS. Prove the row's statement (the work); the ties are given (YtbefdlncpobmlaaDoorTie.lean); close each card by the builder's one call (the guide's Derived/Test/ToyasCard.lean, 'card_holds'). Laid BY PROGRAM, IN A SANDBOX (cutbox-door.mjs). By AI agents, Wed Nov 11 2026. No macro, syntax, notation, axiom, sorry.
-/
import Derived.Test.YtbefdlncpobmlaaDoorRows
import GoSem.ClaimSeven
namespace Go.Proofs.YtbefdlncpobmlaaDoor
namespace Rows

/-- THE TIED CARD OF 'observatorylaw03.NaturalField'. -/
def naturalFieldCard : Claim7 := { stood := { row := naturalFieldRow, standIns := [], harness := (true, "2b77f1df9585f1c52eeae57b824b567b44ac0fe4e388be732801caa95993f29c"), looks := true }, kinds := [], alts := [], laidByText := true, laidKinds := [.data, .data, .data, .data, .sentinel, .sentinel, .pinned], laidTests := true, laidLooks := .later }
def NaturalFieldCardSaid : Prop := Claim7.holds Tryd.pinned (.plain (OpenSpec.ofChange naturalFieldSpec)) naturalFieldCard

/-- THE TIED CARD OF 'observatorylaw03.NaturalOrder'. -/
def naturalOrderCard : Claim7 := { stood := { row := naturalOrderRow, standIns := [], harness := (true, "2b77f1df9585f1c52eeae57b824b567b44ac0fe4e388be732801caa95993f29c"), looks := true }, kinds := [], alts := [], laidByText := true, laidKinds := [.data, .data, .data, .data, .sentinel, .sentinel, .pinned], laidTests := true, laidLooks := .later }
def NaturalOrderCardSaid : Prop := Claim7.holds Tryd.pinned (.plain (OpenSpec.ofChange naturalOrderSpec)) naturalOrderCard

/-- THE TIED CARD OF 'observatorylaw03.NaturalDivides'. -/
def naturalDividesCard : Claim7 := { stood := { row := naturalDividesRow, standIns := [], harness := (true, "2b77f1df9585f1c52eeae57b824b567b44ac0fe4e388be732801caa95993f29c"), looks := true }, kinds := [], alts := [], laidByText := true, laidKinds := [.data, .data, .data, .data, .sentinel, .sentinel, .pinned], laidTests := true, laidLooks := .later }
def NaturalDividesCardSaid : Prop := Claim7.holds Tryd.pinned (.plain (OpenSpec.ofChange naturalDividesSpec)) naturalDividesCard

/-- THE TIED CARD OF 'observatorylaw03.NaturalGcd'. -/
def naturalGcdCard : Claim7 := { stood := { row := naturalGcdRow, standIns := [], harness := (true, "2b77f1df9585f1c52eeae57b824b567b44ac0fe4e388be732801caa95993f29c"), looks := true }, kinds := [], alts := [], laidByText := true, laidKinds := [.data, .data, .data, .data, .sentinel, .sentinel, .pinned], laidTests := true, laidLooks := .later }
def NaturalGcdCardSaid : Prop := Claim7.holds Tryd.pinned (.plain (OpenSpec.ofChange naturalGcdSpec)) naturalGcdCard

/-- THE TIED CARD OF 'observatorylaw03.NaturalInts'. -/
def naturalIntsCard : Claim7 := { stood := { row := naturalIntsRow, standIns := [], harness := (true, "2b77f1df9585f1c52eeae57b824b567b44ac0fe4e388be732801caa95993f29c"), looks := true }, kinds := [], alts := [], laidByText := true, laidKinds := [.data, .data, .data, .data, .sentinel, .sentinel, .pinned], laidTests := true, laidLooks := .later }
def NaturalIntsCardSaid : Prop := Claim7.holds Tryd.pinned (.plain (OpenSpec.ofChange naturalIntsSpec)) naturalIntsCard

/-- THE TIED CARD OF 'observatorylaw03.NaturalForms'. -/
def naturalFormsCard : Claim7 := { stood := { row := naturalFormsRow, standIns := [], harness := (true, "2b77f1df9585f1c52eeae57b824b567b44ac0fe4e388be732801caa95993f29c"), looks := true }, kinds := [], alts := [], laidByText := true, laidKinds := [.data, .data, .data, .data, .sentinel, .sentinel, .pinned], laidTests := true, laidLooks := .later }
def NaturalFormsCardSaid : Prop := Claim7.holds Tryd.pinned (.plain (OpenSpec.ofChange naturalFormsSpec)) naturalFormsCard

/-- THE SECOND FORM's CARD OF 'observatorylaw03.NaturalField'. -/
def naturalFieldUptoCard : Claim7 := { stood := { row := naturalFieldUptoRow, standIns := [], harness := (true, "2b77f1df9585f1c52eeae57b824b567b44ac0fe4e388be732801caa95993f29c"), looks := true }, kinds := [], alts := [], laidByText := true, laidKinds := [.data, .data, .data, .data, .sentinel, .sentinel, .pinned], laidTests := true, laidLooks := .later }
def NaturalFieldUptoCardSaid : Prop := Claim7.holds Tryd.pinned (.plain (OpenSpec.upto naturalFieldSpec)) naturalFieldUptoCard

/-- THE SECOND FORM's CARD OF 'observatorylaw03.NaturalOrder'. -/
def naturalOrderUptoCard : Claim7 := { stood := { row := naturalOrderUptoRow, standIns := [], harness := (true, "2b77f1df9585f1c52eeae57b824b567b44ac0fe4e388be732801caa95993f29c"), looks := true }, kinds := [], alts := [], laidByText := true, laidKinds := [.data, .data, .data, .data, .sentinel, .sentinel, .pinned], laidTests := true, laidLooks := .later }
def NaturalOrderUptoCardSaid : Prop := Claim7.holds Tryd.pinned (.plain (OpenSpec.upto naturalOrderSpec)) naturalOrderUptoCard

/-- THE SECOND FORM's CARD OF 'observatorylaw03.NaturalDivides'. -/
def naturalDividesUptoCard : Claim7 := { stood := { row := naturalDividesUptoRow, standIns := [], harness := (true, "2b77f1df9585f1c52eeae57b824b567b44ac0fe4e388be732801caa95993f29c"), looks := true }, kinds := [], alts := [], laidByText := true, laidKinds := [.data, .data, .data, .data, .sentinel, .sentinel, .pinned], laidTests := true, laidLooks := .later }
def NaturalDividesUptoCardSaid : Prop := Claim7.holds Tryd.pinned (.plain (OpenSpec.upto naturalDividesSpec)) naturalDividesUptoCard

/-- THE SECOND FORM's CARD OF 'observatorylaw03.NaturalGcd'. -/
def naturalGcdUptoCard : Claim7 := { stood := { row := naturalGcdUptoRow, standIns := [], harness := (true, "2b77f1df9585f1c52eeae57b824b567b44ac0fe4e388be732801caa95993f29c"), looks := true }, kinds := [], alts := [], laidByText := true, laidKinds := [.data, .data, .data, .data, .sentinel, .sentinel, .pinned], laidTests := true, laidLooks := .later }
def NaturalGcdUptoCardSaid : Prop := Claim7.holds Tryd.pinned (.plain (OpenSpec.upto naturalGcdSpec)) naturalGcdUptoCard

/-- THE SECOND FORM's CARD OF 'observatorylaw03.NaturalInts'. -/
def naturalIntsUptoCard : Claim7 := { stood := { row := naturalIntsUptoRow, standIns := [], harness := (true, "2b77f1df9585f1c52eeae57b824b567b44ac0fe4e388be732801caa95993f29c"), looks := true }, kinds := [], alts := [], laidByText := true, laidKinds := [.data, .data, .data, .data, .sentinel, .sentinel, .pinned], laidTests := true, laidLooks := .later }
def NaturalIntsUptoCardSaid : Prop := Claim7.holds Tryd.pinned (.plain (OpenSpec.upto naturalIntsSpec)) naturalIntsUptoCard

/-- THE SECOND FORM's CARD OF 'observatorylaw03.NaturalForms'. -/
def naturalFormsUptoCard : Claim7 := { stood := { row := naturalFormsUptoRow, standIns := [], harness := (true, "2b77f1df9585f1c52eeae57b824b567b44ac0fe4e388be732801caa95993f29c"), looks := true }, kinds := [], alts := [], laidByText := true, laidKinds := [.data, .data, .data, .data, .sentinel, .sentinel, .pinned], laidTests := true, laidLooks := .later }
def NaturalFormsUptoCardSaid : Prop := Claim7.holds Tryd.pinned (.plain (OpenSpec.upto naturalFormsSpec)) naturalFormsUptoCard
end Rows
end Go.Proofs.YtbefdlncpobmlaaDoor
