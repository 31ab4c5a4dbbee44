/-
  No cell of these rows narrows 'for every input' (looked for: loops, veiled, ifaces, maps, wideKeys, modest, calm, conditions, laid).
  DERIVED. THE GIVEN ROWS OF THIS SEAT. 12 by the template 'for every input the law returns true; each argument reads behind the call as it read before'; 0 by the template 'total and deterministic' (their statements: YtahlhiiekgnmpaaTotals.lean).
  GIVEN WITH THE SEED: the statements are not yours to turn. If you find one false, say at which input.
  Laid BY PROGRAM, IN A SANDBOX (cutbox-rows.mjs): the forced cells as the released guide's own fill.sh prints them over the translation 124b368dae1c58f3… (all of the seat's roots in one cut). By AI agents, Wed Nov 11 2026. No macro, syntax, notation, axiom, sorry.
-/
import Derived.Test.YtahlhiiekgnmpaaChecked
import GoSem.Claim
import GoSem.ClaimJoined
import GoSem.ClaimMapViews
import Derived.JoinedTies
import Derived.KernelRfl
namespace Go.Proofs.Ytahlhiiekgnmpaa
/- THE CELL 'sum', in the pinned program and in every row, IS THE sha256 OF THE DUMP (.gsa) THAT YtahlhiiekgnmpaaProg.lean LOADS. Nothing in Lean hashes anything: it is a label: what it is worth is what the hold of that sum in a sandbox is worth. -/
noncomputable def Try.pinned : Pinned := { name := "ytahlhiiekgnmpaa", sum := "124b368dae1c58f3e5b0d210a467f5d8739695c657bd1397ff3fb39b967b2cc5", checked := Try.checked }
namespace Rows
def none {H : Type} : Left H := { results := [], args := [] }

/-- 'observatorylaw10.SkyMatchesReference': WHATEVER THE INPUT: true; the input reads as it did. -/
def skyMatchesReferenceSpec : ChangeSpec := { name := "skyMatchesReference", fn := fun _ => fun
  | [d1, d2, d3, d4] => { results := [.lit (.bool true)], args := [d1, d2, d3, d4] }
  | _ => none }
def skyMatchesReferenceRow : OpenClaim := { program := "ytahlhiiekgnmpaa", sum := "124b368dae1c58f3e5b0d210a467f5d8739695c657bd1397ff3fb39b967b2cc5", func := "observatory/observatorylaw10.SkyMatchesReference", spec := "skyMatchesReference", unfollowed := true, recurses := true, apart := false }
def SkyMatchesReferenceSaid : Prop := skyMatchesReferenceRow.holds Try.pinned (OpenSpec.ofChange skyMatchesReferenceSpec)

/-- ITS FALSE NEIGHBOUR: 'it returns false'. Refute it at one input. -/
def skyMatchesReferenceWrong : ChangeSpec := { name := "skyMatchesReference", fn := fun _ => fun
  | [d1, d2, d3, d4] => { results := [.lit (.bool false)], args := [d1, d2, d3, d4] }
  | _ => none }
def SkyMatchesReferenceWrongFalsely : Prop := skyMatchesReferenceRow.holds Try.pinned (OpenSpec.ofChange skyMatchesReferenceWrong)

/-- 'observatorylaw10.SkyTiles': WHATEVER THE INPUT: true; the input reads as it did. -/
def skyTilesSpec : ChangeSpec := { name := "skyTiles", fn := fun _ => fun
  | [d1, d2, d3, d4] => { results := [.lit (.bool true)], args := [d1, d2, d3, d4] }
  | _ => none }
def skyTilesRow : OpenClaim := { program := "ytahlhiiekgnmpaa", sum := "124b368dae1c58f3e5b0d210a467f5d8739695c657bd1397ff3fb39b967b2cc5", func := "observatory/observatorylaw10.SkyTiles", spec := "skyTiles", unfollowed := true, recurses := true, apart := false }
def SkyTilesSaid : Prop := skyTilesRow.holds Try.pinned (OpenSpec.ofChange skyTilesSpec)

/-- ITS FALSE NEIGHBOUR: 'it returns false'. Refute it at one input. -/
def skyTilesWrong : ChangeSpec := { name := "skyTiles", fn := fun _ => fun
  | [d1, d2, d3, d4] => { results := [.lit (.bool false)], args := [d1, d2, d3, d4] }
  | _ => none }
def SkyTilesWrongFalsely : Prop := skyTilesRow.holds Try.pinned (OpenSpec.ofChange skyTilesWrong)

/-- 'observatorylaw10.SkyDistances': WHATEVER THE INPUT: true; the input reads as it did. -/
def skyDistancesSpec : ChangeSpec := { name := "skyDistances", fn := fun _ => fun
  | [d1, d2, d3, d4] => { results := [.lit (.bool true)], args := [d1, d2, d3, d4] }
  | _ => none }
def skyDistancesRow : OpenClaim := { program := "ytahlhiiekgnmpaa", sum := "124b368dae1c58f3e5b0d210a467f5d8739695c657bd1397ff3fb39b967b2cc5", func := "observatory/observatorylaw10.SkyDistances", spec := "skyDistances", unfollowed := true, recurses := true, apart := false }
def SkyDistancesSaid : Prop := skyDistancesRow.holds Try.pinned (OpenSpec.ofChange skyDistancesSpec)

/-- ITS FALSE NEIGHBOUR: 'it returns false'. Refute it at one input. -/
def skyDistancesWrong : ChangeSpec := { name := "skyDistances", fn := fun _ => fun
  | [d1, d2, d3, d4] => { results := [.lit (.bool false)], args := [d1, d2, d3, d4] }
  | _ => none }
def SkyDistancesWrongFalsely : Prop := skyDistancesRow.holds Try.pinned (OpenSpec.ofChange skyDistancesWrong)

/-- 'observatorylaw10.SkyNear': WHATEVER THE INPUT: true; the input reads as it did. -/
def skyNearSpec : ChangeSpec := { name := "skyNear", fn := fun _ => fun
  | [d1, d2, d3] => { results := [.lit (.bool true)], args := [d1, d2, d3] }
  | _ => none }
def skyNearRow : OpenClaim := { program := "ytahlhiiekgnmpaa", sum := "124b368dae1c58f3e5b0d210a467f5d8739695c657bd1397ff3fb39b967b2cc5", func := "observatory/observatorylaw10.SkyNear", spec := "skyNear", unfollowed := true, recurses := true, apart := false }
def SkyNearSaid : Prop := skyNearRow.holds Try.pinned (OpenSpec.ofChange skyNearSpec)

/-- ITS FALSE NEIGHBOUR: 'it returns false'. Refute it at one input. -/
def skyNearWrong : ChangeSpec := { name := "skyNear", fn := fun _ => fun
  | [d1, d2, d3] => { results := [.lit (.bool false)], args := [d1, d2, d3] }
  | _ => none }
def SkyNearWrongFalsely : Prop := skyNearRow.holds Try.pinned (OpenSpec.ofChange skyNearWrong)

/-- 'observatorylaw10.SkySteps': WHATEVER THE INPUT: true; the input reads as it did. -/
def skyStepsSpec : ChangeSpec := { name := "skySteps", fn := fun _ => fun
  | [d1, d2] => { results := [.lit (.bool true)], args := [d1, d2] }
  | _ => none }
def skyStepsRow : OpenClaim := { program := "ytahlhiiekgnmpaa", sum := "124b368dae1c58f3e5b0d210a467f5d8739695c657bd1397ff3fb39b967b2cc5", func := "observatory/observatorylaw10.SkySteps", spec := "skySteps", unfollowed := true, recurses := true, apart := false }
def SkyStepsSaid : Prop := skyStepsRow.holds Try.pinned (OpenSpec.ofChange skyStepsSpec)

/-- ITS FALSE NEIGHBOUR: 'it returns false'. Refute it at one input. -/
def skyStepsWrong : ChangeSpec := { name := "skySteps", fn := fun _ => fun
  | [d1, d2] => { results := [.lit (.bool false)], args := [d1, d2] }
  | _ => none }
def SkyStepsWrongFalsely : Prop := skyStepsRow.holds Try.pinned (OpenSpec.ofChange skyStepsWrong)

/-- 'observatorylaw40.PreemptMatchesReference': WHATEVER THE INPUT: true; the input reads as it did. -/
def preemptMatchesReferenceSpec : ChangeSpec := { name := "preemptMatchesReference", fn := fun _ => fun
  | [d1, d2, d3, d4, d5] => { results := [.lit (.bool true)], args := [d1, d2, d3, d4, d5] }
  | _ => none }
def preemptMatchesReferenceRow : OpenClaim := { program := "ytahlhiiekgnmpaa", sum := "124b368dae1c58f3e5b0d210a467f5d8739695c657bd1397ff3fb39b967b2cc5", func := "observatory/observatorylaw40.PreemptMatchesReference", spec := "preemptMatchesReference", unfollowed := true, recurses := true, apart := false }
def PreemptMatchesReferenceSaid : Prop := preemptMatchesReferenceRow.holds Try.pinned (OpenSpec.ofChange preemptMatchesReferenceSpec)

/-- ITS FALSE NEIGHBOUR: 'it returns false'. Refute it at one input. -/
def preemptMatchesReferenceWrong : ChangeSpec := { name := "preemptMatchesReference", fn := fun _ => fun
  | [d1, d2, d3, d4, d5] => { results := [.lit (.bool false)], args := [d1, d2, d3, d4, d5] }
  | _ => none }
def PreemptMatchesReferenceWrongFalsely : Prop := preemptMatchesReferenceRow.holds Try.pinned (OpenSpec.ofChange preemptMatchesReferenceWrong)

/-- 'observatorylaw40.PreemptBounded': WHATEVER THE INPUT: true; the input reads as it did. -/
def preemptBoundedSpec : ChangeSpec := { name := "preemptBounded", fn := fun _ => fun
  | [d1, d2, d3, d4] => { results := [.lit (.bool true)], args := [d1, d2, d3, d4] }
  | _ => none }
def preemptBoundedRow : OpenClaim := { program := "ytahlhiiekgnmpaa", sum := "124b368dae1c58f3e5b0d210a467f5d8739695c657bd1397ff3fb39b967b2cc5", func := "observatory/observatorylaw40.PreemptBounded", spec := "preemptBounded", unfollowed := true, recurses := true, apart := false }
def PreemptBoundedSaid : Prop := preemptBoundedRow.holds Try.pinned (OpenSpec.ofChange preemptBoundedSpec)

/-- ITS FALSE NEIGHBOUR: 'it returns false'. Refute it at one input. -/
def preemptBoundedWrong : ChangeSpec := { name := "preemptBounded", fn := fun _ => fun
  | [d1, d2, d3, d4] => { results := [.lit (.bool false)], args := [d1, d2, d3, d4] }
  | _ => none }
def PreemptBoundedWrongFalsely : Prop := preemptBoundedRow.holds Try.pinned (OpenSpec.ofChange preemptBoundedWrong)

/-- 'observatorylaw40.PreemptMore': WHATEVER THE INPUT: true; the input reads as it did. -/
def preemptMoreSpec : ChangeSpec := { name := "preemptMore", fn := fun _ => fun
  | [d1, d2, d3, d4] => { results := [.lit (.bool true)], args := [d1, d2, d3, d4] }
  | _ => none }
def preemptMoreRow : OpenClaim := { program := "ytahlhiiekgnmpaa", sum := "124b368dae1c58f3e5b0d210a467f5d8739695c657bd1397ff3fb39b967b2cc5", func := "observatory/observatorylaw40.PreemptMore", spec := "preemptMore", unfollowed := true, recurses := true, apart := false }
def PreemptMoreSaid : Prop := preemptMoreRow.holds Try.pinned (OpenSpec.ofChange preemptMoreSpec)

/-- ITS FALSE NEIGHBOUR: 'it returns false'. Refute it at one input. -/
def preemptMoreWrong : ChangeSpec := { name := "preemptMore", fn := fun _ => fun
  | [d1, d2, d3, d4] => { results := [.lit (.bool false)], args := [d1, d2, d3, d4] }
  | _ => none }
def PreemptMoreWrongFalsely : Prop := preemptMoreRow.holds Try.pinned (OpenSpec.ofChange preemptMoreWrong)

/-- 'observatorylaw40.PreemptApart': WHATEVER THE INPUT: true; the input reads as it did. -/
def preemptApartSpec : ChangeSpec := { name := "preemptApart", fn := fun _ => fun
  | [d1, d2, d3, d4] => { results := [.lit (.bool true)], args := [d1, d2, d3, d4] }
  | _ => none }
def preemptApartRow : OpenClaim := { program := "ytahlhiiekgnmpaa", sum := "124b368dae1c58f3e5b0d210a467f5d8739695c657bd1397ff3fb39b967b2cc5", func := "observatory/observatorylaw40.PreemptApart", spec := "preemptApart", unfollowed := true, recurses := true, apart := false }
def PreemptApartSaid : Prop := preemptApartRow.holds Try.pinned (OpenSpec.ofChange preemptApartSpec)

/-- ITS FALSE NEIGHBOUR: 'it returns false'. Refute it at one input. -/
def preemptApartWrong : ChangeSpec := { name := "preemptApart", fn := fun _ => fun
  | [d1, d2, d3, d4] => { results := [.lit (.bool false)], args := [d1, d2, d3, d4] }
  | _ => none }
def PreemptApartWrongFalsely : Prop := preemptApartRow.holds Try.pinned (OpenSpec.ofChange preemptApartWrong)

/-- 'observatorylaw40.PreemptScales': WHATEVER THE INPUT: true; the input reads as it did. -/
def preemptScalesSpec : ChangeSpec := { name := "preemptScales", fn := fun _ => fun
  | [d1, d2, d3, d4, d5] => { results := [.lit (.bool true)], args := [d1, d2, d3, d4, d5] }
  | _ => none }
def preemptScalesRow : OpenClaim := { program := "ytahlhiiekgnmpaa", sum := "124b368dae1c58f3e5b0d210a467f5d8739695c657bd1397ff3fb39b967b2cc5", func := "observatory/observatorylaw40.PreemptScales", spec := "preemptScales", unfollowed := true, recurses := true, apart := false }
def PreemptScalesSaid : Prop := preemptScalesRow.holds Try.pinned (OpenSpec.ofChange preemptScalesSpec)

/-- ITS FALSE NEIGHBOUR: 'it returns false'. Refute it at one input. -/
def preemptScalesWrong : ChangeSpec := { name := "preemptScales", fn := fun _ => fun
  | [d1, d2, d3, d4, d5] => { results := [.lit (.bool false)], args := [d1, d2, d3, d4, d5] }
  | _ => none }
def PreemptScalesWrongFalsely : Prop := preemptScalesRow.holds Try.pinned (OpenSpec.ofChange preemptScalesWrong)

/-- 'observatorylaw40.PreemptWorst': WHATEVER THE INPUT: true; the input reads as it did. -/
def preemptWorstSpec : ChangeSpec := { name := "preemptWorst", fn := fun _ => fun
  | [d1, d2, d3, d4] => { results := [.lit (.bool true)], args := [d1, d2, d3, d4] }
  | _ => none }
def preemptWorstRow : OpenClaim := { program := "ytahlhiiekgnmpaa", sum := "124b368dae1c58f3e5b0d210a467f5d8739695c657bd1397ff3fb39b967b2cc5", func := "observatory/observatorylaw40.PreemptWorst", spec := "preemptWorst", unfollowed := true, recurses := true, apart := false }
def PreemptWorstSaid : Prop := preemptWorstRow.holds Try.pinned (OpenSpec.ofChange preemptWorstSpec)

/-- ITS FALSE NEIGHBOUR: 'it returns false'. Refute it at one input. -/
def preemptWorstWrong : ChangeSpec := { name := "preemptWorst", fn := fun _ => fun
  | [d1, d2, d3, d4] => { results := [.lit (.bool false)], args := [d1, d2, d3, d4] }
  | _ => none }
def PreemptWorstWrongFalsely : Prop := preemptWorstRow.holds Try.pinned (OpenSpec.ofChange preemptWorstWrong)

/-- 'observatorylaw06.FieldMatchesReference': WHATEVER THE INPUT: true; the input reads as it did. -/
def fieldMatchesReferenceSpec : ChangeSpec := { name := "fieldMatchesReference", fn := fun _ => fun
  | [d1, d2, d3, d4, d5] => { results := [.lit (.bool true)], args := [d1, d2, d3, d4, d5] }
  | _ => none }
def fieldMatchesReferenceRow : OpenClaim := { program := "ytahlhiiekgnmpaa", sum := "124b368dae1c58f3e5b0d210a467f5d8739695c657bd1397ff3fb39b967b2cc5", func := "observatory/observatorylaw06.FieldMatchesReference", spec := "fieldMatchesReference", unfollowed := true, recurses := true, apart := false }
def FieldMatchesReferenceSaid : Prop := fieldMatchesReferenceRow.holds Try.pinned (OpenSpec.ofChange fieldMatchesReferenceSpec)

/-- ITS FALSE NEIGHBOUR: 'it returns false'. Refute it at one input. -/
def fieldMatchesReferenceWrong : ChangeSpec := { name := "fieldMatchesReference", fn := fun _ => fun
  | [d1, d2, d3, d4, d5] => { results := [.lit (.bool false)], args := [d1, d2, d3, d4, d5] }
  | _ => none }
def FieldMatchesReferenceWrongFalsely : Prop := fieldMatchesReferenceRow.holds Try.pinned (OpenSpec.ofChange fieldMatchesReferenceWrong)

/- THE SECOND FORM. 'bulk': how many values and letters a reading holds, each counted each time it is reached (what is shared counts as often as it is met; a slice's spare places count too). A statement '..UptoSaid' is the law's where the arguments, and the package variables that the reading takes, are together of bulk at most 1048576: NARROWER than '..Said'. Prove '..Said' where nothing that the law and all that it calls make is longer than what came in: it says more and counts as full. Else prove '..UptoSaid'. A law counts once. -/
mutual
def uptoBulk {H : Type} : DataW H → Nat
  | .lit (.string bytes) => bytes.length + 1
  | .lit _ => 1
  | .nil => 1
  | .ptr d => uptoBulk d + 1
  | .slice elems spare => uptoBulkAll elems + uptoBulkAll spare + 1
  | .agg parts => uptoBulkAll parts + 1
  | .iface _ d => uptoBulk d + 1
  | .map entries => uptoBulkEntries entries + 1
  | .held _ => 1
def uptoBulkAll {H : Type} : List (DataW H) → Nat
  | [] => 0
  | d :: r => uptoBulk d + uptoBulkAll r
def uptoBulkEntries {H : Type} : List (Lit × DataW H) → Nat
  | [] => 0
  | x :: r => uptoBulkEntry x + uptoBulkEntries r
def uptoBulkEntry {H : Type} : Lit × DataW H → Nat
  | (.string bytes, d) => bytes.length + uptoBulk d + 1
  | (_, d) => uptoBulk d + 1
 end
def uptoSmall : (H : Type) → List (DataW H) → Bool := fun _ ds => decide (uptoBulkAll ds ≤ 1048576)
def OpenSpec.upto (s : _root_.Go.ChangeSpec) : _root_.Go.OpenSpec := { _root_.Go.OpenSpec.ofChange s with cond := some uptoSmall }

/-- 'observatorylaw10.SkyMatchesReference', WHERE WHAT IT READS IS OF BULK AT MOST 1048576: true; the input reads as it did. -/
def skyMatchesReferenceUptoRow : OpenClaim := { program := "ytahlhiiekgnmpaa", sum := "124b368dae1c58f3e5b0d210a467f5d8739695c657bd1397ff3fb39b967b2cc5", func := "observatory/observatorylaw10.SkyMatchesReference", spec := "skyMatchesReference", unfollowed := true, recurses := true, apart := false, narrowed := true }
def SkyMatchesReferenceUptoSaid : Prop := skyMatchesReferenceUptoRow.holds Try.pinned (OpenSpec.upto skyMatchesReferenceSpec)

/-- 'observatorylaw10.SkyTiles', WHERE WHAT IT READS IS OF BULK AT MOST 1048576: true; the input reads as it did. -/
def skyTilesUptoRow : OpenClaim := { program := "ytahlhiiekgnmpaa", sum := "124b368dae1c58f3e5b0d210a467f5d8739695c657bd1397ff3fb39b967b2cc5", func := "observatory/observatorylaw10.SkyTiles", spec := "skyTiles", unfollowed := true, recurses := true, apart := false, narrowed := true }
def SkyTilesUptoSaid : Prop := skyTilesUptoRow.holds Try.pinned (OpenSpec.upto skyTilesSpec)

/-- 'observatorylaw10.SkyDistances', WHERE WHAT IT READS IS OF BULK AT MOST 1048576: true; the input reads as it did. -/
def skyDistancesUptoRow : OpenClaim := { program := "ytahlhiiekgnmpaa", sum := "124b368dae1c58f3e5b0d210a467f5d8739695c657bd1397ff3fb39b967b2cc5", func := "observatory/observatorylaw10.SkyDistances", spec := "skyDistances", unfollowed := true, recurses := true, apart := false, narrowed := true }
def SkyDistancesUptoSaid : Prop := skyDistancesUptoRow.holds Try.pinned (OpenSpec.upto skyDistancesSpec)

/-- 'observatorylaw10.SkyNear', WHERE WHAT IT READS IS OF BULK AT MOST 1048576: true; the input reads as it did. -/
def skyNearUptoRow : OpenClaim := { program := "ytahlhiiekgnmpaa", sum := "124b368dae1c58f3e5b0d210a467f5d8739695c657bd1397ff3fb39b967b2cc5", func := "observatory/observatorylaw10.SkyNear", spec := "skyNear", unfollowed := true, recurses := true, apart := false, narrowed := true }
def SkyNearUptoSaid : Prop := skyNearUptoRow.holds Try.pinned (OpenSpec.upto skyNearSpec)

/-- 'observatorylaw10.SkySteps', WHERE WHAT IT READS IS OF BULK AT MOST 1048576: true; the input reads as it did. -/
def skyStepsUptoRow : OpenClaim := { program := "ytahlhiiekgnmpaa", sum := "124b368dae1c58f3e5b0d210a467f5d8739695c657bd1397ff3fb39b967b2cc5", func := "observatory/observatorylaw10.SkySteps", spec := "skySteps", unfollowed := true, recurses := true, apart := false, narrowed := true }
def SkyStepsUptoSaid : Prop := skyStepsUptoRow.holds Try.pinned (OpenSpec.upto skyStepsSpec)

/-- 'observatorylaw40.PreemptMatchesReference', WHERE WHAT IT READS IS OF BULK AT MOST 1048576: true; the input reads as it did. -/
def preemptMatchesReferenceUptoRow : OpenClaim := { program := "ytahlhiiekgnmpaa", sum := "124b368dae1c58f3e5b0d210a467f5d8739695c657bd1397ff3fb39b967b2cc5", func := "observatory/observatorylaw40.PreemptMatchesReference", spec := "preemptMatchesReference", unfollowed := true, recurses := true, apart := false, narrowed := true }
def PreemptMatchesReferenceUptoSaid : Prop := preemptMatchesReferenceUptoRow.holds Try.pinned (OpenSpec.upto preemptMatchesReferenceSpec)

/-- 'observatorylaw40.PreemptBounded', WHERE WHAT IT READS IS OF BULK AT MOST 1048576: true; the input reads as it did. -/
def preemptBoundedUptoRow : OpenClaim := { program := "ytahlhiiekgnmpaa", sum := "124b368dae1c58f3e5b0d210a467f5d8739695c657bd1397ff3fb39b967b2cc5", func := "observatory/observatorylaw40.PreemptBounded", spec := "preemptBounded", unfollowed := true, recurses := true, apart := false, narrowed := true }
def PreemptBoundedUptoSaid : Prop := preemptBoundedUptoRow.holds Try.pinned (OpenSpec.upto preemptBoundedSpec)

/-- 'observatorylaw40.PreemptMore', WHERE WHAT IT READS IS OF BULK AT MOST 1048576: true; the input reads as it did. -/
def preemptMoreUptoRow : OpenClaim := { program := "ytahlhiiekgnmpaa", sum := "124b368dae1c58f3e5b0d210a467f5d8739695c657bd1397ff3fb39b967b2cc5", func := "observatory/observatorylaw40.PreemptMore", spec := "preemptMore", unfollowed := true, recurses := true, apart := false, narrowed := true }
def PreemptMoreUptoSaid : Prop := preemptMoreUptoRow.holds Try.pinned (OpenSpec.upto preemptMoreSpec)

/-- 'observatorylaw40.PreemptApart', WHERE WHAT IT READS IS OF BULK AT MOST 1048576: true; the input reads as it did. -/
def preemptApartUptoRow : OpenClaim := { program := "ytahlhiiekgnmpaa", sum := "124b368dae1c58f3e5b0d210a467f5d8739695c657bd1397ff3fb39b967b2cc5", func := "observatory/observatorylaw40.PreemptApart", spec := "preemptApart", unfollowed := true, recurses := true, apart := false, narrowed := true }
def PreemptApartUptoSaid : Prop := preemptApartUptoRow.holds Try.pinned (OpenSpec.upto preemptApartSpec)

/-- 'observatorylaw40.PreemptScales', WHERE WHAT IT READS IS OF BULK AT MOST 1048576: true; the input reads as it did. -/
def preemptScalesUptoRow : OpenClaim := { program := "ytahlhiiekgnmpaa", sum := "124b368dae1c58f3e5b0d210a467f5d8739695c657bd1397ff3fb39b967b2cc5", func := "observatory/observatorylaw40.PreemptScales", spec := "preemptScales", unfollowed := true, recurses := true, apart := false, narrowed := true }
def PreemptScalesUptoSaid : Prop := preemptScalesUptoRow.holds Try.pinned (OpenSpec.upto preemptScalesSpec)

/-- 'observatorylaw40.PreemptWorst', WHERE WHAT IT READS IS OF BULK AT MOST 1048576: true; the input reads as it did. -/
def preemptWorstUptoRow : OpenClaim := { program := "ytahlhiiekgnmpaa", sum := "124b368dae1c58f3e5b0d210a467f5d8739695c657bd1397ff3fb39b967b2cc5", func := "observatory/observatorylaw40.PreemptWorst", spec := "preemptWorst", unfollowed := true, recurses := true, apart := false, narrowed := true }
def PreemptWorstUptoSaid : Prop := preemptWorstUptoRow.holds Try.pinned (OpenSpec.upto preemptWorstSpec)

/-- 'observatorylaw06.FieldMatchesReference', WHERE WHAT IT READS IS OF BULK AT MOST 1048576: true; the input reads as it did. -/
def fieldMatchesReferenceUptoRow : OpenClaim := { program := "ytahlhiiekgnmpaa", sum := "124b368dae1c58f3e5b0d210a467f5d8739695c657bd1397ff3fb39b967b2cc5", func := "observatory/observatorylaw06.FieldMatchesReference", spec := "fieldMatchesReference", unfollowed := true, recurses := true, apart := false, narrowed := true }
def FieldMatchesReferenceUptoSaid : Prop := fieldMatchesReferenceUptoRow.holds Try.pinned (OpenSpec.upto fieldMatchesReferenceSpec)

end Rows
end Go.Proofs.Ytahlhiiekgnmpaa
