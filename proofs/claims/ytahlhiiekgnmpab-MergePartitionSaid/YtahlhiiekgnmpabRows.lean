/-
  No cell of these rows narrows 'for every input' (looked for: loops, veiled, ifaces, maps, wideKeys, modest, calm, conditions, laid).
  DERIVED. THE GIVEN ROWS OF THIS SEAT. 12 by the template 'for every input the law returns true; each argument reads behind the call as it read before'; 0 by the template 'total and deterministic' (their statements: YtahlhiiekgnmpabTotals.lean).
  GIVEN WITH THE SEED: the statements are not yours to turn. If you find one false, say at which input.
  Laid BY PROGRAM, IN A SANDBOX (cutbox-rows.mjs): the forced cells as the released guide's own fill.sh prints them over the translation 23398fafba6edae1… (all of the seat's roots in one cut). By AI agents, Wed Nov 11 2026. No macro, syntax, notation, axiom, sorry.
-/
import Derived.Test.YtahlhiiekgnmpabChecked
import GoSem.Claim
import GoSem.ClaimJoined
import GoSem.ClaimMapViews
import Derived.JoinedTies
import Derived.KernelRfl
namespace Go.Proofs.Ytahlhiiekgnmpab
/- THE CELL 'sum', in the pinned program and in every row, IS THE sha256 OF THE DUMP (.gsa) THAT YtahlhiiekgnmpabProg.lean LOADS. Nothing in Lean hashes anything: it is a label: what it is worth is what the hold of that sum in a sandbox is worth. -/
noncomputable def Try.pinned : Pinned := { name := "ytahlhiiekgnmpab", sum := "23398fafba6edae11c79a8da3d57ea49cbc5835579259d78ecbe545e2da8c794", checked := Try.checked }
namespace Rows
def none {H : Type} : Left H := { results := [], args := [] }

/-- 'observatorylaw06.FieldLaws': WHATEVER THE INPUT: true; the input reads as it did. -/
def fieldLawsSpec : ChangeSpec := { name := "fieldLaws", fn := fun _ => fun
  | [d1, d2, d3] => { results := [.lit (.bool true)], args := [d1, d2, d3] }
  | _ => none }
def fieldLawsRow : OpenClaim := { program := "ytahlhiiekgnmpab", sum := "23398fafba6edae11c79a8da3d57ea49cbc5835579259d78ecbe545e2da8c794", func := "observatory/observatorylaw06.FieldLaws", spec := "fieldLaws", unfollowed := true, recurses := true, apart := false }
def FieldLawsSaid : Prop := fieldLawsRow.holds Try.pinned (OpenSpec.ofChange fieldLawsSpec)

/-- ITS FALSE NEIGHBOUR: 'it returns false'. Refute it at one input. -/
def fieldLawsWrong : ChangeSpec := { name := "fieldLaws", fn := fun _ => fun
  | [d1, d2, d3] => { results := [.lit (.bool false)], args := [d1, d2, d3] }
  | _ => none }
def FieldLawsWrongFalsely : Prop := fieldLawsRow.holds Try.pinned (OpenSpec.ofChange fieldLawsWrong)

/-- 'observatorylaw06.FieldInverts': WHATEVER THE INPUT: true; the input reads as it did. -/
def fieldInvertsSpec : ChangeSpec := { name := "fieldInverts", fn := fun _ => fun
  | [d1, d2] => { results := [.lit (.bool true)], args := [d1, d2] }
  | _ => none }
def fieldInvertsRow : OpenClaim := { program := "ytahlhiiekgnmpab", sum := "23398fafba6edae11c79a8da3d57ea49cbc5835579259d78ecbe545e2da8c794", func := "observatory/observatorylaw06.FieldInverts", spec := "fieldInverts", unfollowed := true, recurses := true, apart := false }
def FieldInvertsSaid : Prop := fieldInvertsRow.holds Try.pinned (OpenSpec.ofChange fieldInvertsSpec)

/-- ITS FALSE NEIGHBOUR: 'it returns false'. Refute it at one input. -/
def fieldInvertsWrong : ChangeSpec := { name := "fieldInverts", fn := fun _ => fun
  | [d1, d2] => { results := [.lit (.bool false)], args := [d1, d2] }
  | _ => none }
def FieldInvertsWrongFalsely : Prop := fieldInvertsRow.holds Try.pinned (OpenSpec.ofChange fieldInvertsWrong)

/-- 'observatorylaw06.FieldValues': WHATEVER THE INPUT: true; the input reads as it did. -/
def fieldValuesSpec : ChangeSpec := { name := "fieldValues", fn := fun _ => fun
  | [d1, d2, d3, d4] => { results := [.lit (.bool true)], args := [d1, d2, d3, d4] }
  | _ => none }
def fieldValuesRow : OpenClaim := { program := "ytahlhiiekgnmpab", sum := "23398fafba6edae11c79a8da3d57ea49cbc5835579259d78ecbe545e2da8c794", func := "observatory/observatorylaw06.FieldValues", spec := "fieldValues", unfollowed := true, recurses := true, apart := false }
def FieldValuesSaid : Prop := fieldValuesRow.holds Try.pinned (OpenSpec.ofChange fieldValuesSpec)

/-- ITS FALSE NEIGHBOUR: 'it returns false'. Refute it at one input. -/
def fieldValuesWrong : ChangeSpec := { name := "fieldValues", fn := fun _ => fun
  | [d1, d2, d3, d4] => { results := [.lit (.bool false)], args := [d1, d2, d3, d4] }
  | _ => none }
def FieldValuesWrongFalsely : Prop := fieldValuesRow.holds Try.pinned (OpenSpec.ofChange fieldValuesWrong)

/-- 'observatorylaw06.FieldInterpolates': WHATEVER THE INPUT: true; the input reads as it did. -/
def fieldInterpolatesSpec : ChangeSpec := { name := "fieldInterpolates", fn := fun _ => fun
  | [d1, d2, d3] => { results := [.lit (.bool true)], args := [d1, d2, d3] }
  | _ => none }
def fieldInterpolatesRow : OpenClaim := { program := "ytahlhiiekgnmpab", sum := "23398fafba6edae11c79a8da3d57ea49cbc5835579259d78ecbe545e2da8c794", func := "observatory/observatorylaw06.FieldInterpolates", spec := "fieldInterpolates", unfollowed := true, recurses := true, apart := false }
def FieldInterpolatesSaid : Prop := fieldInterpolatesRow.holds Try.pinned (OpenSpec.ofChange fieldInterpolatesSpec)

/-- ITS FALSE NEIGHBOUR: 'it returns false'. Refute it at one input. -/
def fieldInterpolatesWrong : ChangeSpec := { name := "fieldInterpolates", fn := fun _ => fun
  | [d1, d2, d3] => { results := [.lit (.bool false)], args := [d1, d2, d3] }
  | _ => none }
def FieldInterpolatesWrongFalsely : Prop := fieldInterpolatesRow.holds Try.pinned (OpenSpec.ofChange fieldInterpolatesWrong)

/-- 'observatorylaw06.FieldThrough': WHATEVER THE INPUT: true; the input reads as it did. -/
def fieldThroughSpec : ChangeSpec := { name := "fieldThrough", fn := fun _ => fun
  | [d1, d2, d3] => { results := [.lit (.bool true)], args := [d1, d2, d3] }
  | _ => none }
def fieldThroughRow : OpenClaim := { program := "ytahlhiiekgnmpab", sum := "23398fafba6edae11c79a8da3d57ea49cbc5835579259d78ecbe545e2da8c794", func := "observatory/observatorylaw06.FieldThrough", spec := "fieldThrough", unfollowed := true, recurses := true, apart := false }
def FieldThroughSaid : Prop := fieldThroughRow.holds Try.pinned (OpenSpec.ofChange fieldThroughSpec)

/-- ITS FALSE NEIGHBOUR: 'it returns false'. Refute it at one input. -/
def fieldThroughWrong : ChangeSpec := { name := "fieldThrough", fn := fun _ => fun
  | [d1, d2, d3] => { results := [.lit (.bool false)], args := [d1, d2, d3] }
  | _ => none }
def FieldThroughWrongFalsely : Prop := fieldThroughRow.holds Try.pinned (OpenSpec.ofChange fieldThroughWrong)

/-- 'observatorylaw06.FieldFurther': WHATEVER THE INPUT: true; the input reads as it did. -/
def fieldFurtherSpec : ChangeSpec := { name := "fieldFurther", fn := fun _ => fun
  | [d1, d2, d3] => { results := [.lit (.bool true)], args := [d1, d2, d3] }
  | _ => none }
def fieldFurtherRow : OpenClaim := { program := "ytahlhiiekgnmpab", sum := "23398fafba6edae11c79a8da3d57ea49cbc5835579259d78ecbe545e2da8c794", func := "observatory/observatorylaw06.FieldFurther", spec := "fieldFurther", unfollowed := true, recurses := true, apart := false }
def FieldFurtherSaid : Prop := fieldFurtherRow.holds Try.pinned (OpenSpec.ofChange fieldFurtherSpec)

/-- ITS FALSE NEIGHBOUR: 'it returns false'. Refute it at one input. -/
def fieldFurtherWrong : ChangeSpec := { name := "fieldFurther", fn := fun _ => fun
  | [d1, d2, d3] => { results := [.lit (.bool false)], args := [d1, d2, d3] }
  | _ => none }
def FieldFurtherWrongFalsely : Prop := fieldFurtherRow.holds Try.pinned (OpenSpec.ofChange fieldFurtherWrong)

/-- 'observatorylaw38.MergeMatchesReference': WHATEVER THE INPUT: true; the input reads as it did. -/
def mergeMatchesReferenceSpec : ChangeSpec := { name := "mergeMatchesReference", fn := fun _ => fun
  | [d1, d2] => { results := [.lit (.bool true)], args := [d1, d2] }
  | _ => none }
def mergeMatchesReferenceRow : OpenClaim := { program := "ytahlhiiekgnmpab", sum := "23398fafba6edae11c79a8da3d57ea49cbc5835579259d78ecbe545e2da8c794", func := "observatory/observatorylaw38.MergeMatchesReference", spec := "mergeMatchesReference", unfollowed := true, recurses := true, apart := false }
def MergeMatchesReferenceSaid : Prop := mergeMatchesReferenceRow.holds Try.pinned (OpenSpec.ofChange mergeMatchesReferenceSpec)

/-- ITS FALSE NEIGHBOUR: 'it returns false'. Refute it at one input. -/
def mergeMatchesReferenceWrong : ChangeSpec := { name := "mergeMatchesReference", fn := fun _ => fun
  | [d1, d2] => { results := [.lit (.bool false)], args := [d1, d2] }
  | _ => none }
def MergeMatchesReferenceWrongFalsely : Prop := mergeMatchesReferenceRow.holds Try.pinned (OpenSpec.ofChange mergeMatchesReferenceWrong)

/-- 'observatorylaw38.MergeSetAsReference': WHATEVER THE INPUT: true; the input reads as it did. -/
def mergeSetAsReferenceSpec : ChangeSpec := { name := "mergeSetAsReference", fn := fun _ => fun
  | [d1, d2] => { results := [.lit (.bool true)], args := [d1, d2] }
  | _ => none }
def mergeSetAsReferenceRow : OpenClaim := { program := "ytahlhiiekgnmpab", sum := "23398fafba6edae11c79a8da3d57ea49cbc5835579259d78ecbe545e2da8c794", func := "observatory/observatorylaw38.MergeSetAsReference", spec := "mergeSetAsReference", unfollowed := true, recurses := true, apart := false }
def MergeSetAsReferenceSaid : Prop := mergeSetAsReferenceRow.holds Try.pinned (OpenSpec.ofChange mergeSetAsReferenceSpec)

/-- ITS FALSE NEIGHBOUR: 'it returns false'. Refute it at one input. -/
def mergeSetAsReferenceWrong : ChangeSpec := { name := "mergeSetAsReference", fn := fun _ => fun
  | [d1, d2] => { results := [.lit (.bool false)], args := [d1, d2] }
  | _ => none }
def MergeSetAsReferenceWrongFalsely : Prop := mergeSetAsReferenceRow.holds Try.pinned (OpenSpec.ofChange mergeSetAsReferenceWrong)

/-- 'observatorylaw38.MergePartition': WHATEVER THE INPUT: true; the input reads as it did. -/
def mergePartitionSpec : ChangeSpec := { name := "mergePartition", fn := fun _ => fun
  | [d1, d2] => { results := [.lit (.bool true)], args := [d1, d2] }
  | _ => none }
def mergePartitionRow : OpenClaim := { program := "ytahlhiiekgnmpab", sum := "23398fafba6edae11c79a8da3d57ea49cbc5835579259d78ecbe545e2da8c794", func := "observatory/observatorylaw38.MergePartition", spec := "mergePartition", unfollowed := true, recurses := true, apart := false }
def MergePartitionSaid : Prop := mergePartitionRow.holds Try.pinned (OpenSpec.ofChange mergePartitionSpec)

/-- ITS FALSE NEIGHBOUR: 'it returns false'. Refute it at one input. -/
def mergePartitionWrong : ChangeSpec := { name := "mergePartition", fn := fun _ => fun
  | [d1, d2] => { results := [.lit (.bool false)], args := [d1, d2] }
  | _ => none }
def MergePartitionWrongFalsely : Prop := mergePartitionRow.holds Try.pinned (OpenSpec.ofChange mergePartitionWrong)

/-- 'observatorylaw38.MergeOrder': WHATEVER THE INPUT: true; the input reads as it did. -/
def mergeOrderSpec : ChangeSpec := { name := "mergeOrder", fn := fun _ => fun
  | [d1, d2] => { results := [.lit (.bool true)], args := [d1, d2] }
  | _ => none }
def mergeOrderRow : OpenClaim := { program := "ytahlhiiekgnmpab", sum := "23398fafba6edae11c79a8da3d57ea49cbc5835579259d78ecbe545e2da8c794", func := "observatory/observatorylaw38.MergeOrder", spec := "mergeOrder", unfollowed := true, recurses := true, apart := false }
def MergeOrderSaid : Prop := mergeOrderRow.holds Try.pinned (OpenSpec.ofChange mergeOrderSpec)

/-- ITS FALSE NEIGHBOUR: 'it returns false'. Refute it at one input. -/
def mergeOrderWrong : ChangeSpec := { name := "mergeOrder", fn := fun _ => fun
  | [d1, d2] => { results := [.lit (.bool false)], args := [d1, d2] }
  | _ => none }
def MergeOrderWrongFalsely : Prop := mergeOrderRow.holds Try.pinned (OpenSpec.ofChange mergeOrderWrong)

/-- 'observatorylaw38.MergeWindows': WHATEVER THE INPUT: true; the input reads as it did. -/
def mergeWindowsSpec : ChangeSpec := { name := "mergeWindows", fn := fun _ => fun
  | [d1, d2, d3] => { results := [.lit (.bool true)], args := [d1, d2, d3] }
  | _ => none }
def mergeWindowsRow : OpenClaim := { program := "ytahlhiiekgnmpab", sum := "23398fafba6edae11c79a8da3d57ea49cbc5835579259d78ecbe545e2da8c794", func := "observatory/observatorylaw38.MergeWindows", spec := "mergeWindows", unfollowed := true, recurses := true, apart := false }
def MergeWindowsSaid : Prop := mergeWindowsRow.holds Try.pinned (OpenSpec.ofChange mergeWindowsSpec)

/-- ITS FALSE NEIGHBOUR: 'it returns false'. Refute it at one input. -/
def mergeWindowsWrong : ChangeSpec := { name := "mergeWindows", fn := fun _ => fun
  | [d1, d2, d3] => { results := [.lit (.bool false)], args := [d1, d2, d3] }
  | _ => none }
def MergeWindowsWrongFalsely : Prop := mergeWindowsRow.holds Try.pinned (OpenSpec.ofChange mergeWindowsWrong)

/-- 'observatorylaw38.MergeAdds': WHATEVER THE INPUT: true; the input reads as it did. -/
def mergeAddsSpec : ChangeSpec := { name := "mergeAdds", fn := fun _ => fun
  | [d1, d2, d3] => { results := [.lit (.bool true)], args := [d1, d2, d3] }
  | _ => none }
def mergeAddsRow : OpenClaim := { program := "ytahlhiiekgnmpab", sum := "23398fafba6edae11c79a8da3d57ea49cbc5835579259d78ecbe545e2da8c794", func := "observatory/observatorylaw38.MergeAdds", spec := "mergeAdds", unfollowed := true, recurses := true, apart := false }
def MergeAddsSaid : Prop := mergeAddsRow.holds Try.pinned (OpenSpec.ofChange mergeAddsSpec)

/-- ITS FALSE NEIGHBOUR: 'it returns false'. Refute it at one input. -/
def mergeAddsWrong : ChangeSpec := { name := "mergeAdds", fn := fun _ => fun
  | [d1, d2, d3] => { results := [.lit (.bool false)], args := [d1, d2, d3] }
  | _ => none }
def MergeAddsWrongFalsely : Prop := mergeAddsRow.holds Try.pinned (OpenSpec.ofChange mergeAddsWrong)

/- THE SECOND FORM. 'bulk': how many values and letters a reading holds, each counted each time it is reached (what is shared counts as often as it is met; a slice's spare places count too). A statement '..UptoSaid' is the law's where the arguments, and the package variables that the reading takes, are together of bulk at most 1048576: NARROWER than '..Said'. Prove '..Said' where nothing that the law and all that it calls make is longer than what came in: it says more and counts as full. Else prove '..UptoSaid'. A law counts once. -/
mutual
def uptoBulk {H : Type} : DataW H → Nat
  | .lit (.string bytes) => bytes.length + 1
  | .lit _ => 1
  | .nil => 1
  | .ptr d => uptoBulk d + 1
  | .slice elems spare => uptoBulkAll elems + uptoBulkAll spare + 1
  | .agg parts => uptoBulkAll parts + 1
  | .iface _ d => uptoBulk d + 1
  | .map entries => uptoBulkEntries entries + 1
  | .held _ => 1
def uptoBulkAll {H : Type} : List (DataW H) → Nat
  | [] => 0
  | d :: r => uptoBulk d + uptoBulkAll r
def uptoBulkEntries {H : Type} : List (Lit × DataW H) → Nat
  | [] => 0
  | x :: r => uptoBulkEntry x + uptoBulkEntries r
def uptoBulkEntry {H : Type} : Lit × DataW H → Nat
  | (.string bytes, d) => bytes.length + uptoBulk d + 1
  | (_, d) => uptoBulk d + 1
 end
def uptoSmall : (H : Type) → List (DataW H) → Bool := fun _ ds => decide (uptoBulkAll ds ≤ 1048576)
def OpenSpec.upto (s : _root_.Go.ChangeSpec) : _root_.Go.OpenSpec := { _root_.Go.OpenSpec.ofChange s with cond := some uptoSmall }

/-- 'observatorylaw06.FieldLaws', WHERE WHAT IT READS IS OF BULK AT MOST 1048576: true; the input reads as it did. -/
def fieldLawsUptoRow : OpenClaim := { program := "ytahlhiiekgnmpab", sum := "23398fafba6edae11c79a8da3d57ea49cbc5835579259d78ecbe545e2da8c794", func := "observatory/observatorylaw06.FieldLaws", spec := "fieldLaws", unfollowed := true, recurses := true, apart := false, narrowed := true }
def FieldLawsUptoSaid : Prop := fieldLawsUptoRow.holds Try.pinned (OpenSpec.upto fieldLawsSpec)

/-- 'observatorylaw06.FieldInverts', WHERE WHAT IT READS IS OF BULK AT MOST 1048576: true; the input reads as it did. -/
def fieldInvertsUptoRow : OpenClaim := { program := "ytahlhiiekgnmpab", sum := "23398fafba6edae11c79a8da3d57ea49cbc5835579259d78ecbe545e2da8c794", func := "observatory/observatorylaw06.FieldInverts", spec := "fieldInverts", unfollowed := true, recurses := true, apart := false, narrowed := true }
def FieldInvertsUptoSaid : Prop := fieldInvertsUptoRow.holds Try.pinned (OpenSpec.upto fieldInvertsSpec)

/-- 'observatorylaw06.FieldValues', WHERE WHAT IT READS IS OF BULK AT MOST 1048576: true; the input reads as it did. -/
def fieldValuesUptoRow : OpenClaim := { program := "ytahlhiiekgnmpab", sum := "23398fafba6edae11c79a8da3d57ea49cbc5835579259d78ecbe545e2da8c794", func := "observatory/observatorylaw06.FieldValues", spec := "fieldValues", unfollowed := true, recurses := true, apart := false, narrowed := true }
def FieldValuesUptoSaid : Prop := fieldValuesUptoRow.holds Try.pinned (OpenSpec.upto fieldValuesSpec)

/-- 'observatorylaw06.FieldInterpolates', WHERE WHAT IT READS IS OF BULK AT MOST 1048576: true; the input reads as it did. -/
def fieldInterpolatesUptoRow : OpenClaim := { program := "ytahlhiiekgnmpab", sum := "23398fafba6edae11c79a8da3d57ea49cbc5835579259d78ecbe545e2da8c794", func := "observatory/observatorylaw06.FieldInterpolates", spec := "fieldInterpolates", unfollowed := true, recurses := true, apart := false, narrowed := true }
def FieldInterpolatesUptoSaid : Prop := fieldInterpolatesUptoRow.holds Try.pinned (OpenSpec.upto fieldInterpolatesSpec)

/-- 'observatorylaw06.FieldThrough', WHERE WHAT IT READS IS OF BULK AT MOST 1048576: true; the input reads as it did. -/
def fieldThroughUptoRow : OpenClaim := { program := "ytahlhiiekgnmpab", sum := "23398fafba6edae11c79a8da3d57ea49cbc5835579259d78ecbe545e2da8c794", func := "observatory/observatorylaw06.FieldThrough", spec := "fieldThrough", unfollowed := true, recurses := true, apart := false, narrowed := true }
def FieldThroughUptoSaid : Prop := fieldThroughUptoRow.holds Try.pinned (OpenSpec.upto fieldThroughSpec)

/-- 'observatorylaw06.FieldFurther', WHERE WHAT IT READS IS OF BULK AT MOST 1048576: true; the input reads as it did. -/
def fieldFurtherUptoRow : OpenClaim := { program := "ytahlhiiekgnmpab", sum := "23398fafba6edae11c79a8da3d57ea49cbc5835579259d78ecbe545e2da8c794", func := "observatory/observatorylaw06.FieldFurther", spec := "fieldFurther", unfollowed := true, recurses := true, apart := false, narrowed := true }
def FieldFurtherUptoSaid : Prop := fieldFurtherUptoRow.holds Try.pinned (OpenSpec.upto fieldFurtherSpec)

/-- 'observatorylaw38.MergeMatchesReference', WHERE WHAT IT READS IS OF BULK AT MOST 1048576: true; the input reads as it did. -/
def mergeMatchesReferenceUptoRow : OpenClaim := { program := "ytahlhiiekgnmpab", sum := "23398fafba6edae11c79a8da3d57ea49cbc5835579259d78ecbe545e2da8c794", func := "observatory/observatorylaw38.MergeMatchesReference", spec := "mergeMatchesReference", unfollowed := true, recurses := true, apart := false, narrowed := true }
def MergeMatchesReferenceUptoSaid : Prop := mergeMatchesReferenceUptoRow.holds Try.pinned (OpenSpec.upto mergeMatchesReferenceSpec)

/-- 'observatorylaw38.MergeSetAsReference', WHERE WHAT IT READS IS OF BULK AT MOST 1048576: true; the input reads as it did. -/
def mergeSetAsReferenceUptoRow : OpenClaim := { program := "ytahlhiiekgnmpab", sum := "23398fafba6edae11c79a8da3d57ea49cbc5835579259d78ecbe545e2da8c794", func := "observatory/observatorylaw38.MergeSetAsReference", spec := "mergeSetAsReference", unfollowed := true, recurses := true, apart := false, narrowed := true }
def MergeSetAsReferenceUptoSaid : Prop := mergeSetAsReferenceUptoRow.holds Try.pinned (OpenSpec.upto mergeSetAsReferenceSpec)

/-- 'observatorylaw38.MergePartition', WHERE WHAT IT READS IS OF BULK AT MOST 1048576: true; the input reads as it did. -/
def mergePartitionUptoRow : OpenClaim := { program := "ytahlhiiekgnmpab", sum := "23398fafba6edae11c79a8da3d57ea49cbc5835579259d78ecbe545e2da8c794", func := "observatory/observatorylaw38.MergePartition", spec := "mergePartition", unfollowed := true, recurses := true, apart := false, narrowed := true }
def MergePartitionUptoSaid : Prop := mergePartitionUptoRow.holds Try.pinned (OpenSpec.upto mergePartitionSpec)

/-- 'observatorylaw38.MergeOrder', WHERE WHAT IT READS IS OF BULK AT MOST 1048576: true; the input reads as it did. -/
def mergeOrderUptoRow : OpenClaim := { program := "ytahlhiiekgnmpab", sum := "23398fafba6edae11c79a8da3d57ea49cbc5835579259d78ecbe545e2da8c794", func := "observatory/observatorylaw38.MergeOrder", spec := "mergeOrder", unfollowed := true, recurses := true, apart := false, narrowed := true }
def MergeOrderUptoSaid : Prop := mergeOrderUptoRow.holds Try.pinned (OpenSpec.upto mergeOrderSpec)

/-- 'observatorylaw38.MergeWindows', WHERE WHAT IT READS IS OF BULK AT MOST 1048576: true; the input reads as it did. -/
def mergeWindowsUptoRow : OpenClaim := { program := "ytahlhiiekgnmpab", sum := "23398fafba6edae11c79a8da3d57ea49cbc5835579259d78ecbe545e2da8c794", func := "observatory/observatorylaw38.MergeWindows", spec := "mergeWindows", unfollowed := true, recurses := true, apart := false, narrowed := true }
def MergeWindowsUptoSaid : Prop := mergeWindowsUptoRow.holds Try.pinned (OpenSpec.upto mergeWindowsSpec)

/-- 'observatorylaw38.MergeAdds', WHERE WHAT IT READS IS OF BULK AT MOST 1048576: true; the input reads as it did. -/
def mergeAddsUptoRow : OpenClaim := { program := "ytahlhiiekgnmpab", sum := "23398fafba6edae11c79a8da3d57ea49cbc5835579259d78ecbe545e2da8c794", func := "observatory/observatorylaw38.MergeAdds", spec := "mergeAdds", unfollowed := true, recurses := true, apart := false, narrowed := true }
def MergeAddsUptoSaid : Prop := mergeAddsUptoRow.holds Try.pinned (OpenSpec.upto mergeAddsSpec)

end Rows
end Go.Proofs.Ytahlhiiekgnmpab
