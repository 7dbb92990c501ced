/-
  No cell of these rows narrows 'for every input' (looked for: loops, veiled, ifaces, maps, wideKeys, modest, calm, conditions, laid).
  DERIVED. THE GIVEN ROWS OF THIS SEAT. 9 by the template 'for every input the law returns true; each argument reads behind the call as it read before'; 0 by the template 'total and deterministic' (their statements: YtfccbmpfnonjiaaTotals.lean).
  GIVEN WITH THE SEED: the statements are not yours to turn. If you find one false, say at which input.
  Laid BY PROGRAM, IN A SANDBOX (cutbox-rows.mjs): the forced cells as the released guide's own fill.sh prints them over the translation 4b8abad980c04765… (all of the seat's roots in one cut). By AI agents, Wed Nov 11 2026. No macro, syntax, notation, axiom, sorry.
-/
import Derived.Test.YtfccbmpfnonjiaaChecked
import GoSem.Claim
import GoSem.ClaimJoined
import GoSem.ClaimMapViews
import Derived.JoinedTies
import Derived.KernelRfl
namespace Go.Proofs.Ytfccbmpfnonjiaa
/- THE CELL 'sum', in the pinned program and in every row, IS THE sha256 OF THE DUMP (.gsa) THAT YtfccbmpfnonjiaaProg.lean LOADS. Nothing in Lean hashes anything: it is a label: what it is worth is what the hold of that sum in a sandbox is worth. -/
noncomputable def Try.pinned : Pinned := { name := "ytfccbmpfnonjiaa", sum := "4b8abad980c04765bdaeabbfe1f7cabce41e5f89cb69c5cd978fa2f41ccf0d76", checked := Try.checked }
namespace Rows
def none {H : Type} : Left H := { results := [], args := [] }

/-- 'laws.FnExactWindStep': WHATEVER THE INPUT: true; the input reads as it did. -/
def fnExactWindStepSpec : ChangeSpec := { name := "fnExactWindStep", fn := fun _ => fun
  | [d] => { results := [.lit (.bool true)], args := [d] }
  | _ => none }
def fnExactWindStepRow : OpenClaim := { program := "ytfccbmpfnonjiaa", sum := "4b8abad980c04765bdaeabbfe1f7cabce41e5f89cb69c5cd978fa2f41ccf0d76", func := "loop.example/g01126/laws.FnExactWindStep", spec := "fnExactWindStep", unfollowed := true, recurses := true, apart := false }
def FnExactWindStepSaid : Prop := fnExactWindStepRow.holds Try.pinned (OpenSpec.ofChange fnExactWindStepSpec)

/-- ITS FALSE NEIGHBOUR: 'it returns false'. Refute it at one input. -/
def fnExactWindStepWrong : ChangeSpec := { name := "fnExactWindStep", fn := fun _ => fun
  | [d] => { results := [.lit (.bool false)], args := [d] }
  | _ => none }
def FnExactWindStepWrongFalsely : Prop := fnExactWindStepRow.holds Try.pinned (OpenSpec.ofChange fnExactWindStepWrong)

/-- 'laws.FnExactIndexOfThree': WHATEVER THE INPUT: true; the input reads as it did. -/
def fnExactIndexOfThreeSpec : ChangeSpec := { name := "fnExactIndexOfThree", fn := fun _ => fun
  | [d1, d2, d3] => { results := [.lit (.bool true)], args := [d1, d2, d3] }
  | _ => none }
def fnExactIndexOfThreeRow : OpenClaim := { program := "ytfccbmpfnonjiaa", sum := "4b8abad980c04765bdaeabbfe1f7cabce41e5f89cb69c5cd978fa2f41ccf0d76", func := "loop.example/g01126/laws.FnExactIndexOfThree", spec := "fnExactIndexOfThree", unfollowed := true, recurses := true, apart := false }
def FnExactIndexOfThreeSaid : Prop := fnExactIndexOfThreeRow.holds Try.pinned (OpenSpec.ofChange fnExactIndexOfThreeSpec)

/-- ITS FALSE NEIGHBOUR: 'it returns false'. Refute it at one input. -/
def fnExactIndexOfThreeWrong : ChangeSpec := { name := "fnExactIndexOfThree", fn := fun _ => fun
  | [d1, d2, d3] => { results := [.lit (.bool false)], args := [d1, d2, d3] }
  | _ => none }
def FnExactIndexOfThreeWrongFalsely : Prop := fnExactIndexOfThreeRow.holds Try.pinned (OpenSpec.ofChange fnExactIndexOfThreeWrong)

/-- 'laws.FnExactIndexOfTwo': WHATEVER THE INPUT: true; the input reads as it did. -/
def fnExactIndexOfTwoSpec : ChangeSpec := { name := "fnExactIndexOfTwo", fn := fun _ => fun
  | [d1, d2] => { results := [.lit (.bool true)], args := [d1, d2] }
  | _ => none }
def fnExactIndexOfTwoRow : OpenClaim := { program := "ytfccbmpfnonjiaa", sum := "4b8abad980c04765bdaeabbfe1f7cabce41e5f89cb69c5cd978fa2f41ccf0d76", func := "loop.example/g01126/laws.FnExactIndexOfTwo", spec := "fnExactIndexOfTwo", unfollowed := true, recurses := true, apart := false }
def FnExactIndexOfTwoSaid : Prop := fnExactIndexOfTwoRow.holds Try.pinned (OpenSpec.ofChange fnExactIndexOfTwoSpec)

/-- ITS FALSE NEIGHBOUR: 'it returns false'. Refute it at one input. -/
def fnExactIndexOfTwoWrong : ChangeSpec := { name := "fnExactIndexOfTwo", fn := fun _ => fun
  | [d1, d2] => { results := [.lit (.bool false)], args := [d1, d2] }
  | _ => none }
def FnExactIndexOfTwoWrongFalsely : Prop := fnExactIndexOfTwoRow.holds Try.pinned (OpenSpec.ofChange fnExactIndexOfTwoWrong)

/-- 'laws.FnExactCountByIndex': WHATEVER THE INPUT: true; the input reads as it did. -/
def fnExactCountByIndexSpec : ChangeSpec := { name := "fnExactCountByIndex", fn := fun _ => fun
  | [d] => { results := [.lit (.bool true)], args := [d] }
  | _ => none }
def fnExactCountByIndexRow : OpenClaim := { program := "ytfccbmpfnonjiaa", sum := "4b8abad980c04765bdaeabbfe1f7cabce41e5f89cb69c5cd978fa2f41ccf0d76", func := "loop.example/g01126/laws.FnExactCountByIndex", spec := "fnExactCountByIndex", recurses := true, apart := false }
def FnExactCountByIndexSaid : Prop := fnExactCountByIndexRow.holds Try.pinned (OpenSpec.ofChange fnExactCountByIndexSpec)

/-- ITS FALSE NEIGHBOUR: 'it returns false'. Refute it at one input. -/
def fnExactCountByIndexWrong : ChangeSpec := { name := "fnExactCountByIndex", fn := fun _ => fun
  | [d] => { results := [.lit (.bool false)], args := [d] }
  | _ => none }
def FnExactCountByIndexWrongFalsely : Prop := fnExactCountByIndexRow.holds Try.pinned (OpenSpec.ofChange fnExactCountByIndexWrong)

/-- 'laws.FnExactCountBoth': WHATEVER THE INPUT: true; the input reads as it did. -/
def fnExactCountBothSpec : ChangeSpec := { name := "fnExactCountBoth", fn := fun _ => fun
  | [d] => { results := [.lit (.bool true)], args := [d] }
  | _ => none }
def fnExactCountBothRow : OpenClaim := { program := "ytfccbmpfnonjiaa", sum := "4b8abad980c04765bdaeabbfe1f7cabce41e5f89cb69c5cd978fa2f41ccf0d76", func := "loop.example/g01126/laws.FnExactCountBoth", spec := "fnExactCountBoth", unfollowed := true, recurses := true, apart := false }
def FnExactCountBothSaid : Prop := fnExactCountBothRow.holds Try.pinned (OpenSpec.ofChange fnExactCountBothSpec)

/-- ITS FALSE NEIGHBOUR: 'it returns false'. Refute it at one input. -/
def fnExactCountBothWrong : ChangeSpec := { name := "fnExactCountBoth", fn := fun _ => fun
  | [d] => { results := [.lit (.bool false)], args := [d] }
  | _ => none }
def FnExactCountBothWrongFalsely : Prop := fnExactCountBothRow.holds Try.pinned (OpenSpec.ofChange fnExactCountBothWrong)

/-- 'laws.FnExactIndexOf': WHATEVER THE INPUT: true; the input reads as it did. -/
def fnExactIndexOfSpec : ChangeSpec := { name := "fnExactIndexOf", fn := fun _ => fun
  | [d] => { results := [.lit (.bool true)], args := [d] }
  | _ => none }
def fnExactIndexOfRow : OpenClaim := { program := "ytfccbmpfnonjiaa", sum := "4b8abad980c04765bdaeabbfe1f7cabce41e5f89cb69c5cd978fa2f41ccf0d76", func := "loop.example/g01126/laws.FnExactIndexOf", spec := "fnExactIndexOf", unfollowed := true, recurses := true, apart := false }
def FnExactIndexOfSaid : Prop := fnExactIndexOfRow.holds Try.pinned (OpenSpec.ofChange fnExactIndexOfSpec)

/-- ITS FALSE NEIGHBOUR: 'it returns false'. Refute it at one input. -/
def fnExactIndexOfWrong : ChangeSpec := { name := "fnExactIndexOf", fn := fun _ => fun
  | [d] => { results := [.lit (.bool false)], args := [d] }
  | _ => none }
def FnExactIndexOfWrongFalsely : Prop := fnExactIndexOfRow.holds Try.pinned (OpenSpec.ofChange fnExactIndexOfWrong)

/-- 'laws.FnExactCyclesOf': WHATEVER THE INPUT: true; the input reads as it did. -/
def fnExactCyclesOfSpec : ChangeSpec := { name := "fnExactCyclesOf", fn := fun _ => fun
  | [d] => { results := [.lit (.bool true)], args := [d] }
  | _ => none }
def fnExactCyclesOfRow : OpenClaim := { program := "ytfccbmpfnonjiaa", sum := "4b8abad980c04765bdaeabbfe1f7cabce41e5f89cb69c5cd978fa2f41ccf0d76", func := "loop.example/g01126/laws.FnExactCyclesOf", spec := "fnExactCyclesOf", unfollowed := true, recurses := true, apart := false }
def FnExactCyclesOfSaid : Prop := fnExactCyclesOfRow.holds Try.pinned (OpenSpec.ofChange fnExactCyclesOfSpec)

/-- ITS FALSE NEIGHBOUR: 'it returns false'. Refute it at one input. -/
def fnExactCyclesOfWrong : ChangeSpec := { name := "fnExactCyclesOf", fn := fun _ => fun
  | [d] => { results := [.lit (.bool false)], args := [d] }
  | _ => none }
def FnExactCyclesOfWrongFalsely : Prop := fnExactCyclesOfRow.holds Try.pinned (OpenSpec.ofChange fnExactCyclesOfWrong)

/-- 'laws.FnExactPathsOf': WHATEVER THE INPUT: true; the input reads as it did. -/
def fnExactPathsOfSpec : ChangeSpec := { name := "fnExactPathsOf", fn := fun _ => fun
  | [d] => { results := [.lit (.bool true)], args := [d] }
  | _ => none }
def fnExactPathsOfRow : OpenClaim := { program := "ytfccbmpfnonjiaa", sum := "4b8abad980c04765bdaeabbfe1f7cabce41e5f89cb69c5cd978fa2f41ccf0d76", func := "loop.example/g01126/laws.FnExactPathsOf", spec := "fnExactPathsOf", unfollowed := true, recurses := true, apart := false }
def FnExactPathsOfSaid : Prop := fnExactPathsOfRow.holds Try.pinned (OpenSpec.ofChange fnExactPathsOfSpec)

/-- ITS FALSE NEIGHBOUR: 'it returns false'. Refute it at one input. -/
def fnExactPathsOfWrong : ChangeSpec := { name := "fnExactPathsOf", fn := fun _ => fun
  | [d] => { results := [.lit (.bool false)], args := [d] }
  | _ => none }
def FnExactPathsOfWrongFalsely : Prop := fnExactPathsOfRow.holds Try.pinned (OpenSpec.ofChange fnExactPathsOfWrong)

/-- 'laws.FnSeaweedsIndexed': WHATEVER THE INPUT: true; the input reads as it did. -/
def fnSeaweedsIndexedSpec : ChangeSpec := { name := "fnSeaweedsIndexed", fn := fun _ => fun
  | [d1, d2] => { results := [.lit (.bool true)], args := [d1, d2] }
  | _ => none }
def fnSeaweedsIndexedRow : OpenClaim := { program := "ytfccbmpfnonjiaa", sum := "4b8abad980c04765bdaeabbfe1f7cabce41e5f89cb69c5cd978fa2f41ccf0d76", func := "loop.example/g01126/laws.FnSeaweedsIndexed", spec := "fnSeaweedsIndexed", unfollowed := true, recurses := true, apart := false }
def FnSeaweedsIndexedSaid : Prop := fnSeaweedsIndexedRow.holds Try.pinned (OpenSpec.ofChange fnSeaweedsIndexedSpec)

/-- ITS FALSE NEIGHBOUR: 'it returns false'. Refute it at one input. -/
def fnSeaweedsIndexedWrong : ChangeSpec := { name := "fnSeaweedsIndexed", fn := fun _ => fun
  | [d1, d2] => { results := [.lit (.bool false)], args := [d1, d2] }
  | _ => none }
def FnSeaweedsIndexedWrongFalsely : Prop := fnSeaweedsIndexedRow.holds Try.pinned (OpenSpec.ofChange fnSeaweedsIndexedWrong)

/- THE SECOND FORM. 'bulk': how many values and letters a reading holds, each counted each time it is reached (what is shared counts as often as it is met; a slice's spare places count too). A statement '..UptoSaid' is the law's where the arguments, and the package variables that the reading takes, are together of bulk at most 1048576: NARROWER than '..Said'. Prove '..Said' where nothing that the law and all that it calls make is longer than what came in: it says more and counts as full. Else prove '..UptoSaid'. A law counts once. -/
mutual
def uptoBulk {H : Type} : DataW H → Nat
  | .lit (.string bytes) => bytes.length + 1
  | .lit _ => 1
  | .nil => 1
  | .ptr d => uptoBulk d + 1
  | .slice elems spare => uptoBulkAll elems + uptoBulkAll spare + 1
  | .agg parts => uptoBulkAll parts + 1
  | .iface _ d => uptoBulk d + 1
  | .map entries => uptoBulkEntries entries + 1
  | .held _ => 1
def uptoBulkAll {H : Type} : List (DataW H) → Nat
  | [] => 0
  | d :: r => uptoBulk d + uptoBulkAll r
def uptoBulkEntries {H : Type} : List (Lit × DataW H) → Nat
  | [] => 0
  | x :: r => uptoBulkEntry x + uptoBulkEntries r
def uptoBulkEntry {H : Type} : Lit × DataW H → Nat
  | (.string bytes, d) => bytes.length + uptoBulk d + 1
  | (_, d) => uptoBulk d + 1
 end
def uptoSmall : (H : Type) → List (DataW H) → Bool := fun _ ds => decide (uptoBulkAll ds ≤ 1048576)
def OpenSpec.upto (s : _root_.Go.ChangeSpec) : _root_.Go.OpenSpec := { _root_.Go.OpenSpec.ofChange s with cond := some uptoSmall }

/-- 'laws.FnExactWindStep', WHERE WHAT IT READS IS OF BULK AT MOST 1048576: true; the input reads as it did. -/
def fnExactWindStepUptoRow : OpenClaim := { program := "ytfccbmpfnonjiaa", sum := "4b8abad980c04765bdaeabbfe1f7cabce41e5f89cb69c5cd978fa2f41ccf0d76", func := "loop.example/g01126/laws.FnExactWindStep", spec := "fnExactWindStep", unfollowed := true, recurses := true, apart := false, narrowed := true }
def FnExactWindStepUptoSaid : Prop := fnExactWindStepUptoRow.holds Try.pinned (OpenSpec.upto fnExactWindStepSpec)

/-- 'laws.FnExactIndexOfThree', WHERE WHAT IT READS IS OF BULK AT MOST 1048576: true; the input reads as it did. -/
def fnExactIndexOfThreeUptoRow : OpenClaim := { program := "ytfccbmpfnonjiaa", sum := "4b8abad980c04765bdaeabbfe1f7cabce41e5f89cb69c5cd978fa2f41ccf0d76", func := "loop.example/g01126/laws.FnExactIndexOfThree", spec := "fnExactIndexOfThree", unfollowed := true, recurses := true, apart := false, narrowed := true }
def FnExactIndexOfThreeUptoSaid : Prop := fnExactIndexOfThreeUptoRow.holds Try.pinned (OpenSpec.upto fnExactIndexOfThreeSpec)

/-- 'laws.FnExactIndexOfTwo', WHERE WHAT IT READS IS OF BULK AT MOST 1048576: true; the input reads as it did. -/
def fnExactIndexOfTwoUptoRow : OpenClaim := { program := "ytfccbmpfnonjiaa", sum := "4b8abad980c04765bdaeabbfe1f7cabce41e5f89cb69c5cd978fa2f41ccf0d76", func := "loop.example/g01126/laws.FnExactIndexOfTwo", spec := "fnExactIndexOfTwo", unfollowed := true, recurses := true, apart := false, narrowed := true }
def FnExactIndexOfTwoUptoSaid : Prop := fnExactIndexOfTwoUptoRow.holds Try.pinned (OpenSpec.upto fnExactIndexOfTwoSpec)

/-- 'laws.FnExactCountByIndex', WHERE WHAT IT READS IS OF BULK AT MOST 1048576: true; the input reads as it did. -/
def fnExactCountByIndexUptoRow : OpenClaim := { program := "ytfccbmpfnonjiaa", sum := "4b8abad980c04765bdaeabbfe1f7cabce41e5f89cb69c5cd978fa2f41ccf0d76", func := "loop.example/g01126/laws.FnExactCountByIndex", spec := "fnExactCountByIndex", recurses := true, apart := false, narrowed := true }
def FnExactCountByIndexUptoSaid : Prop := fnExactCountByIndexUptoRow.holds Try.pinned (OpenSpec.upto fnExactCountByIndexSpec)

/-- 'laws.FnExactCountBoth', WHERE WHAT IT READS IS OF BULK AT MOST 1048576: true; the input reads as it did. -/
def fnExactCountBothUptoRow : OpenClaim := { program := "ytfccbmpfnonjiaa", sum := "4b8abad980c04765bdaeabbfe1f7cabce41e5f89cb69c5cd978fa2f41ccf0d76", func := "loop.example/g01126/laws.FnExactCountBoth", spec := "fnExactCountBoth", unfollowed := true, recurses := true, apart := false, narrowed := true }
def FnExactCountBothUptoSaid : Prop := fnExactCountBothUptoRow.holds Try.pinned (OpenSpec.upto fnExactCountBothSpec)

/-- 'laws.FnExactIndexOf', WHERE WHAT IT READS IS OF BULK AT MOST 1048576: true; the input reads as it did. -/
def fnExactIndexOfUptoRow : OpenClaim := { program := "ytfccbmpfnonjiaa", sum := "4b8abad980c04765bdaeabbfe1f7cabce41e5f89cb69c5cd978fa2f41ccf0d76", func := "loop.example/g01126/laws.FnExactIndexOf", spec := "fnExactIndexOf", unfollowed := true, recurses := true, apart := false, narrowed := true }
def FnExactIndexOfUptoSaid : Prop := fnExactIndexOfUptoRow.holds Try.pinned (OpenSpec.upto fnExactIndexOfSpec)

/-- 'laws.FnExactCyclesOf', WHERE WHAT IT READS IS OF BULK AT MOST 1048576: true; the input reads as it did. -/
def fnExactCyclesOfUptoRow : OpenClaim := { program := "ytfccbmpfnonjiaa", sum := "4b8abad980c04765bdaeabbfe1f7cabce41e5f89cb69c5cd978fa2f41ccf0d76", func := "loop.example/g01126/laws.FnExactCyclesOf", spec := "fnExactCyclesOf", unfollowed := true, recurses := true, apart := false, narrowed := true }
def FnExactCyclesOfUptoSaid : Prop := fnExactCyclesOfUptoRow.holds Try.pinned (OpenSpec.upto fnExactCyclesOfSpec)

/-- 'laws.FnExactPathsOf', WHERE WHAT IT READS IS OF BULK AT MOST 1048576: true; the input reads as it did. -/
def fnExactPathsOfUptoRow : OpenClaim := { program := "ytfccbmpfnonjiaa", sum := "4b8abad980c04765bdaeabbfe1f7cabce41e5f89cb69c5cd978fa2f41ccf0d76", func := "loop.example/g01126/laws.FnExactPathsOf", spec := "fnExactPathsOf", unfollowed := true, recurses := true, apart := false, narrowed := true }
def FnExactPathsOfUptoSaid : Prop := fnExactPathsOfUptoRow.holds Try.pinned (OpenSpec.upto fnExactPathsOfSpec)

/-- 'laws.FnSeaweedsIndexed', WHERE WHAT IT READS IS OF BULK AT MOST 1048576: true; the input reads as it did. -/
def fnSeaweedsIndexedUptoRow : OpenClaim := { program := "ytfccbmpfnonjiaa", sum := "4b8abad980c04765bdaeabbfe1f7cabce41e5f89cb69c5cd978fa2f41ccf0d76", func := "loop.example/g01126/laws.FnSeaweedsIndexed", spec := "fnSeaweedsIndexed", unfollowed := true, recurses := true, apart := false, narrowed := true }
def FnSeaweedsIndexedUptoSaid : Prop := fnSeaweedsIndexedUptoRow.holds Try.pinned (OpenSpec.upto fnSeaweedsIndexedSpec)

end Rows
end Go.Proofs.Ytfccbmpfnonjiaa
