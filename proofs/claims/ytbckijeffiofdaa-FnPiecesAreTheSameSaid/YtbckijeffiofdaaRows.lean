/-
  No cell of these rows narrows 'for every input' (looked for: loops, veiled, ifaces, maps, wideKeys, modest, calm, conditions, laid).
  DERIVED. THE GIVEN ROWS OF THIS SEAT. 18 by the template 'for every input the law returns true; each argument reads behind the call as it read before'; 0 by the template 'total and deterministic' (their statements: YtbckijeffiofdaaTotals.lean).
  GIVEN WITH THE SEED: the statements are not yours to turn. If you find one false, say at which input.
  Laid BY PROGRAM, IN A SANDBOX (cutbox-rows.mjs): the forced cells as the released guide's own fill.sh prints them over the translation 4dab95c0dac0ce38… (all of the seat's roots in one cut). By AI agents, Wed Nov 11 2026. No macro, syntax, notation, axiom, sorry.
-/
import Derived.Test.YtbckijeffiofdaaChecked
import GoSem.Claim
import GoSem.ClaimJoined
import GoSem.ClaimMapViews
import Derived.JoinedTies
import Derived.KernelRfl
namespace Go.Proofs.Ytbckijeffiofdaa
/- THE CELL 'sum', in the pinned program and in every row, IS THE sha256 OF THE DUMP (.gsa) THAT YtbckijeffiofdaaProg.lean LOADS. Nothing in Lean hashes anything: it is a label: what it is worth is what the hold of that sum in a sandbox is worth. -/
noncomputable def Try.pinned : Pinned := { name := "ytbckijeffiofdaa", sum := "4dab95c0dac0ce388244502a6100192e9612632693dc102bd7372e218cc4e867", checked := Try.checked }
namespace Rows
def none {H : Type} : Left H := { results := [], args := [] }

/-- 'laws.FnExactIsClosed': WHATEVER THE INPUT: true; the input reads as it did. -/
def fnExactIsClosedSpec : ChangeSpec := { name := "fnExactIsClosed", fn := fun _ => fun
  | [d1, d2, d3] => { results := [.lit (.bool true)], args := [d1, d2, d3] }
  | _ => none }
def fnExactIsClosedRow : OpenClaim := { program := "ytbckijeffiofdaa", sum := "4dab95c0dac0ce388244502a6100192e9612632693dc102bd7372e218cc4e867", func := "loop.example/g01126/laws.FnExactIsClosed", spec := "fnExactIsClosed", apart := false }
def FnExactIsClosedSaid : Prop := fnExactIsClosedRow.holds Try.pinned (OpenSpec.ofChange fnExactIsClosedSpec)

/-- ITS FALSE NEIGHBOUR: 'it returns false'. Refute it at one input. -/
def fnExactIsClosedWrong : ChangeSpec := { name := "fnExactIsClosed", fn := fun _ => fun
  | [d1, d2, d3] => { results := [.lit (.bool false)], args := [d1, d2, d3] }
  | _ => none }
def FnExactIsClosedWrongFalsely : Prop := fnExactIsClosedRow.holds Try.pinned (OpenSpec.ofChange fnExactIsClosedWrong)

/-- 'laws.FnExactIsWhole': WHATEVER THE INPUT: true; the input reads as it did. -/
def fnExactIsWholeSpec : ChangeSpec := { name := "fnExactIsWhole", fn := fun _ => fun
  | [d] => { results := [.lit (.bool true)], args := [d] }
  | _ => none }
def fnExactIsWholeRow : OpenClaim := { program := "ytbckijeffiofdaa", sum := "4dab95c0dac0ce388244502a6100192e9612632693dc102bd7372e218cc4e867", func := "loop.example/g01126/laws.FnExactIsWhole", spec := "fnExactIsWhole", apart := false }
def FnExactIsWholeSaid : Prop := fnExactIsWholeRow.holds Try.pinned (OpenSpec.ofChange fnExactIsWholeSpec)

/-- ITS FALSE NEIGHBOUR: 'it returns false'. Refute it at one input. -/
def fnExactIsWholeWrong : ChangeSpec := { name := "fnExactIsWhole", fn := fun _ => fun
  | [d] => { results := [.lit (.bool false)], args := [d] }
  | _ => none }
def FnExactIsWholeWrongFalsely : Prop := fnExactIsWholeRow.holds Try.pinned (OpenSpec.ofChange fnExactIsWholeWrong)

/-- 'laws.FnExactShortestClosed': WHATEVER THE INPUT: true; the input reads as it did. -/
def fnExactShortestClosedSpec : ChangeSpec := { name := "fnExactShortestClosed", fn := fun _ => fun
  | [d] => { results := [.lit (.bool true)], args := [d] }
  | _ => none }
def fnExactShortestClosedRow : OpenClaim := { program := "ytbckijeffiofdaa", sum := "4dab95c0dac0ce388244502a6100192e9612632693dc102bd7372e218cc4e867", func := "loop.example/g01126/laws.FnExactShortestClosed", spec := "fnExactShortestClosed", apart := false }
def FnExactShortestClosedSaid : Prop := fnExactShortestClosedRow.holds Try.pinned (OpenSpec.ofChange fnExactShortestClosedSpec)

/-- ITS FALSE NEIGHBOUR: 'it returns false'. Refute it at one input. -/
def fnExactShortestClosedWrong : ChangeSpec := { name := "fnExactShortestClosed", fn := fun _ => fun
  | [d] => { results := [.lit (.bool false)], args := [d] }
  | _ => none }
def FnExactShortestClosedWrongFalsely : Prop := fnExactShortestClosedRow.holds Try.pinned (OpenSpec.ofChange fnExactShortestClosedWrong)

/-- 'laws.FnExactClosedStretches': WHATEVER THE INPUT: true; the input reads as it did. -/
def fnExactClosedStretchesSpec : ChangeSpec := { name := "fnExactClosedStretches", fn := fun _ => fun
  | [d] => { results := [.lit (.bool true)], args := [d] }
  | _ => none }
def fnExactClosedStretchesRow : OpenClaim := { program := "ytbckijeffiofdaa", sum := "4dab95c0dac0ce388244502a6100192e9612632693dc102bd7372e218cc4e867", func := "loop.example/g01126/laws.FnExactClosedStretches", spec := "fnExactClosedStretches", apart := false }
def FnExactClosedStretchesSaid : Prop := fnExactClosedStretchesRow.holds Try.pinned (OpenSpec.ofChange fnExactClosedStretchesSpec)

/-- ITS FALSE NEIGHBOUR: 'it returns false'. Refute it at one input. -/
def fnExactClosedStretchesWrong : ChangeSpec := { name := "fnExactClosedStretches", fn := fun _ => fun
  | [d] => { results := [.lit (.bool false)], args := [d] }
  | _ => none }
def FnExactClosedStretchesWrongFalsely : Prop := fnExactClosedStretchesRow.holds Try.pinned (OpenSpec.ofChange fnExactClosedStretchesWrong)

/-- 'laws.FnExactInsideOf': WHATEVER THE INPUT: true; the input reads as it did. -/
def fnExactInsideOfSpec : ChangeSpec := { name := "fnExactInsideOf", fn := fun _ => fun
  | [d1, d2, d3] => { results := [.lit (.bool true)], args := [d1, d2, d3] }
  | _ => none }
def fnExactInsideOfRow : OpenClaim := { program := "ytbckijeffiofdaa", sum := "4dab95c0dac0ce388244502a6100192e9612632693dc102bd7372e218cc4e867", func := "loop.example/g01126/laws.FnExactInsideOf", spec := "fnExactInsideOf", unfollowed := true, recurses := true, apart := false }
def FnExactInsideOfSaid : Prop := fnExactInsideOfRow.holds Try.pinned (OpenSpec.ofChange fnExactInsideOfSpec)

/-- ITS FALSE NEIGHBOUR: 'it returns false'. Refute it at one input. -/
def fnExactInsideOfWrong : ChangeSpec := { name := "fnExactInsideOf", fn := fun _ => fun
  | [d1, d2, d3] => { results := [.lit (.bool false)], args := [d1, d2, d3] }
  | _ => none }
def FnExactInsideOfWrongFalsely : Prop := fnExactInsideOfRow.holds Try.pinned (OpenSpec.ofChange fnExactInsideOfWrong)

/-- 'laws.FnExactOutsideOf': WHATEVER THE INPUT: true; the input reads as it did. -/
def fnExactOutsideOfSpec : ChangeSpec := { name := "fnExactOutsideOf", fn := fun _ => fun
  | [d1, d2, d3] => { results := [.lit (.bool true)], args := [d1, d2, d3] }
  | _ => none }
def fnExactOutsideOfRow : OpenClaim := { program := "ytbckijeffiofdaa", sum := "4dab95c0dac0ce388244502a6100192e9612632693dc102bd7372e218cc4e867", func := "loop.example/g01126/laws.FnExactOutsideOf", spec := "fnExactOutsideOf", unfollowed := true, recurses := true, apart := false }
def FnExactOutsideOfSaid : Prop := fnExactOutsideOfRow.holds Try.pinned (OpenSpec.ofChange fnExactOutsideOfSpec)

/-- ITS FALSE NEIGHBOUR: 'it returns false'. Refute it at one input. -/
def fnExactOutsideOfWrong : ChangeSpec := { name := "fnExactOutsideOf", fn := fun _ => fun
  | [d1, d2, d3] => { results := [.lit (.bool false)], args := [d1, d2, d3] }
  | _ => none }
def FnExactOutsideOfWrongFalsely : Prop := fnExactOutsideOfRow.holds Try.pinned (OpenSpec.ofChange fnExactOutsideOfWrong)

/-- 'laws.FnExactInsertPair': WHATEVER THE INPUT: true; the input reads as it did. -/
def fnExactInsertPairSpec : ChangeSpec := { name := "fnExactInsertPair", fn := fun _ => fun
  | [d1, d2, d3] => { results := [.lit (.bool true)], args := [d1, d2, d3] }
  | _ => none }
def fnExactInsertPairRow : OpenClaim := { program := "ytbckijeffiofdaa", sum := "4dab95c0dac0ce388244502a6100192e9612632693dc102bd7372e218cc4e867", func := "loop.example/g01126/laws.FnExactInsertPair", spec := "fnExactInsertPair", unfollowed := true, recurses := true, apart := false }
def FnExactInsertPairSaid : Prop := fnExactInsertPairRow.holds Try.pinned (OpenSpec.ofChange fnExactInsertPairSpec)

/-- ITS FALSE NEIGHBOUR: 'it returns false'. Refute it at one input. -/
def fnExactInsertPairWrong : ChangeSpec := { name := "fnExactInsertPair", fn := fun _ => fun
  | [d1, d2, d3] => { results := [.lit (.bool false)], args := [d1, d2, d3] }
  | _ => none }
def FnExactInsertPairWrongFalsely : Prop := fnExactInsertPairRow.holds Try.pinned (OpenSpec.ofChange fnExactInsertPairWrong)

/-- 'laws.FnExactIsSimple': WHATEVER THE INPUT: true; the input reads as it did. -/
def fnExactIsSimpleSpec : ChangeSpec := { name := "fnExactIsSimple", fn := fun _ => fun
  | [d] => { results := [.lit (.bool true)], args := [d] }
  | _ => none }
def fnExactIsSimpleRow : OpenClaim := { program := "ytbckijeffiofdaa", sum := "4dab95c0dac0ce388244502a6100192e9612632693dc102bd7372e218cc4e867", func := "loop.example/g01126/laws.FnExactIsSimple", spec := "fnExactIsSimple", unfollowed := true, recurses := true, apart := false }
def FnExactIsSimpleSaid : Prop := fnExactIsSimpleRow.holds Try.pinned (OpenSpec.ofChange fnExactIsSimpleSpec)

/-- ITS FALSE NEIGHBOUR: 'it returns false'. Refute it at one input. -/
def fnExactIsSimpleWrong : ChangeSpec := { name := "fnExactIsSimple", fn := fun _ => fun
  | [d] => { results := [.lit (.bool false)], args := [d] }
  | _ => none }
def FnExactIsSimpleWrongFalsely : Prop := fnExactIsSimpleRow.holds Try.pinned (OpenSpec.ofChange fnExactIsSimpleWrong)

/-- 'laws.FnExactPiecesBack': WHATEVER THE INPUT: true; the input reads as it did. -/
def fnExactPiecesBackSpec : ChangeSpec := { name := "fnExactPiecesBack", fn := fun _ => fun
  | [d] => { results := [.lit (.bool true)], args := [d] }
  | _ => none }
def fnExactPiecesBackRow : OpenClaim := { program := "ytbckijeffiofdaa", sum := "4dab95c0dac0ce388244502a6100192e9612632693dc102bd7372e218cc4e867", func := "loop.example/g01126/laws.FnExactPiecesBack", spec := "fnExactPiecesBack", unfollowed := true, recurses := true, apart := false }
def FnExactPiecesBackSaid : Prop := fnExactPiecesBackRow.holds Try.pinned (OpenSpec.ofChange fnExactPiecesBackSpec)

/-- ITS FALSE NEIGHBOUR: 'it returns false'. Refute it at one input. -/
def fnExactPiecesBackWrong : ChangeSpec := { name := "fnExactPiecesBack", fn := fun _ => fun
  | [d] => { results := [.lit (.bool false)], args := [d] }
  | _ => none }
def FnExactPiecesBackWrongFalsely : Prop := fnExactPiecesBackRow.holds Try.pinned (OpenSpec.ofChange fnExactPiecesBackWrong)

/-- 'laws.FnExactPiecesOf': WHATEVER THE INPUT: true; the input reads as it did. -/
def fnExactPiecesOfSpec : ChangeSpec := { name := "fnExactPiecesOf", fn := fun _ => fun
  | [d] => { results := [.lit (.bool true)], args := [d] }
  | _ => none }
def fnExactPiecesOfRow : OpenClaim := { program := "ytbckijeffiofdaa", sum := "4dab95c0dac0ce388244502a6100192e9612632693dc102bd7372e218cc4e867", func := "loop.example/g01126/laws.FnExactPiecesOf", spec := "fnExactPiecesOf", unfollowed := true, recurses := true, apart := false }
def FnExactPiecesOfSaid : Prop := fnExactPiecesOfRow.holds Try.pinned (OpenSpec.ofChange fnExactPiecesOfSpec)

/-- ITS FALSE NEIGHBOUR: 'it returns false'. Refute it at one input. -/
def fnExactPiecesOfWrong : ChangeSpec := { name := "fnExactPiecesOf", fn := fun _ => fun
  | [d] => { results := [.lit (.bool false)], args := [d] }
  | _ => none }
def FnExactPiecesOfWrongFalsely : Prop := fnExactPiecesOfRow.holds Try.pinned (OpenSpec.ofChange fnExactPiecesOfWrong)

/-- 'laws.FnExactCountWhole': WHATEVER THE INPUT: true; the input reads as it did. -/
def fnExactCountWholeSpec : ChangeSpec := { name := "fnExactCountWhole", fn := fun _ => fun
  | [d] => { results := [.lit (.bool true)], args := [d] }
  | _ => none }
def fnExactCountWholeRow : OpenClaim := { program := "ytbckijeffiofdaa", sum := "4dab95c0dac0ce388244502a6100192e9612632693dc102bd7372e218cc4e867", func := "loop.example/g01126/laws.FnExactCountWhole", spec := "fnExactCountWhole", unfollowed := true, recurses := true, apart := false }
def FnExactCountWholeSaid : Prop := fnExactCountWholeRow.holds Try.pinned (OpenSpec.ofChange fnExactCountWholeSpec)

/-- ITS FALSE NEIGHBOUR: 'it returns false'. Refute it at one input. -/
def fnExactCountWholeWrong : ChangeSpec := { name := "fnExactCountWhole", fn := fun _ => fun
  | [d] => { results := [.lit (.bool false)], args := [d] }
  | _ => none }
def FnExactCountWholeWrongFalsely : Prop := fnExactCountWholeRow.holds Try.pinned (OpenSpec.ofChange fnExactCountWholeWrong)

/-- 'laws.FnExactAllWhole': WHATEVER THE INPUT: true; the input reads as it did. -/
def fnExactAllWholeSpec : ChangeSpec := { name := "fnExactAllWhole", fn := fun _ => fun
  | [d] => { results := [.lit (.bool true)], args := [d] }
  | _ => none }
def fnExactAllWholeRow : OpenClaim := { program := "ytbckijeffiofdaa", sum := "4dab95c0dac0ce388244502a6100192e9612632693dc102bd7372e218cc4e867", func := "loop.example/g01126/laws.FnExactAllWhole", spec := "fnExactAllWhole", unfollowed := true, recurses := true, apart := false }
def FnExactAllWholeSaid : Prop := fnExactAllWholeRow.holds Try.pinned (OpenSpec.ofChange fnExactAllWholeSpec)

/-- ITS FALSE NEIGHBOUR: 'it returns false'. Refute it at one input. -/
def fnExactAllWholeWrong : ChangeSpec := { name := "fnExactAllWhole", fn := fun _ => fun
  | [d] => { results := [.lit (.bool false)], args := [d] }
  | _ => none }
def FnExactAllWholeWrongFalsely : Prop := fnExactAllWholeRow.holds Try.pinned (OpenSpec.ofChange fnExactAllWholeWrong)

/-- 'laws.FnExactCountSimple': WHATEVER THE INPUT: true; the input reads as it did. -/
def fnExactCountSimpleSpec : ChangeSpec := { name := "fnExactCountSimple", fn := fun _ => fun
  | [d] => { results := [.lit (.bool true)], args := [d] }
  | _ => none }
def fnExactCountSimpleRow : OpenClaim := { program := "ytbckijeffiofdaa", sum := "4dab95c0dac0ce388244502a6100192e9612632693dc102bd7372e218cc4e867", func := "loop.example/g01126/laws.FnExactCountSimple", spec := "fnExactCountSimple", unfollowed := true, recurses := true, apart := false }
def FnExactCountSimpleSaid : Prop := fnExactCountSimpleRow.holds Try.pinned (OpenSpec.ofChange fnExactCountSimpleSpec)

/-- ITS FALSE NEIGHBOUR: 'it returns false'. Refute it at one input. -/
def fnExactCountSimpleWrong : ChangeSpec := { name := "fnExactCountSimple", fn := fun _ => fun
  | [d] => { results := [.lit (.bool false)], args := [d] }
  | _ => none }
def FnExactCountSimpleWrongFalsely : Prop := fnExactCountSimpleRow.holds Try.pinned (OpenSpec.ofChange fnExactCountSimpleWrong)

/-- 'laws.FnExactCountByPieces': WHATEVER THE INPUT: true; the input reads as it did. -/
def fnExactCountByPiecesSpec : ChangeSpec := { name := "fnExactCountByPieces", fn := fun _ => fun
  | [d] => { results := [.lit (.bool true)], args := [d] }
  | _ => none }
def fnExactCountByPiecesRow : OpenClaim := { program := "ytbckijeffiofdaa", sum := "4dab95c0dac0ce388244502a6100192e9612632693dc102bd7372e218cc4e867", func := "loop.example/g01126/laws.FnExactCountByPieces", spec := "fnExactCountByPieces", unfollowed := true, recurses := true, apart := false }
def FnExactCountByPiecesSaid : Prop := fnExactCountByPiecesRow.holds Try.pinned (OpenSpec.ofChange fnExactCountByPiecesSpec)

/-- ITS FALSE NEIGHBOUR: 'it returns false'. Refute it at one input. -/
def fnExactCountByPiecesWrong : ChangeSpec := { name := "fnExactCountByPieces", fn := fun _ => fun
  | [d] => { results := [.lit (.bool false)], args := [d] }
  | _ => none }
def FnExactCountByPiecesWrongFalsely : Prop := fnExactCountByPiecesRow.holds Try.pinned (OpenSpec.ofChange fnExactCountByPiecesWrong)

/-- 'laws.FnExactPieceTexts': WHATEVER THE INPUT: true; the input reads as it did. -/
def fnExactPieceTextsSpec : ChangeSpec := { name := "fnExactPieceTexts", fn := fun _ => fun
  | [d] => { results := [.lit (.bool true)], args := [d] }
  | _ => none }
def fnExactPieceTextsRow : OpenClaim := { program := "ytbckijeffiofdaa", sum := "4dab95c0dac0ce388244502a6100192e9612632693dc102bd7372e218cc4e867", func := "loop.example/g01126/laws.FnExactPieceTexts", spec := "fnExactPieceTexts", unfollowed := true, recurses := true, apart := false }
def FnExactPieceTextsSaid : Prop := fnExactPieceTextsRow.holds Try.pinned (OpenSpec.ofChange fnExactPieceTextsSpec)

/-- ITS FALSE NEIGHBOUR: 'it returns false'. Refute it at one input. -/
def fnExactPieceTextsWrong : ChangeSpec := { name := "fnExactPieceTexts", fn := fun _ => fun
  | [d] => { results := [.lit (.bool false)], args := [d] }
  | _ => none }
def FnExactPieceTextsWrongFalsely : Prop := fnExactPieceTextsRow.holds Try.pinned (OpenSpec.ofChange fnExactPieceTextsWrong)

/-- 'laws.FnCutsAndInserts': WHATEVER THE INPUT: true; the input reads as it did. -/
def fnCutsAndInsertsSpec : ChangeSpec := { name := "fnCutsAndInserts", fn := fun _ => fun
  | [d1, d2] => { results := [.lit (.bool true)], args := [d1, d2] }
  | _ => none }
def fnCutsAndInsertsRow : OpenClaim := { program := "ytbckijeffiofdaa", sum := "4dab95c0dac0ce388244502a6100192e9612632693dc102bd7372e218cc4e867", func := "loop.example/g01126/laws.FnCutsAndInserts", spec := "fnCutsAndInserts", unfollowed := true, recurses := true, apart := false }
def FnCutsAndInsertsSaid : Prop := fnCutsAndInsertsRow.holds Try.pinned (OpenSpec.ofChange fnCutsAndInsertsSpec)

/-- ITS FALSE NEIGHBOUR: 'it returns false'. Refute it at one input. -/
def fnCutsAndInsertsWrong : ChangeSpec := { name := "fnCutsAndInserts", fn := fun _ => fun
  | [d1, d2] => { results := [.lit (.bool false)], args := [d1, d2] }
  | _ => none }
def FnCutsAndInsertsWrongFalsely : Prop := fnCutsAndInsertsRow.holds Try.pinned (OpenSpec.ofChange fnCutsAndInsertsWrong)

/-- 'laws.FnWholeCounted': WHATEVER THE INPUT: true; the input reads as it did. -/
def fnWholeCountedSpec : ChangeSpec := { name := "fnWholeCounted", fn := fun _ => fun
  | [d1, d2] => { results := [.lit (.bool true)], args := [d1, d2] }
  | _ => none }
def fnWholeCountedRow : OpenClaim := { program := "ytbckijeffiofdaa", sum := "4dab95c0dac0ce388244502a6100192e9612632693dc102bd7372e218cc4e867", func := "loop.example/g01126/laws.FnWholeCounted", spec := "fnWholeCounted", unfollowed := true, recurses := true, apart := false }
def FnWholeCountedSaid : Prop := fnWholeCountedRow.holds Try.pinned (OpenSpec.ofChange fnWholeCountedSpec)

/-- ITS FALSE NEIGHBOUR: 'it returns false'. Refute it at one input. -/
def fnWholeCountedWrong : ChangeSpec := { name := "fnWholeCounted", fn := fun _ => fun
  | [d1, d2] => { results := [.lit (.bool false)], args := [d1, d2] }
  | _ => none }
def FnWholeCountedWrongFalsely : Prop := fnWholeCountedRow.holds Try.pinned (OpenSpec.ofChange fnWholeCountedWrong)

/-- 'laws.FnPiecesAreTheSame': WHATEVER THE INPUT: true; the input reads as it did. -/
def fnPiecesAreTheSameSpec : ChangeSpec := { name := "fnPiecesAreTheSame", fn := fun _ => fun
  | [d1, d2] => { results := [.lit (.bool true)], args := [d1, d2] }
  | _ => none }
def fnPiecesAreTheSameRow : OpenClaim := { program := "ytbckijeffiofdaa", sum := "4dab95c0dac0ce388244502a6100192e9612632693dc102bd7372e218cc4e867", func := "loop.example/g01126/laws.FnPiecesAreTheSame", spec := "fnPiecesAreTheSame", unfollowed := true, recurses := true, apart := false }
def FnPiecesAreTheSameSaid : Prop := fnPiecesAreTheSameRow.holds Try.pinned (OpenSpec.ofChange fnPiecesAreTheSameSpec)

/-- ITS FALSE NEIGHBOUR: 'it returns false'. Refute it at one input. -/
def fnPiecesAreTheSameWrong : ChangeSpec := { name := "fnPiecesAreTheSame", fn := fun _ => fun
  | [d1, d2] => { results := [.lit (.bool false)], args := [d1, d2] }
  | _ => none }
def FnPiecesAreTheSameWrongFalsely : Prop := fnPiecesAreTheSameRow.holds Try.pinned (OpenSpec.ofChange fnPiecesAreTheSameWrong)

/- THE SECOND FORM. 'bulk': how many values and letters a reading holds, each counted each time it is reached (what is shared counts as often as it is met; a slice's spare places count too). A statement '..UptoSaid' is the law's where the arguments, and the package variables that the reading takes, are together of bulk at most 1048576: NARROWER than '..Said'. Prove '..Said' where nothing that the law and all that it calls make is longer than what came in: it says more and counts as full. Else prove '..UptoSaid'. A law counts once. -/
mutual
def uptoBulk {H : Type} : DataW H → Nat
  | .lit (.string bytes) => bytes.length + 1
  | .lit _ => 1
  | .nil => 1
  | .ptr d => uptoBulk d + 1
  | .slice elems spare => uptoBulkAll elems + uptoBulkAll spare + 1
  | .agg parts => uptoBulkAll parts + 1
  | .iface _ d => uptoBulk d + 1
  | .map entries => uptoBulkEntries entries + 1
  | .held _ => 1
def uptoBulkAll {H : Type} : List (DataW H) → Nat
  | [] => 0
  | d :: r => uptoBulk d + uptoBulkAll r
def uptoBulkEntries {H : Type} : List (Lit × DataW H) → Nat
  | [] => 0
  | x :: r => uptoBulkEntry x + uptoBulkEntries r
def uptoBulkEntry {H : Type} : Lit × DataW H → Nat
  | (.string bytes, d) => bytes.length + uptoBulk d + 1
  | (_, d) => uptoBulk d + 1
 end
def uptoSmall : (H : Type) → List (DataW H) → Bool := fun _ ds => decide (uptoBulkAll ds ≤ 1048576)
def OpenSpec.upto (s : _root_.Go.ChangeSpec) : _root_.Go.OpenSpec := { _root_.Go.OpenSpec.ofChange s with cond := some uptoSmall }

/-- 'laws.FnExactIsClosed', WHERE WHAT IT READS IS OF BULK AT MOST 1048576: true; the input reads as it did. -/
def fnExactIsClosedUptoRow : OpenClaim := { program := "ytbckijeffiofdaa", sum := "4dab95c0dac0ce388244502a6100192e9612632693dc102bd7372e218cc4e867", func := "loop.example/g01126/laws.FnExactIsClosed", spec := "fnExactIsClosed", apart := false, narrowed := true }
def FnExactIsClosedUptoSaid : Prop := fnExactIsClosedUptoRow.holds Try.pinned (OpenSpec.upto fnExactIsClosedSpec)

/-- 'laws.FnExactIsWhole', WHERE WHAT IT READS IS OF BULK AT MOST 1048576: true; the input reads as it did. -/
def fnExactIsWholeUptoRow : OpenClaim := { program := "ytbckijeffiofdaa", sum := "4dab95c0dac0ce388244502a6100192e9612632693dc102bd7372e218cc4e867", func := "loop.example/g01126/laws.FnExactIsWhole", spec := "fnExactIsWhole", apart := false, narrowed := true }
def FnExactIsWholeUptoSaid : Prop := fnExactIsWholeUptoRow.holds Try.pinned (OpenSpec.upto fnExactIsWholeSpec)

/-- 'laws.FnExactShortestClosed', WHERE WHAT IT READS IS OF BULK AT MOST 1048576: true; the input reads as it did. -/
def fnExactShortestClosedUptoRow : OpenClaim := { program := "ytbckijeffiofdaa", sum := "4dab95c0dac0ce388244502a6100192e9612632693dc102bd7372e218cc4e867", func := "loop.example/g01126/laws.FnExactShortestClosed", spec := "fnExactShortestClosed", apart := false, narrowed := true }
def FnExactShortestClosedUptoSaid : Prop := fnExactShortestClosedUptoRow.holds Try.pinned (OpenSpec.upto fnExactShortestClosedSpec)

/-- 'laws.FnExactClosedStretches', WHERE WHAT IT READS IS OF BULK AT MOST 1048576: true; the input reads as it did. -/
def fnExactClosedStretchesUptoRow : OpenClaim := { program := "ytbckijeffiofdaa", sum := "4dab95c0dac0ce388244502a6100192e9612632693dc102bd7372e218cc4e867", func := "loop.example/g01126/laws.FnExactClosedStretches", spec := "fnExactClosedStretches", apart := false, narrowed := true }
def FnExactClosedStretchesUptoSaid : Prop := fnExactClosedStretchesUptoRow.holds Try.pinned (OpenSpec.upto fnExactClosedStretchesSpec)

/-- 'laws.FnExactInsideOf', WHERE WHAT IT READS IS OF BULK AT MOST 1048576: true; the input reads as it did. -/
def fnExactInsideOfUptoRow : OpenClaim := { program := "ytbckijeffiofdaa", sum := "4dab95c0dac0ce388244502a6100192e9612632693dc102bd7372e218cc4e867", func := "loop.example/g01126/laws.FnExactInsideOf", spec := "fnExactInsideOf", unfollowed := true, recurses := true, apart := false, narrowed := true }
def FnExactInsideOfUptoSaid : Prop := fnExactInsideOfUptoRow.holds Try.pinned (OpenSpec.upto fnExactInsideOfSpec)

/-- 'laws.FnExactOutsideOf', WHERE WHAT IT READS IS OF BULK AT MOST 1048576: true; the input reads as it did. -/
def fnExactOutsideOfUptoRow : OpenClaim := { program := "ytbckijeffiofdaa", sum := "4dab95c0dac0ce388244502a6100192e9612632693dc102bd7372e218cc4e867", func := "loop.example/g01126/laws.FnExactOutsideOf", spec := "fnExactOutsideOf", unfollowed := true, recurses := true, apart := false, narrowed := true }
def FnExactOutsideOfUptoSaid : Prop := fnExactOutsideOfUptoRow.holds Try.pinned (OpenSpec.upto fnExactOutsideOfSpec)

/-- 'laws.FnExactInsertPair', WHERE WHAT IT READS IS OF BULK AT MOST 1048576: true; the input reads as it did. -/
def fnExactInsertPairUptoRow : OpenClaim := { program := "ytbckijeffiofdaa", sum := "4dab95c0dac0ce388244502a6100192e9612632693dc102bd7372e218cc4e867", func := "loop.example/g01126/laws.FnExactInsertPair", spec := "fnExactInsertPair", unfollowed := true, recurses := true, apart := false, narrowed := true }
def FnExactInsertPairUptoSaid : Prop := fnExactInsertPairUptoRow.holds Try.pinned (OpenSpec.upto fnExactInsertPairSpec)

/-- 'laws.FnExactIsSimple', WHERE WHAT IT READS IS OF BULK AT MOST 1048576: true; the input reads as it did. -/
def fnExactIsSimpleUptoRow : OpenClaim := { program := "ytbckijeffiofdaa", sum := "4dab95c0dac0ce388244502a6100192e9612632693dc102bd7372e218cc4e867", func := "loop.example/g01126/laws.FnExactIsSimple", spec := "fnExactIsSimple", unfollowed := true, recurses := true, apart := false, narrowed := true }
def FnExactIsSimpleUptoSaid : Prop := fnExactIsSimpleUptoRow.holds Try.pinned (OpenSpec.upto fnExactIsSimpleSpec)

/-- 'laws.FnExactPiecesBack', WHERE WHAT IT READS IS OF BULK AT MOST 1048576: true; the input reads as it did. -/
def fnExactPiecesBackUptoRow : OpenClaim := { program := "ytbckijeffiofdaa", sum := "4dab95c0dac0ce388244502a6100192e9612632693dc102bd7372e218cc4e867", func := "loop.example/g01126/laws.FnExactPiecesBack", spec := "fnExactPiecesBack", unfollowed := true, recurses := true, apart := false, narrowed := true }
def FnExactPiecesBackUptoSaid : Prop := fnExactPiecesBackUptoRow.holds Try.pinned (OpenSpec.upto fnExactPiecesBackSpec)

/-- 'laws.FnExactPiecesOf', WHERE WHAT IT READS IS OF BULK AT MOST 1048576: true; the input reads as it did. -/
def fnExactPiecesOfUptoRow : OpenClaim := { program := "ytbckijeffiofdaa", sum := "4dab95c0dac0ce388244502a6100192e9612632693dc102bd7372e218cc4e867", func := "loop.example/g01126/laws.FnExactPiecesOf", spec := "fnExactPiecesOf", unfollowed := true, recurses := true, apart := false, narrowed := true }
def FnExactPiecesOfUptoSaid : Prop := fnExactPiecesOfUptoRow.holds Try.pinned (OpenSpec.upto fnExactPiecesOfSpec)

/-- 'laws.FnExactCountWhole', WHERE WHAT IT READS IS OF BULK AT MOST 1048576: true; the input reads as it did. -/
def fnExactCountWholeUptoRow : OpenClaim := { program := "ytbckijeffiofdaa", sum := "4dab95c0dac0ce388244502a6100192e9612632693dc102bd7372e218cc4e867", func := "loop.example/g01126/laws.FnExactCountWhole", spec := "fnExactCountWhole", unfollowed := true, recurses := true, apart := false, narrowed := true }
def FnExactCountWholeUptoSaid : Prop := fnExactCountWholeUptoRow.holds Try.pinned (OpenSpec.upto fnExactCountWholeSpec)

/-- 'laws.FnExactAllWhole', WHERE WHAT IT READS IS OF BULK AT MOST 1048576: true; the input reads as it did. -/
def fnExactAllWholeUptoRow : OpenClaim := { program := "ytbckijeffiofdaa", sum := "4dab95c0dac0ce388244502a6100192e9612632693dc102bd7372e218cc4e867", func := "loop.example/g01126/laws.FnExactAllWhole", spec := "fnExactAllWhole", unfollowed := true, recurses := true, apart := false, narrowed := true }
def FnExactAllWholeUptoSaid : Prop := fnExactAllWholeUptoRow.holds Try.pinned (OpenSpec.upto fnExactAllWholeSpec)

/-- 'laws.FnExactCountSimple', WHERE WHAT IT READS IS OF BULK AT MOST 1048576: true; the input reads as it did. -/
def fnExactCountSimpleUptoRow : OpenClaim := { program := "ytbckijeffiofdaa", sum := "4dab95c0dac0ce388244502a6100192e9612632693dc102bd7372e218cc4e867", func := "loop.example/g01126/laws.FnExactCountSimple", spec := "fnExactCountSimple", unfollowed := true, recurses := true, apart := false, narrowed := true }
def FnExactCountSimpleUptoSaid : Prop := fnExactCountSimpleUptoRow.holds Try.pinned (OpenSpec.upto fnExactCountSimpleSpec)

/-- 'laws.FnExactCountByPieces', WHERE WHAT IT READS IS OF BULK AT MOST 1048576: true; the input reads as it did. -/
def fnExactCountByPiecesUptoRow : OpenClaim := { program := "ytbckijeffiofdaa", sum := "4dab95c0dac0ce388244502a6100192e9612632693dc102bd7372e218cc4e867", func := "loop.example/g01126/laws.FnExactCountByPieces", spec := "fnExactCountByPieces", unfollowed := true, recurses := true, apart := false, narrowed := true }
def FnExactCountByPiecesUptoSaid : Prop := fnExactCountByPiecesUptoRow.holds Try.pinned (OpenSpec.upto fnExactCountByPiecesSpec)

/-- 'laws.FnExactPieceTexts', WHERE WHAT IT READS IS OF BULK AT MOST 1048576: true; the input reads as it did. -/
def fnExactPieceTextsUptoRow : OpenClaim := { program := "ytbckijeffiofdaa", sum := "4dab95c0dac0ce388244502a6100192e9612632693dc102bd7372e218cc4e867", func := "loop.example/g01126/laws.FnExactPieceTexts", spec := "fnExactPieceTexts", unfollowed := true, recurses := true, apart := false, narrowed := true }
def FnExactPieceTextsUptoSaid : Prop := fnExactPieceTextsUptoRow.holds Try.pinned (OpenSpec.upto fnExactPieceTextsSpec)

/-- 'laws.FnCutsAndInserts', WHERE WHAT IT READS IS OF BULK AT MOST 1048576: true; the input reads as it did. -/
def fnCutsAndInsertsUptoRow : OpenClaim := { program := "ytbckijeffiofdaa", sum := "4dab95c0dac0ce388244502a6100192e9612632693dc102bd7372e218cc4e867", func := "loop.example/g01126/laws.FnCutsAndInserts", spec := "fnCutsAndInserts", unfollowed := true, recurses := true, apart := false, narrowed := true }
def FnCutsAndInsertsUptoSaid : Prop := fnCutsAndInsertsUptoRow.holds Try.pinned (OpenSpec.upto fnCutsAndInsertsSpec)

/-- 'laws.FnWholeCounted', WHERE WHAT IT READS IS OF BULK AT MOST 1048576: true; the input reads as it did. -/
def fnWholeCountedUptoRow : OpenClaim := { program := "ytbckijeffiofdaa", sum := "4dab95c0dac0ce388244502a6100192e9612632693dc102bd7372e218cc4e867", func := "loop.example/g01126/laws.FnWholeCounted", spec := "fnWholeCounted", unfollowed := true, recurses := true, apart := false, narrowed := true }
def FnWholeCountedUptoSaid : Prop := fnWholeCountedUptoRow.holds Try.pinned (OpenSpec.upto fnWholeCountedSpec)

/-- 'laws.FnPiecesAreTheSame', WHERE WHAT IT READS IS OF BULK AT MOST 1048576: true; the input reads as it did. -/
def fnPiecesAreTheSameUptoRow : OpenClaim := { program := "ytbckijeffiofdaa", sum := "4dab95c0dac0ce388244502a6100192e9612632693dc102bd7372e218cc4e867", func := "loop.example/g01126/laws.FnPiecesAreTheSame", spec := "fnPiecesAreTheSame", unfollowed := true, recurses := true, apart := false, narrowed := true }
def FnPiecesAreTheSameUptoSaid : Prop := fnPiecesAreTheSameUptoRow.holds Try.pinned (OpenSpec.upto fnPiecesAreTheSameSpec)

end Rows
end Go.Proofs.Ytbckijeffiofdaa
