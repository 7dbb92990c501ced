/-
  No cell of these rows narrows 'for every input' (looked for: loops, veiled, ifaces, maps, wideKeys, modest, calm, conditions, laid).
  DERIVED. THE GIVEN ROWS OF THIS SEAT. 12 by the template 'for every input the law returns true; each argument reads behind the call as it read before'; 0 by the template 'total and deterministic' (their statements: YtdghlhdpcmemjaaTotals.lean).
  GIVEN WITH THE SEED: the statements are not yours to turn. If you find one false, say at which input.
  Laid BY PROGRAM, IN A SANDBOX (cutbox-rows.mjs): the forced cells as the released guide's own fill.sh prints them over the translation 59e248743c627daf… (all of the seat's roots in one cut). By AI agents, Wed Nov 11 2026. No macro, syntax, notation, axiom, sorry.
-/
import Derived.Test.YtdghlhdpcmemjaaChecked
import GoSem.Claim
import GoSem.ClaimJoined
import GoSem.ClaimMapViews
import Derived.JoinedTies
import Derived.KernelRfl
namespace Go.Proofs.Ytdghlhdpcmemjaa
/- THE CELL 'sum', in the pinned program and in every row, IS THE sha256 OF THE DUMP (.gsa) THAT YtdghlhdpcmemjaaProg.lean LOADS. Nothing in Lean hashes anything: it is a label: what it is worth is what the hold of that sum in a sandbox is worth. -/
noncomputable def Try.pinned : Pinned := { name := "ytdghlhdpcmemjaa", sum := "59e248743c627daf0ed0ebc6ce4db424fb47f1b4d566c865ed4091bf2541685d", checked := Try.checked }
namespace Rows
def none {H : Type} : Left H := { results := [], args := [] }

/-- 'laws.FnExactFacesOf': WHATEVER THE INPUT: true; the input reads as it did. -/
def fnExactFacesOfSpec : ChangeSpec := { name := "fnExactFacesOf", fn := fun _ => fun
  | [d] => { results := [.lit (.bool true)], args := [d] }
  | _ => none }
def fnExactFacesOfRow : OpenClaim := { program := "ytdghlhdpcmemjaa", sum := "59e248743c627daf0ed0ebc6ce4db424fb47f1b4d566c865ed4091bf2541685d", func := "loop.example/g01126/laws.FnExactFacesOf", spec := "fnExactFacesOf", apart := false }
def FnExactFacesOfSaid : Prop := fnExactFacesOfRow.holds Try.pinned (OpenSpec.ofChange fnExactFacesOfSpec)

/-- ITS FALSE NEIGHBOUR: 'it returns false'. Refute it at one input. -/
def fnExactFacesOfWrong : ChangeSpec := { name := "fnExactFacesOf", fn := fun _ => fun
  | [d] => { results := [.lit (.bool false)], args := [d] }
  | _ => none }
def FnExactFacesOfWrongFalsely : Prop := fnExactFacesOfRow.holds Try.pinned (OpenSpec.ofChange fnExactFacesOfWrong)

/-- 'laws.FnExactExchangeDistance': WHATEVER THE INPUT: true; the input reads as it did. -/
def fnExactExchangeDistanceSpec : ChangeSpec := { name := "fnExactExchangeDistance", fn := fun _ => fun
  | [d1, d2] => { results := [.lit (.bool true)], args := [d1, d2] }
  | _ => none }
def fnExactExchangeDistanceRow : OpenClaim := { program := "ytdghlhdpcmemjaa", sum := "59e248743c627daf0ed0ebc6ce4db424fb47f1b4d566c865ed4091bf2541685d", func := "loop.example/g01126/laws.FnExactExchangeDistance", spec := "fnExactExchangeDistance", apart := false }
def FnExactExchangeDistanceSaid : Prop := fnExactExchangeDistanceRow.holds Try.pinned (OpenSpec.ofChange fnExactExchangeDistanceSpec)

/-- ITS FALSE NEIGHBOUR: 'it returns false'. Refute it at one input. -/
def fnExactExchangeDistanceWrong : ChangeSpec := { name := "fnExactExchangeDistance", fn := fun _ => fun
  | [d1, d2] => { results := [.lit (.bool false)], args := [d1, d2] }
  | _ => none }
def FnExactExchangeDistanceWrongFalsely : Prop := fnExactExchangeDistanceRow.holds Try.pinned (OpenSpec.ofChange fnExactExchangeDistanceWrong)

/-- 'laws.FnExactMergeDistance': WHATEVER THE INPUT: true; the input reads as it did. -/
def fnExactMergeDistanceSpec : ChangeSpec := { name := "fnExactMergeDistance", fn := fun _ => fun
  | [d] => { results := [.lit (.bool true)], args := [d] }
  | _ => none }
def fnExactMergeDistanceRow : OpenClaim := { program := "ytdghlhdpcmemjaa", sum := "59e248743c627daf0ed0ebc6ce4db424fb47f1b4d566c865ed4091bf2541685d", func := "loop.example/g01126/laws.FnExactMergeDistance", spec := "fnExactMergeDistance", apart := false }
def FnExactMergeDistanceSaid : Prop := fnExactMergeDistanceRow.holds Try.pinned (OpenSpec.ofChange fnExactMergeDistanceSpec)

/-- ITS FALSE NEIGHBOUR: 'it returns false'. Refute it at one input. -/
def fnExactMergeDistanceWrong : ChangeSpec := { name := "fnExactMergeDistance", fn := fun _ => fun
  | [d] => { results := [.lit (.bool false)], args := [d] }
  | _ => none }
def FnExactMergeDistanceWrongFalsely : Prop := fnExactMergeDistanceRow.holds Try.pinned (OpenSpec.ofChange fnExactMergeDistanceWrong)

/-- 'laws.FnExactCountExchanges': WHATEVER THE INPUT: true; the input reads as it did. -/
def fnExactCountExchangesSpec : ChangeSpec := { name := "fnExactCountExchanges", fn := fun _ => fun
  | [d] => { results := [.lit (.bool true)], args := [d] }
  | _ => none }
def fnExactCountExchangesRow : OpenClaim := { program := "ytdghlhdpcmemjaa", sum := "59e248743c627daf0ed0ebc6ce4db424fb47f1b4d566c865ed4091bf2541685d", func := "loop.example/g01126/laws.FnExactCountExchanges", spec := "fnExactCountExchanges", unfollowed := true, recurses := true, apart := false }
def FnExactCountExchangesSaid : Prop := fnExactCountExchangesRow.holds Try.pinned (OpenSpec.ofChange fnExactCountExchangesSpec)

/-- ITS FALSE NEIGHBOUR: 'it returns false'. Refute it at one input. -/
def fnExactCountExchangesWrong : ChangeSpec := { name := "fnExactCountExchanges", fn := fun _ => fun
  | [d] => { results := [.lit (.bool false)], args := [d] }
  | _ => none }
def FnExactCountExchangesWrongFalsely : Prop := fnExactCountExchangesRow.holds Try.pinned (OpenSpec.ofChange fnExactCountExchangesWrong)

/-- 'laws.FnExactExchangeAt': WHATEVER THE INPUT: true; the input reads as it did. -/
def fnExactExchangeAtSpec : ChangeSpec := { name := "fnExactExchangeAt", fn := fun _ => fun
  | [d1, d2, d3] => { results := [.lit (.bool true)], args := [d1, d2, d3] }
  | _ => none }
def fnExactExchangeAtRow : OpenClaim := { program := "ytdghlhdpcmemjaa", sum := "59e248743c627daf0ed0ebc6ce4db424fb47f1b4d566c865ed4091bf2541685d", func := "loop.example/g01126/laws.FnExactExchangeAt", spec := "fnExactExchangeAt", unfollowed := true, recurses := true, apart := false }
def FnExactExchangeAtSaid : Prop := fnExactExchangeAtRow.holds Try.pinned (OpenSpec.ofChange fnExactExchangeAtSpec)

/-- ITS FALSE NEIGHBOUR: 'it returns false'. Refute it at one input. -/
def fnExactExchangeAtWrong : ChangeSpec := { name := "fnExactExchangeAt", fn := fun _ => fun
  | [d1, d2, d3] => { results := [.lit (.bool false)], args := [d1, d2, d3] }
  | _ => none }
def FnExactExchangeAtWrongFalsely : Prop := fnExactExchangeAtRow.holds Try.pinned (OpenSpec.ofChange fnExactExchangeAtWrong)

/-- 'laws.FnExactExchangesOf': WHATEVER THE INPUT: true; the input reads as it did. -/
def fnExactExchangesOfSpec : ChangeSpec := { name := "fnExactExchangesOf", fn := fun _ => fun
  | [d] => { results := [.lit (.bool true)], args := [d] }
  | _ => none }
def fnExactExchangesOfRow : OpenClaim := { program := "ytdghlhdpcmemjaa", sum := "59e248743c627daf0ed0ebc6ce4db424fb47f1b4d566c865ed4091bf2541685d", func := "loop.example/g01126/laws.FnExactExchangesOf", spec := "fnExactExchangesOf", unfollowed := true, recurses := true, apart := false }
def FnExactExchangesOfSaid : Prop := fnExactExchangesOfRow.holds Try.pinned (OpenSpec.ofChange fnExactExchangesOfSpec)

/-- ITS FALSE NEIGHBOUR: 'it returns false'. Refute it at one input. -/
def fnExactExchangesOfWrong : ChangeSpec := { name := "fnExactExchangesOf", fn := fun _ => fun
  | [d] => { results := [.lit (.bool false)], args := [d] }
  | _ => none }
def FnExactExchangesOfWrongFalsely : Prop := fnExactExchangesOfRow.holds Try.pinned (OpenSpec.ofChange fnExactExchangesOfWrong)

/-- 'laws.FnExactFarthestFrom': WHATEVER THE INPUT: true; the input reads as it did. -/
def fnExactFarthestFromSpec : ChangeSpec := { name := "fnExactFarthestFrom", fn := fun _ => fun
  | [d] => { results := [.lit (.bool true)], args := [d] }
  | _ => none }
def fnExactFarthestFromRow : OpenClaim := { program := "ytdghlhdpcmemjaa", sum := "59e248743c627daf0ed0ebc6ce4db424fb47f1b4d566c865ed4091bf2541685d", func := "loop.example/g01126/laws.FnExactFarthestFrom", spec := "fnExactFarthestFrom", unfollowed := true, recurses := true, apart := false }
def FnExactFarthestFromSaid : Prop := fnExactFarthestFromRow.holds Try.pinned (OpenSpec.ofChange fnExactFarthestFromSpec)

/-- ITS FALSE NEIGHBOUR: 'it returns false'. Refute it at one input. -/
def fnExactFarthestFromWrong : ChangeSpec := { name := "fnExactFarthestFrom", fn := fun _ => fun
  | [d] => { results := [.lit (.bool false)], args := [d] }
  | _ => none }
def FnExactFarthestFromWrongFalsely : Prop := fnExactFarthestFromRow.holds Try.pinned (OpenSpec.ofChange fnExactFarthestFromWrong)

/-- 'laws.FnExactBetweenSystems': WHATEVER THE INPUT: true; the input reads as it did. -/
def fnExactBetweenSystemsSpec : ChangeSpec := { name := "fnExactBetweenSystems", fn := fun _ => fun
  | [d1, d2] => { results := [.lit (.bool true)], args := [d1, d2] }
  | _ => none }
def fnExactBetweenSystemsRow : OpenClaim := { program := "ytdghlhdpcmemjaa", sum := "59e248743c627daf0ed0ebc6ce4db424fb47f1b4d566c865ed4091bf2541685d", func := "loop.example/g01126/laws.FnExactBetweenSystems", spec := "fnExactBetweenSystems", unfollowed := true, recurses := true, apart := false }
def FnExactBetweenSystemsSaid : Prop := fnExactBetweenSystemsRow.holds Try.pinned (OpenSpec.ofChange fnExactBetweenSystemsSpec)

/-- ITS FALSE NEIGHBOUR: 'it returns false'. Refute it at one input. -/
def fnExactBetweenSystemsWrong : ChangeSpec := { name := "fnExactBetweenSystems", fn := fun _ => fun
  | [d1, d2] => { results := [.lit (.bool false)], args := [d1, d2] }
  | _ => none }
def FnExactBetweenSystemsWrongFalsely : Prop := fnExactBetweenSystemsRow.holds Try.pinned (OpenSpec.ofChange fnExactBetweenSystemsWrong)

/-- 'laws.FnExactExchangePath': WHATEVER THE INPUT: true; the input reads as it did. -/
def fnExactExchangePathSpec : ChangeSpec := { name := "fnExactExchangePath", fn := fun _ => fun
  | [d1, d2] => { results := [.lit (.bool true)], args := [d1, d2] }
  | _ => none }
def fnExactExchangePathRow : OpenClaim := { program := "ytdghlhdpcmemjaa", sum := "59e248743c627daf0ed0ebc6ce4db424fb47f1b4d566c865ed4091bf2541685d", func := "loop.example/g01126/laws.FnExactExchangePath", spec := "fnExactExchangePath", unfollowed := true, recurses := true, apart := false }
def FnExactExchangePathSaid : Prop := fnExactExchangePathRow.holds Try.pinned (OpenSpec.ofChange fnExactExchangePathSpec)

/-- ITS FALSE NEIGHBOUR: 'it returns false'. Refute it at one input. -/
def fnExactExchangePathWrong : ChangeSpec := { name := "fnExactExchangePath", fn := fun _ => fun
  | [d1, d2] => { results := [.lit (.bool false)], args := [d1, d2] }
  | _ => none }
def FnExactExchangePathWrongFalsely : Prop := fnExactExchangePathRow.holds Try.pinned (OpenSpec.ofChange fnExactExchangePathWrong)

/-- 'laws.FnExactCountShortest': WHATEVER THE INPUT: true; the input reads as it did. -/
def fnExactCountShortestSpec : ChangeSpec := { name := "fnExactCountShortest", fn := fun _ => fun
  | [d1, d2] => { results := [.lit (.bool true)], args := [d1, d2] }
  | _ => none }
def fnExactCountShortestRow : OpenClaim := { program := "ytdghlhdpcmemjaa", sum := "59e248743c627daf0ed0ebc6ce4db424fb47f1b4d566c865ed4091bf2541685d", func := "loop.example/g01126/laws.FnExactCountShortest", spec := "fnExactCountShortest", unfollowed := true, recurses := true, apart := false }
def FnExactCountShortestSaid : Prop := fnExactCountShortestRow.holds Try.pinned (OpenSpec.ofChange fnExactCountShortestSpec)

/-- ITS FALSE NEIGHBOUR: 'it returns false'. Refute it at one input. -/
def fnExactCountShortestWrong : ChangeSpec := { name := "fnExactCountShortest", fn := fun _ => fun
  | [d1, d2] => { results := [.lit (.bool false)], args := [d1, d2] }
  | _ => none }
def FnExactCountShortestWrongFalsely : Prop := fnExactCountShortestRow.holds Try.pinned (OpenSpec.ofChange fnExactCountShortestWrong)

/-- 'laws.FnExactMergePath': WHATEVER THE INPUT: true; the input reads as it did. -/
def fnExactMergePathSpec : ChangeSpec := { name := "fnExactMergePath", fn := fun _ => fun
  | [d] => { results := [.lit (.bool true)], args := [d] }
  | _ => none }
def fnExactMergePathRow : OpenClaim := { program := "ytdghlhdpcmemjaa", sum := "59e248743c627daf0ed0ebc6ce4db424fb47f1b4d566c865ed4091bf2541685d", func := "loop.example/g01126/laws.FnExactMergePath", spec := "fnExactMergePath", unfollowed := true, recurses := true, apart := false }
def FnExactMergePathSaid : Prop := fnExactMergePathRow.holds Try.pinned (OpenSpec.ofChange fnExactMergePathSpec)

/-- ITS FALSE NEIGHBOUR: 'it returns false'. Refute it at one input. -/
def fnExactMergePathWrong : ChangeSpec := { name := "fnExactMergePath", fn := fun _ => fun
  | [d] => { results := [.lit (.bool false)], args := [d] }
  | _ => none }
def FnExactMergePathWrongFalsely : Prop := fnExactMergePathRow.holds Try.pinned (OpenSpec.ofChange fnExactMergePathWrong)

/-- 'laws.FnExactSplitPath': WHATEVER THE INPUT: true; the input reads as it did. -/
def fnExactSplitPathSpec : ChangeSpec := { name := "fnExactSplitPath", fn := fun _ => fun
  | [d] => { results := [.lit (.bool true)], args := [d] }
  | _ => none }
def fnExactSplitPathRow : OpenClaim := { program := "ytdghlhdpcmemjaa", sum := "59e248743c627daf0ed0ebc6ce4db424fb47f1b4d566c865ed4091bf2541685d", func := "loop.example/g01126/laws.FnExactSplitPath", spec := "fnExactSplitPath", unfollowed := true, recurses := true, apart := false }
def FnExactSplitPathSaid : Prop := fnExactSplitPathRow.holds Try.pinned (OpenSpec.ofChange fnExactSplitPathSpec)

/-- ITS FALSE NEIGHBOUR: 'it returns false'. Refute it at one input. -/
def fnExactSplitPathWrong : ChangeSpec := { name := "fnExactSplitPath", fn := fun _ => fun
  | [d] => { results := [.lit (.bool false)], args := [d] }
  | _ => none }
def FnExactSplitPathWrongFalsely : Prop := fnExactSplitPathRow.holds Try.pinned (OpenSpec.ofChange fnExactSplitPathWrong)

/- THE SECOND FORM. 'bulk': how many values and letters a reading holds, each counted each time it is reached (what is shared counts as often as it is met; a slice's spare places count too). A statement '..UptoSaid' is the law's where the arguments, and the package variables that the reading takes, are together of bulk at most 1048576: NARROWER than '..Said'. Prove '..Said' where nothing that the law and all that it calls make is longer than what came in: it says more and counts as full. Else prove '..UptoSaid'. A law counts once. -/
mutual
def uptoBulk {H : Type} : DataW H → Nat
  | .lit (.string bytes) => bytes.length + 1
  | .lit _ => 1
  | .nil => 1
  | .ptr d => uptoBulk d + 1
  | .slice elems spare => uptoBulkAll elems + uptoBulkAll spare + 1
  | .agg parts => uptoBulkAll parts + 1
  | .iface _ d => uptoBulk d + 1
  | .map entries => uptoBulkEntries entries + 1
  | .held _ => 1
def uptoBulkAll {H : Type} : List (DataW H) → Nat
  | [] => 0
  | d :: r => uptoBulk d + uptoBulkAll r
def uptoBulkEntries {H : Type} : List (Lit × DataW H) → Nat
  | [] => 0
  | x :: r => uptoBulkEntry x + uptoBulkEntries r
def uptoBulkEntry {H : Type} : Lit × DataW H → Nat
  | (.string bytes, d) => bytes.length + uptoBulk d + 1
  | (_, d) => uptoBulk d + 1
 end
def uptoSmall : (H : Type) → List (DataW H) → Bool := fun _ ds => decide (uptoBulkAll ds ≤ 1048576)
def OpenSpec.upto (s : _root_.Go.ChangeSpec) : _root_.Go.OpenSpec := { _root_.Go.OpenSpec.ofChange s with cond := some uptoSmall }

/-- 'laws.FnExactFacesOf', WHERE WHAT IT READS IS OF BULK AT MOST 1048576: true; the input reads as it did. -/
def fnExactFacesOfUptoRow : OpenClaim := { program := "ytdghlhdpcmemjaa", sum := "59e248743c627daf0ed0ebc6ce4db424fb47f1b4d566c865ed4091bf2541685d", func := "loop.example/g01126/laws.FnExactFacesOf", spec := "fnExactFacesOf", apart := false, narrowed := true }
def FnExactFacesOfUptoSaid : Prop := fnExactFacesOfUptoRow.holds Try.pinned (OpenSpec.upto fnExactFacesOfSpec)

/-- 'laws.FnExactExchangeDistance', WHERE WHAT IT READS IS OF BULK AT MOST 1048576: true; the input reads as it did. -/
def fnExactExchangeDistanceUptoRow : OpenClaim := { program := "ytdghlhdpcmemjaa", sum := "59e248743c627daf0ed0ebc6ce4db424fb47f1b4d566c865ed4091bf2541685d", func := "loop.example/g01126/laws.FnExactExchangeDistance", spec := "fnExactExchangeDistance", apart := false, narrowed := true }
def FnExactExchangeDistanceUptoSaid : Prop := fnExactExchangeDistanceUptoRow.holds Try.pinned (OpenSpec.upto fnExactExchangeDistanceSpec)

/-- 'laws.FnExactMergeDistance', WHERE WHAT IT READS IS OF BULK AT MOST 1048576: true; the input reads as it did. -/
def fnExactMergeDistanceUptoRow : OpenClaim := { program := "ytdghlhdpcmemjaa", sum := "59e248743c627daf0ed0ebc6ce4db424fb47f1b4d566c865ed4091bf2541685d", func := "loop.example/g01126/laws.FnExactMergeDistance", spec := "fnExactMergeDistance", apart := false, narrowed := true }
def FnExactMergeDistanceUptoSaid : Prop := fnExactMergeDistanceUptoRow.holds Try.pinned (OpenSpec.upto fnExactMergeDistanceSpec)

/-- 'laws.FnExactCountExchanges', WHERE WHAT IT READS IS OF BULK AT MOST 1048576: true; the input reads as it did. -/
def fnExactCountExchangesUptoRow : OpenClaim := { program := "ytdghlhdpcmemjaa", sum := "59e248743c627daf0ed0ebc6ce4db424fb47f1b4d566c865ed4091bf2541685d", func := "loop.example/g01126/laws.FnExactCountExchanges", spec := "fnExactCountExchanges", unfollowed := true, recurses := true, apart := false, narrowed := true }
def FnExactCountExchangesUptoSaid : Prop := fnExactCountExchangesUptoRow.holds Try.pinned (OpenSpec.upto fnExactCountExchangesSpec)

/-- 'laws.FnExactExchangeAt', WHERE WHAT IT READS IS OF BULK AT MOST 1048576: true; the input reads as it did. -/
def fnExactExchangeAtUptoRow : OpenClaim := { program := "ytdghlhdpcmemjaa", sum := "59e248743c627daf0ed0ebc6ce4db424fb47f1b4d566c865ed4091bf2541685d", func := "loop.example/g01126/laws.FnExactExchangeAt", spec := "fnExactExchangeAt", unfollowed := true, recurses := true, apart := false, narrowed := true }
def FnExactExchangeAtUptoSaid : Prop := fnExactExchangeAtUptoRow.holds Try.pinned (OpenSpec.upto fnExactExchangeAtSpec)

/-- 'laws.FnExactExchangesOf', WHERE WHAT IT READS IS OF BULK AT MOST 1048576: true; the input reads as it did. -/
def fnExactExchangesOfUptoRow : OpenClaim := { program := "ytdghlhdpcmemjaa", sum := "59e248743c627daf0ed0ebc6ce4db424fb47f1b4d566c865ed4091bf2541685d", func := "loop.example/g01126/laws.FnExactExchangesOf", spec := "fnExactExchangesOf", unfollowed := true, recurses := true, apart := false, narrowed := true }
def FnExactExchangesOfUptoSaid : Prop := fnExactExchangesOfUptoRow.holds Try.pinned (OpenSpec.upto fnExactExchangesOfSpec)

/-- 'laws.FnExactFarthestFrom', WHERE WHAT IT READS IS OF BULK AT MOST 1048576: true; the input reads as it did. -/
def fnExactFarthestFromUptoRow : OpenClaim := { program := "ytdghlhdpcmemjaa", sum := "59e248743c627daf0ed0ebc6ce4db424fb47f1b4d566c865ed4091bf2541685d", func := "loop.example/g01126/laws.FnExactFarthestFrom", spec := "fnExactFarthestFrom", unfollowed := true, recurses := true, apart := false, narrowed := true }
def FnExactFarthestFromUptoSaid : Prop := fnExactFarthestFromUptoRow.holds Try.pinned (OpenSpec.upto fnExactFarthestFromSpec)

/-- 'laws.FnExactBetweenSystems', WHERE WHAT IT READS IS OF BULK AT MOST 1048576: true; the input reads as it did. -/
def fnExactBetweenSystemsUptoRow : OpenClaim := { program := "ytdghlhdpcmemjaa", sum := "59e248743c627daf0ed0ebc6ce4db424fb47f1b4d566c865ed4091bf2541685d", func := "loop.example/g01126/laws.FnExactBetweenSystems", spec := "fnExactBetweenSystems", unfollowed := true, recurses := true, apart := false, narrowed := true }
def FnExactBetweenSystemsUptoSaid : Prop := fnExactBetweenSystemsUptoRow.holds Try.pinned (OpenSpec.upto fnExactBetweenSystemsSpec)

/-- 'laws.FnExactExchangePath', WHERE WHAT IT READS IS OF BULK AT MOST 1048576: true; the input reads as it did. -/
def fnExactExchangePathUptoRow : OpenClaim := { program := "ytdghlhdpcmemjaa", sum := "59e248743c627daf0ed0ebc6ce4db424fb47f1b4d566c865ed4091bf2541685d", func := "loop.example/g01126/laws.FnExactExchangePath", spec := "fnExactExchangePath", unfollowed := true, recurses := true, apart := false, narrowed := true }
def FnExactExchangePathUptoSaid : Prop := fnExactExchangePathUptoRow.holds Try.pinned (OpenSpec.upto fnExactExchangePathSpec)

/-- 'laws.FnExactCountShortest', WHERE WHAT IT READS IS OF BULK AT MOST 1048576: true; the input reads as it did. -/
def fnExactCountShortestUptoRow : OpenClaim := { program := "ytdghlhdpcmemjaa", sum := "59e248743c627daf0ed0ebc6ce4db424fb47f1b4d566c865ed4091bf2541685d", func := "loop.example/g01126/laws.FnExactCountShortest", spec := "fnExactCountShortest", unfollowed := true, recurses := true, apart := false, narrowed := true }
def FnExactCountShortestUptoSaid : Prop := fnExactCountShortestUptoRow.holds Try.pinned (OpenSpec.upto fnExactCountShortestSpec)

/-- 'laws.FnExactMergePath', WHERE WHAT IT READS IS OF BULK AT MOST 1048576: true; the input reads as it did. -/
def fnExactMergePathUptoRow : OpenClaim := { program := "ytdghlhdpcmemjaa", sum := "59e248743c627daf0ed0ebc6ce4db424fb47f1b4d566c865ed4091bf2541685d", func := "loop.example/g01126/laws.FnExactMergePath", spec := "fnExactMergePath", unfollowed := true, recurses := true, apart := false, narrowed := true }
def FnExactMergePathUptoSaid : Prop := fnExactMergePathUptoRow.holds Try.pinned (OpenSpec.upto fnExactMergePathSpec)

/-- 'laws.FnExactSplitPath', WHERE WHAT IT READS IS OF BULK AT MOST 1048576: true; the input reads as it did. -/
def fnExactSplitPathUptoRow : OpenClaim := { program := "ytdghlhdpcmemjaa", sum := "59e248743c627daf0ed0ebc6ce4db424fb47f1b4d566c865ed4091bf2541685d", func := "loop.example/g01126/laws.FnExactSplitPath", spec := "fnExactSplitPath", unfollowed := true, recurses := true, apart := false, narrowed := true }
def FnExactSplitPathUptoSaid : Prop := fnExactSplitPathUptoRow.holds Try.pinned (OpenSpec.upto fnExactSplitPathSpec)

end Rows
end Go.Proofs.Ytdghlhdpcmemjaa
