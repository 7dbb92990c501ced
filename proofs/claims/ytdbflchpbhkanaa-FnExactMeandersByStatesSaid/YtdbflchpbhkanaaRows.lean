/-
  No cell of these rows narrows 'for every input' (looked for: loops, veiled, ifaces, maps, wideKeys, modest, calm, conditions, laid).
  DERIVED. THE GIVEN ROWS OF THIS SEAT. 3 by the template 'for every input the law returns true; each argument reads behind the call as it read before'; 0 by the template 'total and deterministic' (their statements: YtdbflchpbhkanaaTotals.lean).
  GIVEN WITH THE SEED: the statements are not yours to turn. If you find one false, say at which input.
  Laid BY PROGRAM, IN A SANDBOX (cutbox-rows.mjs): the forced cells as the released guide's own fill.sh prints them over the translation 053f512caa8f5018… (all of the seat's roots in one cut). By AI agents, Wed Nov 11 2026. No macro, syntax, notation, axiom, sorry.
-/
import Derived.Test.YtdbflchpbhkanaaChecked
import GoSem.Claim
import GoSem.ClaimJoined
import GoSem.ClaimMapViews
import Derived.JoinedTies
import Derived.KernelRfl
namespace Go.Proofs.Ytdbflchpbhkanaa
/- THE CELL 'sum', in the pinned program and in every row, IS THE sha256 OF THE DUMP (.gsa) THAT YtdbflchpbhkanaaProg.lean LOADS. Nothing in Lean hashes anything: it is a label: what it is worth is what the hold of that sum in a sandbox is worth. -/
noncomputable def Try.pinned : Pinned := { name := "ytdbflchpbhkanaa", sum := "053f512caa8f5018031b0b93248231500020db8774317227c20afbf34e0adc0b", checked := Try.checked }
namespace Rows
def none {H : Type} : Left H := { results := [], args := [] }

/-- 'laws.FnExactMeandersByStates': WHATEVER THE INPUT: true; the input reads as it did. -/
def fnExactMeandersByStatesSpec : ChangeSpec := { name := "fnExactMeandersByStates", fn := fun _ => fun
  | [d] => { results := [.lit (.bool true)], args := [d] }
  | _ => none }
def fnExactMeandersByStatesRow : OpenClaim := { program := "ytdbflchpbhkanaa", sum := "053f512caa8f5018031b0b93248231500020db8774317227c20afbf34e0adc0b", func := "loop.example/g01126/laws.FnExactMeandersByStates", spec := "fnExactMeandersByStates", unfollowed := true, recurses := true, apart := false }
def FnExactMeandersByStatesSaid : Prop := fnExactMeandersByStatesRow.holds Try.pinned (OpenSpec.ofChange fnExactMeandersByStatesSpec)

/-- ITS FALSE NEIGHBOUR: 'it returns false'. Refute it at one input. -/
def fnExactMeandersByStatesWrong : ChangeSpec := { name := "fnExactMeandersByStates", fn := fun _ => fun
  | [d] => { results := [.lit (.bool false)], args := [d] }
  | _ => none }
def FnExactMeandersByStatesWrongFalsely : Prop := fnExactMeandersByStatesRow.holds Try.pinned (OpenSpec.ofChange fnExactMeandersByStatesWrong)

/-- 'laws.FnExactCountByStates': WHATEVER THE INPUT: true; the input reads as it did. -/
def fnExactCountByStatesSpec : ChangeSpec := { name := "fnExactCountByStates", fn := fun _ => fun
  | [d] => { results := [.lit (.bool true)], args := [d] }
  | _ => none }
def fnExactCountByStatesRow : OpenClaim := { program := "ytdbflchpbhkanaa", sum := "053f512caa8f5018031b0b93248231500020db8774317227c20afbf34e0adc0b", func := "loop.example/g01126/laws.FnExactCountByStates", spec := "fnExactCountByStates", unfollowed := true, recurses := true, apart := false }
def FnExactCountByStatesSaid : Prop := fnExactCountByStatesRow.holds Try.pinned (OpenSpec.ofChange fnExactCountByStatesSpec)

/-- ITS FALSE NEIGHBOUR: 'it returns false'. Refute it at one input. -/
def fnExactCountByStatesWrong : ChangeSpec := { name := "fnExactCountByStates", fn := fun _ => fun
  | [d] => { results := [.lit (.bool false)], args := [d] }
  | _ => none }
def FnExactCountByStatesWrongFalsely : Prop := fnExactCountByStatesRow.holds Try.pinned (OpenSpec.ofChange fnExactCountByStatesWrong)

/-- 'laws.FnExactWaysToClose': WHATEVER THE INPUT: true; the input reads as it did. -/
def fnExactWaysToCloseSpec : ChangeSpec := { name := "fnExactWaysToClose", fn := fun _ => fun
  | [d1, d2, d3] => { results := [.lit (.bool true)], args := [d1, d2, d3] }
  | _ => none }
def fnExactWaysToCloseRow : OpenClaim := { program := "ytdbflchpbhkanaa", sum := "053f512caa8f5018031b0b93248231500020db8774317227c20afbf34e0adc0b", func := "loop.example/g01126/laws.FnExactWaysToClose", spec := "fnExactWaysToClose", unfollowed := true, recurses := true, apart := false }
def FnExactWaysToCloseSaid : Prop := fnExactWaysToCloseRow.holds Try.pinned (OpenSpec.ofChange fnExactWaysToCloseSpec)

/-- ITS FALSE NEIGHBOUR: 'it returns false'. Refute it at one input. -/
def fnExactWaysToCloseWrong : ChangeSpec := { name := "fnExactWaysToClose", fn := fun _ => fun
  | [d1, d2, d3] => { results := [.lit (.bool false)], args := [d1, d2, d3] }
  | _ => none }
def FnExactWaysToCloseWrongFalsely : Prop := fnExactWaysToCloseRow.holds Try.pinned (OpenSpec.ofChange fnExactWaysToCloseWrong)

/- THE SECOND FORM. 'bulk': how many values and letters a reading holds, each counted each time it is reached (what is shared counts as often as it is met; a slice's spare places count too). A statement '..UptoSaid' is the law's where the arguments, and the package variables that the reading takes, are together of bulk at most 1048576: NARROWER than '..Said'. Prove '..Said' where nothing that the law and all that it calls make is longer than what came in: it says more and counts as full. Else prove '..UptoSaid'. A law counts once. -/
mutual
def uptoBulk {H : Type} : DataW H → Nat
  | .lit (.string bytes) => bytes.length + 1
  | .lit _ => 1
  | .nil => 1
  | .ptr d => uptoBulk d + 1
  | .slice elems spare => uptoBulkAll elems + uptoBulkAll spare + 1
  | .agg parts => uptoBulkAll parts + 1
  | .iface _ d => uptoBulk d + 1
  | .map entries => uptoBulkEntries entries + 1
  | .held _ => 1
def uptoBulkAll {H : Type} : List (DataW H) → Nat
  | [] => 0
  | d :: r => uptoBulk d + uptoBulkAll r
def uptoBulkEntries {H : Type} : List (Lit × DataW H) → Nat
  | [] => 0
  | x :: r => uptoBulkEntry x + uptoBulkEntries r
def uptoBulkEntry {H : Type} : Lit × DataW H → Nat
  | (.string bytes, d) => bytes.length + uptoBulk d + 1
  | (_, d) => uptoBulk d + 1
 end
def uptoSmall : (H : Type) → List (DataW H) → Bool := fun _ ds => decide (uptoBulkAll ds ≤ 1048576)
def OpenSpec.upto (s : _root_.Go.ChangeSpec) : _root_.Go.OpenSpec := { _root_.Go.OpenSpec.ofChange s with cond := some uptoSmall }

/-- 'laws.FnExactMeandersByStates', WHERE WHAT IT READS IS OF BULK AT MOST 1048576: true; the input reads as it did. -/
def fnExactMeandersByStatesUptoRow : OpenClaim := { program := "ytdbflchpbhkanaa", sum := "053f512caa8f5018031b0b93248231500020db8774317227c20afbf34e0adc0b", func := "loop.example/g01126/laws.FnExactMeandersByStates", spec := "fnExactMeandersByStates", unfollowed := true, recurses := true, apart := false, narrowed := true }
def FnExactMeandersByStatesUptoSaid : Prop := fnExactMeandersByStatesUptoRow.holds Try.pinned (OpenSpec.upto fnExactMeandersByStatesSpec)

/-- 'laws.FnExactCountByStates', WHERE WHAT IT READS IS OF BULK AT MOST 1048576: true; the input reads as it did. -/
def fnExactCountByStatesUptoRow : OpenClaim := { program := "ytdbflchpbhkanaa", sum := "053f512caa8f5018031b0b93248231500020db8774317227c20afbf34e0adc0b", func := "loop.example/g01126/laws.FnExactCountByStates", spec := "fnExactCountByStates", unfollowed := true, recurses := true, apart := false, narrowed := true }
def FnExactCountByStatesUptoSaid : Prop := fnExactCountByStatesUptoRow.holds Try.pinned (OpenSpec.upto fnExactCountByStatesSpec)

/-- 'laws.FnExactWaysToClose', WHERE WHAT IT READS IS OF BULK AT MOST 1048576: true; the input reads as it did. -/
def fnExactWaysToCloseUptoRow : OpenClaim := { program := "ytdbflchpbhkanaa", sum := "053f512caa8f5018031b0b93248231500020db8774317227c20afbf34e0adc0b", func := "loop.example/g01126/laws.FnExactWaysToClose", spec := "fnExactWaysToClose", unfollowed := true, recurses := true, apart := false, narrowed := true }
def FnExactWaysToCloseUptoSaid : Prop := fnExactWaysToCloseUptoRow.holds Try.pinned (OpenSpec.upto fnExactWaysToCloseSpec)

end Rows
end Go.Proofs.Ytdbflchpbhkanaa
