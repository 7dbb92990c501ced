/-
  DERIVED. GIVEN WITH THE SEED: THE CARDS: each row of YtcbdgkgdopkofaaDoorRows.lean that lists a variable, with what it lists TIED to the program's text (the seventh form; the later family's looks); each row that meets fmt, with fmt's text TOLD by the authors' own Lean function (tested against real Go, not proved from fmt's source: count such statements apart). THE CARD IS WHAT COUNTS. Prove the row's statement (the work); the ties are given (YtcbdgkgdopkofaaDoorTie.lean); close each card by the builder's one call (the guide's Derived/Test/ToyasCard.lean, 'card_holds'). Laid BY PROGRAM, IN A SANDBOX (cutbox-door.mjs). By AI agents, Wed Nov 11 2026. No macro, syntax, notation, axiom, sorry.
-/
import Derived.Test.YtcbdgkgdopkofaaDoorRows
import GoSem.ClaimSeven
namespace Go.Proofs.YtcbdgkgdopkofaaDoor
namespace Rows

/-- THE TIED CARD OF 'laws.FnExactSeaweedText'. -/
def fnExactSeaweedTextCard : Claim7 := { stood := { row := fnExactSeaweedTextRow, standIns := [], harness := (true, "024bc66534219bc628c2395249b0fb648dcc30d73b5d26dde6aed0fba7220aed"), looks := true }, kinds := [], alts := [], laidByText := true, laidKinds := [.data, .data, .data], laidTests := true, laidLooks := .later }
def FnExactSeaweedTextCardSaid : Prop := Claim7.holds Tryd.pinned (.plain (OpenSpec.ofChange fnExactSeaweedTextSpec)) fnExactSeaweedTextCard

/-- THE TIED CARD OF 'laws.FnExactWindRun'. -/
def fnExactWindRunCard : Claim7 := { stood := { row := fnExactWindRunRow, standIns := [], harness := (true, "024bc66534219bc628c2395249b0fb648dcc30d73b5d26dde6aed0fba7220aed"), looks := true }, kinds := [], alts := [], laidByText := true, laidKinds := [.data, .data, .data], laidTests := true, laidLooks := .later }
def FnExactWindRunCardSaid : Prop := Claim7.holds Tryd.pinned (.plain (OpenSpec.ofChange fnExactWindRunSpec)) fnExactWindRunCard

/-- THE TIED CARD OF 'laws.FnExactParseSeaweed'. -/
def fnExactParseSeaweedCard : Claim7 := { stood := { row := fnExactParseSeaweedRow, standIns := [], harness := (true, "024bc66534219bc628c2395249b0fb648dcc30d73b5d26dde6aed0fba7220aed"), looks := true }, kinds := [], alts := [], laidByText := true, laidKinds := [.data, .data, .data, .data, .sentinel, .sentinel, .pinned], laidTests := true, laidLooks := .later }
def FnExactParseSeaweedCardSaid : Prop := Claim7.holds Tryd.pinned (.plain (OpenSpec.ofChange fnExactParseSeaweedSpec)) fnExactParseSeaweedCard

/-- THE SECOND FORM's CARD OF 'laws.FnExactSeaweedText'. -/
def fnExactSeaweedTextUptoCard : Claim7 := { stood := { row := fnExactSeaweedTextUptoRow, standIns := [], harness := (true, "024bc66534219bc628c2395249b0fb648dcc30d73b5d26dde6aed0fba7220aed"), looks := true }, kinds := [], alts := [], laidByText := true, laidKinds := [.data, .data, .data], laidTests := true, laidLooks := .later }
def FnExactSeaweedTextUptoCardSaid : Prop := Claim7.holds Tryd.pinned (.plain (OpenSpec.upto fnExactSeaweedTextSpec)) fnExactSeaweedTextUptoCard

/-- THE SECOND FORM's CARD OF 'laws.FnExactWindRun'. -/
def fnExactWindRunUptoCard : Claim7 := { stood := { row := fnExactWindRunUptoRow, standIns := [], harness := (true, "024bc66534219bc628c2395249b0fb648dcc30d73b5d26dde6aed0fba7220aed"), looks := true }, kinds := [], alts := [], laidByText := true, laidKinds := [.data, .data, .data], laidTests := true, laidLooks := .later }
def FnExactWindRunUptoCardSaid : Prop := Claim7.holds Tryd.pinned (.plain (OpenSpec.upto fnExactWindRunSpec)) fnExactWindRunUptoCard

/-- THE SECOND FORM's CARD OF 'laws.FnExactParseSeaweed'. -/
def fnExactParseSeaweedUptoCard : Claim7 := { stood := { row := fnExactParseSeaweedUptoRow, standIns := [], harness := (true, "024bc66534219bc628c2395249b0fb648dcc30d73b5d26dde6aed0fba7220aed"), looks := true }, kinds := [], alts := [], laidByText := true, laidKinds := [.data, .data, .data, .data, .sentinel, .sentinel, .pinned], laidTests := true, laidLooks := .later }
def FnExactParseSeaweedUptoCardSaid : Prop := Claim7.holds Tryd.pinned (.plain (OpenSpec.upto fnExactParseSeaweedSpec)) fnExactParseSeaweedUptoCard
end Rows
end Go.Proofs.YtcbdgkgdopkofaaDoor
