/-
  DERIVED. GIVEN WITH THE SEED: THE CARDS: each row of YtcihlmfjbfgfoaaDoorRows.lean that lists a variable, with what it lists TIED to the program's text (the seventh form; the later family's looks); each row that meets fmt, with fmt's text TOLD by the authors' own Lean function (tested against real Go, not proved from fmt's source: count such statements apart). THE CARD IS WHAT COUNTS. Prove the row's statement (the work); the ties are given (YtcihlmfjbfgfoaaDoorTie.lean); close each card by the builder's one call (the guide's Derived/Test/ToyasCard.lean, 'card_holds'). Laid BY PROGRAM, IN A SANDBOX (cutbox-door.mjs). By AI agents, Wed Nov 11 2026. No macro, syntax, notation, axiom, sorry.
-/
import Derived.Test.YtcihlmfjbfgfoaaDoorRows
import GoSem.ClaimSeven
namespace Go.Proofs.YtcihlmfjbfgfoaaDoor
namespace Rows

/-- THE TIED CARD OF 'laws.FnFactorText'. -/
def fnFactorTextCard : Claim7 := { stood := { row := fnFactorTextRow, standIns := [], harness := (true, "6cd7b7a595a715294e2aafe577d6cdcee4a7f68bc08e4fd22b09f99151756d3a"), looks := true }, kinds := [], alts := [], laidByText := true, laidKinds := [.data, .data, .data, .data, .sentinel, .sentinel, .pinned], laidTests := true, laidLooks := .later }
def FnFactorTextCardSaid : Prop := Claim7.holds Tryd.pinned (.plain (OpenSpec.ofChange fnFactorTextSpec)) fnFactorTextCard

/-- THE TIED CARD OF 'laws.FnExactReadFactors'. -/
def fnExactReadFactorsCard : Claim7 := { stood := { row := fnExactReadFactorsRow, standIns := [], harness := (true, "6cd7b7a595a715294e2aafe577d6cdcee4a7f68bc08e4fd22b09f99151756d3a"), looks := true }, kinds := [], alts := [], laidByText := true, laidKinds := [.data, .data, .data, .data, .sentinel, .sentinel, .pinned], laidTests := true, laidLooks := .later }
def FnExactReadFactorsCardSaid : Prop := Claim7.holds Tryd.pinned (.plain (OpenSpec.ofChange fnExactReadFactorsSpec)) fnExactReadFactorsCard

/-- THE TIED CARD OF 'laws.FnReadFactors'. -/
def fnReadFactorsCard : Claim7 := { stood := { row := fnReadFactorsRow, standIns := [], harness := (true, "6cd7b7a595a715294e2aafe577d6cdcee4a7f68bc08e4fd22b09f99151756d3a"), looks := true }, kinds := [], alts := [], laidByText := true, laidKinds := [.data, .data, .data, .data, .sentinel, .sentinel, .pinned], laidTests := true, laidLooks := .later }
def FnReadFactorsCardSaid : Prop := Claim7.holds Tryd.pinned (.plain (OpenSpec.ofChange fnReadFactorsSpec)) fnReadFactorsCard

/-- THE TIED CARD OF 'laws.FnExactFactorText'. -/
def fnExactFactorTextCard : Claim7 := { stood := { row := fnExactFactorTextRow, standIns := [], harness := (true, "6cd7b7a595a715294e2aafe577d6cdcee4a7f68bc08e4fd22b09f99151756d3a"), looks := true }, kinds := [], alts := [], laidByText := true, laidKinds := [.data, .data, .data], laidTests := true, laidLooks := .later }
def FnExactFactorTextCardSaid : Prop := Claim7.holds Tryd.pinned (.plain (OpenSpec.ofChange fnExactFactorTextSpec)) fnExactFactorTextCard

/-- THE SECOND FORM's CARD OF 'laws.FnFactorText'. -/
def fnFactorTextUptoCard : Claim7 := { stood := { row := fnFactorTextUptoRow, standIns := [], harness := (true, "6cd7b7a595a715294e2aafe577d6cdcee4a7f68bc08e4fd22b09f99151756d3a"), looks := true }, kinds := [], alts := [], laidByText := true, laidKinds := [.data, .data, .data, .data, .sentinel, .sentinel, .pinned], laidTests := true, laidLooks := .later }
def FnFactorTextUptoCardSaid : Prop := Claim7.holds Tryd.pinned (.plain (OpenSpec.upto fnFactorTextSpec)) fnFactorTextUptoCard

/-- THE SECOND FORM's CARD OF 'laws.FnExactReadFactors'. -/
def fnExactReadFactorsUptoCard : Claim7 := { stood := { row := fnExactReadFactorsUptoRow, standIns := [], harness := (true, "6cd7b7a595a715294e2aafe577d6cdcee4a7f68bc08e4fd22b09f99151756d3a"), looks := true }, kinds := [], alts := [], laidByText := true, laidKinds := [.data, .data, .data, .data, .sentinel, .sentinel, .pinned], laidTests := true, laidLooks := .later }
def FnExactReadFactorsUptoCardSaid : Prop := Claim7.holds Tryd.pinned (.plain (OpenSpec.upto fnExactReadFactorsSpec)) fnExactReadFactorsUptoCard

/-- THE SECOND FORM's CARD OF 'laws.FnReadFactors'. -/
def fnReadFactorsUptoCard : Claim7 := { stood := { row := fnReadFactorsUptoRow, standIns := [], harness := (true, "6cd7b7a595a715294e2aafe577d6cdcee4a7f68bc08e4fd22b09f99151756d3a"), looks := true }, kinds := [], alts := [], laidByText := true, laidKinds := [.data, .data, .data, .data, .sentinel, .sentinel, .pinned], laidTests := true, laidLooks := .later }
def FnReadFactorsUptoCardSaid : Prop := Claim7.holds Tryd.pinned (.plain (OpenSpec.upto fnReadFactorsSpec)) fnReadFactorsUptoCard

/-- THE SECOND FORM's CARD OF 'laws.FnExactFactorText'. -/
def fnExactFactorTextUptoCard : Claim7 := { stood := { row := fnExactFactorTextUptoRow, standIns := [], harness := (true, "6cd7b7a595a715294e2aafe577d6cdcee4a7f68bc08e4fd22b09f99151756d3a"), looks := true }, kinds := [], alts := [], laidByText := true, laidKinds := [.data, .data, .data], laidTests := true, laidLooks := .later }
def FnExactFactorTextUptoCardSaid : Prop := Claim7.holds Tryd.pinned (.plain (OpenSpec.upto fnExactFactorTextSpec)) fnExactFactorTextUptoCard
end Rows
end Go.Proofs.YtcihlmfjbfgfoaaDoor
