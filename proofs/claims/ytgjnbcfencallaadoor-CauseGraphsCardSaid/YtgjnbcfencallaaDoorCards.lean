/-
  DERIVED. GIVEN WITH THE SEED: THE CARDS: each row of YtgjnbcfencallaaDoorRows.lean that lists a variable, with what it lists TIED to the program's text (the seventh form; the later family's looks); each row that meets fmt, with fmt's text TOLD by the authors' own Lean function (tested against real Go, not proved from fmt's source: count such statements apart). THE CARD IS WHAT COUNTS. Prove the row's statement (the work); the ties are given (YtgjnbcfencallaaDoorTie.lean); close each card by the builder's one call (the guide's Derived/Test/ToyasCard.lean, 'card_holds'). Laid BY PROGRAM, IN A SANDBOX (cutbox-door.mjs). By AI agents, Wed Nov 11 2026. No macro, syntax, notation, axiom, sorry.
-/
import Derived.Test.YtgjnbcfencallaaDoorRows
import GoSem.ClaimSeven
namespace Go.Proofs.YtgjnbcfencallaaDoor
namespace Rows

/-- THE TIED CARD OF 'augurlaw.GraphExact'. -/
def graphExactCard : Claim7 := { stood := { row := graphExactRow, standIns := [], harness := (true, "59143d62fd6672dabfa94275cebc66a3623d11f97170dd20434eb03818c626b4"), looks := false }, kinds := [], alts := [], laidByText := true, laidKinds := [.data, .data], laidTests := true, laidLooks := .later }
def GraphExactCardSaid : Prop := Claim7.holds Tryd.pinned (.plain (OpenSpec.ofChange graphExactSpec)) graphExactCard

/-- THE TIED CARD OF 'augurlaw.GraphFills'. -/
def graphFillsCard : Claim7 := { stood := { row := graphFillsRow, standIns := [], harness := (true, "59143d62fd6672dabfa94275cebc66a3623d11f97170dd20434eb03818c626b4"), looks := false }, kinds := [], alts := [], laidByText := true, laidKinds := [.data, .data], laidTests := true, laidLooks := .later }
def GraphFillsCardSaid : Prop := Claim7.holds Tryd.pinned (.plain (OpenSpec.ofChange graphFillsSpec)) graphFillsCard

/-- THE TIED CARD OF 'augurlaw.GraphTrees'. -/
def graphTreesCard : Claim7 := { stood := { row := graphTreesRow, standIns := [], harness := (true, "59143d62fd6672dabfa94275cebc66a3623d11f97170dd20434eb03818c626b4"), looks := false }, kinds := [], alts := [], laidByText := true, laidKinds := [.data, .data], laidTests := true, laidLooks := .later }
def GraphTreesCardSaid : Prop := Claim7.holds Tryd.pinned (.plain (OpenSpec.ofChange graphTreesSpec)) graphTreesCard

/-- THE TIED CARD OF 'augurlaw.CauseGraphs'. -/
def causeGraphsCard : Claim7 := { stood := { row := causeGraphsRow, standIns := [], harness := (true, "59143d62fd6672dabfa94275cebc66a3623d11f97170dd20434eb03818c626b4"), looks := false }, kinds := [], alts := [], laidByText := true, laidKinds := [.data, .data], laidTests := true, laidLooks := .later }
def CauseGraphsCardSaid : Prop := Claim7.holds Tryd.pinned (.plain (OpenSpec.ofChange causeGraphsSpec)) causeGraphsCard

/-- THE SECOND FORM's CARD OF 'augurlaw.GraphExact'. -/
def graphExactUptoCard : Claim7 := { stood := { row := graphExactUptoRow, standIns := [], harness := (true, "59143d62fd6672dabfa94275cebc66a3623d11f97170dd20434eb03818c626b4"), looks := false }, kinds := [], alts := [], laidByText := true, laidKinds := [.data, .data], laidTests := true, laidLooks := .later }
def GraphExactUptoCardSaid : Prop := Claim7.holds Tryd.pinned (.plain (OpenSpec.upto graphExactSpec)) graphExactUptoCard

/-- THE SECOND FORM's CARD OF 'augurlaw.GraphFills'. -/
def graphFillsUptoCard : Claim7 := { stood := { row := graphFillsUptoRow, standIns := [], harness := (true, "59143d62fd6672dabfa94275cebc66a3623d11f97170dd20434eb03818c626b4"), looks := false }, kinds := [], alts := [], laidByText := true, laidKinds := [.data, .data], laidTests := true, laidLooks := .later }
def GraphFillsUptoCardSaid : Prop := Claim7.holds Tryd.pinned (.plain (OpenSpec.upto graphFillsSpec)) graphFillsUptoCard

/-- THE SECOND FORM's CARD OF 'augurlaw.GraphTrees'. -/
def graphTreesUptoCard : Claim7 := { stood := { row := graphTreesUptoRow, standIns := [], harness := (true, "59143d62fd6672dabfa94275cebc66a3623d11f97170dd20434eb03818c626b4"), looks := false }, kinds := [], alts := [], laidByText := true, laidKinds := [.data, .data], laidTests := true, laidLooks := .later }
def GraphTreesUptoCardSaid : Prop := Claim7.holds Tryd.pinned (.plain (OpenSpec.upto graphTreesSpec)) graphTreesUptoCard

/-- THE SECOND FORM's CARD OF 'augurlaw.CauseGraphs'. -/
def causeGraphsUptoCard : Claim7 := { stood := { row := causeGraphsUptoRow, standIns := [], harness := (true, "59143d62fd6672dabfa94275cebc66a3623d11f97170dd20434eb03818c626b4"), looks := false }, kinds := [], alts := [], laidByText := true, laidKinds := [.data, .data], laidTests := true, laidLooks := .later }
def CauseGraphsUptoCardSaid : Prop := Claim7.holds Tryd.pinned (.plain (OpenSpec.upto causeGraphsSpec)) causeGraphsUptoCard
end Rows
end Go.Proofs.YtgjnbcfencallaaDoor
