/-
  DERIVED. GIVEN WITH THE SEED: THE CARDS: each row of YtabmgfchkcmcmaaDoorRows.lean that lists a variable, with what it lists TIED to the program's text (the seventh form; the later family's looks); each row that meets fmt, with fmt's text TOLD by the authors' own Lean function (tested against real Go, not proved from fmt's source: count such statements apart). THE CARD IS WHAT COUNTS. Prove the row's statement (the work); the ties are given (YtabmgfchkcmcmaaDoorTie.lean); close each card by the builder's one call (the guide's Derived/Test/ToyasCard.lean, 'card_holds'). Laid BY PROGRAM, IN A SANDBOX (cutbox-door.mjs). By AI agents, Wed Nov 11 2026. No macro, syntax, notation, axiom, sorry.
-/
import Derived.Test.YtabmgfchkcmcmaaDoorRows
import GoSem.ClaimSeven
namespace Go.Proofs.YtabmgfchkcmcmaaDoor
namespace Rows

/-- THE TIED CARD OF 'augurlaw.GraphExact'. -/
def graphExactCard : Claim7 := { stood := { row := graphExactRow, standIns := [], harness := (true, "6115e1d08d4a57eea5deb0a429f8ff882abbe7fc92225df445c8779dc19a65b9"), looks := false }, kinds := [], alts := [], laidByText := true, laidKinds := [.data, .data], laidTests := true, laidLooks := .later }
def GraphExactCardSaid : Prop := Claim7.holds Tryd.pinned (.plain (OpenSpec.ofChange graphExactSpec)) graphExactCard

/-- THE TIED CARD OF 'augurlaw.GraphFills'. -/
def graphFillsCard : Claim7 := { stood := { row := graphFillsRow, standIns := [], harness := (true, "6115e1d08d4a57eea5deb0a429f8ff882abbe7fc92225df445c8779dc19a65b9"), looks := false }, kinds := [], alts := [], laidByText := true, laidKinds := [.data, .data], laidTests := true, laidLooks := .later }
def GraphFillsCardSaid : Prop := Claim7.holds Tryd.pinned (.plain (OpenSpec.ofChange graphFillsSpec)) graphFillsCard

/-- THE TIED CARD OF 'augurlaw.GraphTrees'. -/
def graphTreesCard : Claim7 := { stood := { row := graphTreesRow, standIns := [], harness := (true, "6115e1d08d4a57eea5deb0a429f8ff882abbe7fc92225df445c8779dc19a65b9"), looks := false }, kinds := [], alts := [], laidByText := true, laidKinds := [.data, .data], laidTests := true, laidLooks := .later }
def GraphTreesCardSaid : Prop := Claim7.holds Tryd.pinned (.plain (OpenSpec.ofChange graphTreesSpec)) graphTreesCard

/-- THE TIED CARD OF 'augurlaw.WalkDice'. -/
def walkDiceCard : Claim7 := { stood := { row := walkDiceRow, standIns := [], harness := (true, "6115e1d08d4a57eea5deb0a429f8ff882abbe7fc92225df445c8779dc19a65b9"), looks := false }, kinds := [], alts := [], laidByText := true, laidKinds := [.data, .pinned], laidTests := true, laidLooks := .later }
def WalkDiceCardSaid : Prop := Claim7.holds Tryd.pinned (.plain (OpenSpec.ofChange walkDiceSpec)) walkDiceCard

/-- THE TIED CARD OF 'augurlaw.WalkChains'. -/
def walkChainsCard : Claim7 := { stood := { row := walkChainsRow, standIns := [], harness := (true, "6115e1d08d4a57eea5deb0a429f8ff882abbe7fc92225df445c8779dc19a65b9"), looks := false }, kinds := [], alts := [], laidByText := true, laidKinds := [.data, .pinned], laidTests := true, laidLooks := .later }
def WalkChainsCardSaid : Prop := Claim7.holds Tryd.pinned (.plain (OpenSpec.ofChange walkChainsSpec)) walkChainsCard

/-- THE TIED CARD OF 'augurlaw.HiddenMeets'. -/
def hiddenMeetsCard : Claim7 := { stood := { row := hiddenMeetsRow, standIns := [], harness := (true, "6115e1d08d4a57eea5deb0a429f8ff882abbe7fc92225df445c8779dc19a65b9"), looks := false }, kinds := [], alts := [], laidByText := true, laidKinds := [.data, .pinned], laidTests := true, laidLooks := .later }
def HiddenMeetsCardSaid : Prop := Claim7.holds Tryd.pinned (.plain (OpenSpec.ofChange hiddenMeetsSpec)) hiddenMeetsCard

/-- THE TIED CARD OF 'augurlaw.ChainHits'. -/
def chainHitsCard : Claim7 := { stood := { row := chainHitsRow, standIns := [], harness := (true, "6115e1d08d4a57eea5deb0a429f8ff882abbe7fc92225df445c8779dc19a65b9"), looks := false }, kinds := [], alts := [], laidByText := true, laidKinds := [.data, .pinned], laidTests := true, laidLooks := .later }
def ChainHitsCardSaid : Prop := Claim7.holds Tryd.pinned (.plain (OpenSpec.ofChange chainHitsSpec)) chainHitsCard

/-- THE TIED CARD OF 'augurlaw.ChainCycles'. -/
def chainCyclesCard : Claim7 := { stood := { row := chainCyclesRow, standIns := [], harness := (true, "6115e1d08d4a57eea5deb0a429f8ff882abbe7fc92225df445c8779dc19a65b9"), looks := false }, kinds := [], alts := [], laidByText := true, laidKinds := [.data, .pinned], laidTests := true, laidLooks := .later }
def ChainCyclesCardSaid : Prop := Claim7.holds Tryd.pinned (.plain (OpenSpec.ofChange chainCyclesSpec)) chainCyclesCard

/-- THE TIED CARD OF 'augurlaw.CauseGraphs'. -/
def causeGraphsCard : Claim7 := { stood := { row := causeGraphsRow, standIns := [], harness := (true, "6115e1d08d4a57eea5deb0a429f8ff882abbe7fc92225df445c8779dc19a65b9"), looks := false }, kinds := [], alts := [], laidByText := true, laidKinds := [.data, .data], laidTests := true, laidLooks := .later }
def CauseGraphsCardSaid : Prop := Claim7.holds Tryd.pinned (.plain (OpenSpec.ofChange causeGraphsSpec)) causeGraphsCard

/-- THE TIED CARD OF 'augurlaw.ChainPowers'. -/
def chainPowersCard : Claim7 := { stood := { row := chainPowersRow, standIns := [], harness := (true, "6115e1d08d4a57eea5deb0a429f8ff882abbe7fc92225df445c8779dc19a65b9"), looks := false }, kinds := [], alts := [], laidByText := true, laidKinds := [.data, .pinned], laidTests := true, laidLooks := .later }
def ChainPowersCardSaid : Prop := Claim7.holds Tryd.pinned (.plain (OpenSpec.ofChange chainPowersSpec)) chainPowersCard

/-- THE TIED CARD OF 'augurtop.TopProposes'. -/
def topProposesCard : Claim7 := { stood := { row := topProposesRow, standIns := [], harness := (true, "6115e1d08d4a57eea5deb0a429f8ff882abbe7fc92225df445c8779dc19a65b9"), looks := false }, kinds := [], alts := [], laidByText := true, laidKinds := [.data, .pinned], laidTests := true, laidLooks := .later }
def TopProposesCardSaid : Prop := Claim7.holds Tryd.pinned (.plain (OpenSpec.ofChange topProposesSpec)) topProposesCard

/-- THE TIED CARD OF 'augurlaw.FracBack'. -/
def fracBackCard : Claim7 := { stood := { row := fracBackRow, standIns := [], harness := (true, "6115e1d08d4a57eea5deb0a429f8ff882abbe7fc92225df445c8779dc19a65b9"), looks := false }, kinds := [], alts := [], laidByText := true, laidKinds := [.data, .pinned], laidTests := true, laidLooks := .later }
def FracBackCardSaid : Prop := Claim7.holds Tryd.pinned (.plain (OpenSpec.ofChange fracBackSpec)) fracBackCard

/-- THE SECOND FORM's CARD OF 'augurlaw.GraphExact'. -/
def graphExactUptoCard : Claim7 := { stood := { row := graphExactUptoRow, standIns := [], harness := (true, "6115e1d08d4a57eea5deb0a429f8ff882abbe7fc92225df445c8779dc19a65b9"), looks := false }, kinds := [], alts := [], laidByText := true, laidKinds := [.data, .data], laidTests := true, laidLooks := .later }
def GraphExactUptoCardSaid : Prop := Claim7.holds Tryd.pinned (.plain (OpenSpec.upto graphExactSpec)) graphExactUptoCard

/-- THE SECOND FORM's CARD OF 'augurlaw.GraphFills'. -/
def graphFillsUptoCard : Claim7 := { stood := { row := graphFillsUptoRow, standIns := [], harness := (true, "6115e1d08d4a57eea5deb0a429f8ff882abbe7fc92225df445c8779dc19a65b9"), looks := false }, kinds := [], alts := [], laidByText := true, laidKinds := [.data, .data], laidTests := true, laidLooks := .later }
def GraphFillsUptoCardSaid : Prop := Claim7.holds Tryd.pinned (.plain (OpenSpec.upto graphFillsSpec)) graphFillsUptoCard

/-- THE SECOND FORM's CARD OF 'augurlaw.GraphTrees'. -/
def graphTreesUptoCard : Claim7 := { stood := { row := graphTreesUptoRow, standIns := [], harness := (true, "6115e1d08d4a57eea5deb0a429f8ff882abbe7fc92225df445c8779dc19a65b9"), looks := false }, kinds := [], alts := [], laidByText := true, laidKinds := [.data, .data], laidTests := true, laidLooks := .later }
def GraphTreesUptoCardSaid : Prop := Claim7.holds Tryd.pinned (.plain (OpenSpec.upto graphTreesSpec)) graphTreesUptoCard

/-- THE SECOND FORM's CARD OF 'augurlaw.WalkDice'. -/
def walkDiceUptoCard : Claim7 := { stood := { row := walkDiceUptoRow, standIns := [], harness := (true, "6115e1d08d4a57eea5deb0a429f8ff882abbe7fc92225df445c8779dc19a65b9"), looks := false }, kinds := [], alts := [], laidByText := true, laidKinds := [.data, .pinned], laidTests := true, laidLooks := .later }
def WalkDiceUptoCardSaid : Prop := Claim7.holds Tryd.pinned (.plain (OpenSpec.upto walkDiceSpec)) walkDiceUptoCard

/-- THE SECOND FORM's CARD OF 'augurlaw.WalkChains'. -/
def walkChainsUptoCard : Claim7 := { stood := { row := walkChainsUptoRow, standIns := [], harness := (true, "6115e1d08d4a57eea5deb0a429f8ff882abbe7fc92225df445c8779dc19a65b9"), looks := false }, kinds := [], alts := [], laidByText := true, laidKinds := [.data, .pinned], laidTests := true, laidLooks := .later }
def WalkChainsUptoCardSaid : Prop := Claim7.holds Tryd.pinned (.plain (OpenSpec.upto walkChainsSpec)) walkChainsUptoCard

/-- THE SECOND FORM's CARD OF 'augurlaw.HiddenMeets'. -/
def hiddenMeetsUptoCard : Claim7 := { stood := { row := hiddenMeetsUptoRow, standIns := [], harness := (true, "6115e1d08d4a57eea5deb0a429f8ff882abbe7fc92225df445c8779dc19a65b9"), looks := false }, kinds := [], alts := [], laidByText := true, laidKinds := [.data, .pinned], laidTests := true, laidLooks := .later }
def HiddenMeetsUptoCardSaid : Prop := Claim7.holds Tryd.pinned (.plain (OpenSpec.upto hiddenMeetsSpec)) hiddenMeetsUptoCard

/-- THE SECOND FORM's CARD OF 'augurlaw.ChainHits'. -/
def chainHitsUptoCard : Claim7 := { stood := { row := chainHitsUptoRow, standIns := [], harness := (true, "6115e1d08d4a57eea5deb0a429f8ff882abbe7fc92225df445c8779dc19a65b9"), looks := false }, kinds := [], alts := [], laidByText := true, laidKinds := [.data, .pinned], laidTests := true, laidLooks := .later }
def ChainHitsUptoCardSaid : Prop := Claim7.holds Tryd.pinned (.plain (OpenSpec.upto chainHitsSpec)) chainHitsUptoCard

/-- THE SECOND FORM's CARD OF 'augurlaw.ChainCycles'. -/
def chainCyclesUptoCard : Claim7 := { stood := { row := chainCyclesUptoRow, standIns := [], harness := (true, "6115e1d08d4a57eea5deb0a429f8ff882abbe7fc92225df445c8779dc19a65b9"), looks := false }, kinds := [], alts := [], laidByText := true, laidKinds := [.data, .pinned], laidTests := true, laidLooks := .later }
def ChainCyclesUptoCardSaid : Prop := Claim7.holds Tryd.pinned (.plain (OpenSpec.upto chainCyclesSpec)) chainCyclesUptoCard

/-- THE SECOND FORM's CARD OF 'augurlaw.CauseGraphs'. -/
def causeGraphsUptoCard : Claim7 := { stood := { row := causeGraphsUptoRow, standIns := [], harness := (true, "6115e1d08d4a57eea5deb0a429f8ff882abbe7fc92225df445c8779dc19a65b9"), looks := false }, kinds := [], alts := [], laidByText := true, laidKinds := [.data, .data], laidTests := true, laidLooks := .later }
def CauseGraphsUptoCardSaid : Prop := Claim7.holds Tryd.pinned (.plain (OpenSpec.upto causeGraphsSpec)) causeGraphsUptoCard

/-- THE SECOND FORM's CARD OF 'augurlaw.ChainPowers'. -/
def chainPowersUptoCard : Claim7 := { stood := { row := chainPowersUptoRow, standIns := [], harness := (true, "6115e1d08d4a57eea5deb0a429f8ff882abbe7fc92225df445c8779dc19a65b9"), looks := false }, kinds := [], alts := [], laidByText := true, laidKinds := [.data, .pinned], laidTests := true, laidLooks := .later }
def ChainPowersUptoCardSaid : Prop := Claim7.holds Tryd.pinned (.plain (OpenSpec.upto chainPowersSpec)) chainPowersUptoCard

/-- THE SECOND FORM's CARD OF 'augurtop.TopProposes'. -/
def topProposesUptoCard : Claim7 := { stood := { row := topProposesUptoRow, standIns := [], harness := (true, "6115e1d08d4a57eea5deb0a429f8ff882abbe7fc92225df445c8779dc19a65b9"), looks := false }, kinds := [], alts := [], laidByText := true, laidKinds := [.data, .pinned], laidTests := true, laidLooks := .later }
def TopProposesUptoCardSaid : Prop := Claim7.holds Tryd.pinned (.plain (OpenSpec.upto topProposesSpec)) topProposesUptoCard

/-- THE SECOND FORM's CARD OF 'augurlaw.FracBack'. -/
def fracBackUptoCard : Claim7 := { stood := { row := fracBackUptoRow, standIns := [], harness := (true, "6115e1d08d4a57eea5deb0a429f8ff882abbe7fc92225df445c8779dc19a65b9"), looks := false }, kinds := [], alts := [], laidByText := true, laidKinds := [.data, .pinned], laidTests := true, laidLooks := .later }
def FracBackUptoCardSaid : Prop := Claim7.holds Tryd.pinned (.plain (OpenSpec.upto fracBackSpec)) fracBackUptoCard
end Rows
end Go.Proofs.YtabmgfchkcmcmaaDoor
