/-
  DERIVED. GIVEN WITH THE SEED: THE CARDS: each row of YtbpdgfilffdegaaDoorRows.lean that lists a variable, with what it lists TIED to the program's text (the seventh form; the later family's looks); each row that meets fmt, with fmt's text TOLD by the authors' own Lean function (tested against real Go, not proved from fmt's source: count such statements apart). THE CARD IS WHAT COUNTS. Prove the row's statement (the work); the ties are given (YtbpdgfilffdegaaDoorTie.lean); close each card by the builder's one call (the guide's Derived/Test/ToyasCard.lean, 'card_holds'). Laid BY PROGRAM, IN A SANDBOX (cutbox-door.mjs). By AI agents, Wed Nov 11 2026. No macro, syntax, notation, axiom, sorry.
-/
import Derived.Test.YtbpdgfilffdegaaDoorRows
import GoSem.ClaimSeven
namespace Go.Proofs.YtbpdgfilffdegaaDoor
namespace Rows

/-- THE TIED CARD OF 'augurlaw.GraphExact'. -/
def graphExactCard : Claim7 := { stood := { row := graphExactRow, standIns := [], harness := (true, "223bd0fa1f2640c19d96dfe140f0154ddd6bfb9851594c59838dbb864b6c73c4"), looks := false }, kinds := [], alts := [], laidByText := true, laidKinds := [.data, .data], laidTests := true, laidLooks := .later }
def GraphExactCardSaid : Prop := Claim7.holds Tryd.pinned (.plain (OpenSpec.ofChange graphExactSpec)) graphExactCard

/-- THE TIED CARD OF 'augurlaw.GraphFills'. -/
def graphFillsCard : Claim7 := { stood := { row := graphFillsRow, standIns := [], harness := (true, "223bd0fa1f2640c19d96dfe140f0154ddd6bfb9851594c59838dbb864b6c73c4"), looks := false }, kinds := [], alts := [], laidByText := true, laidKinds := [.data, .data], laidTests := true, laidLooks := .later }
def GraphFillsCardSaid : Prop := Claim7.holds Tryd.pinned (.plain (OpenSpec.ofChange graphFillsSpec)) graphFillsCard

/-- THE TIED CARD OF 'augurlaw.GraphTrees'. -/
def graphTreesCard : Claim7 := { stood := { row := graphTreesRow, standIns := [], harness := (true, "223bd0fa1f2640c19d96dfe140f0154ddd6bfb9851594c59838dbb864b6c73c4"), looks := false }, kinds := [], alts := [], laidByText := true, laidKinds := [.data, .data], laidTests := true, laidLooks := .later }
def GraphTreesCardSaid : Prop := Claim7.holds Tryd.pinned (.plain (OpenSpec.ofChange graphTreesSpec)) graphTreesCard

/-- THE TIED CARD OF 'augurlaw.NatBack'. -/
def natBackCard : Claim7 := { stood := { row := natBackRow, standIns := [], harness := (true, "223bd0fa1f2640c19d96dfe140f0154ddd6bfb9851594c59838dbb864b6c73c4"), looks := false }, kinds := [], alts := [], laidByText := true, laidKinds := [.data, .pinned], laidTests := true, laidLooks := .later }
def NatBackCardSaid : Prop := Claim7.holds Tryd.pinned (.plain (OpenSpec.ofChange natBackSpec)) natBackCard

/-- THE TIED CARD OF 'augurlaw.NatRing'. -/
def natRingCard : Claim7 := { stood := { row := natRingRow, standIns := [], harness := (true, "223bd0fa1f2640c19d96dfe140f0154ddd6bfb9851594c59838dbb864b6c73c4"), looks := false }, kinds := [], alts := [], laidByText := true, laidKinds := [.data, .pinned], laidTests := true, laidLooks := .later }
def NatRingCardSaid : Prop := Claim7.holds Tryd.pinned (.plain (OpenSpec.ofChange natRingSpec)) natRingCard

/-- THE TIED CARD OF 'augurlaw.NatExact'. -/
def natExactCard : Claim7 := { stood := { row := natExactRow, standIns := [], harness := (true, "223bd0fa1f2640c19d96dfe140f0154ddd6bfb9851594c59838dbb864b6c73c4"), looks := false }, kinds := [], alts := [], laidByText := true, laidKinds := [.data, .pinned], laidTests := true, laidLooks := .later }
def NatExactCardSaid : Prop := Claim7.holds Tryd.pinned (.plain (OpenSpec.ofChange natExactSpec)) natExactCard

/-- THE TIED CARD OF 'augurlaw.FracField'. -/
def fracFieldCard : Claim7 := { stood := { row := fracFieldRow, standIns := [], harness := (true, "223bd0fa1f2640c19d96dfe140f0154ddd6bfb9851594c59838dbb864b6c73c4"), looks := false }, kinds := [], alts := [], laidByText := true, laidKinds := [.data, .pinned], laidTests := true, laidLooks := .later }
def FracFieldCardSaid : Prop := Claim7.holds Tryd.pinned (.plain (OpenSpec.ofChange fracFieldSpec)) fracFieldCard

/-- THE TIED CARD OF 'augurlaw.WalkDice'. -/
def walkDiceCard : Claim7 := { stood := { row := walkDiceRow, standIns := [], harness := (true, "223bd0fa1f2640c19d96dfe140f0154ddd6bfb9851594c59838dbb864b6c73c4"), looks := false }, kinds := [], alts := [], laidByText := true, laidKinds := [.data, .pinned], laidTests := true, laidLooks := .later }
def WalkDiceCardSaid : Prop := Claim7.holds Tryd.pinned (.plain (OpenSpec.ofChange walkDiceSpec)) walkDiceCard

/-- THE TIED CARD OF 'augurlaw.WalkChains'. -/
def walkChainsCard : Claim7 := { stood := { row := walkChainsRow, standIns := [], harness := (true, "223bd0fa1f2640c19d96dfe140f0154ddd6bfb9851594c59838dbb864b6c73c4"), looks := false }, kinds := [], alts := [], laidByText := true, laidKinds := [.data, .pinned], laidTests := true, laidLooks := .later }
def WalkChainsCardSaid : Prop := Claim7.holds Tryd.pinned (.plain (OpenSpec.ofChange walkChainsSpec)) walkChainsCard

/-- THE TIED CARD OF 'augurlaw.HiddenMeets'. -/
def hiddenMeetsCard : Claim7 := { stood := { row := hiddenMeetsRow, standIns := [], harness := (true, "223bd0fa1f2640c19d96dfe140f0154ddd6bfb9851594c59838dbb864b6c73c4"), looks := false }, kinds := [], alts := [], laidByText := true, laidKinds := [.data, .pinned], laidTests := true, laidLooks := .later }
def HiddenMeetsCardSaid : Prop := Claim7.holds Tryd.pinned (.plain (OpenSpec.ofChange hiddenMeetsSpec)) hiddenMeetsCard

/-- THE TIED CARD OF 'augurlaw.ChainHits'. -/
def chainHitsCard : Claim7 := { stood := { row := chainHitsRow, standIns := [], harness := (true, "223bd0fa1f2640c19d96dfe140f0154ddd6bfb9851594c59838dbb864b6c73c4"), looks := false }, kinds := [], alts := [], laidByText := true, laidKinds := [.data, .pinned], laidTests := true, laidLooks := .later }
def ChainHitsCardSaid : Prop := Claim7.holds Tryd.pinned (.plain (OpenSpec.ofChange chainHitsSpec)) chainHitsCard

/-- THE SECOND FORM's CARD OF 'augurlaw.GraphExact'. -/
def graphExactUptoCard : Claim7 := { stood := { row := graphExactUptoRow, standIns := [], harness := (true, "223bd0fa1f2640c19d96dfe140f0154ddd6bfb9851594c59838dbb864b6c73c4"), looks := false }, kinds := [], alts := [], laidByText := true, laidKinds := [.data, .data], laidTests := true, laidLooks := .later }
def GraphExactUptoCardSaid : Prop := Claim7.holds Tryd.pinned (.plain (OpenSpec.upto graphExactSpec)) graphExactUptoCard

/-- THE SECOND FORM's CARD OF 'augurlaw.GraphFills'. -/
def graphFillsUptoCard : Claim7 := { stood := { row := graphFillsUptoRow, standIns := [], harness := (true, "223bd0fa1f2640c19d96dfe140f0154ddd6bfb9851594c59838dbb864b6c73c4"), looks := false }, kinds := [], alts := [], laidByText := true, laidKinds := [.data, .data], laidTests := true, laidLooks := .later }
def GraphFillsUptoCardSaid : Prop := Claim7.holds Tryd.pinned (.plain (OpenSpec.upto graphFillsSpec)) graphFillsUptoCard

/-- THE SECOND FORM's CARD OF 'augurlaw.GraphTrees'. -/
def graphTreesUptoCard : Claim7 := { stood := { row := graphTreesUptoRow, standIns := [], harness := (true, "223bd0fa1f2640c19d96dfe140f0154ddd6bfb9851594c59838dbb864b6c73c4"), looks := false }, kinds := [], alts := [], laidByText := true, laidKinds := [.data, .data], laidTests := true, laidLooks := .later }
def GraphTreesUptoCardSaid : Prop := Claim7.holds Tryd.pinned (.plain (OpenSpec.upto graphTreesSpec)) graphTreesUptoCard

/-- THE SECOND FORM's CARD OF 'augurlaw.NatBack'. -/
def natBackUptoCard : Claim7 := { stood := { row := natBackUptoRow, standIns := [], harness := (true, "223bd0fa1f2640c19d96dfe140f0154ddd6bfb9851594c59838dbb864b6c73c4"), looks := false }, kinds := [], alts := [], laidByText := true, laidKinds := [.data, .pinned], laidTests := true, laidLooks := .later }
def NatBackUptoCardSaid : Prop := Claim7.holds Tryd.pinned (.plain (OpenSpec.upto natBackSpec)) natBackUptoCard

/-- THE SECOND FORM's CARD OF 'augurlaw.NatRing'. -/
def natRingUptoCard : Claim7 := { stood := { row := natRingUptoRow, standIns := [], harness := (true, "223bd0fa1f2640c19d96dfe140f0154ddd6bfb9851594c59838dbb864b6c73c4"), looks := false }, kinds := [], alts := [], laidByText := true, laidKinds := [.data, .pinned], laidTests := true, laidLooks := .later }
def NatRingUptoCardSaid : Prop := Claim7.holds Tryd.pinned (.plain (OpenSpec.upto natRingSpec)) natRingUptoCard

/-- THE SECOND FORM's CARD OF 'augurlaw.NatExact'. -/
def natExactUptoCard : Claim7 := { stood := { row := natExactUptoRow, standIns := [], harness := (true, "223bd0fa1f2640c19d96dfe140f0154ddd6bfb9851594c59838dbb864b6c73c4"), looks := false }, kinds := [], alts := [], laidByText := true, laidKinds := [.data, .pinned], laidTests := true, laidLooks := .later }
def NatExactUptoCardSaid : Prop := Claim7.holds Tryd.pinned (.plain (OpenSpec.upto natExactSpec)) natExactUptoCard

/-- THE SECOND FORM's CARD OF 'augurlaw.FracField'. -/
def fracFieldUptoCard : Claim7 := { stood := { row := fracFieldUptoRow, standIns := [], harness := (true, "223bd0fa1f2640c19d96dfe140f0154ddd6bfb9851594c59838dbb864b6c73c4"), looks := false }, kinds := [], alts := [], laidByText := true, laidKinds := [.data, .pinned], laidTests := true, laidLooks := .later }
def FracFieldUptoCardSaid : Prop := Claim7.holds Tryd.pinned (.plain (OpenSpec.upto fracFieldSpec)) fracFieldUptoCard

/-- THE SECOND FORM's CARD OF 'augurlaw.WalkDice'. -/
def walkDiceUptoCard : Claim7 := { stood := { row := walkDiceUptoRow, standIns := [], harness := (true, "223bd0fa1f2640c19d96dfe140f0154ddd6bfb9851594c59838dbb864b6c73c4"), looks := false }, kinds := [], alts := [], laidByText := true, laidKinds := [.data, .pinned], laidTests := true, laidLooks := .later }
def WalkDiceUptoCardSaid : Prop := Claim7.holds Tryd.pinned (.plain (OpenSpec.upto walkDiceSpec)) walkDiceUptoCard

/-- THE SECOND FORM's CARD OF 'augurlaw.WalkChains'. -/
def walkChainsUptoCard : Claim7 := { stood := { row := walkChainsUptoRow, standIns := [], harness := (true, "223bd0fa1f2640c19d96dfe140f0154ddd6bfb9851594c59838dbb864b6c73c4"), looks := false }, kinds := [], alts := [], laidByText := true, laidKinds := [.data, .pinned], laidTests := true, laidLooks := .later }
def WalkChainsUptoCardSaid : Prop := Claim7.holds Tryd.pinned (.plain (OpenSpec.upto walkChainsSpec)) walkChainsUptoCard

/-- THE SECOND FORM's CARD OF 'augurlaw.HiddenMeets'. -/
def hiddenMeetsUptoCard : Claim7 := { stood := { row := hiddenMeetsUptoRow, standIns := [], harness := (true, "223bd0fa1f2640c19d96dfe140f0154ddd6bfb9851594c59838dbb864b6c73c4"), looks := false }, kinds := [], alts := [], laidByText := true, laidKinds := [.data, .pinned], laidTests := true, laidLooks := .later }
def HiddenMeetsUptoCardSaid : Prop := Claim7.holds Tryd.pinned (.plain (OpenSpec.upto hiddenMeetsSpec)) hiddenMeetsUptoCard

/-- THE SECOND FORM's CARD OF 'augurlaw.ChainHits'. -/
def chainHitsUptoCard : Claim7 := { stood := { row := chainHitsUptoRow, standIns := [], harness := (true, "223bd0fa1f2640c19d96dfe140f0154ddd6bfb9851594c59838dbb864b6c73c4"), looks := false }, kinds := [], alts := [], laidByText := true, laidKinds := [.data, .pinned], laidTests := true, laidLooks := .later }
def ChainHitsUptoCardSaid : Prop := Claim7.holds Tryd.pinned (.plain (OpenSpec.upto chainHitsSpec)) chainHitsUptoCard
end Rows
end Go.Proofs.YtbpdgfilffdegaaDoor
