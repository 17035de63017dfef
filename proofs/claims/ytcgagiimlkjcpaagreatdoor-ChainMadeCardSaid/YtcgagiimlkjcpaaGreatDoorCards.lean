/-
  DERIVED. GIVEN WITH THE SEED: THE CARDS: each row of YtcgagiimlkjcpaaGreatDoorRows.lean that lists a variable, with what it lists TIED to the program's text (the seventh form; the later family's looks); each row that meets fmt, with fmt's text TOLD by the authors' own Lean function (tested against real Go, not proved from fmt's source: count such statements apart). THE CARD IS WHAT COUNTS. Prove the row's statement (the work); the ties are given (YtcgagiimlkjcpaaGreatDoorTie.lean); close each card by the builder's one call (the guide's Derived/Test/ToyasCard.lean, 'card_holds'). Laid BY PROGRAM, IN A SANDBOX (cutbox-door.mjs). By AI agents, Wed Nov 11 2026. No macro, syntax, notation, axiom, sorry.
-/
import Derived.Test.YtcgagiimlkjcpaaGreatDoorRows
import GoSem.ClaimSeven
namespace Go.Proofs.YtcgagiimlkjcpaaGreatDoor
namespace Rows

/-- THE TIED CARD OF 'augurlaw.ChainExact'. -/
def chainExactCard : Claim7 := { stood := { row := chainExactRow, standIns := [], harness := (true, "16c1dbca484d3c6298b2ada5ea8eeb2ae5bd3517b7a9ee099733c76ee9091975"), looks := true }, kinds := [], alts := [], laidByText := true, laidKinds := [.data, .pinned], laidTests := true, laidLooks := .later }
def ChainExactCardSaid : Prop := Claim7.holds Tryz.pinned (.plain (OpenSpec.ofChange chainExactSpec)) chainExactCard

/-- THE TIED CARD OF 'augurlaw.ChainMade'. -/
def chainMadeCard : Claim7 := { stood := { row := chainMadeRow, standIns := [], harness := (true, "16c1dbca484d3c6298b2ada5ea8eeb2ae5bd3517b7a9ee099733c76ee9091975"), looks := true }, kinds := [], alts := [], laidByText := true, laidKinds := [.data, .pinned], laidTests := true, laidLooks := .later }
def ChainMadeCardSaid : Prop := Claim7.holds Tryz.pinned (.plain (OpenSpec.ofChange chainMadeSpec)) chainMadeCard

/-- THE TIED CARD OF 'augurlaw.NetPrints'. -/
def netPrintsCard : Claim7 := { stood := { row := netPrintsRow, standIns := [], harness := (true, "16c1dbca484d3c6298b2ada5ea8eeb2ae5bd3517b7a9ee099733c76ee9091975"), looks := true }, kinds := [], alts := [], laidByText := true, laidKinds := [.data, .pinned], laidTests := true, laidLooks := .later }
def NetPrintsCardSaid : Prop := Claim7.holds Tryz.pinned (.plain (OpenSpec.ofChange netPrintsSpec)) netPrintsCard

/-- THE TIED CARD OF 'augurlaw.HiddenExact'. -/
def hiddenExactCard : Claim7 := { stood := { row := hiddenExactRow, standIns := [], harness := (true, "16c1dbca484d3c6298b2ada5ea8eeb2ae5bd3517b7a9ee099733c76ee9091975"), looks := true }, kinds := [], alts := [], laidByText := true, laidKinds := [.data, .data, .data, .data, .pinned], laidTests := true, laidLooks := .later }
def HiddenExactCardSaid : Prop := Claim7.holds Tryz.pinned (.plain (OpenSpec.ofChange hiddenExactSpec)) hiddenExactCard

/-- THE TIED CARD OF 'augurlaw.HiddenMade'. -/
def hiddenMadeCard : Claim7 := { stood := { row := hiddenMadeRow, standIns := [], harness := (true, "16c1dbca484d3c6298b2ada5ea8eeb2ae5bd3517b7a9ee099733c76ee9091975"), looks := true }, kinds := [], alts := [], laidByText := true, laidKinds := [.data, .data, .data, .data, .pinned], laidTests := true, laidLooks := .later }
def HiddenMadeCardSaid : Prop := Claim7.holds Tryz.pinned (.plain (OpenSpec.ofChange hiddenMadeSpec)) hiddenMadeCard

/-- THE TIED CARD OF 'augurlaw.TableSwaps'. -/
def tableSwapsCard : Claim7 := { stood := { row := tableSwapsRow, standIns := [], harness := (true, "16c1dbca484d3c6298b2ada5ea8eeb2ae5bd3517b7a9ee099733c76ee9091975"), looks := true }, kinds := [], alts := [], laidByText := true, laidKinds := [.data, .pinned], laidTests := true, laidLooks := .later }
def TableSwapsCardSaid : Prop := Claim7.holds Tryz.pinned (.plain (OpenSpec.ofChange tableSwapsSpec)) tableSwapsCard

/-- THE TIED CARD OF 'augurlaw.ChanceCounts'. -/
def chanceCountsCard : Claim7 := { stood := { row := chanceCountsRow, standIns := [], harness := (true, "16c1dbca484d3c6298b2ada5ea8eeb2ae5bd3517b7a9ee099733c76ee9091975"), looks := true }, kinds := [], alts := [], laidByText := true, laidKinds := [.data, .pinned], laidTests := true, laidLooks := .later }
def ChanceCountsCardSaid : Prop := Claim7.holds Tryz.pinned (.plain (OpenSpec.ofChange chanceCountsSpec)) chanceCountsCard

/-- THE TIED CARD OF 'augurlaw.TableExact'. -/
def tableExactCard : Claim7 := { stood := { row := tableExactRow, standIns := [], harness := (true, "16c1dbca484d3c6298b2ada5ea8eeb2ae5bd3517b7a9ee099733c76ee9091975"), looks := true }, kinds := [], alts := [], laidByText := true, laidKinds := [.data, .pinned], laidTests := true, laidLooks := .later }
def TableExactCardSaid : Prop := Claim7.holds Tryz.pinned (.plain (OpenSpec.ofChange tableExactSpec)) tableExactCard

/-- THE SECOND FORM's CARD OF 'augurlaw.ChainExact'. -/
def chainExactUptoCard : Claim7 := { stood := { row := chainExactUptoRow, standIns := [], harness := (true, "16c1dbca484d3c6298b2ada5ea8eeb2ae5bd3517b7a9ee099733c76ee9091975"), looks := true }, kinds := [], alts := [], laidByText := true, laidKinds := [.data, .pinned], laidTests := true, laidLooks := .later }
def ChainExactUptoCardSaid : Prop := Claim7.holds Tryz.pinned (.plain (OpenSpec.upto chainExactSpec)) chainExactUptoCard

/-- THE SECOND FORM's CARD OF 'augurlaw.ChainMade'. -/
def chainMadeUptoCard : Claim7 := { stood := { row := chainMadeUptoRow, standIns := [], harness := (true, "16c1dbca484d3c6298b2ada5ea8eeb2ae5bd3517b7a9ee099733c76ee9091975"), looks := true }, kinds := [], alts := [], laidByText := true, laidKinds := [.data, .pinned], laidTests := true, laidLooks := .later }
def ChainMadeUptoCardSaid : Prop := Claim7.holds Tryz.pinned (.plain (OpenSpec.upto chainMadeSpec)) chainMadeUptoCard

/-- THE SECOND FORM's CARD OF 'augurlaw.NetPrints'. -/
def netPrintsUptoCard : Claim7 := { stood := { row := netPrintsUptoRow, standIns := [], harness := (true, "16c1dbca484d3c6298b2ada5ea8eeb2ae5bd3517b7a9ee099733c76ee9091975"), looks := true }, kinds := [], alts := [], laidByText := true, laidKinds := [.data, .pinned], laidTests := true, laidLooks := .later }
def NetPrintsUptoCardSaid : Prop := Claim7.holds Tryz.pinned (.plain (OpenSpec.upto netPrintsSpec)) netPrintsUptoCard

/-- THE SECOND FORM's CARD OF 'augurlaw.HiddenExact'. -/
def hiddenExactUptoCard : Claim7 := { stood := { row := hiddenExactUptoRow, standIns := [], harness := (true, "16c1dbca484d3c6298b2ada5ea8eeb2ae5bd3517b7a9ee099733c76ee9091975"), looks := true }, kinds := [], alts := [], laidByText := true, laidKinds := [.data, .data, .data, .data, .pinned], laidTests := true, laidLooks := .later }
def HiddenExactUptoCardSaid : Prop := Claim7.holds Tryz.pinned (.plain (OpenSpec.upto hiddenExactSpec)) hiddenExactUptoCard

/-- THE SECOND FORM's CARD OF 'augurlaw.HiddenMade'. -/
def hiddenMadeUptoCard : Claim7 := { stood := { row := hiddenMadeUptoRow, standIns := [], harness := (true, "16c1dbca484d3c6298b2ada5ea8eeb2ae5bd3517b7a9ee099733c76ee9091975"), looks := true }, kinds := [], alts := [], laidByText := true, laidKinds := [.data, .data, .data, .data, .pinned], laidTests := true, laidLooks := .later }
def HiddenMadeUptoCardSaid : Prop := Claim7.holds Tryz.pinned (.plain (OpenSpec.upto hiddenMadeSpec)) hiddenMadeUptoCard

/-- THE SECOND FORM's CARD OF 'augurlaw.TableSwaps'. -/
def tableSwapsUptoCard : Claim7 := { stood := { row := tableSwapsUptoRow, standIns := [], harness := (true, "16c1dbca484d3c6298b2ada5ea8eeb2ae5bd3517b7a9ee099733c76ee9091975"), looks := true }, kinds := [], alts := [], laidByText := true, laidKinds := [.data, .pinned], laidTests := true, laidLooks := .later }
def TableSwapsUptoCardSaid : Prop := Claim7.holds Tryz.pinned (.plain (OpenSpec.upto tableSwapsSpec)) tableSwapsUptoCard

/-- THE SECOND FORM's CARD OF 'augurlaw.ChanceCounts'. -/
def chanceCountsUptoCard : Claim7 := { stood := { row := chanceCountsUptoRow, standIns := [], harness := (true, "16c1dbca484d3c6298b2ada5ea8eeb2ae5bd3517b7a9ee099733c76ee9091975"), looks := true }, kinds := [], alts := [], laidByText := true, laidKinds := [.data, .pinned], laidTests := true, laidLooks := .later }
def ChanceCountsUptoCardSaid : Prop := Claim7.holds Tryz.pinned (.plain (OpenSpec.upto chanceCountsSpec)) chanceCountsUptoCard

/-- THE SECOND FORM's CARD OF 'augurlaw.TableExact'. -/
def tableExactUptoCard : Claim7 := { stood := { row := tableExactUptoRow, standIns := [], harness := (true, "16c1dbca484d3c6298b2ada5ea8eeb2ae5bd3517b7a9ee099733c76ee9091975"), looks := true }, kinds := [], alts := [], laidByText := true, laidKinds := [.data, .pinned], laidTests := true, laidLooks := .later }
def TableExactUptoCardSaid : Prop := Claim7.holds Tryz.pinned (.plain (OpenSpec.upto tableExactSpec)) tableExactUptoCard
end Rows
end Go.Proofs.YtcgagiimlkjcpaaGreatDoor
