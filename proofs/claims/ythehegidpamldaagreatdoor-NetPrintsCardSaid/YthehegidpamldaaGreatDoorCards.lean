/-
  DERIVED. GIVEN WITH THE SEED: THE CARDS: each row of YthehegidpamldaaGreatDoorRows.lean that lists a variable, with what it lists TIED to the program's text (the seventh form; the later family's looks); each row that meets fmt, with fmt's text TOLD by the authors' own Lean function (tested against real Go, not proved from fmt's source: count such statements apart). THE CARD IS WHAT COUNTS. Prove the row's statement (the work); the ties are given (YthehegidpamldaaGreatDoorTie.lean); close each card by the builder's one call (the guide's Derived/Test/ToyasCard.lean, 'card_holds'). Laid BY PROGRAM, IN A SANDBOX (cutbox-door.mjs). By AI agents, Wed Nov 11 2026. No macro, syntax, notation, axiom, sorry.
-/
import Derived.Test.YthehegidpamldaaGreatDoorRows
import GoSem.ClaimSeven
namespace Go.Proofs.YthehegidpamldaaGreatDoor
namespace Rows

/-- THE TIED CARD OF 'augurlaw.NetPrints'. -/
def netPrintsCard : Claim7 := { stood := { row := netPrintsRow, standIns := [], harness := (true, "b96b5dea4eb4c9a941bc012534188f63ef4d74d7aa8b54a6d4a66952d3216cea"), looks := false }, kinds := [], alts := [], laidByText := true, laidKinds := [.data, .pinned], laidTests := true, laidLooks := .later }
def NetPrintsCardSaid : Prop := Claim7.holds Tryz.pinned (.plain (OpenSpec.ofChange netPrintsSpec)) netPrintsCard

/-- THE TIED CARD OF 'augurlaw.NetChecks'. -/
def netChecksCard : Claim7 := { stood := { row := netChecksRow, standIns := [], harness := (true, "b96b5dea4eb4c9a941bc012534188f63ef4d74d7aa8b54a6d4a66952d3216cea"), looks := false }, kinds := [], alts := [], laidByText := true, laidKinds := [.data, .pinned], laidTests := true, laidLooks := .later }
def NetChecksCardSaid : Prop := Claim7.holds Tryz.pinned (.plain (OpenSpec.ofChange netChecksSpec)) netChecksCard

/-- THE TIED CARD OF 'augurlaw.NetSums'. -/
def netSumsCard : Claim7 := { stood := { row := netSumsRow, standIns := [], harness := (true, "b96b5dea4eb4c9a941bc012534188f63ef4d74d7aa8b54a6d4a66952d3216cea"), looks := false }, kinds := [], alts := [], laidByText := true, laidKinds := [.data, .pinned], laidTests := true, laidLooks := .later }
def NetSumsCardSaid : Prop := Claim7.holds Tryz.pinned (.plain (OpenSpec.ofChange netSumsSpec)) netSumsCard

/-- THE SECOND FORM's CARD OF 'augurlaw.NetPrints'. -/
def netPrintsUptoCard : Claim7 := { stood := { row := netPrintsUptoRow, standIns := [], harness := (true, "b96b5dea4eb4c9a941bc012534188f63ef4d74d7aa8b54a6d4a66952d3216cea"), looks := false }, kinds := [], alts := [], laidByText := true, laidKinds := [.data, .pinned], laidTests := true, laidLooks := .later }
def NetPrintsUptoCardSaid : Prop := Claim7.holds Tryz.pinned (.plain (OpenSpec.upto netPrintsSpec)) netPrintsUptoCard

/-- THE SECOND FORM's CARD OF 'augurlaw.NetChecks'. -/
def netChecksUptoCard : Claim7 := { stood := { row := netChecksUptoRow, standIns := [], harness := (true, "b96b5dea4eb4c9a941bc012534188f63ef4d74d7aa8b54a6d4a66952d3216cea"), looks := false }, kinds := [], alts := [], laidByText := true, laidKinds := [.data, .pinned], laidTests := true, laidLooks := .later }
def NetChecksUptoCardSaid : Prop := Claim7.holds Tryz.pinned (.plain (OpenSpec.upto netChecksSpec)) netChecksUptoCard

/-- THE SECOND FORM's CARD OF 'augurlaw.NetSums'. -/
def netSumsUptoCard : Claim7 := { stood := { row := netSumsUptoRow, standIns := [], harness := (true, "b96b5dea4eb4c9a941bc012534188f63ef4d74d7aa8b54a6d4a66952d3216cea"), looks := false }, kinds := [], alts := [], laidByText := true, laidKinds := [.data, .pinned], laidTests := true, laidLooks := .later }
def NetSumsUptoCardSaid : Prop := Claim7.holds Tryz.pinned (.plain (OpenSpec.upto netSumsSpec)) netSumsUptoCard
end Rows
end Go.Proofs.YthehegidpamldaaGreatDoor
