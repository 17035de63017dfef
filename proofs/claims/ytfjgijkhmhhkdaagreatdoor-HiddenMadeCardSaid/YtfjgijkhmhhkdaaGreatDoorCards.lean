/-
  DERIVED. GIVEN WITH THE SEED: THE CARDS: each row of YtfjgijkhmhhkdaaGreatDoorRows.lean that lists a variable, with what it lists TIED to the program's text (the seventh form; the later family's looks); each row that meets fmt, with fmt's text TOLD by the authors' own Lean function (tested against real Go, not proved from fmt's source: count such statements apart). THE CARD IS WHAT COUNTS. Prove the row's statement (the work); the ties are given (YtfjgijkhmhhkdaaGreatDoorTie.lean); close each card by the builder's one call (the guide's Derived/Test/ToyasCard.lean, 'card_holds'). Laid BY PROGRAM, IN A SANDBOX (cutbox-door.mjs). By AI agents, Wed Nov 11 2026. No macro, syntax, notation, axiom, sorry.
-/
import Derived.Test.YtfjgijkhmhhkdaaGreatDoorRows
import GoSem.ClaimSeven
namespace Go.Proofs.YtfjgijkhmhhkdaaGreatDoor
namespace Rows

/-- THE TIED CARD OF 'augurlaw.HiddenExact'. -/
def hiddenExactCard : Claim7 := { stood := { row := hiddenExactRow, standIns := [], harness := (true, "742159ffe1767cf7048b3cc21b80f92aa576da0a5b7952b58e96d18b6ffc094e"), looks := false }, kinds := [], alts := [], laidByText := true, laidKinds := [.data, .data, .data, .data, .pinned], laidTests := true, laidLooks := .later }
def HiddenExactCardSaid : Prop := Claim7.holds Tryz.pinned (.plain (OpenSpec.ofChange hiddenExactSpec)) hiddenExactCard

/-- THE TIED CARD OF 'augurlaw.HiddenMade'. -/
def hiddenMadeCard : Claim7 := { stood := { row := hiddenMadeRow, standIns := [], harness := (true, "742159ffe1767cf7048b3cc21b80f92aa576da0a5b7952b58e96d18b6ffc094e"), looks := false }, kinds := [], alts := [], laidByText := true, laidKinds := [.data, .data, .data, .data, .pinned], laidTests := true, laidLooks := .later }
def HiddenMadeCardSaid : Prop := Claim7.holds Tryz.pinned (.plain (OpenSpec.ofChange hiddenMadeSpec)) hiddenMadeCard

/-- THE SECOND FORM's CARD OF 'augurlaw.HiddenExact'. -/
def hiddenExactUptoCard : Claim7 := { stood := { row := hiddenExactUptoRow, standIns := [], harness := (true, "742159ffe1767cf7048b3cc21b80f92aa576da0a5b7952b58e96d18b6ffc094e"), looks := false }, kinds := [], alts := [], laidByText := true, laidKinds := [.data, .data, .data, .data, .pinned], laidTests := true, laidLooks := .later }
def HiddenExactUptoCardSaid : Prop := Claim7.holds Tryz.pinned (.plain (OpenSpec.upto hiddenExactSpec)) hiddenExactUptoCard

/-- THE SECOND FORM's CARD OF 'augurlaw.HiddenMade'. -/
def hiddenMadeUptoCard : Claim7 := { stood := { row := hiddenMadeUptoRow, standIns := [], harness := (true, "742159ffe1767cf7048b3cc21b80f92aa576da0a5b7952b58e96d18b6ffc094e"), looks := false }, kinds := [], alts := [], laidByText := true, laidKinds := [.data, .data, .data, .data, .pinned], laidTests := true, laidLooks := .later }
def HiddenMadeUptoCardSaid : Prop := Claim7.holds Tryz.pinned (.plain (OpenSpec.upto hiddenMadeSpec)) hiddenMadeUptoCard
end Rows
end Go.Proofs.YtfjgijkhmhhkdaaGreatDoor
