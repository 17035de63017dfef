/-
  DERIVED. GIVEN WITH THE SEED: THE CARDS: each row of YtmcgeppgfjlclaaGreatDoorRows.lean that lists a variable, with what it lists TIED to the program's text (the seventh form; the later family's looks); each row that meets fmt, with fmt's text TOLD by the authors' own Lean function (tested against real Go, not proved from fmt's source: count such statements apart). THE CARD IS WHAT COUNTS. Prove the row's statement (the work); the ties are given (YtmcgeppgfjlclaaGreatDoorTie.lean); close each card by the builder's one call (the guide's Derived/Test/ToyasCard.lean, 'card_holds'). Laid BY PROGRAM, IN A SANDBOX (cutbox-door.mjs). By AI agents, Wed Nov 11 2026. No macro, syntax, notation, axiom, sorry.
-/
import Derived.Test.YtmcgeppgfjlclaaGreatDoorRows
import GoSem.ClaimSeven
namespace Go.Proofs.YtmcgeppgfjlclaaGreatDoor
namespace Rows

/-- THE TIED CARD OF 'augurlaw.TableSwaps'. -/
def tableSwapsCard : Claim7 := { stood := { row := tableSwapsRow, standIns := [], harness := (true, "a09ef17ac5bd62b3a242bd59f9c1385c470fb54c22df54e90ea20302089c1646"), looks := false }, kinds := [], alts := [], laidByText := true, laidKinds := [.data, .pinned], laidTests := true, laidLooks := .later }
def TableSwapsCardSaid : Prop := Claim7.holds Tryz.pinned (.plain (OpenSpec.ofChange tableSwapsSpec)) tableSwapsCard

/-- THE TIED CARD OF 'augurlaw.TableExact'. -/
def tableExactCard : Claim7 := { stood := { row := tableExactRow, standIns := [], harness := (true, "a09ef17ac5bd62b3a242bd59f9c1385c470fb54c22df54e90ea20302089c1646"), looks := false }, kinds := [], alts := [], laidByText := true, laidKinds := [.data, .pinned], laidTests := true, laidLooks := .later }
def TableExactCardSaid : Prop := Claim7.holds Tryz.pinned (.plain (OpenSpec.ofChange tableExactSpec)) tableExactCard

/-- THE SECOND FORM's CARD OF 'augurlaw.TableSwaps'. -/
def tableSwapsUptoCard : Claim7 := { stood := { row := tableSwapsUptoRow, standIns := [], harness := (true, "a09ef17ac5bd62b3a242bd59f9c1385c470fb54c22df54e90ea20302089c1646"), looks := false }, kinds := [], alts := [], laidByText := true, laidKinds := [.data, .pinned], laidTests := true, laidLooks := .later }
def TableSwapsUptoCardSaid : Prop := Claim7.holds Tryz.pinned (.plain (OpenSpec.upto tableSwapsSpec)) tableSwapsUptoCard

/-- THE SECOND FORM's CARD OF 'augurlaw.TableExact'. -/
def tableExactUptoCard : Claim7 := { stood := { row := tableExactUptoRow, standIns := [], harness := (true, "a09ef17ac5bd62b3a242bd59f9c1385c470fb54c22df54e90ea20302089c1646"), looks := false }, kinds := [], alts := [], laidByText := true, laidKinds := [.data, .pinned], laidTests := true, laidLooks := .later }
def TableExactUptoCardSaid : Prop := Claim7.holds Tryz.pinned (.plain (OpenSpec.upto tableExactSpec)) tableExactUptoCard
end Rows
end Go.Proofs.YtmcgeppgfjlclaaGreatDoor
