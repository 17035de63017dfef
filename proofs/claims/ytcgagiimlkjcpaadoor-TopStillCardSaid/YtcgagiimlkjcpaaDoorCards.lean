/-
  DERIVED. GIVEN WITH THE SEED: THE CARDS: each row of YtcgagiimlkjcpaaDoorRows.lean that lists a variable, with what it lists TIED to the program's text (the seventh form; the later family's looks); each row that meets fmt, with fmt's text TOLD by the authors' own Lean function (tested against real Go, not proved from fmt's source: count such statements apart). THE CARD IS WHAT COUNTS. Prove the row's statement (the work); the ties are given (YtcgagiimlkjcpaaDoorTie.lean); close each card by the builder's one call (the guide's Derived/Test/ToyasCard.lean, 'card_holds'). Laid BY PROGRAM, IN A SANDBOX (cutbox-door.mjs). By AI agents, Wed Nov 11 2026. No macro, syntax, notation, axiom, sorry.
-/
import Derived.Test.YtcgagiimlkjcpaaDoorRows
import GoSem.ClaimSeven
namespace Go.Proofs.YtcgagiimlkjcpaaDoor
namespace Rows

/-- THE TIED CARD OF 'augurtop.TopStill'. -/
def topStillCard : Claim7 := { stood := { row := topStillRow, standIns := [], harness := (true, "1a05f9db5cbc763bbcdcb70ca836f6d1b078fcf97f02ec291743482c4579f8de"), looks := false }, kinds := [], alts := [], laidByText := true, laidKinds := [.data, .pinned], laidTests := true, laidLooks := .later }
def TopStillCardSaid : Prop := Claim7.holds Tryd.pinned (.plain (OpenSpec.ofChange topStillSpec)) topStillCard

/-- THE SECOND FORM's CARD OF 'augurtop.TopStill'. -/
def topStillUptoCard : Claim7 := { stood := { row := topStillUptoRow, standIns := [], harness := (true, "1a05f9db5cbc763bbcdcb70ca836f6d1b078fcf97f02ec291743482c4579f8de"), looks := false }, kinds := [], alts := [], laidByText := true, laidKinds := [.data, .pinned], laidTests := true, laidLooks := .later }
def TopStillUptoCardSaid : Prop := Claim7.holds Tryd.pinned (.plain (OpenSpec.upto topStillSpec)) topStillUptoCard
end Rows
end Go.Proofs.YtcgagiimlkjcpaaDoor
