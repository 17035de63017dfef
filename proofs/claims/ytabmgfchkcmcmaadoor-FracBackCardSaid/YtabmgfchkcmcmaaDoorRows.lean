/-
  NARROWER THAN 'FOR EVERY INPUT', by the rows' own cells (each row's printed sentence says how): GraphExact: laid · GraphFills: laid · GraphTrees: laid · WalkDice: laid · WalkChains: laid · HiddenMeets: laid · ChainHits: laid · ChainCycles: laid · CauseGraphs: laid · ChainPowers: laid · TopProposes: laid · FracBack: laid.
  DERIVED. THE GIVEN ROWS OF THIS SEAT. 12 by the template 'for every input the law returns true; each argument reads behind the call as it read before'; 0 by the template 'total and deterministic' (their statements: YtabmgfchkcmcmaaDoorTotals.lean).
  GIVEN WITH THE SEED: the statements are not yours to turn. If you find one false, say at which input.
  Laid BY PROGRAM, IN A SANDBOX (cutbox-rows.mjs): the forced cells as the released guide's own fill.sh prints them over the translation 939cd7b94f44379f… (all of the seat's roots in one cut). By AI agents, Wed Nov 11 2026. No macro, syntax, notation, axiom, sorry.
-/
import Derived.Test.YtabmgfchkcmcmaaDoorChecked
import GoSem.PinnedTables
import GoSem.Claim
import GoSem.ClaimJoined
import GoSem.ClaimMapViews
import Derived.JoinedTies
import Derived.KernelRfl
namespace Go.Proofs.YtabmgfchkcmcmaaDoor
/- THE CELL 'sum', in the pinned program and in every row, IS THE sha256 OF THE DUMP (.gsa) THAT YtabmgfchkcmcmaaDoorProg.lean LOADS. Nothing in Lean hashes anything: it is a label: what it is worth is what the hold of that sum in a sandbox is worth. -/
noncomputable def Tryd.pinned : Pinned := { name := "ytabmgfchkcmcmaadoor", sum := "939cd7b94f44379f3b665fb3247eaa6fa95307013fd113dc0ef623d2065be0b4", checked := Tryd.checked }
namespace Rows
def none {H : Type} : Left H := { results := [], args := [] }

/- WHAT THE LISTED PACKAGE-LEVEL VARIABLES READ AS WHEN THE CALL BEGINS. Each datum BY PROGRAM (the guide's laid-datum.mjs) off the statement by which the dump's own 'gosem.cut.vars' lays the variable. In a bare row this is a premise. The card (YtabmgfchkcmcmaaDoorCards.lean) ties it to the program's text. -/
def laid_math_bits_deBruijn32tab {H : Type} : DataW H := .agg [.lit (.int .u8 0), .lit (.int .u8 1), .lit (.int .u8 28), .lit (.int .u8 2), .lit (.int .u8 29), .lit (.int .u8 14), .lit (.int .u8 24), .lit (.int .u8 3), .lit (.int .u8 30), .lit (.int .u8 22), .lit (.int .u8 20), .lit (.int .u8 15), .lit (.int .u8 25), .lit (.int .u8 17), .lit (.int .u8 4), .lit (.int .u8 8), .lit (.int .u8 31), .lit (.int .u8 27), .lit (.int .u8 13), .lit (.int .u8 23), .lit (.int .u8 21), .lit (.int .u8 19), .lit (.int .u8 16), .lit (.int .u8 7), .lit (.int .u8 26), .lit (.int .u8 12), .lit (.int .u8 18), .lit (.int .u8 6), .lit (.int .u8 11), .lit (.int .u8 5), .lit (.int .u8 10), .lit (.int .u8 9)]
def laid_math_bits_deBruijn64tab {H : Type} : DataW H := .agg [.lit (.int .u8 0), .lit (.int .u8 1), .lit (.int .u8 56), .lit (.int .u8 2), .lit (.int .u8 57), .lit (.int .u8 49), .lit (.int .u8 28), .lit (.int .u8 3), .lit (.int .u8 61), .lit (.int .u8 58), .lit (.int .u8 42), .lit (.int .u8 50), .lit (.int .u8 38), .lit (.int .u8 29), .lit (.int .u8 17), .lit (.int .u8 4), .lit (.int .u8 62), .lit (.int .u8 47), .lit (.int .u8 59), .lit (.int .u8 36), .lit (.int .u8 45), .lit (.int .u8 43), .lit (.int .u8 51), .lit (.int .u8 22), .lit (.int .u8 53), .lit (.int .u8 39), .lit (.int .u8 33), .lit (.int .u8 30), .lit (.int .u8 24), .lit (.int .u8 18), .lit (.int .u8 12), .lit (.int .u8 5), .lit (.int .u8 63), .lit (.int .u8 55), .lit (.int .u8 48), .lit (.int .u8 27), .lit (.int .u8 60), .lit (.int .u8 41), .lit (.int .u8 37), .lit (.int .u8 16), .lit (.int .u8 46), .lit (.int .u8 35), .lit (.int .u8 44), .lit (.int .u8 21), .lit (.int .u8 52), .lit (.int .u8 32), .lit (.int .u8 23), .lit (.int .u8 11), .lit (.int .u8 54), .lit (.int .u8 26), .lit (.int .u8 40), .lit (.int .u8 15), .lit (.int .u8 34), .lit (.int .u8 20), .lit (.int .u8 31), .lit (.int .u8 10), .lit (.int .u8 25), .lit (.int .u8 14), .lit (.int .u8 19), .lit (.int .u8 9), .lit (.int .u8 13), .lit (.int .u8 8), .lit (.int .u8 7), .lit (.int .u8 6)]
def laid_unicode_utf8_acceptRanges {H : Type} : DataW H := .agg [.agg [.lit (.int .u8 128), .lit (.int .u8 191)], .agg [.lit (.int .u8 160), .lit (.int .u8 191)], .agg [.lit (.int .u8 128), .lit (.int .u8 159)], .agg [.lit (.int .u8 144), .lit (.int .u8 191)], .agg [.lit (.int .u8 128), .lit (.int .u8 143)], .agg [.lit (.int .u8 0), .lit (.int .u8 0)], .agg [.lit (.int .u8 0), .lit (.int .u8 0)], .agg [.lit (.int .u8 0), .lit (.int .u8 0)], .agg [.lit (.int .u8 0), .lit (.int .u8 0)], .agg [.lit (.int .u8 0), .lit (.int .u8 0)], .agg [.lit (.int .u8 0), .lit (.int .u8 0)], .agg [.lit (.int .u8 0), .lit (.int .u8 0)], .agg [.lit (.int .u8 0), .lit (.int .u8 0)], .agg [.lit (.int .u8 0), .lit (.int .u8 0)], .agg [.lit (.int .u8 0), .lit (.int .u8 0)], .agg [.lit (.int .u8 0), .lit (.int .u8 0)]]
/-- One of Go's own tables, pinned by name: the form's constant. -/
def laid_unicode_utf8_first : DataW Unit := Go.Pinned.utf8First

/-- 'augurlaw.GraphExact': WHATEVER THE INPUT: true; the input reads as it did. -/
def graphExactSpec : ChangeSpec := { name := "graphExact", fn := fun _ => fun
  | [d1, d2, d3, d4, d5] => { results := [.lit (.bool true)], args := [d1, d2, d3, d4, d5] }
  | _ => none }
def graphExactRow : OpenClaim := { program := "ytabmgfchkcmcmaadoor", sum := "939cd7b94f44379f3b665fb3247eaa6fa95307013fd113dc0ef623d2065be0b4", func := "augur/augurlaw.GraphExact", spec := "graphExact", unfollowed := true, recurses := true, named := ["math/bits.deBruijn32tab", "math/bits.deBruijn64tab"], plainKeys := false, apart := false, laid := [("math/bits.deBruijn32tab", laid_math_bits_deBruijn32tab), ("math/bits.deBruijn64tab", laid_math_bits_deBruijn64tab)] }
def GraphExactSaid : Prop := graphExactRow.holds Tryd.pinned (OpenSpec.ofChange graphExactSpec)

/-- ITS FALSE NEIGHBOUR: 'it returns false'. Refute it at one input. -/
def graphExactWrong : ChangeSpec := { name := "graphExact", fn := fun _ => fun
  | [d1, d2, d3, d4, d5] => { results := [.lit (.bool false)], args := [d1, d2, d3, d4, d5] }
  | _ => none }
def GraphExactWrongFalsely : Prop := graphExactRow.holds Tryd.pinned (OpenSpec.ofChange graphExactWrong)

/-- 'augurlaw.GraphFills': WHATEVER THE INPUT: true; the input reads as it did. -/
def graphFillsSpec : ChangeSpec := { name := "graphFills", fn := fun _ => fun
  | [d1, d2] => { results := [.lit (.bool true)], args := [d1, d2] }
  | _ => none }
def graphFillsRow : OpenClaim := { program := "ytabmgfchkcmcmaadoor", sum := "939cd7b94f44379f3b665fb3247eaa6fa95307013fd113dc0ef623d2065be0b4", func := "augur/augurlaw.GraphFills", spec := "graphFills", unfollowed := true, recurses := true, named := ["math/bits.deBruijn32tab", "math/bits.deBruijn64tab"], plainKeys := false, apart := false, laid := [("math/bits.deBruijn32tab", laid_math_bits_deBruijn32tab), ("math/bits.deBruijn64tab", laid_math_bits_deBruijn64tab)] }
def GraphFillsSaid : Prop := graphFillsRow.holds Tryd.pinned (OpenSpec.ofChange graphFillsSpec)

/-- ITS FALSE NEIGHBOUR: 'it returns false'. Refute it at one input. -/
def graphFillsWrong : ChangeSpec := { name := "graphFills", fn := fun _ => fun
  | [d1, d2] => { results := [.lit (.bool false)], args := [d1, d2] }
  | _ => none }
def GraphFillsWrongFalsely : Prop := graphFillsRow.holds Tryd.pinned (OpenSpec.ofChange graphFillsWrong)

/-- 'augurlaw.GraphTrees': WHATEVER THE INPUT: true; the input reads as it did. -/
def graphTreesSpec : ChangeSpec := { name := "graphTrees", fn := fun _ => fun
  | [d1, d2] => { results := [.lit (.bool true)], args := [d1, d2] }
  | _ => none }
def graphTreesRow : OpenClaim := { program := "ytabmgfchkcmcmaadoor", sum := "939cd7b94f44379f3b665fb3247eaa6fa95307013fd113dc0ef623d2065be0b4", func := "augur/augurlaw.GraphTrees", spec := "graphTrees", unfollowed := true, recurses := true, named := ["math/bits.deBruijn32tab", "math/bits.deBruijn64tab"], plainKeys := false, apart := false, laid := [("math/bits.deBruijn32tab", laid_math_bits_deBruijn32tab), ("math/bits.deBruijn64tab", laid_math_bits_deBruijn64tab)] }
def GraphTreesSaid : Prop := graphTreesRow.holds Tryd.pinned (OpenSpec.ofChange graphTreesSpec)

/-- ITS FALSE NEIGHBOUR: 'it returns false'. Refute it at one input. -/
def graphTreesWrong : ChangeSpec := { name := "graphTrees", fn := fun _ => fun
  | [d1, d2] => { results := [.lit (.bool false)], args := [d1, d2] }
  | _ => none }
def GraphTreesWrongFalsely : Prop := graphTreesRow.holds Tryd.pinned (OpenSpec.ofChange graphTreesWrong)

/-- 'augurlaw.WalkDice': WHATEVER THE INPUT: true; the input reads as it did. -/
def walkDiceSpec : ChangeSpec := { name := "walkDice", fn := fun _ => fun
  | [d1, d2, d3] => { results := [.lit (.bool true)], args := [d1, d2, d3] }
  | _ => none }
def walkDiceRow : OpenClaim := { program := "ytabmgfchkcmcmaadoor", sum := "939cd7b94f44379f3b665fb3247eaa6fa95307013fd113dc0ef623d2065be0b4", func := "augur/augurlaw.WalkDice", spec := "walkDice", inPlace := ["internal/bytealg.IndexByteString", "internal/bytealg.IndexString", "internal/bytealg.abigen_runtime_cmpstring"], unfollowed := true, recurses := true, named := ["unicode/utf8.first", "unicode/utf8.acceptRanges", "internal/bytealg.MaxLen"], plainKeys := false, apart := false, laid := [("unicode/utf8.acceptRanges", laid_unicode_utf8_acceptRanges), ("unicode/utf8.first", laid_unicode_utf8_first)] }
def WalkDiceSaid : Prop := walkDiceRow.holds Tryd.pinned (OpenSpec.ofChange walkDiceSpec)

/-- ITS FALSE NEIGHBOUR: 'it returns false'. Refute it at one input. -/
def walkDiceWrong : ChangeSpec := { name := "walkDice", fn := fun _ => fun
  | [d1, d2, d3] => { results := [.lit (.bool false)], args := [d1, d2, d3] }
  | _ => none }
def WalkDiceWrongFalsely : Prop := walkDiceRow.holds Tryd.pinned (OpenSpec.ofChange walkDiceWrong)

/-- 'augurlaw.WalkChains': WHATEVER THE INPUT: true; the input reads as it did. -/
def walkChainsSpec : ChangeSpec := { name := "walkChains", fn := fun _ => fun
  | [d1, d2, d3, d4, d5] => { results := [.lit (.bool true)], args := [d1, d2, d3, d4, d5] }
  | _ => none }
def walkChainsRow : OpenClaim := { program := "ytabmgfchkcmcmaadoor", sum := "939cd7b94f44379f3b665fb3247eaa6fa95307013fd113dc0ef623d2065be0b4", func := "augur/augurlaw.WalkChains", spec := "walkChains", inPlace := ["internal/bytealg.IndexByteString", "internal/bytealg.IndexString", "internal/bytealg.abigen_runtime_cmpstring"], unfollowed := true, recurses := true, named := ["unicode/utf8.first", "unicode/utf8.acceptRanges", "internal/bytealg.MaxLen"], plainKeys := false, apart := false, laid := [("unicode/utf8.acceptRanges", laid_unicode_utf8_acceptRanges), ("unicode/utf8.first", laid_unicode_utf8_first)] }
def WalkChainsSaid : Prop := walkChainsRow.holds Tryd.pinned (OpenSpec.ofChange walkChainsSpec)

/-- ITS FALSE NEIGHBOUR: 'it returns false'. Refute it at one input. -/
def walkChainsWrong : ChangeSpec := { name := "walkChains", fn := fun _ => fun
  | [d1, d2, d3, d4, d5] => { results := [.lit (.bool false)], args := [d1, d2, d3, d4, d5] }
  | _ => none }
def WalkChainsWrongFalsely : Prop := walkChainsRow.holds Tryd.pinned (OpenSpec.ofChange walkChainsWrong)

/-- 'augurlaw.HiddenMeets': WHATEVER THE INPUT: true; the input reads as it did. -/
def hiddenMeetsSpec : ChangeSpec := { name := "hiddenMeets", fn := fun _ => fun
  | [d1, d2, d3, d4, d5] => { results := [.lit (.bool true)], args := [d1, d2, d3, d4, d5] }
  | _ => none }
def hiddenMeetsRow : OpenClaim := { program := "ytabmgfchkcmcmaadoor", sum := "939cd7b94f44379f3b665fb3247eaa6fa95307013fd113dc0ef623d2065be0b4", func := "augur/augurlaw.HiddenMeets", spec := "hiddenMeets", inPlace := ["internal/bytealg.IndexByteString", "internal/bytealg.IndexString", "internal/bytealg.abigen_runtime_cmpstring"], unfollowed := true, recurses := true, named := ["unicode/utf8.first", "unicode/utf8.acceptRanges", "internal/bytealg.MaxLen"], plainKeys := false, apart := false, laid := [("unicode/utf8.acceptRanges", laid_unicode_utf8_acceptRanges), ("unicode/utf8.first", laid_unicode_utf8_first)] }
def HiddenMeetsSaid : Prop := hiddenMeetsRow.holds Tryd.pinned (OpenSpec.ofChange hiddenMeetsSpec)

/-- ITS FALSE NEIGHBOUR: 'it returns false'. Refute it at one input. -/
def hiddenMeetsWrong : ChangeSpec := { name := "hiddenMeets", fn := fun _ => fun
  | [d1, d2, d3, d4, d5] => { results := [.lit (.bool false)], args := [d1, d2, d3, d4, d5] }
  | _ => none }
def HiddenMeetsWrongFalsely : Prop := hiddenMeetsRow.holds Tryd.pinned (OpenSpec.ofChange hiddenMeetsWrong)

/-- 'augurlaw.ChainHits': WHATEVER THE INPUT: true; the input reads as it did. -/
def chainHitsSpec : ChangeSpec := { name := "chainHits", fn := fun _ => fun
  | [d1, d2, d3, d4] => { results := [.lit (.bool true)], args := [d1, d2, d3, d4] }
  | _ => none }
def chainHitsRow : OpenClaim := { program := "ytabmgfchkcmcmaadoor", sum := "939cd7b94f44379f3b665fb3247eaa6fa95307013fd113dc0ef623d2065be0b4", func := "augur/augurlaw.ChainHits", spec := "chainHits", inPlace := ["internal/bytealg.IndexByteString", "internal/bytealg.IndexString", "internal/bytealg.abigen_runtime_cmpstring"], unfollowed := true, recurses := true, named := ["unicode/utf8.first", "unicode/utf8.acceptRanges", "internal/bytealg.MaxLen"], plainKeys := false, apart := false, laid := [("unicode/utf8.acceptRanges", laid_unicode_utf8_acceptRanges), ("unicode/utf8.first", laid_unicode_utf8_first)] }
def ChainHitsSaid : Prop := chainHitsRow.holds Tryd.pinned (OpenSpec.ofChange chainHitsSpec)

/-- ITS FALSE NEIGHBOUR: 'it returns false'. Refute it at one input. -/
def chainHitsWrong : ChangeSpec := { name := "chainHits", fn := fun _ => fun
  | [d1, d2, d3, d4] => { results := [.lit (.bool false)], args := [d1, d2, d3, d4] }
  | _ => none }
def ChainHitsWrongFalsely : Prop := chainHitsRow.holds Tryd.pinned (OpenSpec.ofChange chainHitsWrong)

/-- 'augurlaw.ChainCycles': WHATEVER THE INPUT: true; the input reads as it did. -/
def chainCyclesSpec : ChangeSpec := { name := "chainCycles", fn := fun _ => fun
  | [d1, d2, d3, d4] => { results := [.lit (.bool true)], args := [d1, d2, d3, d4] }
  | _ => none }
def chainCyclesRow : OpenClaim := { program := "ytabmgfchkcmcmaadoor", sum := "939cd7b94f44379f3b665fb3247eaa6fa95307013fd113dc0ef623d2065be0b4", func := "augur/augurlaw.ChainCycles", spec := "chainCycles", inPlace := ["internal/bytealg.IndexByteString", "internal/bytealg.IndexString", "internal/bytealg.abigen_runtime_cmpstring"], unfollowed := true, recurses := true, named := ["unicode/utf8.first", "unicode/utf8.acceptRanges", "internal/bytealg.MaxLen"], plainKeys := false, apart := false, laid := [("unicode/utf8.acceptRanges", laid_unicode_utf8_acceptRanges), ("unicode/utf8.first", laid_unicode_utf8_first)] }
def ChainCyclesSaid : Prop := chainCyclesRow.holds Tryd.pinned (OpenSpec.ofChange chainCyclesSpec)

/-- ITS FALSE NEIGHBOUR: 'it returns false'. Refute it at one input. -/
def chainCyclesWrong : ChangeSpec := { name := "chainCycles", fn := fun _ => fun
  | [d1, d2, d3, d4] => { results := [.lit (.bool false)], args := [d1, d2, d3, d4] }
  | _ => none }
def ChainCyclesWrongFalsely : Prop := chainCyclesRow.holds Tryd.pinned (OpenSpec.ofChange chainCyclesWrong)

/-- 'augurlaw.CauseGraphs': WHATEVER THE INPUT: true; the input reads as it did. -/
def causeGraphsSpec : ChangeSpec := { name := "causeGraphs", fn := fun _ => fun
  | [d1, d2, d3, d4, d5, d6, d7, d8] => { results := [.lit (.bool true)], args := [d1, d2, d3, d4, d5, d6, d7, d8] }
  | _ => none }
def causeGraphsRow : OpenClaim := { program := "ytabmgfchkcmcmaadoor", sum := "939cd7b94f44379f3b665fb3247eaa6fa95307013fd113dc0ef623d2065be0b4", func := "augur/augurlaw.CauseGraphs", spec := "causeGraphs", unfollowed := true, recurses := true, named := ["math/bits.deBruijn32tab", "math/bits.deBruijn64tab"], plainKeys := false, apart := false, laid := [("math/bits.deBruijn32tab", laid_math_bits_deBruijn32tab), ("math/bits.deBruijn64tab", laid_math_bits_deBruijn64tab)] }
def CauseGraphsSaid : Prop := causeGraphsRow.holds Tryd.pinned (OpenSpec.ofChange causeGraphsSpec)

/-- ITS FALSE NEIGHBOUR: 'it returns false'. Refute it at one input. -/
def causeGraphsWrong : ChangeSpec := { name := "causeGraphs", fn := fun _ => fun
  | [d1, d2, d3, d4, d5, d6, d7, d8] => { results := [.lit (.bool false)], args := [d1, d2, d3, d4, d5, d6, d7, d8] }
  | _ => none }
def CauseGraphsWrongFalsely : Prop := causeGraphsRow.holds Tryd.pinned (OpenSpec.ofChange causeGraphsWrong)

/-- 'augurlaw.ChainPowers': WHATEVER THE INPUT: true; the input reads as it did. -/
def chainPowersSpec : ChangeSpec := { name := "chainPowers", fn := fun _ => fun
  | [d1, d2, d3, d4] => { results := [.lit (.bool true)], args := [d1, d2, d3, d4] }
  | _ => none }
def chainPowersRow : OpenClaim := { program := "ytabmgfchkcmcmaadoor", sum := "939cd7b94f44379f3b665fb3247eaa6fa95307013fd113dc0ef623d2065be0b4", func := "augur/augurlaw.ChainPowers", spec := "chainPowers", inPlace := ["internal/bytealg.IndexByteString", "internal/bytealg.IndexString", "internal/bytealg.abigen_runtime_cmpstring"], unfollowed := true, recurses := true, named := ["unicode/utf8.first", "unicode/utf8.acceptRanges", "internal/bytealg.MaxLen"], plainKeys := false, apart := false, laid := [("unicode/utf8.acceptRanges", laid_unicode_utf8_acceptRanges), ("unicode/utf8.first", laid_unicode_utf8_first)] }
def ChainPowersSaid : Prop := chainPowersRow.holds Tryd.pinned (OpenSpec.ofChange chainPowersSpec)

/-- ITS FALSE NEIGHBOUR: 'it returns false'. Refute it at one input. -/
def chainPowersWrong : ChangeSpec := { name := "chainPowers", fn := fun _ => fun
  | [d1, d2, d3, d4] => { results := [.lit (.bool false)], args := [d1, d2, d3, d4] }
  | _ => none }
def ChainPowersWrongFalsely : Prop := chainPowersRow.holds Tryd.pinned (OpenSpec.ofChange chainPowersWrong)

/-- 'augurtop.TopProposes': WHATEVER THE INPUT: true; the input reads as it did. -/
def topProposesSpec : ChangeSpec := { name := "topProposes", fn := fun _ => fun
  | [d1, d2, d3] => { results := [.lit (.bool true)], args := [d1, d2, d3] }
  | _ => none }
def topProposesRow : OpenClaim := { program := "ytabmgfchkcmcmaadoor", sum := "939cd7b94f44379f3b665fb3247eaa6fa95307013fd113dc0ef623d2065be0b4", func := "augur/augurtop.TopProposes", spec := "topProposes", inPlace := ["internal/bytealg.IndexByteString", "internal/bytealg.IndexString", "internal/bytealg.abigen_runtime_cmpstring"], unfollowed := true, recurses := true, named := ["unicode/utf8.first", "unicode/utf8.acceptRanges", "internal/bytealg.MaxLen"], plainKeys := false, apart := false, laid := [("unicode/utf8.acceptRanges", laid_unicode_utf8_acceptRanges), ("unicode/utf8.first", laid_unicode_utf8_first)] }
def TopProposesSaid : Prop := topProposesRow.holds Tryd.pinned (OpenSpec.ofChange topProposesSpec)

/-- ITS FALSE NEIGHBOUR: 'it returns false'. Refute it at one input. -/
def topProposesWrong : ChangeSpec := { name := "topProposes", fn := fun _ => fun
  | [d1, d2, d3] => { results := [.lit (.bool false)], args := [d1, d2, d3] }
  | _ => none }
def TopProposesWrongFalsely : Prop := topProposesRow.holds Tryd.pinned (OpenSpec.ofChange topProposesWrong)

/-- 'augurlaw.FracBack': WHATEVER THE INPUT: true; the input reads as it did. -/
def fracBackSpec : ChangeSpec := { name := "fracBack", fn := fun _ => fun
  | [d] => { results := [.lit (.bool true)], args := [d] }
  | _ => none }
def fracBackRow : OpenClaim := { program := "ytabmgfchkcmcmaadoor", sum := "939cd7b94f44379f3b665fb3247eaa6fa95307013fd113dc0ef623d2065be0b4", func := "augur/augurlaw.FracBack", spec := "fracBack", inPlace := ["internal/bytealg.IndexByteString", "internal/bytealg.IndexString", "internal/bytealg.abigen_runtime_cmpstring", "internal/abi.NoEscape", "internal/bytealg.MakeNoZero"], unfollowed := true, recurses := true, named := ["unicode/utf8.first", "unicode/utf8.acceptRanges", "internal/bytealg.MaxLen"], plainKeys := false, apart := false, laid := [("unicode/utf8.acceptRanges", laid_unicode_utf8_acceptRanges), ("unicode/utf8.first", laid_unicode_utf8_first)] }
def FracBackSaid : Prop := fracBackRow.holds Tryd.pinned (OpenSpec.ofChange fracBackSpec)

/-- ITS FALSE NEIGHBOUR: 'it returns false'. Refute it at one input. -/
def fracBackWrong : ChangeSpec := { name := "fracBack", fn := fun _ => fun
  | [d] => { results := [.lit (.bool false)], args := [d] }
  | _ => none }
def FracBackWrongFalsely : Prop := fracBackRow.holds Tryd.pinned (OpenSpec.ofChange fracBackWrong)

/- THE SECOND FORM. 'bulk': how many values and letters a reading holds, each counted each time it is reached (what is shared counts as often as it is met; a slice's spare places count too). A statement '..UptoSaid' is the law's where the arguments, and the package variables that the reading takes, are together of bulk at most 1048576: NARROWER than '..Said'. Prove '..Said' where nothing that the law and all that it calls make is longer than what came in: it says more and counts as full. Else prove '..UptoSaid'. A law counts once. -/
mutual
def uptoBulk {H : Type} : DataW H → Nat
  | .lit (.string bytes) => bytes.length + 1
  | .lit _ => 1
  | .nil => 1
  | .ptr d => uptoBulk d + 1
  | .slice elems spare => uptoBulkAll elems + uptoBulkAll spare + 1
  | .agg parts => uptoBulkAll parts + 1
  | .iface _ d => uptoBulk d + 1
  | .map entries => uptoBulkEntries entries + 1
  | .held _ => 1
def uptoBulkAll {H : Type} : List (DataW H) → Nat
  | [] => 0
  | d :: r => uptoBulk d + uptoBulkAll r
def uptoBulkEntries {H : Type} : List (Lit × DataW H) → Nat
  | [] => 0
  | x :: r => uptoBulkEntry x + uptoBulkEntries r
def uptoBulkEntry {H : Type} : Lit × DataW H → Nat
  | (.string bytes, d) => bytes.length + uptoBulk d + 1
  | (_, d) => uptoBulk d + 1
 end
def uptoSmall : (H : Type) → List (DataW H) → Bool := fun _ ds => decide (uptoBulkAll ds ≤ 1048576)
def OpenSpec.upto (s : _root_.Go.ChangeSpec) : _root_.Go.OpenSpec := { _root_.Go.OpenSpec.ofChange s with cond := some uptoSmall }

/-- 'augurlaw.GraphExact', WHERE WHAT IT READS IS OF BULK AT MOST 1048576: true; the input reads as it did. -/
def graphExactUptoRow : OpenClaim := { program := "ytabmgfchkcmcmaadoor", sum := "939cd7b94f44379f3b665fb3247eaa6fa95307013fd113dc0ef623d2065be0b4", func := "augur/augurlaw.GraphExact", spec := "graphExact", unfollowed := true, recurses := true, named := ["math/bits.deBruijn32tab", "math/bits.deBruijn64tab"], plainKeys := false, apart := false, laid := [("math/bits.deBruijn32tab", laid_math_bits_deBruijn32tab), ("math/bits.deBruijn64tab", laid_math_bits_deBruijn64tab)], narrowed := true }
def GraphExactUptoSaid : Prop := graphExactUptoRow.holds Tryd.pinned (OpenSpec.upto graphExactSpec)

/-- 'augurlaw.GraphFills', WHERE WHAT IT READS IS OF BULK AT MOST 1048576: true; the input reads as it did. -/
def graphFillsUptoRow : OpenClaim := { program := "ytabmgfchkcmcmaadoor", sum := "939cd7b94f44379f3b665fb3247eaa6fa95307013fd113dc0ef623d2065be0b4", func := "augur/augurlaw.GraphFills", spec := "graphFills", unfollowed := true, recurses := true, named := ["math/bits.deBruijn32tab", "math/bits.deBruijn64tab"], plainKeys := false, apart := false, laid := [("math/bits.deBruijn32tab", laid_math_bits_deBruijn32tab), ("math/bits.deBruijn64tab", laid_math_bits_deBruijn64tab)], narrowed := true }
def GraphFillsUptoSaid : Prop := graphFillsUptoRow.holds Tryd.pinned (OpenSpec.upto graphFillsSpec)

/-- 'augurlaw.GraphTrees', WHERE WHAT IT READS IS OF BULK AT MOST 1048576: true; the input reads as it did. -/
def graphTreesUptoRow : OpenClaim := { program := "ytabmgfchkcmcmaadoor", sum := "939cd7b94f44379f3b665fb3247eaa6fa95307013fd113dc0ef623d2065be0b4", func := "augur/augurlaw.GraphTrees", spec := "graphTrees", unfollowed := true, recurses := true, named := ["math/bits.deBruijn32tab", "math/bits.deBruijn64tab"], plainKeys := false, apart := false, laid := [("math/bits.deBruijn32tab", laid_math_bits_deBruijn32tab), ("math/bits.deBruijn64tab", laid_math_bits_deBruijn64tab)], narrowed := true }
def GraphTreesUptoSaid : Prop := graphTreesUptoRow.holds Tryd.pinned (OpenSpec.upto graphTreesSpec)

/-- 'augurlaw.WalkDice', WHERE WHAT IT READS IS OF BULK AT MOST 1048576: true; the input reads as it did. -/
def walkDiceUptoRow : OpenClaim := { program := "ytabmgfchkcmcmaadoor", sum := "939cd7b94f44379f3b665fb3247eaa6fa95307013fd113dc0ef623d2065be0b4", func := "augur/augurlaw.WalkDice", spec := "walkDice", inPlace := ["internal/bytealg.IndexByteString", "internal/bytealg.IndexString", "internal/bytealg.abigen_runtime_cmpstring"], unfollowed := true, recurses := true, named := ["unicode/utf8.first", "unicode/utf8.acceptRanges", "internal/bytealg.MaxLen"], plainKeys := false, apart := false, laid := [("unicode/utf8.acceptRanges", laid_unicode_utf8_acceptRanges), ("unicode/utf8.first", laid_unicode_utf8_first)], narrowed := true }
def WalkDiceUptoSaid : Prop := walkDiceUptoRow.holds Tryd.pinned (OpenSpec.upto walkDiceSpec)

/-- 'augurlaw.WalkChains', WHERE WHAT IT READS IS OF BULK AT MOST 1048576: true; the input reads as it did. -/
def walkChainsUptoRow : OpenClaim := { program := "ytabmgfchkcmcmaadoor", sum := "939cd7b94f44379f3b665fb3247eaa6fa95307013fd113dc0ef623d2065be0b4", func := "augur/augurlaw.WalkChains", spec := "walkChains", inPlace := ["internal/bytealg.IndexByteString", "internal/bytealg.IndexString", "internal/bytealg.abigen_runtime_cmpstring"], unfollowed := true, recurses := true, named := ["unicode/utf8.first", "unicode/utf8.acceptRanges", "internal/bytealg.MaxLen"], plainKeys := false, apart := false, laid := [("unicode/utf8.acceptRanges", laid_unicode_utf8_acceptRanges), ("unicode/utf8.first", laid_unicode_utf8_first)], narrowed := true }
def WalkChainsUptoSaid : Prop := walkChainsUptoRow.holds Tryd.pinned (OpenSpec.upto walkChainsSpec)

/-- 'augurlaw.HiddenMeets', WHERE WHAT IT READS IS OF BULK AT MOST 1048576: true; the input reads as it did. -/
def hiddenMeetsUptoRow : OpenClaim := { program := "ytabmgfchkcmcmaadoor", sum := "939cd7b94f44379f3b665fb3247eaa6fa95307013fd113dc0ef623d2065be0b4", func := "augur/augurlaw.HiddenMeets", spec := "hiddenMeets", inPlace := ["internal/bytealg.IndexByteString", "internal/bytealg.IndexString", "internal/bytealg.abigen_runtime_cmpstring"], unfollowed := true, recurses := true, named := ["unicode/utf8.first", "unicode/utf8.acceptRanges", "internal/bytealg.MaxLen"], plainKeys := false, apart := false, laid := [("unicode/utf8.acceptRanges", laid_unicode_utf8_acceptRanges), ("unicode/utf8.first", laid_unicode_utf8_first)], narrowed := true }
def HiddenMeetsUptoSaid : Prop := hiddenMeetsUptoRow.holds Tryd.pinned (OpenSpec.upto hiddenMeetsSpec)

/-- 'augurlaw.ChainHits', WHERE WHAT IT READS IS OF BULK AT MOST 1048576: true; the input reads as it did. -/
def chainHitsUptoRow : OpenClaim := { program := "ytabmgfchkcmcmaadoor", sum := "939cd7b94f44379f3b665fb3247eaa6fa95307013fd113dc0ef623d2065be0b4", func := "augur/augurlaw.ChainHits", spec := "chainHits", inPlace := ["internal/bytealg.IndexByteString", "internal/bytealg.IndexString", "internal/bytealg.abigen_runtime_cmpstring"], unfollowed := true, recurses := true, named := ["unicode/utf8.first", "unicode/utf8.acceptRanges", "internal/bytealg.MaxLen"], plainKeys := false, apart := false, laid := [("unicode/utf8.acceptRanges", laid_unicode_utf8_acceptRanges), ("unicode/utf8.first", laid_unicode_utf8_first)], narrowed := true }
def ChainHitsUptoSaid : Prop := chainHitsUptoRow.holds Tryd.pinned (OpenSpec.upto chainHitsSpec)

/-- 'augurlaw.ChainCycles', WHERE WHAT IT READS IS OF BULK AT MOST 1048576: true; the input reads as it did. -/
def chainCyclesUptoRow : OpenClaim := { program := "ytabmgfchkcmcmaadoor", sum := "939cd7b94f44379f3b665fb3247eaa6fa95307013fd113dc0ef623d2065be0b4", func := "augur/augurlaw.ChainCycles", spec := "chainCycles", inPlace := ["internal/bytealg.IndexByteString", "internal/bytealg.IndexString", "internal/bytealg.abigen_runtime_cmpstring"], unfollowed := true, recurses := true, named := ["unicode/utf8.first", "unicode/utf8.acceptRanges", "internal/bytealg.MaxLen"], plainKeys := false, apart := false, laid := [("unicode/utf8.acceptRanges", laid_unicode_utf8_acceptRanges), ("unicode/utf8.first", laid_unicode_utf8_first)], narrowed := true }
def ChainCyclesUptoSaid : Prop := chainCyclesUptoRow.holds Tryd.pinned (OpenSpec.upto chainCyclesSpec)

/-- 'augurlaw.CauseGraphs', WHERE WHAT IT READS IS OF BULK AT MOST 1048576: true; the input reads as it did. -/
def causeGraphsUptoRow : OpenClaim := { program := "ytabmgfchkcmcmaadoor", sum := "939cd7b94f44379f3b665fb3247eaa6fa95307013fd113dc0ef623d2065be0b4", func := "augur/augurlaw.CauseGraphs", spec := "causeGraphs", unfollowed := true, recurses := true, named := ["math/bits.deBruijn32tab", "math/bits.deBruijn64tab"], plainKeys := false, apart := false, laid := [("math/bits.deBruijn32tab", laid_math_bits_deBruijn32tab), ("math/bits.deBruijn64tab", laid_math_bits_deBruijn64tab)], narrowed := true }
def CauseGraphsUptoSaid : Prop := causeGraphsUptoRow.holds Tryd.pinned (OpenSpec.upto causeGraphsSpec)

/-- 'augurlaw.ChainPowers', WHERE WHAT IT READS IS OF BULK AT MOST 1048576: true; the input reads as it did. -/
def chainPowersUptoRow : OpenClaim := { program := "ytabmgfchkcmcmaadoor", sum := "939cd7b94f44379f3b665fb3247eaa6fa95307013fd113dc0ef623d2065be0b4", func := "augur/augurlaw.ChainPowers", spec := "chainPowers", inPlace := ["internal/bytealg.IndexByteString", "internal/bytealg.IndexString", "internal/bytealg.abigen_runtime_cmpstring"], unfollowed := true, recurses := true, named := ["unicode/utf8.first", "unicode/utf8.acceptRanges", "internal/bytealg.MaxLen"], plainKeys := false, apart := false, laid := [("unicode/utf8.acceptRanges", laid_unicode_utf8_acceptRanges), ("unicode/utf8.first", laid_unicode_utf8_first)], narrowed := true }
def ChainPowersUptoSaid : Prop := chainPowersUptoRow.holds Tryd.pinned (OpenSpec.upto chainPowersSpec)

/-- 'augurtop.TopProposes', WHERE WHAT IT READS IS OF BULK AT MOST 1048576: true; the input reads as it did. -/
def topProposesUptoRow : OpenClaim := { program := "ytabmgfchkcmcmaadoor", sum := "939cd7b94f44379f3b665fb3247eaa6fa95307013fd113dc0ef623d2065be0b4", func := "augur/augurtop.TopProposes", spec := "topProposes", inPlace := ["internal/bytealg.IndexByteString", "internal/bytealg.IndexString", "internal/bytealg.abigen_runtime_cmpstring"], unfollowed := true, recurses := true, named := ["unicode/utf8.first", "unicode/utf8.acceptRanges", "internal/bytealg.MaxLen"], plainKeys := false, apart := false, laid := [("unicode/utf8.acceptRanges", laid_unicode_utf8_acceptRanges), ("unicode/utf8.first", laid_unicode_utf8_first)], narrowed := true }
def TopProposesUptoSaid : Prop := topProposesUptoRow.holds Tryd.pinned (OpenSpec.upto topProposesSpec)

/-- 'augurlaw.FracBack', WHERE WHAT IT READS IS OF BULK AT MOST 1048576: true; the input reads as it did. -/
def fracBackUptoRow : OpenClaim := { program := "ytabmgfchkcmcmaadoor", sum := "939cd7b94f44379f3b665fb3247eaa6fa95307013fd113dc0ef623d2065be0b4", func := "augur/augurlaw.FracBack", spec := "fracBack", inPlace := ["internal/bytealg.IndexByteString", "internal/bytealg.IndexString", "internal/bytealg.abigen_runtime_cmpstring", "internal/abi.NoEscape", "internal/bytealg.MakeNoZero"], unfollowed := true, recurses := true, named := ["unicode/utf8.first", "unicode/utf8.acceptRanges", "internal/bytealg.MaxLen"], plainKeys := false, apart := false, laid := [("unicode/utf8.acceptRanges", laid_unicode_utf8_acceptRanges), ("unicode/utf8.first", laid_unicode_utf8_first)], narrowed := true }
def FracBackUptoSaid : Prop := fracBackUptoRow.holds Tryd.pinned (OpenSpec.upto fracBackSpec)

end Rows
end Go.Proofs.YtabmgfchkcmcmaaDoor
