/- The tables of package math/bits as the row lays them. Conditions: none. -/
import Derived.Test.YtgjnbcfencallaaDoorZAmOne
import Derived.Test.YtgjnbcfencallaaDoorRows
import Derived.Lib.LaidTab
import Derived.Lib.TrailingZeros
import Derived.Stop.LaidErr
import Derived.MakeChecks
import Derived.SevenTiedAt
set_option linter.unusedVariables false
namespace Go.Proofs.YtgjnbcfencallaaDoor
open Go Go.RowKit
def dB64Cells:Array Value:=(Lib.deBruijn64tab.map fun n:Nat=>Value.int .u8 (n:Int)).toArray
def dB32Cells:Array Value:=(Lib.deBruijn32tab.map fun n:Nat=>Value.int .u8 (n:Int)).toArray
def bitsLaid : List (String × DataW Unit) := [("math/bits.deBruijn32tab", Rows.laid_math_bits_deBruijn32tab), ("math/bits.deBruijn64tab", Rows.laid_math_bits_deBruijn64tab)]
theorem tabW_laid {W:World} (h:laidMetH Tryd.prog bitsLaid W):TabW W:=by
 rw [MakeChecks.laidMetH_plain _ _ _ (by kernel_rfl)] at h
 have h1 : laidMet Tryd.prog [("math/bits.deBruijn64tab", Lib.tabData .u8 (Lib.deBruijn64tab.map Int.ofNat))] W := h.tail
 have h2:=Lib.tabIs_of_head (g:=1) (t:=103) (e:=5) (n:=64) (by kernel_rfl) (by kernel_rfl) (by kernel_rfl) (by kernel_rfl) (by kernel_rfl) (by kernel_rfl) h1
 have hl:Lib.deBruijn64tab.length=64:=by decide
 intro t ht
 have ht:t=(1,Lib.deBruijn64tab):=by unfold tabs at ht;simpa using ht
 subst ht
 refine ⟨fun (h:Lib.deBruijn64tab=[])=>(by rw [h] at hl;cases hl),fun j v hv=>?_⟩
 have hj:=(List.getElem?_eq_some_iff.1 hv).1
 have hc:=h2.cell (g:=1) (by kernel_rfl) j (by rw [List.length_map];exact hj)
 refine hc.trans ?_
 have hv':Lib.deBruijn64tab[j]?=some v:=hv
 rw [List.getD_eq_getElem?_getD,List.getElem?_map,hv'];rfl
end Go.Proofs.YtgjnbcfencallaaDoor
set_option linter.unusedVariables false
set_option linter.unusedSimpArgs false
namespace Go.Proofs.YtgjnbcfencallaaDoor
open Go
theorem goes_none {P:Program} (h:P.funcs.any Func.goes=false) (f:FuncId):P.goes f=false:=by
 have hx:∀g:FuncId,(P.funcs[g]?).any Func.goes=false:=fun g=>by
  cases hg:P.funcs[g]? with
  | none=>rfl
  | some fn =>
   show Func.goes fn=false
   cases hf:Func.goes fn with
   | false=>rfl
   | true =>
    have hm:fn∈P.funcs:=Array.mem_of_getElem? hg
    have:P.funcs.any Func.goes=true:=Array.any_eq_true'.2 ⟨fn,hm,hf⟩
    rw [h] at this;cases this
 unfold Program.goes
 rw [h,Bool.and_false,Bool.or_false,List.any_eq_false]
 intro g _
 rw [hx g]
 decide
theorem goesBy_none {P:Program} {c:OpenClaim} (h:P.funcs.any Func.goes=false) (hs:c.start=.entering):false=c.goesBy P:=by
 unfold OpenClaim.goesBy Program.goesAt Program.goesFrom
 rw [hs]
 cases P.funcNamed c.func with
 | none=>rfl
 | some f=>show false=(P.goes f||false);rw [goes_none h];rfl
end Go.Proofs.YtgjnbcfencallaaDoor
