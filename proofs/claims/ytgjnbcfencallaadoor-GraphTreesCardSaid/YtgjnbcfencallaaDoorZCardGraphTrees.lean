/- The law GraphTrees: of the cliques of any graph s bags: each family stands in one; no clique is in another; there are links enough to make one tree; and of any two links way the cliques between have all that their ends have in common: it returns true for every input, and changes nothing. The tied card. Conditions: those of the given row alone. The frame is that of the kit's page on a law over laid tables. -/
import Derived.Test.YtgjnbcfencallaaDoorZB14
import Derived.Test.YtgjnbcfencallaaDoorZB15
import Derived.Test.YtgjnbcfencallaaDoorCards
import Derived.Test.YtgjnbcfencallaaDoorTie
import Derived.Carry
import Derived.ProofKit
import Derived.OpenShut
import Derived.Deep.DeepHandedRow
import Derived.Lib.LaidTab
import Derived.SizedLaws
set_option linter.unusedVariables false
set_option linter.unusedSimpArgs false
namespace Go.Proofs.YtgjnbcfencallaaDoor.graphTrees
open Go.ChangeShapes Go.WideShapes Go.ChangeAt Go.RowKit

theorem own:ownKnob Tryd.prog.godebug=none:=by kernel_rfl
theorem results:Tryd.f5.resultTypes=#[4]:=by kernel_rfl

set_option maxRecDepth 100000 in
theorem contract (H:Type) (enc:TypeId × Value→H) (W:World) (base:Nat) (args:Array Value) (ds gs:List (DataW H)) (before:List MemPlace)
  (hval:∀(j:Nat) t v,Tryd.f5.params[j]?=some t→args[j]?=some v→Value.okWide Tryd.prog W .any base t v)
  (hW:DataW.Whole enc Tryd.prog Tryd.f5.params.toList Rows.graphTreesSpec.vars false W args.toList ds gs before)
  (hsz:(DataW.weightsEach Tryd.prog (Tryd.f5.params.toList++(OpenSpec.ofChange Rows.graphTreesSpec).bare.plain.varTypes Tryd.prog) (ds++gs)).all (·≤ reachBytes)=true)
  (hld:laidMetH Tryd.prog Rows.graphTreesRow.laid W) :
  Calls Tryd.prog 5 args W fun e W'=>∃v,e=.returned v∧Rows.graphTreesSpec.post enc Tryd.prog Tryd.f5 false true false false W args v W':=by
 have hW':=hW
 obtain ⟨p,q,hA0,hV,rfl,hfz,hnd⟩:=hW
 have hA:DataW.TrodAll enc Tryd.prog W 0 (fun _=>true) true Tryd.f5.params.toList args.toList ds p:=hA0
 rw [Tryd.params5] at hA hval hsz
 obtain ⟨v0,w0,d0,x0,p0,q0,e0,rfl,rfl,h0,hA⟩:=trodAll_cons hA
 obtain ⟨v1,w1,d1,x1,p1,q1,rfl,rfl,rfl,h1,hA⟩:=trodAll_cons hA
 obtain ⟨rfl,rfl,rfl⟩:=trodAll_nil hA
 obtain rfl:args=#[v0,v1]:=Array.toList_inj.1 e0
 obtain ⟨rfl,rfl⟩:=trodVars_none hV
 obtain ⟨a0,ok0,r0⟩:=oIs.arg (hval 0 23 v0 (by simp) (by simp)) h0 (all_of_each hsz (j:=0) rfl rfl)
 obtain ⟨a1,ok1,r1⟩:=oI.arg (hval 1 3 v1 (by simp) (by simp)) h1 (all_of_each hsz (j:=1) rfl rfl)
 clear hA0
 have hg:=graphTrees_good a0 a1 ⟨ok0.1,ok0.2⟩ ok1
 refine (hg.2 W (Old W) #[v0,v1] (tabW_laid hld) (fun _ h=>h) (repFL_cons r0 (repFL_cons r1 repFL_nil))).mono fun e W' ⟨v,he,hb,hr⟩=>?_
 cases hr
 subst he
 exact ⟨_,rfl,post_of_below (ts:=[23,3]) (by rw [Tryd.params5]) (by kernel_rfl) (by kernel_rfl) rfl hW' rfl rfl (fun _ _ _=>by rw [results];exact trodAll_cons_mk (shut_bool Tryd.underlying4 _) trodAll_mk0) hb.below⟩

noncomputable def laidWorld (os:Os):World :=
 { World.holding Tryd.prog os ⟨#[],#[],[]⟩ with heap:=(((World.holding Tryd.prog os ⟨#[],#[],[]⟩).heap).modify 0 (relay dB32Cells)).modify 1 (relay dB64Cells) }
theorem laid_met (os:Os):laidMet Tryd.prog Rows.graphTreesRow.laid ((laidWorld os).forCall (fun _ _=>0) ⟨#[],#[.slice none 0 0,.int .i64 0],[]⟩).memory :=
 laidMet_of_run' 8 (by kernel_rfl) (by kernel_rfl)
theorem reads (os:Os) {H:Type} (enc:TypeId × Value→H):∃places,DataW.whole enc Tryd.prog ((laidWorld os).forCall (fun _ _=>0) ⟨#[],#[.slice none 0 0,.int .i64 0],[]⟩).memory Tryd.f5.params.toList Rows.graphTreesSpec.vars false (#[.slice none 0 0,.int .i64 0]:Array Value).toList 8=some ([.nil,.lit (.int .i64 0)],[],places) :=
 ⟨[],by kernel_rfl⟩

set_option maxRecDepth 100000 in
theorem lifted (os:Os) (started:os.Started) (H:Type) (enc:TypeId × Value→H) (F:Stop.Interp) :
  ReturnsInHanded {} Tryd.checked os 5 .any ((OpenSpec.ofChange Rows.graphTreesSpec).preRow enc Tryd.prog Tryd.f5 Rows.graphTreesRow.domain false Rows.graphTreesRow.laid) (((OpenSpec.ofChange Rows.graphTreesSpec).at F).post enc Tryd.prog Tryd.f5 false true false false):=by
 obtain ⟨places,hx⟩:=reads os enc
 refine returnsInHanded_of_row (C:=Tryd.checked) (s:=OpenSpec.ofChange Rows.graphTreesSpec) own started (by kernel_rfl) Tryd.func5
  (witness_row_at (enc:=enc) (C:=Tryd.checked) false (laidWorld os) #[.slice none 0 0,.int .i64 0] rfl (by kernel_rfl) (by kernel_rfl) (by kernel_rfl)
   (OpenSpec.preRow_of_cond 8 hx (by kernel_rfl) (fun k hk=>by cases hk) (by kernel_rfl) (laid_met os))) ?_
 intro W base args ds gs before hval hW _ _ hsz hld _ _
 exact contract H enc W base args ds gs before hval hW hsz hld

theorem c1:Tryd.prog.inPlace 5=Rows.graphTreesRow.inPlace:=by kernel_rfl
theorem c2:Tryd.prog.unfollowed 5=Rows.graphTreesRow.unfollowed:=by kernel_rfl
theorem c3:Tryd.prog.recurses 5=Rows.graphTreesRow.recurses:=by kernel_rfl
theorem c4:Tryd.prog.varsNamed 5=Rows.graphTreesRow.named:=by kernel_rfl
theorem closed:joinedFacts Tryd.prog 5 Tryd.f5 (OpenSpec.ofChange Rows.graphTreesSpec).bare Rows.graphTreesRow=true:=by
 unfold joinedFacts
 rw [c1,c2,c3,c4]
 kernel_rfl

theorem said:Rows.GraphTreesSaid :=
 OpenClaim.holds_of_cond 5 Tryd.f5 rfl rfl rfl rfl rfl rfl rfl ⟨rfl,rfl,rfl,rfl,rfl⟩ rfl rfl rfl rfl rfl (by kernel_rfl) Tryd.func5 closed
  (of_decide_eq_true (by kernel_rfl)) (by unfold Func.isWrapper;first|(rw [if_pos (by decide +kernel)];kernel_rfl)|(rw [if_neg (by decide +kernel)];exact ⟨rfl,rfl⟩))
  (fun os started H enc _ F=>by rw [OpenClaim.pre_eq_preRow];exact lifted os started H enc F)

theorem plain (f : FuncId) (fn : Func) (hf : Tryd.pinned.checked.prog.funcNamed "augur/augurlaw.GraphTrees" = some f) (hfn : Tryd.pinned.checked.prog.funcs[f]? = some fn) :
  false=Tryd.pinned.checked.prog.looks []∧∀(j:Nat) t,fn.params[j]?=some t→Tryd.pinned.checked.prog.wantsStandIn t=false:=by
 obtain rfl : f = 5 := Option.some.inj ((show Tryd.prog.funcNamed "augur/augurlaw.GraphTrees" = some 5 by kernel_rfl).symm.trans hf) |>.symm
 obtain rfl:fn=Tryd.f5:=(Option.some.inj (Tryd.func5.symm.trans hfn)).symm
 refine ⟨by kernel_rfl,fun j t ht=>?_⟩
 rw [Tryd.params5] at ht
 have hm:t=23∨t=3:=by simpa using Array.mem_of_getElem? ht
 rcases hm with rfl|rfl
 ·exact (show Tryd.prog.wantsStandIn 23=false by kernel_rfl)
 ·exact (show Tryd.prog.wantsStandIn 3=false by kernel_rfl)

theorem goes0:Tryd.prog.funcs.any Func.goes=false:=by kernel_rfl
theorem card:Rows.GraphTreesCardSaid :=
 Claim7.holds_tied_plain_at .later [] _ _ _ _ said (fun _ h=>by cases h) (by kernel_rfl) (fun _ h=>by cases h) graphTrees_row_tie rfl ⟨rfl,rfl⟩ (by kernel_rfl) rfl plain (goesBy_none goes0 rfl)

end Go.Proofs.YtgjnbcfencallaaDoor.graphTrees
