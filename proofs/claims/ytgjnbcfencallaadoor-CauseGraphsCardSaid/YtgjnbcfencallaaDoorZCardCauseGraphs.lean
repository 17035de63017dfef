/- The law CauseGraphs: D2, D3, D5: the doors and the rules of any graph: it returns true for every input, and changes nothing. The tied card. Conditions: those of the given row alone. The frame is that of the kit's page on a law over laid tables. -/
import Derived.Test.YtgjnbcfencallaaDoorZB20
import Derived.Test.YtgjnbcfencallaaDoorZB21
import Derived.Test.YtgjnbcfencallaaDoorCards
import Derived.Test.YtgjnbcfencallaaDoorTie
import Derived.Carry
import Derived.ProofKit
import Derived.OpenShut
import Derived.Deep.DeepHandedRow
import Derived.Lib.LaidTab
import Derived.SizedLaws
set_option linter.unusedVariables false
set_option linter.unusedSimpArgs false
namespace Go.Proofs.YtgjnbcfencallaaDoor.causeGraphs
open Go.ChangeShapes Go.WideShapes Go.ChangeAt Go.RowKit

theorem own:ownKnob Tryd.prog.godebug=none:=by kernel_rfl
theorem results:Tryd.f6.resultTypes=#[4]:=by kernel_rfl

set_option maxRecDepth 100000 in
theorem contract (H:Type) (enc:TypeId × Value→H) (W:World) (base:Nat) (args:Array Value) (ds gs:List (DataW H)) (before:List MemPlace)
  (hval:∀(j:Nat) t v,Tryd.f6.params[j]?=some t→args[j]?=some v→Value.okWide Tryd.prog W .any base t v)
  (hW:DataW.Whole enc Tryd.prog Tryd.f6.params.toList Rows.causeGraphsSpec.vars false W args.toList ds gs before)
  (hsz:(DataW.weightsEach Tryd.prog (Tryd.f6.params.toList++(OpenSpec.ofChange Rows.causeGraphsSpec).bare.plain.varTypes Tryd.prog) (ds++gs)).all (·≤ reachBytes)=true)
  (hld:laidMetH Tryd.prog Rows.causeGraphsRow.laid W) :
  Calls Tryd.prog 6 args W fun e W'=>∃v,e=.returned v∧Rows.causeGraphsSpec.post enc Tryd.prog Tryd.f6 false true false false W args v W':=by
 have hW':=hW
 obtain ⟨p,q,hA0,hV,rfl,hfz,hnd⟩:=hW
 have hA:DataW.TrodAll enc Tryd.prog W 0 (fun _=>true) true Tryd.f6.params.toList args.toList ds p:=hA0
 rw [Tryd.params6] at hA hval hsz
 obtain ⟨v0,w0,d0,x0,p0,q0,e0,rfl,rfl,h0,hA⟩:=trodAll_cons hA
 obtain ⟨v1,w1,d1,x1,p1,q1,rfl,rfl,rfl,h1,hA⟩:=trodAll_cons hA
 obtain ⟨v2,w2,d2,x2,p2,q2,rfl,rfl,rfl,h2,hA⟩:=trodAll_cons hA
 obtain ⟨v3,w3,d3,x3,p3,q3,rfl,rfl,rfl,h3,hA⟩:=trodAll_cons hA
 obtain ⟨v4,w4,d4,x4,p4,q4,rfl,rfl,rfl,h4,hA⟩:=trodAll_cons hA
 obtain ⟨v5,w5,d5,x5,p5,q5,rfl,rfl,rfl,h5,hA⟩:=trodAll_cons hA
 obtain ⟨v6,w6,d6,x6,p6,q6,rfl,rfl,rfl,h6,hA⟩:=trodAll_cons hA
 obtain ⟨v7,w7,d7,x7,p7,q7,rfl,rfl,rfl,h7,hA⟩:=trodAll_cons hA
 obtain ⟨rfl,rfl,rfl⟩:=trodAll_nil hA
 obtain rfl:args=#[v0,v1,v2,v3,v4,v5,v6,v7]:=Array.toList_inj.1 e0
 obtain ⟨rfl,rfl⟩:=trodVars_none hV
 obtain ⟨a0,ok0,r0⟩:=oIss.arg (hval 0 22 v0 (by simp) (by simp)) h0 (all_of_each hsz (j:=0) rfl rfl)
 obtain ⟨a1,ok1,r1⟩:=oI.arg (hval 1 3 v1 (by simp) (by simp)) h1 (all_of_each hsz (j:=1) rfl rfl)
 obtain ⟨a2,ok2,r2⟩:=oIs.arg (hval 2 23 v2 (by simp) (by simp)) h2 (all_of_each hsz (j:=2) rfl rfl)
 obtain ⟨a3,ok3,r3⟩:=oIs.arg (hval 3 23 v3 (by simp) (by simp)) h3 (all_of_each hsz (j:=3) rfl rfl)
 obtain ⟨a4,ok4,r4⟩:=oIs.arg (hval 4 23 v4 (by simp) (by simp)) h4 (all_of_each hsz (j:=4) rfl rfl)
 obtain ⟨a5,ok5,r5⟩:=oIs.arg (hval 5 23 v5 (by simp) (by simp)) h5 (all_of_each hsz (j:=5) rfl rfl)
 obtain ⟨a6,ok6,r6⟩:=oI.arg (hval 6 3 v6 (by simp) (by simp)) h6 (all_of_each hsz (j:=6) rfl rfl)
 obtain ⟨a7,ok7,r7⟩:=oI.arg (hval 7 3 v7 (by simp) (by simp)) h7 (all_of_each hsz (j:=7) rfl rfl)
 clear hA0
 have hg:=causeGraphs_good a0 a1 a2 a3 a4 a5 a6 a7 ⟨ok0.1,ok0.2⟩ ok1 ok2 ok3 ok4 ok5 ok6 ok7
 refine (hg.2 W (Old W) #[v0,v1,v2,v3,v4,v5,v6,v7] (tabW_laid hld) (fun _ h=>h) (repFL_cons r0 (repFL_cons r1 (repFL_cons r2 (repFL_cons r3 (repFL_cons r4 (repFL_cons r5 (repFL_cons r6 (repFL_cons r7 repFL_nil))))))))).mono fun e W' ⟨v,he,hb,hr⟩=>?_
 cases hr
 subst he
 exact ⟨_,rfl,post_of_below (ts:=[22,3,23,23,23,23,3,3]) (by rw [Tryd.params6]) (by kernel_rfl) (by kernel_rfl) rfl hW' rfl rfl (fun _ _ _=>by rw [results];exact trodAll_cons_mk (shut_bool Tryd.underlying4 _) trodAll_mk0) hb.below⟩

noncomputable def laidWorld (os:Os):World :=
 { World.holding Tryd.prog os ⟨#[],#[],[]⟩ with heap:=(((World.holding Tryd.prog os ⟨#[],#[],[]⟩).heap).modify 0 (relay dB32Cells)).modify 1 (relay dB64Cells) }
theorem laid_met (os:Os):laidMet Tryd.prog Rows.causeGraphsRow.laid ((laidWorld os).forCall (fun _ _=>0) ⟨#[],#[.slice none 0 0,.int .i64 0,.slice none 0 0,.slice none 0 0,.slice none 0 0,.slice none 0 0,.int .i64 0,.int .i64 0],[]⟩).memory :=
 laidMet_of_run' 8 (by kernel_rfl) (by kernel_rfl)
theorem reads (os:Os) {H:Type} (enc:TypeId × Value→H):∃places,DataW.whole enc Tryd.prog ((laidWorld os).forCall (fun _ _=>0) ⟨#[],#[.slice none 0 0,.int .i64 0,.slice none 0 0,.slice none 0 0,.slice none 0 0,.slice none 0 0,.int .i64 0,.int .i64 0],[]⟩).memory Tryd.f6.params.toList Rows.causeGraphsSpec.vars false (#[.slice none 0 0,.int .i64 0,.slice none 0 0,.slice none 0 0,.slice none 0 0,.slice none 0 0,.int .i64 0,.int .i64 0]:Array Value).toList 8=some ([.nil,.lit (.int .i64 0),.nil,.nil,.nil,.nil,.lit (.int .i64 0),.lit (.int .i64 0)],[],places) :=
 ⟨[],by kernel_rfl⟩

set_option maxRecDepth 100000 in
theorem lifted (os:Os) (started:os.Started) (H:Type) (enc:TypeId × Value→H) (F:Stop.Interp) :
  ReturnsInHanded {} Tryd.checked os 6 .any ((OpenSpec.ofChange Rows.causeGraphsSpec).preRow enc Tryd.prog Tryd.f6 Rows.causeGraphsRow.domain false Rows.causeGraphsRow.laid) (((OpenSpec.ofChange Rows.causeGraphsSpec).at F).post enc Tryd.prog Tryd.f6 false true false false):=by
 obtain ⟨places,hx⟩:=reads os enc
 refine returnsInHanded_of_row (C:=Tryd.checked) (s:=OpenSpec.ofChange Rows.causeGraphsSpec) own started (by kernel_rfl) Tryd.func6
  (witness_row_at (enc:=enc) (C:=Tryd.checked) false (laidWorld os) #[.slice none 0 0,.int .i64 0,.slice none 0 0,.slice none 0 0,.slice none 0 0,.slice none 0 0,.int .i64 0,.int .i64 0] rfl (by kernel_rfl) (by kernel_rfl) (by kernel_rfl)
   (OpenSpec.preRow_of_cond 8 hx (by kernel_rfl) (fun k hk=>by cases hk) (by kernel_rfl) (laid_met os))) ?_
 intro W base args ds gs before hval hW _ _ hsz hld _ _
 exact contract H enc W base args ds gs before hval hW hsz hld

theorem c1:Tryd.prog.inPlace 6=Rows.causeGraphsRow.inPlace:=by kernel_rfl
theorem c2:Tryd.prog.unfollowed 6=Rows.causeGraphsRow.unfollowed:=by kernel_rfl
theorem c3:Tryd.prog.recurses 6=Rows.causeGraphsRow.recurses:=by kernel_rfl
theorem c4:Tryd.prog.varsNamed 6=Rows.causeGraphsRow.named:=by kernel_rfl
theorem closed:joinedFacts Tryd.prog 6 Tryd.f6 (OpenSpec.ofChange Rows.causeGraphsSpec).bare Rows.causeGraphsRow=true:=by
 unfold joinedFacts
 rw [c1,c2,c3,c4]
 kernel_rfl

theorem said:Rows.CauseGraphsSaid :=
 OpenClaim.holds_of_cond 6 Tryd.f6 rfl rfl rfl rfl rfl rfl rfl ⟨rfl,rfl,rfl,rfl,rfl⟩ rfl rfl rfl rfl rfl (by kernel_rfl) Tryd.func6 closed
  (of_decide_eq_true (by kernel_rfl)) (by unfold Func.isWrapper;first|(rw [if_pos (by decide +kernel)];kernel_rfl)|(rw [if_neg (by decide +kernel)];exact ⟨rfl,rfl⟩))
  (fun os started H enc _ F=>by rw [OpenClaim.pre_eq_preRow];exact lifted os started H enc F)

theorem plain (f : FuncId) (fn : Func) (hf : Tryd.pinned.checked.prog.funcNamed "augur/augurlaw.CauseGraphs" = some f) (hfn : Tryd.pinned.checked.prog.funcs[f]? = some fn) :
  false=Tryd.pinned.checked.prog.looks []∧∀(j:Nat) t,fn.params[j]?=some t→Tryd.pinned.checked.prog.wantsStandIn t=false:=by
 obtain rfl : f = 6 := Option.some.inj ((show Tryd.prog.funcNamed "augur/augurlaw.CauseGraphs" = some 6 by kernel_rfl).symm.trans hf) |>.symm
 obtain rfl:fn=Tryd.f6:=(Option.some.inj (Tryd.func6.symm.trans hfn)).symm
 refine ⟨by kernel_rfl,fun j t ht=>?_⟩
 rw [Tryd.params6] at ht
 have hm:t=22∨t=3∨t=23∨t=3:=by simpa using Array.mem_of_getElem? ht
 rcases hm with rfl|rfl|rfl|rfl
 ·exact (show Tryd.prog.wantsStandIn 22=false by kernel_rfl)
 ·exact (show Tryd.prog.wantsStandIn 3=false by kernel_rfl)
 ·exact (show Tryd.prog.wantsStandIn 23=false by kernel_rfl)
 ·exact (show Tryd.prog.wantsStandIn 3=false by kernel_rfl)

theorem goes0:Tryd.prog.funcs.any Func.goes=false:=by kernel_rfl
theorem card:Rows.CauseGraphsCardSaid :=
 Claim7.holds_tied_plain_at .later [] _ _ _ _ said (fun _ h=>by cases h) (by kernel_rfl) (fun _ h=>by cases h) causeGraphs_row_tie rfl ⟨rfl,rfl⟩ (by kernel_rfl) rfl plain (goesBy_none goes0 rfl)

end Go.Proofs.YtgjnbcfencallaaDoor.causeGraphs
