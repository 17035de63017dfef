/- The law GraphFills: R4, R5: the order in which the nodes of any graph are taken out, with their bags; and the tree of the bags that stand in no other: it returns true for every input, and changes nothing. The tied card. Conditions: those of the given row alone. The frame is that of the kit's page on a law over laid tables. -/
import Derived.Test.YtgjnbcfencallaaDoorZB16
import Derived.Test.YtgjnbcfencallaaDoorCards
import Derived.Test.YtgjnbcfencallaaDoorTie
import Derived.Carry
import Derived.ProofKit
import Derived.OpenShut
import Derived.Deep.DeepHandedRow
import Derived.Lib.LaidTab
import Derived.SizedLaws
set_option linter.unusedVariables false
set_option linter.unusedSimpArgs false
namespace Go.Proofs.YtgjnbcfencallaaDoor.graphFills
open Go.ChangeShapes Go.WideShapes Go.ChangeAt Go.RowKit

theorem own:ownKnob Tryd.prog.godebug=none:=by kernel_rfl
theorem results:Tryd.f4.resultTypes=#[4]:=by kernel_rfl

set_option maxRecDepth 100000 in
theorem contract (H:Type) (enc:TypeId × Value→H) (W:World) (base:Nat) (args:Array Value) (ds gs:List (DataW H)) (before:List MemPlace)
  (hval:∀(j:Nat) t v,Tryd.f4.params[j]?=some t→args[j]?=some v→Value.okWide Tryd.prog W .any base t v)
  (hW:DataW.Whole enc Tryd.prog Tryd.f4.params.toList Rows.graphFillsSpec.vars false W args.toList ds gs before)
  (hsz:(DataW.weightsEach Tryd.prog (Tryd.f4.params.toList++(OpenSpec.ofChange Rows.graphFillsSpec).bare.plain.varTypes Tryd.prog) (ds++gs)).all (·≤ reachBytes)=true)
  (hld:laidMetH Tryd.prog Rows.graphFillsRow.laid W) :
  Calls Tryd.prog 4 args W fun e W'=>∃v,e=.returned v∧Rows.graphFillsSpec.post enc Tryd.prog Tryd.f4 false true false false W args v W':=by
 have hW':=hW
 obtain ⟨p,q,hA0,hV,rfl,hfz,hnd⟩:=hW
 have hA:DataW.TrodAll enc Tryd.prog W 0 (fun _=>true) true Tryd.f4.params.toList args.toList ds p:=hA0
 rw [Tryd.params4] at hA hval hsz
 obtain ⟨v0,w0,d0,x0,p0,q0,e0,rfl,rfl,h0,hA⟩:=trodAll_cons hA
 obtain ⟨v1,w1,d1,x1,p1,q1,rfl,rfl,rfl,h1,hA⟩:=trodAll_cons hA
 obtain ⟨rfl,rfl,rfl⟩:=trodAll_nil hA
 obtain rfl:args=#[v0,v1]:=Array.toList_inj.1 e0
 obtain ⟨rfl,rfl⟩:=trodVars_none hV
 obtain ⟨a0,ok0,r0⟩:=oIss.arg (hval 0 22 v0 (by simp) (by simp)) h0 (all_of_each hsz (j:=0) rfl rfl)
 obtain ⟨a1,ok1,r1⟩:=oIss.arg (hval 1 22 v1 (by simp) (by simp)) h1 (all_of_each hsz (j:=1) rfl rfl)
 clear hA0
 have hg:=graphFills_good a0 a1 ⟨ok0.1,ok0.2⟩ ⟨ok1.1,ok1.2⟩
 refine (hg.2 W (Old W) #[v0,v1] (tabW_laid hld) (fun _ h=>h) (repFL_cons r0 (repFL_cons r1 repFL_nil))).mono fun e W' ⟨v,he,hb,hr⟩=>?_
 cases hr
 subst he
 exact ⟨_,rfl,post_of_below (ts:=[22,22]) (by rw [Tryd.params4]) (by kernel_rfl) (by kernel_rfl) rfl hW' rfl rfl (fun _ _ _=>by rw [results];exact trodAll_cons_mk (shut_bool Tryd.underlying4 _) trodAll_mk0) hb.below⟩

noncomputable def laidWorld (os:Os):World :=
 { World.holding Tryd.prog os ⟨#[],#[],[]⟩ with heap:=(((World.holding Tryd.prog os ⟨#[],#[],[]⟩).heap).modify 0 (relay dB32Cells)).modify 1 (relay dB64Cells) }
theorem laid_met (os:Os):laidMet Tryd.prog Rows.graphFillsRow.laid ((laidWorld os).forCall (fun _ _=>0) ⟨#[],#[.slice none 0 0,.slice none 0 0],[]⟩).memory :=
 laidMet_of_run' 8 (by kernel_rfl) (by kernel_rfl)
theorem reads (os:Os) {H:Type} (enc:TypeId × Value→H):∃places,DataW.whole enc Tryd.prog ((laidWorld os).forCall (fun _ _=>0) ⟨#[],#[.slice none 0 0,.slice none 0 0],[]⟩).memory Tryd.f4.params.toList Rows.graphFillsSpec.vars false (#[.slice none 0 0,.slice none 0 0]:Array Value).toList 8=some ([.nil,.nil],[],places) :=
 ⟨[],by kernel_rfl⟩

set_option maxRecDepth 100000 in
theorem lifted (os:Os) (started:os.Started) (H:Type) (enc:TypeId × Value→H) (F:Stop.Interp) :
  ReturnsInHanded {} Tryd.checked os 4 .any ((OpenSpec.ofChange Rows.graphFillsSpec).preRow enc Tryd.prog Tryd.f4 Rows.graphFillsRow.domain false Rows.graphFillsRow.laid) (((OpenSpec.ofChange Rows.graphFillsSpec).at F).post enc Tryd.prog Tryd.f4 false true false false):=by
 obtain ⟨places,hx⟩:=reads os enc
 refine returnsInHanded_of_row (C:=Tryd.checked) (s:=OpenSpec.ofChange Rows.graphFillsSpec) own started (by kernel_rfl) Tryd.func4
  (witness_row_at (enc:=enc) (C:=Tryd.checked) false (laidWorld os) #[.slice none 0 0,.slice none 0 0] rfl (by kernel_rfl) (by kernel_rfl) (by kernel_rfl)
   (OpenSpec.preRow_of_cond 8 hx (by kernel_rfl) (fun k hk=>by cases hk) (by kernel_rfl) (laid_met os))) ?_
 intro W base args ds gs before hval hW _ _ hsz hld _ _
 exact contract H enc W base args ds gs before hval hW hsz hld

theorem c1:Tryd.prog.inPlace 4=Rows.graphFillsRow.inPlace:=by kernel_rfl
theorem c2:Tryd.prog.unfollowed 4=Rows.graphFillsRow.unfollowed:=by kernel_rfl
theorem c3:Tryd.prog.recurses 4=Rows.graphFillsRow.recurses:=by kernel_rfl
theorem c4:Tryd.prog.varsNamed 4=Rows.graphFillsRow.named:=by kernel_rfl
theorem closed:joinedFacts Tryd.prog 4 Tryd.f4 (OpenSpec.ofChange Rows.graphFillsSpec).bare Rows.graphFillsRow=true:=by
 unfold joinedFacts
 rw [c1,c2,c3,c4]
 kernel_rfl

theorem said:Rows.GraphFillsSaid :=
 OpenClaim.holds_of_cond 4 Tryd.f4 rfl rfl rfl rfl rfl rfl rfl ⟨rfl,rfl,rfl,rfl,rfl⟩ rfl rfl rfl rfl rfl (by kernel_rfl) Tryd.func4 closed
  (of_decide_eq_true (by kernel_rfl)) (by unfold Func.isWrapper;first|(rw [if_pos (by decide +kernel)];kernel_rfl)|(rw [if_neg (by decide +kernel)];exact ⟨rfl,rfl⟩))
  (fun os started H enc _ F=>by rw [OpenClaim.pre_eq_preRow];exact lifted os started H enc F)

theorem plain (f : FuncId) (fn : Func) (hf : Tryd.pinned.checked.prog.funcNamed "augur/augurlaw.GraphFills" = some f) (hfn : Tryd.pinned.checked.prog.funcs[f]? = some fn) :
  false=Tryd.pinned.checked.prog.looks []∧∀(j:Nat) t,fn.params[j]?=some t→Tryd.pinned.checked.prog.wantsStandIn t=false:=by
 obtain rfl : f = 4 := Option.some.inj ((show Tryd.prog.funcNamed "augur/augurlaw.GraphFills" = some 4 by kernel_rfl).symm.trans hf) |>.symm
 obtain rfl:fn=Tryd.f4:=(Option.some.inj (Tryd.func4.symm.trans hfn)).symm
 refine ⟨by kernel_rfl,fun j t ht=>?_⟩
 rw [Tryd.params4] at ht
 have hm:t=22:=by simpa using Array.mem_of_getElem? ht
 subst hm
 exact (show Tryd.prog.wantsStandIn 22=false by kernel_rfl)

theorem goes0:Tryd.prog.funcs.any Func.goes=false:=by kernel_rfl
theorem card:Rows.GraphFillsCardSaid :=
 Claim7.holds_tied_plain_at .later [] _ _ _ _ said (fun _ h=>by cases h) (by kernel_rfl) (fun _ h=>by cases h) graphFills_row_tie rfl ⟨rfl,rfl⟩ (by kernel_rfl) rfl plain (goesBy_none goes0 rfl)

end Go.Proofs.YtgjnbcfencallaaDoor.graphFills
