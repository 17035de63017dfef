/- The abstract machine: loops over a function that has captured something. Conditions: the function yields some whole numbers one after the other. -/
import Derived.Test.YtgjnbcfencallaaDoorZB05
import Derived.Test.YtgjnbcfencallaaDoorZB10
import Derived.Shelf.Slices.In.SortNone
import Derived.Shelf.Slices.CompactI
set_option linter.unusedVariables false
set_option linter.unusedSimpArgs false
namespace Go.Proofs.YtgjnbcfencallaaDoor
open Go Go.RowKit
def IterC (P:Program) (gf:FuncId) (cs:List FV) (xs:List Int):Prop :=
 ∀(l:Nat) (I:Nat→World→Prop) (Ix:World→Prop) (W:World) (G:Nat→Prop) (us:Array Value),RepFL W G cs us→(∀i W1,I i W1→TabW W1∧∀b,G b→W1.heap[b]?=W.heap[b]?)→I 0 W →
  (∀(i:Nat) x W1,xs[i]?=some x→I i W1→YieldAt Fence.wide 7 P l #[.int .i64 x] W1 fun e W'=>(e=.returned (.bool true)∧I (i+1) W')∨(e=.returned (.bool false)∧Ix W')) →
  CallsIn Fence.wide 8 P gf (#[.func (.yield l) #[] #[]]++us) W fun e W'=>(∃v,e=.returned v)∧(I xs.length W'∨Ix W')
section
variable {P : Program} {X : Cx} {w : World} {F : Nat → Prop} {loc : Nat → Nat × Nat} {s : AS} {a : Act}
theorem J_rangeC (hrd:X.rd=none) {g:Operand} {p:Tmp} {assign body:Code} {Q:Exit→AS→Prop} {gf:FuncId} {cs:List FV} {xs:List Int} {kp:Nat→Bool} (T:List AV) (H:Nat→AH)
  (hg:s.ev g=.f (.fn gf [] cs)) (hit:IterC P gf cs xs) (hok:enterOk P gf=true) (hw:Weak s ⟨T,H 0⟩) (hT:∀(j:Nat) x,T[j]?=some x→x=.any∨kp j=true) (hp:kp p=false) (hka:okC kp assign=true) (hkb:okC kp body=true)
  (round:∀(i:Nat) x,xs[i]?=some x→∀X1:Cx,X1.kp=kp→∀K:AS→Prop,(∀s',(∀X2:Cx,X2.kp=kp→J X2 P body (rpost T (H (i+1)) (Q .ret)) s')→K s')→J X1 P assign (athen K fun _ _=>False) ⟨T.set p (.f (.v (.int .i64 x))),H i⟩)
  (hQ:Q .normal ⟨T,H xs.length⟩):J X P (.rangeFunc g #[p] assign body) Q s:=fun _ a w ⟨F0,loc0,R0⟩=>by
 have hfv:=R0.ev g
 rw [hg] at hfv
 obtain ⟨vs,us,hge,l1,l2⟩:=fnF_rep hfv
 have hvs:vs=#[]:=by
  have:=l1.1
  simp at this
  exact Array.eq_empty_of_size_eq_zero this.symm
 subst hvs
 obtain ⟨locT,RT⟩:=R0.weak hw
 rw [fen_wide hrd]
 refine wpIn_rangeFunc ?_
 intro fn hfn
 obtain ⟨rec,hrec⟩:∃rec:LoopState→Option Code→Loop,rec=fun st pe=>{ state:=st,pending:=pe,fn,tmps:=a.tmps,params:=#[p],assign,body,defers:=w.heap.size }:=⟨_,rfl⟩
 obtain ⟨W1,hW1⟩:∃W1,(w.alloc (.deferred (some []))).alloc (.loop (rec .ready none))=W1:=⟨_,rfl⟩
 obtain ⟨D,hD⟩:∃D,D=w.heap.size:=⟨_,rfl⟩
 have hL1:W1.heap[D+1]?=some (.loop (rec .ready none)):=by
  rw [←hW1,hD];have:=World.alloc_heap_new (w.alloc (.deferred (some []))) (.loop (rec .ready none));rwa [World.size_alloc] at this
 have hK1:W1.heap[D]?=some (.deferred (some [])):=by
  rw [←hW1,hD];exact (Below.heap_alloc _ _ _ (by simp)).trans (World.alloc_heap_new w _)
 refine ⟨D+1,[{ target:=.collected D,args:=#[] }],W1,{ target:=.fn (.func gf) us,args:=#[.func (.yield (D+1)) #[] #[]] },W1,gf,#[.func (.yield (D+1)) #[] #[]]++us,W1,?_,?_,?_,?_,(fun h=>by cases h),?_⟩
 ·rw [←hW1,hrec,hD];exact run_enterLoop_outer _ _ _ _ _
 ·simp only [resolve,hge,Deferred.ofValue,Sem.run_pure]
  simp [Act.eval]
 ·intro f' hf';trivial
 ·simp only [invoke]
  exact goodOk hok _ _
 ·obtain ⟨F1,hF1⟩:∃F1:Nat→Prop,F1=fun b=>F0 b∨b=D:=⟨_,rfl⟩
  have hsz:W1.heap.size=D+2:=by rw [←hW1,hD];simp
  have hbW:Beyond (fun _=>False) w W1:=by
   rw [←hW1]
   exact (beyond_alloc w _).trans ⟨rfl,rfl,rfl,by simp,fun k hk _=>Below.heap_alloc _ _ k hk⟩
  have RT1:RelF X F1 locT ⟨T,H 0⟩ a W1:=RT.step hbW (fun b h=>by rw [hF1];exact .inl h) (fun b h=>by
   rw [hF1] at h
   rcases h with h|h
   ·have:=RT.hF b h;omega
   ·omega) (fun b h=>by
   rw [hF1] at h
   rcases h with h|h
   ·exact .inl h
   ·exact .inr (by omega))
  have hDX:X.w0.heap.size≤D:=by have:=RT.below.size;omega
  have hTlen:T.length=a.tmps.size:=RT.len
  have hRL:RepFL W1 F1 cs us:=⟨by rw [←l2.1,List.length_map],fun j c hj=>by
   have:=l2.2 j (.f c) (by rw [List.getElem?_map,hj];rfl)
   cases this with
   | f _ _ h=>exact h.mono (fun b hb=>by rw [hF1];exact .inl hb) fun b o u hf hc=>by rw [cell_of_block (hbW.block b (R0.hF b hf) (fun h=>h))];exact hc⟩
  refine (hit (D+1) (fun i W=>∃F loc,RelF X F loc ⟨T,H i⟩ a W∧(F D∧¬F (D+1))∧W.heap[D+1]?=some (.loop (rec .ready none))∧W.heap[D]?=some (.deferred (some []))∧∀b,F1 b→F b∧W.heap[b]?=W1.heap[b]?)
   (fun W=>∃F loc H',RelF X F loc ⟨T,H'⟩ a W∧(F D∧¬F (D+1))∧Q .ret ⟨T,H'⟩∧W.heap[D+1]?=some (.loop (rec .done (some .ret)))∧W.heap[D]?=some (.deferred (some []))) W1 F1 us hRL (fun i W2 ⟨F,loc,R,_,_,_,hp⟩=>⟨R.tabW,fun b hb=>(hp b hb).2⟩) ⟨F1,locT,RT1,⟨by rw [hF1];exact .inr rfl,by rw [hF1];rintro (h|h);(have:=RT.hF _ h;omega);omega⟩,hL1,hK1,fun b hb=>⟨hb,rfl⟩⟩ ?_).mono ?_
  ·rintro i x W hx ⟨F,loc,R,⟨hFD,hFl⟩,hl,hk,hpr⟩
   have hy:=run_yield (P:=P) (args:=#[.int .i64 x]) hl (by rw [hrec];rfl)
   rw [hrec] at hy
   refine ⟨fn,_,assign,body,hy,roundIn_of_wpIn trivial ?_⟩
   have htm:((#[p]:Array Tmp).zip #[Value.int .i64 x]).foldl (fun tmps (t,a)=>tmps.setIfInBounds t a) a.tmps=a.tmps.setIfInBounds p (.int .i64 x):=by simp
   rw [htm]
   have R1:=R.enter (s':=⟨T.set p (.f (.v (.int .i64 x))),H i⟩) { tmps:=a.tmps.setIfInBounds p (.int .i64 x),defers:=[] } (some (D+1)) kp a.tmps rfl (by simp [hTlen]) rfl (fun j hj=>by
    have hne:p≠j:=fun e=>by rw [←e,hp] at hj;cases hj
    simp [Array.getD_eq_getD_getElem?,hne]) (fun j y hj=>by
    have hj':(T.set p (.f (.v (.int .i64 x))))[j]?=some y:=hj
    by_cases e:p=j
    ·subst e
     have hpl:p<T.length:=by
      rcases Nat.lt_or_ge p T.length with h'|h'
      ·exact h'
      ·rw [List.getElem?_eq_none (by simpa using h')] at hj';cases hj'
     rw [List.getElem?_set_self hpl] at hj'
     cases hj'
     have:(a.tmps.setIfInBounds p (.int .i64 x)).getD p undef=.int .i64 x:=by simp [Array.getD_eq_getD_getElem?,←hTlen,hpl]
     rw [this]
     exact .f _ _ (.v _)
    ·rw [List.getElem?_set_ne e] at hj'
     have:(a.tmps.setIfInBounds p (.int .i64 x)).getD j undef=a.tmps.getD j undef:=by simp [Array.getD_eq_getD_getElem?,e]
     rw [this];exact R.tmps j y hj')
   have hJ:=round i x hx ⟨W,F,fun b=>Live ⟨T,H i⟩ loc b,some (D+1),kp,a.tmps,X.hold⟩ rfl (fun s'=>∀X2:Cx,X2.kp=kp→J X2 P body (rpost T (H (i+1)) (Q .ret)) s') (fun s' h=>h) hka _ W ⟨F,loc,R1⟩
   refine wpIn_mono (wpIn_any hJ) ?_
   rintro e a1 Wa ⟨s1,hq,Fa,loca,Ra⟩
   cases e with
   | normal =>
    have hlW:D+1<W.heap.size:=(Array.getElem?_eq_some_iff.1 hl).1
    have hnl:∀{s0:AS} {F0:Nat→Prop} {loc0:Nat→Nat × Nat} {X0:Cx} {a0:Act} {w0:World} {b:Nat} {o:Obj},RelF X0 F0 loc0 s0 a0 w0→w0.heap[b]?=some o→o.isCells=false→¬Live s0 loc0 b:=fun R0 h ho ⟨r,q,hr,e⟩=>by
     obtain ⟨vs,hv⟩:=own_cells R0 hr
     rw [e,h] at hv
     cases hv
     cases ho
    have hla:Wa.heap[D+1]?=some (.loop (rec .ready none)):=(Ra.below.block (D+1) hlW (hnl R hl rfl)).trans hl
    have hka2:Wa.heap[D]?=some (.deferred (some [])):=(Ra.below.block D (show D<W.heap.size by omega) (hnl R hk rfl)).trans hk
    refine ⟨_,run_beginRound hla (by rw [hrec]),?_⟩
    have Rb:=Ra.poke (o:=.loop { rec .ready none with state:=.busy }) hla rfl (fun _ _ h=>by cases h) rfl
    have hlWa:D+1<Wa.heap.size:=(Array.getElem?_eq_some_iff.1 hla).1
    have hlb:(Wa.putObj (D+1) (.loop { rec .ready none with state:=.busy })).heap[D+1]?=some (.loop { rec .ready none with state:=.busy }):=World.putObj_heap_same hlWa
    have hkb2:(Wa.putObj (D+1) (.loop { rec .ready none with state:=.busy })).heap[D]?=some (.deferred (some [])):=(World.putObj_heap_other (by omega)).trans hka2
    have hJ2:=hq _ rfl hkb a1 _ ⟨Fa,loca,Rb⟩
    refine wpIn_mono (wpIn_any hJ2) ?_
    rintro e a2 Wc ⟨s2,hq2,Fc,locc,Rc⟩
    have hlc:Wc.heap[D+1]?=some (.loop { rec .ready none with state:=.busy }):=(Rc.below.block (D+1) (by rw [World.putObj_size];exact hlWa) (hnl Rb hlb rfl)).trans hlb
    have hkc:Wc.heap[D]?=some (.deferred (some [])):=(Rc.below.block D (by rw [World.putObj_size];omega) (hnl Rb hkb2 rfl)).trans hkb2
    have hsb:(Wa.putObj (D+1) (.loop { rec .ready none with state:=.busy })).heap.size=Wa.heap.size:=World.putObj_size
    have hWWa:W.heap.size≤Wa.heap.size:=Ra.below.size
    have hWaWc:Wa.heap.size≤Wc.heap.size:=by have:=Rc.below.size;rw [hsb] at this;exact this
    have nL1:∀b,Live s1 loca b→Live ⟨T,H i⟩ loc b∨W.heap.size≤b:=fun b ⟨r,q,hr,e⟩=>by
     rcases Ra.new r q hr with h|h
     ·exact .inr (by rw [←e];exact h)
     ·exact .inl (by rw [←e];exact h)
    have nL2:∀b,Live s2 locc b→Live ⟨T,H i⟩ loc b∨W.heap.size≤b:=fun b ⟨r,q,hr,e⟩=>by
     rcases Rc.new r q hr with h|h
     ·refine .inr ?_
      rw [←e]
      have h':Wa.heap.size≤(locc r).1:=by rw [←hsb];exact h
      omega
     ·exact nL1 b (by rw [←e];exact h)
    have fFc:∀b,Fc b→F b∨Live ⟨T,H i⟩ loc b∨W.heap.size≤b:=fun b h=>by
     rcases Rc.hN b h with h|h|h
     ·exact Ra.hN b h
     ·exact .inr (nL1 b h)
     ·refine .inr (.inr ?_)
      have h':Wa.heap.size≤b:=by rw [←hsb];exact h
      omega
    have hFFc:∀b,F b→Fc b:=fun b h=>Rc.hG b (Ra.hG b h)
    have hnlD:¬Live ⟨T,H i⟩ loc (D+1):=hnl R hl rfl
    have hFcl:¬Fc (D+1):=fun h=>by
     rcases fFc _ h with h|h|h
     ·exact hFl h
     ·exact hnlD h
     ·omega
    have leave:∀(st:LoopState) (pe:Option Code) (H':AH),Weak s2 ⟨T,H'⟩→∃loc',RelF X Fc loc' ⟨T,H'⟩ a (Wc.putObj (D+1) (.loop (rec st pe))):=fun st pe H' hwk=>by
     have R3:=Rc.poke (o:=.loop (rec st pe)) hlc rfl (fun _ _ h=>by cases h) rfl
     obtain ⟨loc3,R4⟩:=R3.weak hwk
     refine ⟨loc3,R.leave (l:=D+1) (by omega) hFl ⟨?_,?_,?_,?_,fun k hk1 hno=>?_⟩ hFFc fFc nL2 ?_ R4 hT hTlen⟩
     ·exact Rc.below.os.trans Ra.below.os
     ·exact Rc.below.tape.trans Ra.below.tape
     ·exact Rc.below.output.trans Ra.below.output
     ·rw [World.putObj_size];omega
     ·have hne:k≠D+1:=fun e=>hno (.inr (.inr e))
      have h1:¬Live s1 loca k:=fun h=>by
       rcases nL1 k h with h|h
       ·exact hno (.inl h)
       ·exact hno (.inr (.inl h))
      rw [World.putObj_heap_other hne,Rc.below.block k (show k<_ by rw [hsb];omega) h1,World.putObj_heap_other hne]
      exact Ra.below.block k hk1 fun h=>hno (.inl h)
     ·rw [World.putObj_size];omega
    have hlWc:D+1<Wc.heap.size:=by omega
    have fin:∀(jump:Option Code),(Instr.endRound (D+1) jump).run P Wc=.ok (.bool jump.isNone) (Wc.putObj (D+1) (.loop (rec (if jump.isNone then .ready else .done) jump))):=fun jump=>by
     have:=run_endRound (P:=P) jump hlc
     rw [hrec] at this ⊢
     exact this
    cases e with
    | normal =>
     obtain ⟨loc',R5⟩:=leave .ready none _ hq2
     have blk:∀b,F b→(Wc.putObj (D+1) (.loop (rec .ready none))).heap[b]?=W.heap[b]?:=fun b hf=>by
      have hbl:=R.hF b hf
      have hnv:¬Live ⟨T,H i⟩ loc b:=fun ⟨r,o,h,e⟩=>R.nF r o h (e▸hf)
      have hne:b≠D+1:=fun e=>hFl (e▸hf)
      have h1:¬Live s1 loca b:=fun h=>by
       rcases nL1 b h with h|h
       ·exact hnv h
       ·omega
      rw [World.putObj_heap_other hne,Rc.below.block b (show b<_ by rw [hsb];omega) h1,World.putObj_heap_other hne]
      exact Ra.below.block b hbl hnv
     exact ⟨_,_,fin none,.inl ⟨rfl,Fc,loc',R5,⟨hFFc D hFD,hFcl⟩,World.putObj_heap_same hlWc,(World.putObj_heap_other (by omega)).trans hkc,fun b hb=>⟨hFFc b (hpr b hb).1,(blk b (hpr b hb).1).trans (hpr b hb).2⟩⟩⟩
    | ret =>
     obtain ⟨H',hwk,hqr⟩:=hq2
     obtain ⟨loc',R5⟩:=leave .done (some .ret) _ hwk
     exact ⟨_,_,fin (some .ret),.inr ⟨rfl,Fc,loc',H',R5,⟨hFFc D hFD,hFcl⟩,hqr,World.putObj_heap_same hlWc,(World.putObj_heap_other (by omega)).trans hkc⟩⟩
    | exit id=>exact hq2.elim
    | goto t=>exact hq2.elim
    | panic ch=>exact hq2.elim
    | outgrown=>exact hq2.elim
   | exit id=>exact hq.elim
   | goto t=>exact hq.elim
   | ret=>exact hq.elim
   | panic ch=>exact hq.elim
   | outgrown=>exact hq.elim
  ·rintro e W2 ⟨⟨v,rfl⟩,⟨F,loc,R,⟨hFD,hFl⟩,hl,hk,_⟩|⟨F,loc,H',R,⟨hFD,hFl⟩,hq,hl,hk⟩⟩
   ·have he:=run_endLoop (P:=P) hl (by rw [hrec];simp)
    rw [hrec] at he
    exact ⟨none,_,he,_,hQ,F,loc,R.marked (l:=D+1) hl rfl (by omega) hFl hk hFD hDX (by omega) (fun d hd e=>by
     obtain ⟨D',e',hf',_,_⟩:=R0.defers.1.1 d hd
     rw [e'] at e
     have hDD:D'=D:=by injection e with e1 _;injection e1
     have:=R0.hF _ hf'
     omega) hrd⟩
   ·have he:=run_endLoop (P:=P) hl (by rw [hrec];simp)
    rw [hrec] at he
    refine ⟨some .ret,_,he,wpIn_ret ⟨_,hq,F,loc,R.marked (l:=D+1) hl rfl (by omega) hFl hk hFD hDX (by omega) (fun d hd e=>?_) hrd⟩⟩
    obtain ⟨D',e',hf',_,_⟩:=R0.defers.1.1 d hd
    rw [e'] at e
    have hDD:D'=D:=by injection e with e1 _;injection e1
    have:=R0.hF _ hf'
    omega
theorem J_rangeCW (hrd:X.rd=none) (ws:List Nat) (hp:Nat→AH) {g:Operand} {p:Tmp} {assign body:Code} {Q:Exit→AS→Prop} {gf:FuncId} {cs:List FV} {xs:List Int} {t:List AV} {H:AH}
  (hg:AS.ev ⟨t,H⟩ g=.f (.fn gf [] cs)) (hit:IterC P gf cs xs) (hok:enterOk P gf=true) (hw:Weak ⟨t,H⟩ ⟨msk ws t,hp 0⟩) (hpw:kpOf ws p=false) (hka:okC (kpOf ws) assign=true) (hkb:okC (kpOf ws) body=true)
  (round:∀(i:Nat) x,xs[i]?=some x→∀X1:Cx,X1.kp=kpOf ws→∀K:AS→Prop,Kont K (fun s'=>∀X2:Cx,X2.kp=kpOf ws→J X2 P body (rpost (msk ws t) (hp (i+1)) (Q .ret)) s')→J X1 P assign (athen K fun _ _=>False) ⟨(msk ws t).set p (.f (.v (.int .i64 x))),hp i⟩)
  (hQ:Q .normal ⟨msk ws t,hp xs.length⟩):J X P (.rangeFunc g #[p] assign body) Q ⟨t,H⟩ :=
 J_rangeC hrd (msk ws t) hp hg hit hok hw (msk_get ws t) hpw hka hkb round hQ
end
end Go.Proofs.YtgjnbcfencallaaDoor
set_option linter.unusedVariables false
set_option linter.unusedSimpArgs false
namespace Go.Proofs.YtgjnbcfencallaaDoor
open Go Go.RowKit Go.Shelf
set_option maxRecDepth 100000 in
theorem indexZ_w {l:List Int} {k:Int} (hl:l.length≤140737488355328):Good Tryd.prog 77 [ints l,I k] (I (frsI (fun i=>decide (l.getD i 0=k)) l.length)):=by
 refine good_of Tryd.func77 rfl (by kernel_rfl) fun X hO hrd=>?_;rw [Tryd.ntmps77,Tryd.results77];simp only [ast0,List.map_cons,List.map_nil,List.length_cons,List.length_nil,Nat.reduceAdd,Nat.reduceSub,List.replicate_succ,List.replicate_zero,List.cons_append,List.nil_append]
 (repeat (with_reducible first|refine W_seq fun K hK=>?_|refine J_block ?_|refine J_region ?_ |(refine Kont.go (by assumption) ?_)|(simp (config:={ maxSteps:=3000000 }) (disch:=omega) only [go_sem,List.length_map])))
 refine W_loop [4,5,8,9,10,11,12,13,14,15,16,17,18] (fun x:Nat=>[(8,.f (I x))]) (fun x:Nat=>[]) (fun x:Nat=>x≤l.length∧∀j,j<x→decide (l.getD j 0=k)=false) (fun x:Nat=>l.length-x) (0) (⟨Nat.zero_le _,fun j h=>by omega⟩) (by refine weak_of ?_ ?_<;>simp (disch:=omega) only [go_sem]<;>first|rfl|exact ⟨rfl,rfl⟩|exact Or.inl rfl|exact ⟨Or.inl rfl,Or.inl rfl⟩|trivial|assumption|omega|(symm;assumption)|((repeat' apply And.intro)<;>first|rfl|omega|trivial|exact .inl rfl|exact .inr ⟨rfl,rfl⟩|exact .inr rfl|(right;symm;assumption)|(symm;assumption)|assumption)) ?_
 rintro i ⟨hi,hp⟩
 simp only [go_sem]
 (repeat (with_reducible first|refine W_seq fun K hK=>?_|refine J_region ?_ |refine J_c ?_|(refine Kont.go (by assumption) ?_)|(simp (config:={ maxSteps:=3000000 }) (disch:=omega) only [go_sem])))
 refine Jc_if (fun hlt=>?_) (fun hlt=>?_)<;>try simp only [decide_eq_true_eq,decide_eq_false_iff_not] at hlt
 ·have hx:=map_get I l hlt
  have g3:l.getD i 0=l[i]:=lget_lt l 0 hlt
  by_cases hb:l[i]=k
  ·have e:frsI (fun i=>decide (l.getD i 0=k)) l.length=i:=frsI_some hlt (decide_eq_true (by rw [g3];exact hb)) hp
   have hb':k=l[i]:=hb.symm
   (repeat (with_reducible first|refine W_seq fun K hK=>?_|refine J_block ?_|refine J_skip ?_|refine J_ret ?_|refine J_region ?_ |refine J_c ?_|refine Jc_true ?_|(refine Kont.go (by assumption) ?_)|(simp (config:={ maxSteps:=3000000 }) (disch:=omega) only [go_sem,↓reduceIte,hx,←hb',decide_true])))
   rw [e]
   exact Frz.f _
  ·have hb':¬k=l[i]:=fun h=>hb h.symm
   (repeat (with_reducible first|refine W_seq fun K hK=>?_|refine J_block ?_|refine J_skip ?_|refine J_region ?_ |refine J_c ?_|refine Jc_false ?_|(refine Kont.go (by assumption) ?_)|(simp (config:={ maxSteps:=3000000 }) (disch:=omega) only [go_sem,↓reduceIte,hx,hb'])))
   refine ⟨i+1,⟨by omega,upto_next (p:=fun j=>decide (l.getD j 0=k)=false) hp (decide_eq_false (by rw [g3];exact hb))⟩,by omega,weak_of ?_ ?_⟩<;>(try simp (disch:=omega) only [go_sem])<;>(try first|done|omega|rfl|exact ⟨rfl,rfl⟩|trivial)
 ·have he:i=l.length:=by omega
  have e:frsI (fun i=>decide (l.getD i 0=k)) l.length=-1:=frsI_none (he▸hp)
  (repeat (with_reducible first|refine W_seq fun K hK=>?_|refine J_exit ?_|refine J_ret ?_|refine J_region ?_ |(refine Kont.go (by assumption) ?_)|(simp (config:={ maxSteps:=3000000 }) (disch:=omega) only [go_sem,↓reduceIte,Int.reduceNeg])))
  rw [e]
  exact Frz.f _
set_option maxRecDepth 100000 in
theorem contZ_w {l:List Int} {k:Int} (hl:l.length≤140737488355328):Good Tryd.prog 63 [ints l,I k] (Bo (decide (k∈l))):=by
 have h:=indexZ_w (k:=k) hl
 have e:decide (0≤frsI (fun i=>decide (l.getD i 0=k)) l.length)=decide (k∈l):=by
  rw [frsI_any]
  by_cases hm:k∈l
  ·obtain ⟨c,hc,ec⟩:=List.getElem_of_mem hm
   rw [decide_eq_true hm]
   exact List.any_eq_true.2 ⟨c,List.mem_range.2 hc,decide_eq_true (by rw [lget_lt l 0 hc];exact ec)⟩
  ·rw [decide_eq_false hm,List.any_eq_false]
   intro j hj hh
   have hj:=List.mem_range.1 hj
   have:=of_decide_eq_true hh
   exact hm (by rw [←this,lget_lt l 0 hj];exact List.getElem_mem _)
 refine good_of Tryd.func63 rfl (by kernel_rfl) fun X hO hrd=>?_;rw [Tryd.ntmps63,Tryd.results63];simp only [ast0,List.map_cons,List.map_nil,List.length_cons,List.length_nil,Nat.reduceAdd,Nat.reduceSub,List.replicate_succ,List.replicate_zero,List.cons_append,List.nil_append]
 (repeat (with_reducible first|refine W_seq fun K hK=>?_|refine J_region ?_ |(refine Kont.go (by assumption) ?_)|(simp (config:={ maxSteps:=3000000 }) (disch:=omega) only [go_sem])))
 refine call_f h rfl ?_
 (repeat (with_reducible first|refine J_ret ?_|(refine Kont.go (by assumption) ?_)|(simp (config:={ maxSteps:=3000000 }) (disch:=omega) only [go_sem])))
 rw [e]
 exact Frz.f _
set_option maxRecDepth 100000 in
theorem cloneZ_w (z:Int) (l:List Int) (hl:l.length≤1000):GoodO Tryd.prog 59 [ints (z::l)] (.own 3 1 ((z::l).map I)):=by
 have hi:ints (z::l)=.fz 1 (I z::l.map I):=rfl
 have hll:(l.map I).length=l.length:=List.length_map ..
 refine goodO_of Tryd.func59 rfl (by kernel_rfl) fun X hO hrd=>?_;rw [Tryd.ntmps59,Tryd.results59];simp only [ast0,List.map_cons,List.map_nil,List.length_cons,List.length_nil,Nat.reduceAdd,Nat.reduceSub,List.replicate_succ,List.replicate_zero,List.cons_append,List.nil_append]
 (repeat (first|(with_reducible first|refine W_seq fun K hK=>?_|refine J_skip ?_|refine J_ret ?_|refine J_region ?_ |refine aApp_old ?_|refine J_c ?_|refine Jc_false ?_|(refine Kont.go (by assumption) ?_)|(simp (config:={ maxSteps:=3000000 }) (disch:=omega) only [go_sem,hi,hll]))|refine And.intro (by omega) ?_))
 refine ⟨1,by simp,rfl,fun x hx=>?_⟩
 rcases List.mem_cons.1 hx with rfl|hx
 ·exact .v _
 ·obtain ⟨y,_,rfl⟩:=List.mem_map.1 hx
  exact .v _
set_option maxRecDepth 100000 in
theorem clone0_w:Good Tryd.prog 59 [.v (.slice none 0 0)] (.v (.slice none 0 0)):=by
 refine good_of Tryd.func59 rfl (by kernel_rfl) fun X hO hrd=>?_;rw [Tryd.ntmps59,Tryd.results59];simp only [ast0,List.map_cons,List.map_nil,List.length_cons,List.length_nil,Nat.reduceAdd,Nat.reduceSub,List.replicate_succ,List.replicate_zero,List.cons_append,List.nil_append]
 (repeat (with_reducible first|refine W_seq fun K hK=>?_|refine J_region ?_ |(refine Kont.go (by assumption) ?_)|(simp (config:={ maxSteps:=3000000 }) (disch:=omega) only [go_sem])))
 refine ⟨.slice none 0 0,.slice none 0 0,true,rfl,rfl,fun w=>by kernel_rfl,?_⟩
 (repeat (with_reducible first|refine W_seq fun K hK=>?_|refine J_ret ?_|refine J_region ?_ |refine J_c ?_|refine Jc_true ?_|exact Frz.f _|(refine Kont.go (by assumption) ?_)|(simp (config:={ maxSteps:=3000000 }) (disch:=omega) only [go_sem])))
set_option maxRecDepth 100000 in
theorem values_w (l:List FV):Good Tryd.prog 58 [.fz 1 l] (.fn 75 [] [.fp (.fz 1 l) 0]):=by
 refine good_of Tryd.func58 rfl (by kernel_rfl) fun X hO hrd=>?_;rw [Tryd.ntmps58,Tryd.results58];simp only [ast0,List.map_cons,List.map_nil,List.length_cons,List.length_nil,Nat.reduceAdd,Nat.reduceSub,List.replicate_succ,List.replicate_zero,List.cons_append,List.nil_append]
 (repeat (with_reducible first|refine W_seq fun K hK=>?_|refine J_ret ?_|refine J_region ?_ |(refine Kont.go (by assumption) ?_)|(simp (config:={ maxSteps:=3000000 }) (disch:=omega) only [go_sem])))
 exact Frz.fn _ _ _ _ _ rfl (fun j c d h=>by simp at h) rfl fun j cc d h h'=>by
  cases j with
  | zero=>cases h;cases h';exact Frz.ptr0 rfl rfl
  | succ j=>simp at h
theorem box_cell {w:World} {G:Nat→Prop} {l:List FV} {us:Array Value} (h:RepFL w G [.fp (.fz 1 l) 0] us):∃b off y,us=#[.pointer (some ⟨b,off,none⟩)]∧G b∧w.cell? ⟨b,off,none⟩=some y∧RepF w G (.fz 1 l) y:=by
 obtain ⟨hl,hr⟩:=h
 have h1:us.size=1:=hl.symm
 have h0:=hr 0 _ rfl
 obtain ⟨u,rfl⟩:=Array.size_eq_one_iff.1 h1
 replace h0:RepF w G (.fp (.fz 1 l) 0) u:=h0
 cases h0 with
 | fp _ _ b off hF g hg hc=>exact ⟨b,off,g 0,rfl,hF,hg 0 _ rfl,hc 0 _ rfl⟩
set_option maxRecDepth 100000 in
set_option maxHeartbeats 4000000 in
theorem values_iter (l:List Int) (hl:l.length≤1000):IterC Tryd.prog 75 [.fp (.fz 1 (l.map I)) 0] l:=by
 intro lo J Jx W G us hus hT h0 hY
 obtain ⟨b,off,y,rfl,hGb,hcell,hrep⟩:=box_cell hus
 have hcb:∀i W1,J i W1→W1.cell? ⟨b,off,none⟩=some y:=fun i W1 h=>by rw [cell_of_block ((hT i W1 h).2 b hGb)];exact hcell
 generalize he:l.map I=es at hrep
 refine callsIn_of_wp Tryd.func75 rfl trivial ?_ rfl
 cases hrep with
 | fz0 _ a cap hm =>
  have hl0:l=[]:=List.map_eq_nil_iff.1 he
  subst hl0
  simp only [Tryd.ntmps75,List.size_toArray,List.length_cons,List.length_nil,Nat.reduceAdd,Nat.reduceSub,Array.replicate_succ,Array.replicate_zero,List.push_toArray,List.append_toArray,List.nil_append,List.cons_append]
  gi_wp2
  gi_loopw [7] (fun i wr=>i=.int .i64 0∧J 0 wr) (fun _ _=>0)
  case atStart=>exact ⟨rfl,h0⟩
  case round =>
   obtain ⟨rfl,hJs⟩:=hrel
   gi_wp2
   go_end0
   exact ⟨⟨_,rfl⟩,.inl hJs⟩
 | fz _ _ b2 off2 cap hF hn hm hu g hg hc =>
  subst he
  rw [flatF_I] at hg hc
  have hcs:∀j (hj:j<l.length),W.cell? ⟨b2,off2+j,none⟩=some (.int .i64 l[j]):=fun j hj=>by
   have h1:=hg j (I l[j]) (by rw [List.getElem?_map,List.getElem?_eq_getElem hj];rfl)
   have h2:=hc j (I l[j]) (by rw [List.getElem?_map,List.getElem?_eq_getElem hj];rfl)
   generalize g j=q at h1 h2
   cases h2
   exact h1
  have hlen:(l.map I).length=l.length:=List.length_map ..
  rw [hlen] at hcell hcb hn
  simp only [Tryd.ntmps75,List.size_toArray,List.length_cons,List.length_nil,Nat.reduceAdd,Nat.reduceSub,Array.replicate_succ,Array.replicate_zero,List.push_toArray,List.append_toArray,List.nil_append,List.cons_append]
  gi_wp2
  gi_loopw [7] (fun i wr=>∃k:Nat,k≤l.length∧i=.int .i64 k∧J k wr) (fun i _=>l.length-(intOf i).toNat)
  case atStart=>exact ⟨0,Nat.zero_le _,rfl,h0⟩
  case round =>
   obtain ⟨k,hk,rfl,hJs⟩:=hrel
   by_cases hlt:k<l.length
   ·obtain ⟨fn,tmps,assign,body,hy,hR⟩:=hY k l[k] wr (List.getElem?_eq_getElem hlt) hJs
    have hcx:wr.cell? ⟨b2,off2+k,none⟩=some (.int .i64 l[k]):=by rw [cell_of_block ((hT k wr hJs).2 b2 hF)];exact hcs k hlt
    gi_wp2
    refine hR.mono ?_
    rintro e W3 (⟨rfl,hJ3⟩|⟨rfl,hJx3⟩)
    ·gi_wp2
     go_roundw
     case rel=>exact ⟨k+1,by omega,by simp,hJ3⟩
     case measure=>simp [intOf];omega
    ·gi_wp2
     refine bodyPost_ret (results_none rfl _ _ _) rfl ?_
     exact ⟨⟨_,rfl⟩,.inr hJx3⟩
   ·obtain rfl:k=l.length:=by omega
    gi_wp2
    go_end0
    exact ⟨⟨_,rfl⟩,.inl hJs⟩
def rvZ (l:List Int):RV:=if l=[] then .f (.v (.slice none 0 0)) else .own 3 1 (l.map I)
theorem rvZ_end {H:AH} {r:Nat} {l:List Int} (h:H[r]?=some (ob 3 1 (l.map I))):ownR H (sl r 1 (l.map I)) (rvZ l):=by
 unfold rvZ
 by_cases e:l=[]
 ·rw [if_pos e,e];exact ⟨rfl,.v _⟩
 ·rw [if_neg e]
  have hne:l.map I≠[]:=fun h=>e (List.map_eq_nil_iff.1 h)
  rw [ob_pos hne] at h
  exact ⟨r,sl_pos hne,h,fun x hx=>by obtain ⟨z,_,rfl⟩:=List.mem_map.1 hx;exact .v _⟩
set_option maxRecDepth 100000 in
set_option maxHeartbeats 4000000 in
theorem appendSeq_w (l:List Int) (hl:l.length≤1000):GoodO Tryd.prog 84 [.v (.slice none 0 0),.fn 75 [] [.fp (.fz 1 (l.map I)) 0]] (rvZ l):=by
 have hit:=values_iter l hl
 have hend:∀{H:AH} {r:Nat},H[r]?=some (ob 3 1 ((l.take l.length).map I))→ownR H (sl r 1 ((l.take l.length).map I)) (rvZ l):=fun h=>by
  rw [List.take_length] at h ⊢;exact rvZ_end h
 obtain ⟨R,hR⟩:∃R,R=rvZ l:=⟨_,rfl⟩
 rw [←hR]
 simp only [←hR] at hend
 refine goodO_of Tryd.func84 rfl (by kernel_rfl) fun X hO hrd=>?_;rw [Tryd.ntmps84,Tryd.results84];simp only [ast0,List.map_cons,List.map_nil,List.length_cons,List.length_nil,Nat.reduceAdd,Nat.reduceSub,List.replicate_succ,List.replicate_zero,List.cons_append,List.nil_append]
 (repeat (with_reducible first|refine W_seq fun K hK=>?_|((fail_if_success refine J_region (id:=1) ?_);refine J_region ?_) |(refine Kont.go (by assumption) ?_)|(simp (config:={ maxSteps:=3000000 }) (disch:=omega) only [go_sem])))
 refine J_reserve ?_
 have h0:[AV.f (.v (.slice none 0 0))]=[sl 1 1 ((l.take 0).map I)]:=rfl
 (repeat (with_reducible first|refine J_block ?_|refine J_region ?_ |(refine Kont.go (by assumption) ?_)|(simp (config:={ maxSteps:=3000000 }) (disch:=omega) only [go_sem])))
 rw [h0]
 refine J_rangeCW hrd [5,7,8,9,10,11] (fun i=>[some ⟨23,1,[sl 1 1 ((l.take i).map I)]⟩,ob 3 1 ((l.take i).map I)]) rfl (hit) (by kernel_rfl) (by refine weak_of ?_ ?_<;>simp (disch:=omega) only [go_sem,Nat.reduceAdd]<;>first|rfl|exact ⟨rfl,rfl⟩|trivial|((repeat' apply And.intro)<;>first|rfl|trivial|exact .inl rfl|exact .inr ⟨rfl,rfl⟩|exact .inr rfl)) (by decide) (by kernel_rfl) (by kernel_rfl) ?_ ?_
 ·rintro i y hy X1 hX1 K hK
  have hil:i<l.length:=(List.getElem?_eq_some_iff.1 hy).1
  have htk:(l.take i).map I++[I y]=(l.take (i+1)).map I:=by rw [List.take_add_one,hy,List.map_append];rfl
  have hal:((l.take i).length+1)*8≤140737488355328:=by rw [List.length_take];omega
  simp only [go_sem]
  (repeat (with_reducible first|refine J_region ?_ |(refine Kont.go (by assumption) ?_)|(simp (config:={ maxSteps:=3000000 }) (disch:=omega) only [go_sem])))
  intro X2 hX2
  (repeat (first|(with_reducible first|refine J_block ?_|refine J_region ?_ |refine aApp_sl ?_|(simp (config:={ maxSteps:=3000000 }) (disch:=omega) only [go_sem,Nat.reduceEqDiff,↓reduceIte,Nat.reduceAdd,Nat.reduceLeDiff,hal,htk]))|refine And.intro (by omega) ?_))
  refine rpost_n (weak_of ?_ ?_)<;>(try simp (disch:=omega) only [go_sem,Nat.reduceAdd])<;>(try first|done|omega|rfl|exact ⟨rfl,rfl⟩|trivial)
 ·(repeat (with_reducible first|refine W_seq fun K hK=>?_|refine J_ret ?_|refine J_region ?_ |(refine Kont.go (by assumption) ?_)|(simp (config:={ maxSteps:=3000000 }) (disch:=omega) only [go_sem,↓reduceIte])))
  exact hend rfl
set_option maxRecDepth 100000 in
theorem collect_w (l:List Int) (hl:l.length≤1000):GoodO Tryd.prog 74 [.fn 75 [] [.fp (.fz 1 (l.map I)) 0]] (rvZ l):=by
 have h:=appendSeq_w l hl
 refine goodO_of Tryd.func74 rfl (by kernel_rfl) fun X hO hrd=>?_;rw [Tryd.ntmps74,Tryd.results74];simp only [ast0,List.map_cons,List.map_nil,List.length_cons,List.length_nil,Nat.reduceAdd,Nat.reduceSub,List.replicate_succ,List.replicate_zero,List.cons_append,List.nil_append]
 by_cases e:l=[]
 ·have e1:rvZ l=.f (.v (.slice none 0 0)):=by unfold rvZ;rw [if_pos e]
  rw [e1] at h ⊢
  (repeat (with_reducible first|refine W_seq fun K hK=>?_|refine J_region ?_ |(refine Kont.go (by assumption) ?_)|(simp (config:={ maxSteps:=3000000 }) (disch:=omega) only [go_sem])))
  refine call_o h (FrzL.fs [_,_]) ?_
  (repeat (with_reducible first|refine J_ret ?_|(refine Kont.go (by assumption) ?_)|(simp (config:={ maxSteps:=3000000 }) (disch:=omega) only [go_sem])))
  exact ⟨rfl,.v _⟩
 ·have e1:rvZ l=.own 3 1 (l.map I):=by unfold rvZ;rw [if_neg e]
  rw [e1] at h ⊢
  (repeat (with_reducible first|refine W_seq fun K hK=>?_|refine J_region ?_ |(refine Kont.go (by assumption) ?_)|(simp (config:={ maxSteps:=3000000 }) (disch:=omega) only [go_sem])))
  refine call_o h (FrzL.fs [_,_]) ?_
  (repeat (with_reducible first|refine J_ret ?_|(refine Kont.go (by assumption) ?_)|(simp (config:={ maxSteps:=3000000 }) (disch:=omega) only [go_sem])))
  exact ⟨0,by rw [List.length_map],rfl,fun x hx=>by obtain ⟨z,_,rfl⟩:=List.mem_map.1 hx;exact .v _⟩
theorem sort0_w:Good Tryd.prog 72 [.v (.slice none 0 0)] (.v (.tuple #[])):=by
 refine ⟨by kernel_rfl,fun w G ys hT hG hys=>?_⟩
 obtain ⟨hl,hr⟩:=hys
 have h1:ys.size=1:=hl.symm
 have h0:=hr 0 _ rfl
 obtain ⟨u,rfl⟩:=Array.size_eq_one_iff.1 h1
 replace h0:RepF w G (.v (.slice none 0 0)) u:=h0
 cases h0
 refine (Any.slices_Sort_int_none sortLays none 0 w).mono ?_
 rintro e w' ⟨rfl,rfl⟩
 exact ⟨_,rfl,Beyond.refl _ _,.v _⟩
set_option maxRecDepth 100000 in
theorem sorted_w (l:List Int) (hl:l.length≤1000):GoodO Tryd.prog 57 [.fn 75 [] [.fp (.fz 1 (l.map I)) 0]] (rvZ (l.mergeSort fun x y=>decide (x≤y))):=by
 have h:=collect_w l hl
 refine goodO_of Tryd.func57 rfl (by kernel_rfl) fun X hO hrd=>?_;rw [Tryd.ntmps57,Tryd.results57];simp only [ast0,List.map_cons,List.map_nil,List.length_cons,List.length_nil,Nat.reduceAdd,Nat.reduceSub,List.replicate_succ,List.replicate_zero,List.cons_append,List.nil_append]
 by_cases e:l=[]
 ·have e1:rvZ l=.f (.v (.slice none 0 0)):=by unfold rvZ;rw [if_pos e]
  have e2:rvZ (l.mergeSort fun x y=>decide (x≤y))=.f (.v (.slice none 0 0)):=by rw [e,List.mergeSort_nil];rfl
  rw [e1] at h
  rw [e2]
  (repeat (with_reducible first|refine W_seq fun K hK=>?_|refine J_region ?_ |(refine Kont.go (by assumption) ?_)|(simp (config:={ maxSteps:=3000000 }) (disch:=omega) only [go_sem])))
  refine call_o h (FrzL.fs [_]) ?_
  (repeat (with_reducible first|refine W_seq fun K hK=>?_|refine J_region ?_ |(refine Kont.go (by assumption) ?_)|(simp (config:={ maxSteps:=3000000 }) (disch:=omega) only [go_sem])))
  (first|refine call_f (sort0_w) rfl ?_|refine callQ_f (sort0_w) rfl ?_|refine callHK_f (sort0_w) rfl ?_|refine callH_f (sort0_w) rfl ?_)
  (repeat (with_reducible first|refine W_seq fun K hK=>?_|refine J_ret ?_|refine J_region ?_ |(refine Kont.go (by assumption) ?_)|(simp (config:={ maxSteps:=3000000 }) (disch:=omega) only [go_sem])))
  exact ⟨rfl,.v _⟩
 ·have e1:rvZ l=.own 3 1 (l.map I):=by unfold rvZ;rw [if_neg e]
  obtain ⟨m,hm⟩:∃m,m=l.mergeSort fun x y=>decide (x≤y):=⟨_,rfl⟩
  have hml:m.length=l.length:=by rw [hm];exact List.length_mergeSort l
  have e2:rvZ m=.own 3 1 (m.map I):=by unfold rvZ;rw [if_neg fun h=>e (List.length_eq_zero_iff.1 (by rw [←hml,h];rfl))]
  rw [e1] at h
  rw [←hm,e2]
  (repeat (with_reducible first|refine W_seq fun K hK=>?_|refine J_region ?_ |(refine Kont.go (by assumption) ?_)|(simp (config:={ maxSteps:=3000000 }) (disch:=omega) only [go_sem])))
  refine call_o h (FrzL.fs [_]) ?_
  have hs:=sort_u (H:=[some ⟨3,1,(l.map I).map AV.f⟩]) (q:=0) (zs:=l) rfl (by omega)
  rw [←hm] at hs
  (repeat (with_reducible first|refine W_seq fun K hK=>?_|refine J_region ?_ |(refine Kont.go (by assumption) ?_)|(simp (config:={ maxSteps:=3000000 }) (disch:=omega) only [go_sem,List.length_map])))
  refine call_u hs ?_
  (repeat (with_reducible first|refine W_seq fun K hK=>?_|refine J_ret ?_|refine J_region ?_ |(refine Kont.go (by assumption) ?_)|(simp (config:={ maxSteps:=3000000 }) (disch:=omega) only [go_sem])))
  exact ⟨0,by rw [List.length_map,hml],rfl,fun x hx=>by obtain ⟨z,_,rfl⟩:=List.mem_map.1 hx;exact .v _⟩
def cmpRen:Go.Shelf.Ren:=⟨fun|20=>73|n=>n,fun|22=>23|3=>3|4=>4|0=>0|n=>n,fun n=>n⟩
theorem cmpLays:Lays2.n20 Tryd.prog cmpRen where
 mixed:=by kernel_rfl
 f20:=Tryd.func73.trans (congrArg some (by kernel_rfl))
 t0:=Tryd.underlying0
 a0:=Tryd.isAgg0
 z0:=Tryd.sizeOf0
 v0:=Tryd.zeroValue0
 t3:=Tryd.underlying3
 a3:=Tryd.isAgg3
 z3:=Tryd.sizeOf3
 v3:=Tryd.zeroValue3
 t4:=Tryd.underlying4
 a4:=Tryd.isAgg4
 z4:=Tryd.sizeOf4
 v4:=Tryd.zeroValue4
 t22:=Tryd.underlying23
 a22:=Tryd.isAgg23
 z22:=Tryd.sizeOf23
 v22:=Tryd.zeroValue23
 i3:=by kernel_rfl
theorem compact_len (zs:List Int):(Lib.compact zs).length≤zs.length:=by
 unfold Lib.compact Lib.compactUpTo
 rw [List.length_map]
 exact Nat.le_trans (List.length_filter_le _ _) (by simp)
theorem compact_u {H:AH} {q:Nat} {zs:List Int} (hq:H[q]?=some (some ⟨3,1,(zs.map I).map .f⟩)) (hz:zs.length≤1000) :
  CallU Tryd.prog 73 [.own q 1 0 zs.length] H (fun u G=>u=.own q 1 0 (Lib.compact zs).length∧G=H.set q (some ⟨3,1,((Lib.compact zs++List.replicate (zs.length-(Lib.compact zs).length) 0).map I).map .f⟩)):=by
 refine ⟨by kernel_rfl,fun X w F loc t a ys R hys=>?_⟩
 obtain ⟨cap,vs,rfl,hk,hm,hl2,hr,hv,hvs,hcell⟩:=own_cellsI R hq hys
 have hcl:=compact_len zs
 refine (Any.slices_Compact_int cmpLays (loc q).1 0 cap zs w (holds_own hv hcell) (by omega) hk).mono ?_
 rintro e w' ⟨rfl,n,rfl⟩
 have hR:=put_rel (n:=n) (os:=#[]) (ts:=Lib.compact zs++List.replicate (zs.length-(Lib.compact zs).length) 0) R hq hr hv (by omega) (by rw [List.length_append,List.length_replicate];omega)
 rw [Go.Sort.grow_empty] at hR
 refine ⟨_,F,loc,_,_,⟨rfl,rfl⟩,rfl,hR,?_⟩
 have:=Rep.own (w:=Go.Sort.putRow (Value.int .i64) (Go.Sort.ahead w n) (loc q).1 0 (Lib.compact zs++List.replicate (zs.length-(Lib.compact zs).length) 0).toArray) (F:=F) (loc:=loc) (N:=(H.set q (some ⟨3,1,((Lib.compact zs++List.replicate (zs.length-(Lib.compact zs).length) 0).map I).map AV.f⟩)).length) q 1 0 (Lib.compact zs).length cap (by rw [List.length_set];exact hr) (by omega) hm (by omega)
 exact this
set_option maxRecDepth 100000 in
theorem compact0_w:Good Tryd.prog 73 [.v (.slice none 0 0)] (.v (.slice none 0 0)):=by
 refine good_of Tryd.func73 rfl (by kernel_rfl) fun X hO hrd=>?_;rw [Tryd.ntmps73,Tryd.results73];simp only [ast0,List.map_cons,List.map_nil,List.length_cons,List.length_nil,Nat.reduceAdd,Nat.reduceSub,List.replicate_succ,List.replicate_zero,List.cons_append,List.nil_append]
 (repeat (with_reducible first|refine W_seq fun K hK=>?_|refine J_ret ?_|refine J_region ?_ |refine J_c ?_|refine Jc_true ?_|exact Frz.f _|(refine Kont.go (by assumption) ?_)|(simp (config:={ maxSteps:=3000000 }) (disch:=omega) only [go_sem,Int.reduceLT])))
end Go.Proofs.YtgjnbcfencallaaDoor
set_option linter.unusedVariables false
set_option linter.unusedSimpArgs false
namespace Go.Proofs.YtgjnbcfencallaaDoor
open Go Go.RowKit
def rwV (l:List FV):FV:=if l=[] then nilV else .fz 1 l
theorem Frz.rwV {H:AH} {l:List FV}:Frz H (.f (rwV l)) (.fz 1 l):=by
 unfold Go.Proofs.YtgjnbcfencallaaDoor.rwV
 split
 ·rename_i h;subst h;exact .nil _
 ·exact .f _
theorem fzr_sl_self {r sz:Nat} {l:List FV} (h:l≠[]):(sl r sz l).fzr r sz l=.f (.fz sz l):=by
 rw [sl_pos h,fzr_own,if_pos ⟨rfl,rfl,rfl,rfl⟩]
theorem mem_els {n u v:Nat} {P:List Nat} (hg:GP n P):decide (u∈els (P.getD v 0))=paO P u v:=by
 rw [Bool.eq_iff_iff,decide_eq_true_eq,els_mem]
 exact ⟨fun h=>h.2,fun h=>⟨by have:=(hg.pa u v h).1;have:=hg.n8;omega,h⟩⟩
end Go.Proofs.YtgjnbcfencallaaDoor
