/- The abstract machine: loops over a function that has captured something, and yields pairs of whole numbers. Conditions: none. -/
import Derived.Test.YtmcgeppgfjlclaaGreatDoorYB11
import Derived.Test.YtmcgeppgfjlclaaGreatDoorYB09
import Derived.Test.YtmcgeppgfjlclaaGreatDoorYB10
import Derived.Shelf.Sort.Plain
import Derived.Shelf.Slices.In.SortNone
import Derived.Shelf.Slices.CompactI
set_option linter.unusedVariables false
set_option linter.unusedSimpArgs false
namespace Go.Proofs.YtmcgeppgfjlclaaGreatDoor
open Go Go.RowKit
def IterD (P:Program) (gf:FuncId) (cs:List FV) (xs:List (Int × Int)):Prop :=
 ∀(l:Nat) (I:Nat→World→Prop) (Ix:World→Prop) (W:World) (G:Nat→Prop) (us:Array Value),RepFL W G cs us→(∀i W1,I i W1→TabW W1∧∀b,G b→W1.heap[b]?=W.heap[b]?)→I 0 W →
  (∀(i:Nat) x W1,xs[i]?=some x→I i W1→YieldAt Fence.wide 7 P l #[.int .i64 x.1,.int .i64 x.2] W1 fun e W'=>(e=.returned (.bool true)∧I (i+1) W')∨(e=.returned (.bool false)∧Ix W')) →
  CallsIn Fence.wide 8 P gf (#[.func (.yield l) #[] #[]]++us) W fun e W'=>(∃v,e=.returned v)∧(I xs.length W'∨Ix W')
section
variable {P : Program} {X : Cx} {w : World} {F : Nat → Prop} {loc : Nat → Nat × Nat} {s : AS} {a : Act}
theorem J_rangeD (hrd:X.rd=none) {g:Operand} {p p2:Tmp} {assign body:Code} {Q:Exit→AS→Prop} {gf:FuncId} {cs:List FV} {xs:List (Int × Int)} {kp:Nat→Bool} (T:List AV) (H:Nat→AH)
  (hg:s.ev g=.f (.fn gf [] cs)) (hit:IterD P gf cs xs) (hok:enterOk P gf=true) (hw:Weak s ⟨T,H 0⟩) (hT:∀(j:Nat) x,T[j]?=some x→x=.any∨kp j=true) (hp:kp p=false) (hp2:kp p2=false) (h12:p≠p2) (hka:okC kp assign=true) (hkb:okC kp body=true)
  (round:∀(i:Nat) x,xs[i]?=some x→∀X1:Cx,X1.kp=kp→∀K:AS→Prop,(∀s',(∀X2:Cx,X2.kp=kp→J X2 P body (rpost T (H (i+1)) (Q .ret)) s')→K s')→J X1 P assign (athen K fun _ _=>False) ⟨(T.set p (.f (.v (.int .i64 x.1)))).set p2 (.f (.v (.int .i64 x.2))),H i⟩)
  (hQ:Q .normal ⟨T,H xs.length⟩):J X P (.rangeFunc g #[p,p2] assign body) Q s:=fun _ a w ⟨F0,loc0,R0⟩=>by
 have hfv:=R0.ev g
 rw [hg] at hfv
 obtain ⟨vs,us,hge,l1,l2⟩:=fnF_rep hfv
 have hvs:vs=#[]:=by
  have:=l1.1
  simp at this
  exact Array.eq_empty_of_size_eq_zero this.symm
 subst hvs
 obtain ⟨locT,RT⟩:=R0.weak hw
 rw [fen_wide hrd]
 refine wpIn_rangeFunc ?_
 intro fn hfn
 obtain ⟨rec,hrec⟩:∃rec:LoopState→Option Code→Loop,rec=fun st pe=>{ state:=st,pending:=pe,fn,tmps:=a.tmps,params:=#[p,p2],assign,body,defers:=w.heap.size }:=⟨_,rfl⟩
 obtain ⟨W1,hW1⟩:∃W1,(w.alloc (.deferred (some []))).alloc (.loop (rec .ready none))=W1:=⟨_,rfl⟩
 obtain ⟨D,hD⟩:∃D,D=w.heap.size:=⟨_,rfl⟩
 have hL1:W1.heap[D+1]?=some (.loop (rec .ready none)):=by
  rw [←hW1,hD];have:=World.alloc_heap_new (w.alloc (.deferred (some []))) (.loop (rec .ready none));rwa [World.size_alloc] at this
 have hK1:W1.heap[D]?=some (.deferred (some [])):=by
  rw [←hW1,hD];exact (Below.heap_alloc _ _ _ (by simp)).trans (World.alloc_heap_new w _)
 refine ⟨D+1,[{ target:=.collected D,args:=#[] }],W1,{ target:=.fn (.func gf) us,args:=#[.func (.yield (D+1)) #[] #[]] },W1,gf,#[.func (.yield (D+1)) #[] #[]]++us,W1,?_,?_,?_,?_,(fun h=>by cases h),?_⟩
 ·rw [←hW1,hrec,hD];exact run_enterLoop_outer _ _ _ _ _
 ·simp only [resolve,hge,Deferred.ofValue,Sem.run_pure]
  simp [Act.eval]
 ·intro f' hf';trivial
 ·simp only [invoke]
  exact goodOk hok _ _
 ·obtain ⟨F1,hF1⟩:∃F1:Nat→Prop,F1=fun b=>F0 b∨b=D:=⟨_,rfl⟩
  have hsz:W1.heap.size=D+2:=by rw [←hW1,hD];simp
  have hbW:Beyond (fun _=>False) w W1:=by
   rw [←hW1]
   exact (beyond_alloc w _).trans ⟨rfl,rfl,rfl,by simp,fun k hk _=>Below.heap_alloc _ _ k hk⟩
  have RT1:RelF X F1 locT ⟨T,H 0⟩ a W1:=RT.step hbW (fun b h=>by rw [hF1];exact .inl h) (fun b h=>by
   rw [hF1] at h
   rcases h with h|h
   ·have:=RT.hF b h;omega
   ·omega) (fun b h=>by
   rw [hF1] at h
   rcases h with h|h
   ·exact .inl h
   ·exact .inr (by omega))
  have hDX:X.w0.heap.size≤D:=by have:=RT.below.size;omega
  have hTlen:T.length=a.tmps.size:=RT.len
  have hRL:RepFL W1 F1 cs us:=⟨by rw [←l2.1,List.length_map],fun j c hj=>by
   have:=l2.2 j (.f c) (by rw [List.getElem?_map,hj];rfl)
   cases this with
   | f _ _ h=>exact h.mono (fun b hb=>by rw [hF1];exact .inl hb) fun b o u hf hc=>by rw [cell_of_block (hbW.block b (R0.hF b hf) (fun h=>h))];exact hc⟩
  refine (hit (D+1) (fun i W=>∃F loc,RelF X F loc ⟨T,H i⟩ a W∧(F D∧¬F (D+1))∧W.heap[D+1]?=some (.loop (rec .ready none))∧W.heap[D]?=some (.deferred (some []))∧∀b,F1 b→F b∧W.heap[b]?=W1.heap[b]?)
   (fun W=>∃F loc H',RelF X F loc ⟨T,H'⟩ a W∧(F D∧¬F (D+1))∧Q .ret ⟨T,H'⟩∧W.heap[D+1]?=some (.loop (rec .done (some .ret)))∧W.heap[D]?=some (.deferred (some []))) W1 F1 us hRL (fun i W2 ⟨F,loc,R,_,_,_,hp⟩=>⟨R.tabW,fun b hb=>(hp b hb).2⟩) ⟨F1,locT,RT1,⟨by rw [hF1];exact .inr rfl,by rw [hF1];rintro (h|h);(have:=RT.hF _ h;omega);omega⟩,hL1,hK1,fun b hb=>⟨hb,rfl⟩⟩ ?_).mono ?_
  ·rintro i x W hx ⟨F,loc,R,⟨hFD,hFl⟩,hl,hk,hpr⟩
   have hy:=run_yield (P:=P) (args:=#[.int .i64 x.1,.int .i64 x.2]) hl (by rw [hrec];rfl)
   rw [hrec] at hy
   refine ⟨fn,_,assign,body,hy,roundIn_of_wpIn trivial ?_⟩
   have htm:((#[p,p2]:Array Tmp).zip #[Value.int .i64 x.1,.int .i64 x.2]).foldl (fun tmps (t,a)=>tmps.setIfInBounds t a) a.tmps=(a.tmps.setIfInBounds p (.int .i64 x.1)).setIfInBounds p2 (.int .i64 x.2):=by simp
   rw [htm]
   have hgo:∀j,p≠j→p2≠j→((a.tmps.setIfInBounds p (.int .i64 x.1)).setIfInBounds p2 (.int .i64 x.2)).getD j undef=a.tmps.getD j undef:=fun j h1 h2=>by
    simp [Array.getD_eq_getD_getElem?,h1,h2]
   have R1:=R.enter (s':=⟨(T.set p (.f (.v (.int .i64 x.1)))).set p2 (.f (.v (.int .i64 x.2))),H i⟩) { tmps:=(a.tmps.setIfInBounds p (.int .i64 x.1)).setIfInBounds p2 (.int .i64 x.2),defers:=[] } (some (D+1)) kp a.tmps rfl (by simp [hTlen]) rfl (fun j hj=>by
    have hne:p≠j:=fun e=>by rw [←e,hp] at hj;cases hj
    have hne2:p2≠j:=fun e=>by rw [←e,hp2] at hj;cases hj
    exact hgo j hne hne2) (fun j y hj=>by
    have hj':((T.set p (.f (.v (.int .i64 x.1)))).set p2 (.f (.v (.int .i64 x.2))))[j]?=some y:=hj
    have hjl:j<T.length:=by have:=glt hj';simpa using this
    by_cases e2:p2=j
    ·subst e2
     rw [List.getElem?_set_self (by simpa using hjl)] at hj'
     cases hj'
     have:((a.tmps.setIfInBounds p (.int .i64 x.1)).setIfInBounds p2 (.int .i64 x.2)).getD p2 undef=.int .i64 x.2:=by simp [Array.getD_eq_getD_getElem?,←hTlen,hjl]
     show Rep _ _ _ _ _ (((a.tmps.setIfInBounds p (.int .i64 x.1)).setIfInBounds p2 (.int .i64 x.2)).getD p2 undef)
     rw [this]
     exact .f _ _ (.v _)
    ·rw [List.getElem?_set_ne e2] at hj'
     by_cases e:p=j
     ·subst e
      rw [List.getElem?_set_self hjl] at hj'
      cases hj'
      have:((a.tmps.setIfInBounds p (.int .i64 x.1)).setIfInBounds p2 (.int .i64 x.2)).getD p undef=.int .i64 x.1:=by
       have hl:p<(a.tmps.setIfInBounds p (.int .i64 x.1)).size:=by simp [←hTlen,hjl]
       simp [Array.getD_eq_getD_getElem?,e2,←hTlen,hjl]
      show Rep _ _ _ _ _ (((a.tmps.setIfInBounds p (.int .i64 x.1)).setIfInBounds p2 (.int .i64 x.2)).getD p undef)
      rw [this]
      exact .f _ _ (.v _)
     ·rw [List.getElem?_set_ne e] at hj'
      show Rep _ _ _ _ _ (((a.tmps.setIfInBounds p (.int .i64 x.1)).setIfInBounds p2 (.int .i64 x.2)).getD j undef)
      rw [hgo j e e2]
      exact R.tmps j y hj')
   have hJ:=round i x hx ⟨W,F,fun b=>Live ⟨T,H i⟩ loc b,some (D+1),kp,a.tmps,X.hold⟩ rfl (fun s'=>∀X2:Cx,X2.kp=kp→J X2 P body (rpost T (H (i+1)) (Q .ret)) s') (fun s' h=>h) hka _ W ⟨F,loc,R1⟩
   refine wpIn_mono (wpIn_any hJ) ?_
   rintro e a1 Wa ⟨s1,hq,Fa,loca,Ra⟩
   cases e with
   | normal =>
    have hlW:D+1<W.heap.size:=(Array.getElem?_eq_some_iff.1 hl).1
    have hnl:∀{s0:AS} {F0:Nat→Prop} {loc0:Nat→Nat × Nat} {X0:Cx} {a0:Act} {w0:World} {b:Nat} {o:Obj},RelF X0 F0 loc0 s0 a0 w0→w0.heap[b]?=some o→o.isCells=false→¬Live s0 loc0 b:=fun R0 h ho ⟨r,q,hr,e⟩=>by
     obtain ⟨vs,hv⟩:=own_cells R0 hr
     rw [e,h] at hv
     cases hv
     cases ho
    have hla:Wa.heap[D+1]?=some (.loop (rec .ready none)):=(Ra.below.block (D+1) hlW (hnl R hl rfl)).trans hl
    have hka2:Wa.heap[D]?=some (.deferred (some [])):=(Ra.below.block D (show D<W.heap.size by omega) (hnl R hk rfl)).trans hk
    refine ⟨_,run_beginRound hla (by rw [hrec]),?_⟩
    have Rb:=Ra.poke (o:=.loop { rec .ready none with state:=.busy }) hla rfl (fun _ _ h=>by cases h) rfl
    have hlWa:D+1<Wa.heap.size:=(Array.getElem?_eq_some_iff.1 hla).1
    have hlb:(Wa.putObj (D+1) (.loop { rec .ready none with state:=.busy })).heap[D+1]?=some (.loop { rec .ready none with state:=.busy }):=World.putObj_heap_same hlWa
    have hkb2:(Wa.putObj (D+1) (.loop { rec .ready none with state:=.busy })).heap[D]?=some (.deferred (some [])):=(World.putObj_heap_other (by omega)).trans hka2
    have hJ2:=hq _ rfl hkb a1 _ ⟨Fa,loca,Rb⟩
    refine wpIn_mono (wpIn_any hJ2) ?_
    rintro e a2 Wc ⟨s2,hq2,Fc,locc,Rc⟩
    have hlc:Wc.heap[D+1]?=some (.loop { rec .ready none with state:=.busy }):=(Rc.below.block (D+1) (by rw [World.putObj_size];exact hlWa) (hnl Rb hlb rfl)).trans hlb
    have hkc:Wc.heap[D]?=some (.deferred (some [])):=(Rc.below.block D (by rw [World.putObj_size];omega) (hnl Rb hkb2 rfl)).trans hkb2
    have hsb:(Wa.putObj (D+1) (.loop { rec .ready none with state:=.busy })).heap.size=Wa.heap.size:=World.putObj_size
    have hWWa:W.heap.size≤Wa.heap.size:=Ra.below.size
    have hWaWc:Wa.heap.size≤Wc.heap.size:=by have:=Rc.below.size;rw [hsb] at this;exact this
    have nL1:∀b,Live s1 loca b→Live ⟨T,H i⟩ loc b∨W.heap.size≤b:=fun b ⟨r,q,hr,e⟩=>by
     rcases Ra.new r q hr with h|h
     ·exact .inr (by rw [←e];exact h)
     ·exact .inl (by rw [←e];exact h)
    have nL2:∀b,Live s2 locc b→Live ⟨T,H i⟩ loc b∨W.heap.size≤b:=fun b ⟨r,q,hr,e⟩=>by
     rcases Rc.new r q hr with h|h
     ·refine .inr ?_
      rw [←e]
      have h':Wa.heap.size≤(locc r).1:=by rw [←hsb];exact h
      omega
     ·exact nL1 b (by rw [←e];exact h)
    have fFc:∀b,Fc b→F b∨Live ⟨T,H i⟩ loc b∨W.heap.size≤b:=fun b h=>by
     rcases Rc.hN b h with h|h|h
     ·exact Ra.hN b h
     ·exact .inr (nL1 b h)
     ·refine .inr (.inr ?_)
      have h':Wa.heap.size≤b:=by rw [←hsb];exact h
      omega
    have hFFc:∀b,F b→Fc b:=fun b h=>Rc.hG b (Ra.hG b h)
    have hnlD:¬Live ⟨T,H i⟩ loc (D+1):=hnl R hl rfl
    have hFcl:¬Fc (D+1):=fun h=>by
     rcases fFc _ h with h|h|h
     ·exact hFl h
     ·exact hnlD h
     ·omega
    have leave:∀(st:LoopState) (pe:Option Code) (H':AH),Weak s2 ⟨T,H'⟩→∃loc',RelF X Fc loc' ⟨T,H'⟩ a (Wc.putObj (D+1) (.loop (rec st pe))):=fun st pe H' hwk=>by
     have R3:=Rc.poke (o:=.loop (rec st pe)) hlc rfl (fun _ _ h=>by cases h) rfl
     obtain ⟨loc3,R4⟩:=R3.weak hwk
     refine ⟨loc3,R.leave (l:=D+1) (by omega) hFl ⟨?_,?_,?_,?_,fun k hk1 hno=>?_⟩ hFFc fFc nL2 ?_ R4 hT hTlen⟩
     ·exact Rc.below.os.trans Ra.below.os
     ·exact Rc.below.tape.trans Ra.below.tape
     ·exact Rc.below.output.trans Ra.below.output
     ·rw [World.putObj_size];omega
     ·have hne:k≠D+1:=fun e=>hno (.inr (.inr e))
      have h1:¬Live s1 loca k:=fun h=>by
       rcases nL1 k h with h|h
       ·exact hno (.inl h)
       ·exact hno (.inr (.inl h))
      rw [World.putObj_heap_other hne,Rc.below.block k (show k<_ by rw [hsb];omega) h1,World.putObj_heap_other hne]
      exact Ra.below.block k hk1 fun h=>hno (.inl h)
     ·rw [World.putObj_size];omega
    have hlWc:D+1<Wc.heap.size:=by omega
    have fin:∀(jump:Option Code),(Instr.endRound (D+1) jump).run P Wc=.ok (.bool jump.isNone) (Wc.putObj (D+1) (.loop (rec (if jump.isNone then .ready else .done) jump))):=fun jump=>by
     have:=run_endRound (P:=P) jump hlc
     rw [hrec] at this ⊢
     exact this
    cases e with
    | normal =>
     obtain ⟨loc',R5⟩:=leave .ready none _ hq2
     have blk:∀b,F b→(Wc.putObj (D+1) (.loop (rec .ready none))).heap[b]?=W.heap[b]?:=fun b hf=>by
      have hbl:=R.hF b hf
      have hnv:¬Live ⟨T,H i⟩ loc b:=fun ⟨r,o,h,e⟩=>R.nF r o h (e▸hf)
      have hne:b≠D+1:=fun e=>hFl (e▸hf)
      have h1:¬Live s1 loca b:=fun h=>by
       rcases nL1 b h with h|h
       ·exact hnv h
       ·omega
      rw [World.putObj_heap_other hne,Rc.below.block b (show b<_ by rw [hsb];omega) h1,World.putObj_heap_other hne]
      exact Ra.below.block b hbl hnv
     exact ⟨_,_,fin none,.inl ⟨rfl,Fc,loc',R5,⟨hFFc D hFD,hFcl⟩,World.putObj_heap_same hlWc,(World.putObj_heap_other (by omega)).trans hkc,fun b hb=>⟨hFFc b (hpr b hb).1,(blk b (hpr b hb).1).trans (hpr b hb).2⟩⟩⟩
    | ret =>
     obtain ⟨H',hwk,hqr⟩:=hq2
     obtain ⟨loc',R5⟩:=leave .done (some .ret) _ hwk
     exact ⟨_,_,fin (some .ret),.inr ⟨rfl,Fc,loc',H',R5,⟨hFFc D hFD,hFcl⟩,hqr,World.putObj_heap_same hlWc,(World.putObj_heap_other (by omega)).trans hkc⟩⟩
    | exit id=>exact hq2.elim
    | goto t=>exact hq2.elim
    | panic ch=>exact hq2.elim
    | outgrown=>exact hq2.elim
   | exit id=>exact hq.elim
   | goto t=>exact hq.elim
   | ret=>exact hq.elim
   | panic ch=>exact hq.elim
   | outgrown=>exact hq.elim
  ·rintro e W2 ⟨⟨v,rfl⟩,⟨F,loc,R,⟨hFD,hFl⟩,hl,hk,_⟩|⟨F,loc,H',R,⟨hFD,hFl⟩,hq,hl,hk⟩⟩
   ·have he:=run_endLoop (P:=P) hl (by rw [hrec];simp)
    rw [hrec] at he
    exact ⟨none,_,he,_,hQ,F,loc,R.marked (l:=D+1) hl rfl (by omega) hFl hk hFD hDX (by omega) (fun d hd e=>by
     obtain ⟨D',e',hf',_,_⟩:=R0.defers.1.1 d hd
     rw [e'] at e
     have hDD:D'=D:=by injection e with e1 _;injection e1
     have:=R0.hF _ hf'
     omega) hrd⟩
   ·have he:=run_endLoop (P:=P) hl (by rw [hrec];simp)
    rw [hrec] at he
    refine ⟨some .ret,_,he,wpIn_ret ⟨_,hq,F,loc,R.marked (l:=D+1) hl rfl (by omega) hFl hk hFD hDX (by omega) (fun d hd e=>?_) hrd⟩⟩
    obtain ⟨D',e',hf',_,_⟩:=R0.defers.1.1 d hd
    rw [e'] at e
    have hDD:D'=D:=by injection e with e1 _;injection e1
    have:=R0.hF _ hf'
    omega
theorem J_rangeDW (hrd:X.rd=none) (ws:List Nat) (hp:Nat→AH) {g:Operand} {p p2:Tmp} {assign body:Code} {Q:Exit→AS→Prop} {gf:FuncId} {cs:List FV} {xs:List (Int × Int)} {t:List AV} {H:AH}
  (hg:AS.ev ⟨t,H⟩ g=.f (.fn gf [] cs)) (hit:IterD P gf cs xs) (hok:enterOk P gf=true) (hw:Weak ⟨t,H⟩ ⟨msk ws t,hp 0⟩) (hpw:kpOf ws p=false) (hpw2:kpOf ws p2=false) (h12:p≠p2) (hka:okC (kpOf ws) assign=true) (hkb:okC (kpOf ws) body=true)
  (round:∀(i:Nat) x,xs[i]?=some x→∀X1:Cx,X1.kp=kpOf ws→∀K:AS→Prop,Kont K (fun s'=>∀X2:Cx,X2.kp=kpOf ws→J X2 P body (rpost (msk ws t) (hp (i+1)) (Q .ret)) s')→J X1 P assign (athen K fun _ _=>False) ⟨((msk ws t).set p (.f (.v (.int .i64 x.1)))).set p2 (.f (.v (.int .i64 x.2))),hp i⟩)
  (hQ:Q .normal ⟨msk ws t,hp xs.length⟩):J X P (.rangeFunc g #[p,p2] assign body) Q ⟨t,H⟩ :=
 J_rangeD hrd (msk ws t) hp hg hit hok hw (msk_get ws t) hpw hpw2 h12 hka hkb round hQ
end
end Go.Proofs.YtmcgeppgfjlclaaGreatDoor
set_option linter.unusedVariables false
set_option linter.unusedSimpArgs false
namespace Go.Proofs.YtmcgeppgfjlclaaGreatDoor
open Go Go.RowKit
set_option maxRecDepth 100000 in
theorem backward_w (l:List FV):Good Tryz.prog 87 [.fz 1 l] (.fn 114 [] [.fp (.fz 1 l) 0]):=by
 refine good_of Tryz.func87 rfl (by kernel_rfl) fun X hO hrd=>?_;rw [Tryz.ntmps87,Tryz.results87];simp only [ast0,List.map_cons,List.map_nil,List.length_cons,List.length_nil,Nat.reduceAdd,Nat.reduceSub,List.replicate_succ,List.replicate_zero,List.cons_append,List.nil_append]
 (repeat (with_reducible first|refine W_seq fun K hK=>?_|refine J_ret ?_|refine J_region ?_ |(refine Kont.go (by assumption) ?_)|(simp (config:={ maxSteps:=3000000 }) (disch:=omega) only [go_sem])))
 exact Frz.fn _ _ _ _ _ rfl (fun j c d h=>by simp at h) rfl fun j cc d h h'=>by
  cases j with
  | zero=>cases h;cases h';exact Frz.ptr0 rfl rfl
  | succ j=>simp at h
theorem back_box {w:World} {G:Nat→Prop} {l:List FV} {us:Array Value} (h:RepFL w G [.fp (.fz 1 l) 0] us):∃b off y,us=#[.pointer (some ⟨b,off,none⟩)]∧G b∧w.cell? ⟨b,off,none⟩=some y∧RepF w G (.fz 1 l) y:=by
 obtain ⟨hl,hr⟩:=h
 have h1:us.size=1:=hl.symm
 have h0:=hr 0 _ rfl
 obtain ⟨u,rfl⟩:=Array.size_eq_one_iff.1 h1
 replace h0:RepF w G (.fp (.fz 1 l) 0) u:=h0
 cases h0 with
 | fp _ _ b off hF g hg hc=>exact ⟨b,off,g 0,rfl,hF,hg 0 _ rfl,hc 0 _ rfl⟩
def bkL (l:List Int):List (Int × Int):=(List.range l.length).map fun k=>(((l.length-1-k:Nat):Int),l.getD (l.length-1-k) 0)
theorem bkL_len {l:List Int}:(bkL l).length=l.length:=by simp [bkL]
theorem bkL_get {l:List Int} {k:Nat} (h:k<l.length):(bkL l)[k]?=some (((l.length-1-k:Nat):Int),l.getD (l.length-1-k) 0):=by simp [bkL,h]
theorem bflat_I (l:List Int):flatF (l.map I)=l.map I:=by
 unfold flatF
 induction l with
 | nil=>rfl
 | cons a l ih=>rw [List.map_cons,List.flatMap_cons,ih];rfl
set_option maxRecDepth 100000 in
set_option maxHeartbeats 4000000 in
theorem back_iter (l:List Int) (hl:l.length≤1000):IterD Tryz.prog 114 [.fp (.fz 1 (l.map I)) 0] (bkL l):=by
 intro lo J Jx W G us hus hT h0 hY
 obtain ⟨b,off,y,rfl,hGb,hcell,hrep⟩:=back_box hus
 have hcb:∀i W1,J i W1→W1.cell? ⟨b,off,none⟩=some y:=fun i W1 h=>by rw [cell_of_block ((hT i W1 h).2 b hGb)];exact hcell
 generalize he:l.map I=es at hrep
 refine callsIn_of_wp Tryz.func114 rfl trivial ?_ rfl
 have hcb0:=hcb 0 W h0
 cases hrep with
 | fz0 _ a cap hm =>
  have hl0:l=[]:=List.map_eq_nil_iff.1 he
  subst hl0
  simp only [Tryz.ntmps114,List.size_toArray,List.length_cons,List.length_nil,Nat.reduceAdd,Nat.reduceSub,Array.replicate_succ,Array.replicate_zero,List.push_toArray,List.append_toArray,List.nil_append,List.cons_append]
  gi_wp2
  gi_loopw [3] (fun i wr=>i=.int .i64 (-1)∧J 0 wr) (fun _ _=>0)
  case atStart=>exact ⟨rfl,h0⟩
  case round =>
   obtain ⟨rfl,hJs⟩:=hrel
   gi_wp2
   go_end0
   exact ⟨⟨_,rfl⟩,.inl hJs⟩
 | fz _ _ b2 off2 cap hF hn hm hu g hg hc =>
  subst he
  rw [bflat_I] at hg hc
  have hcs:∀j (hj:j<l.length),W.cell? ⟨b2,off2+j,none⟩=some (.int .i64 (l.getD j 0)):=fun j hj=>by
   have h1:=hg j (I l[j]) (by rw [List.getElem?_map,List.getElem?_eq_getElem hj];rfl)
   have h2:=hc j (I l[j]) (by rw [List.getElem?_map,List.getElem?_eq_getElem hj];rfl)
   rw [lget_lt l 0 hj]
   generalize g j=q at h1 h2
   cases h2
   exact h1
  have hlen:(l.map I).length=l.length:=List.length_map ..
  rw [hlen] at hcell hcb hn hcb0
  simp only [Tryz.ntmps114,List.size_toArray,List.length_cons,List.length_nil,Nat.reduceAdd,Nat.reduceSub,Array.replicate_succ,Array.replicate_zero,List.push_toArray,List.append_toArray,List.nil_append,List.cons_append]
  gi_wp2
  gi_loopw [3] (fun q wr=>∃(k:Nat) (i:Int),q=.int .i64 i∧i+1+k=l.length∧-1≤i∧J k wr) (fun q _=>(intOf q+1).toNat)
  case atStart=>exact ⟨0,_,rfl,by omega,by omega,h0⟩
  case round =>
   obtain ⟨k,i,rfl,hik,hi1,hJs⟩:=hrel
   by_cases hi:0≤i
   ·obtain ⟨m,rfl⟩:=Int.eq_ofNat_of_zero_le hi
    have hm:m+1+k=l.length:=by omega
    have hml:m<l.length:=by omega
    have hkl:k<l.length:=by omega
    have e1:l.length-1-k=m:=by omega
    have hxs:=bkL_get hkl
    rw [e1] at hxs
    obtain ⟨fn,tmps,assign,body,hy,hR⟩:=hY k _ wr hxs hJs
    have hcx:wr.cell? ⟨b2,off2+m,none⟩=some (.int .i64 (l.getD m 0)):=by rw [cell_of_block ((hT k wr hJs).2 b2 hF)];exact hcs m hml
    have hcbk:=hcb k wr hJs
    dsimp only at hy
    generalize l.getD m 0=x at hcx hy
    have H:Hid (m+1+k=l.length):=hm
    clear hcs hcb hY hik hm hJs hxs e1 hcell hcb0
    gi_wp2
    refine hR.mono ?_
    rintro e W3 (⟨rfl,hJ3⟩|⟨rfl,hJx3⟩)
    ·have hmH:=H.out
     gi_wp2
     go_roundw
     case rel=>exact ⟨k+1,_,rfl,by omega,by omega,hJ3⟩
     case measure=>simp [intOf]
    ·gi_wp2
     refine bodyPost_ret (results_none rfl _ _ _) rfl ?_
     exact ⟨⟨_,rfl⟩,.inr hJx3⟩
   ·obtain rfl:i=-1:=by omega
    have hkk:k=(bkL l).length:=by rw [bkL_len];omega
    subst hkk
    clear hcs hcb hY
    gi_wp2
    go_end0
    exact ⟨⟨_,rfl⟩,.inl hJs⟩
end Go.Proofs.YtmcgeppgfjlclaaGreatDoor
set_option linter.unusedVariables false
set_option linter.unusedSimpArgs false
namespace Go.Proofs.YtmcgeppgfjlclaaGreatDoor
open Go Go.RowKit
def frsI (p:Nat→Bool) (n:Nat):Int:=match (List.range n).find? p with
 | some i=>(i:Int)
 | none=>-1
theorem frsI_some {p:Nat→Bool} {n i:Nat} (hi:i<n) (hp:p i=true) (hb:∀j,j<i→p j=false):frsI p n=i:=by
 have e:(List.range n).find? p=some i:=List.find?_range_eq_some.2 ⟨hp,List.mem_range.2 hi,fun j hj=>by rw [hb j hj];rfl⟩
 unfold frsI;rw [e]
theorem frsI_none {p:Nat→Bool} {n:Nat} (hb:∀j,j<n→p j=false):frsI p n=-1:=by
 have e:(List.range n).find? p=none:=List.find?_eq_none.2 fun x hx=>by rw [hb x (List.mem_range.1 hx)];decide
 unfold frsI;rw [e]
theorem frsI_any {p:Nat→Bool} {n:Nat}:decide (0≤frsI p n)=(List.range n).any p:=by
 unfold frsI
 cases h:(List.range n).find? p with
 | none =>
  have h0:=List.find?_eq_none.1 h
  have:(List.range n).any p=false:=by
   rw [List.any_eq_false];exact fun x hx=>h0 x hx
  rw [this];rfl
 | some i =>
  have h0:=List.find?_some h
  have h1:=List.mem_of_find?_eq_some h
  have:(List.range n).any p=true:=List.any_eq_true.2 ⟨i,h1,h0⟩
  rw [this];exact decide_eq_true (by simp only;omega)
end Go.Proofs.YtmcgeppgfjlclaaGreatDoor
set_option linter.unusedVariables false
set_option linter.unusedSimpArgs false
namespace Go.Proofs.YtmcgeppgfjlclaaGreatDoor
open Go Go.RowKit Go.Shelf
def sortRen:Go.Shelf.Ren:=⟨fun|189=>50|125=>85|257=>84|128=>112|129=>113|294=>103|295=>104|296=>105|297=>106|298=>107|299=>108|216=>109|300=>110|301=>111|328=>127|329=>128|330=>129|331=>130|332=>131|215=>132|343=>141|n=>n,fun|28=>22|3=>3|46=>92|0=>0|51=>103|53=>102|4=>4|183=>113|182=>112|131=>118|5=>5|9=>9|218=>136|222=>140|228=>152|229=>153|n=>n,fun n=>n⟩
theorem sortLays:Lays.n189 Tryz.prog sortRen where
 mixed:=by kernel_rfl
 f125:=Tryz.func85.trans (congrArg some (by kernel_rfl))
 f128:=Tryz.func112.trans (congrArg some (by kernel_rfl))
 f129:=Tryz.func113.trans (congrArg some (by kernel_rfl))
 f189:=Tryz.func50.trans (congrArg some (by kernel_rfl))
 f215:=Tryz.func132.trans (congrArg some (by kernel_rfl))
 f216:=Tryz.func109.trans (congrArg some (by kernel_rfl))
 f257:=Tryz.func84.trans (congrArg some (by kernel_rfl))
 f294:=Tryz.func103.trans (congrArg some (by kernel_rfl))
 f295:=Tryz.func104.trans (congrArg some (by kernel_rfl))
 f296:=Tryz.func105.trans (congrArg some (by kernel_rfl))
 f297:=Tryz.func106.trans (congrArg some (by kernel_rfl))
 f298:=Tryz.func107.trans (congrArg some (by kernel_rfl))
 f299:=Tryz.func108.trans (congrArg some (by kernel_rfl))
 f300:=Tryz.func110.trans (congrArg some (by kernel_rfl))
 f301:=Tryz.func111.trans (congrArg some (by kernel_rfl))
 f328:=Tryz.func127.trans (congrArg some (by kernel_rfl))
 f329:=Tryz.func128.trans (congrArg some (by kernel_rfl))
 f330:=Tryz.func129.trans (congrArg some (by kernel_rfl))
 f331:=Tryz.func130.trans (congrArg some (by kernel_rfl))
 f332:=Tryz.func131.trans (congrArg some (by kernel_rfl))
 f343:=Tryz.func141.trans (congrArg some (by kernel_rfl))
 t0:=Tryz.underlying0
 a0:=Tryz.isAgg0
 z0:=Tryz.sizeOf0
 v0:=Tryz.zeroValue0
 t3:=Tryz.underlying3
 a3:=Tryz.isAgg3
 z3:=Tryz.sizeOf3
 v3:=Tryz.zeroValue3
 t4:=Tryz.underlying4
 a4:=Tryz.isAgg4
 z4:=Tryz.sizeOf4
 v4:=Tryz.zeroValue4
 t5:=Tryz.underlying5
 a5:=Tryz.isAgg5
 z5:=Tryz.sizeOf5
 v5:=Tryz.zeroValue5
 t9:=Tryz.underlying9
 a9:=Tryz.isAgg9
 z9:=Tryz.sizeOf9
 v9:=Tryz.zeroValue9
 t28:=Tryz.underlying22
 a28:=Tryz.isAgg22
 z28:=Tryz.sizeOf22
 v28:=Tryz.zeroValue22
 t46:=Tryz.underlying92
 a46:=Tryz.isAgg92
 z46:=Tryz.sizeOf92
 v46:=Tryz.zeroValue92
 t51:=Tryz.underlying103
 a51:=Tryz.isAgg103
 z51:=Tryz.sizeOf103
 v51:=Tryz.zeroValue103
 t53:=Tryz.underlying102
 a53:=Tryz.isAgg102
 z53:=Tryz.sizeOf102
 v53:=Tryz.zeroValue102
 t131:=Tryz.underlying118
 a131:=Tryz.isAgg118
 z131:=Tryz.sizeOf118
 v131:=Tryz.zeroValue118
 t182:=Tryz.underlying112
 a182:=Tryz.isAgg112
 z182:=Tryz.sizeOf112
 v182:=Tryz.zeroValue112
 t183:=Tryz.underlying113
 a183:=Tryz.isAgg113
 z183:=Tryz.sizeOf113
 v183:=Tryz.zeroValue113
 t218:=Tryz.underlying136
 a218:=Tryz.isAgg136
 z218:=Tryz.sizeOf136
 v218:=Tryz.zeroValue136
 t222:=Tryz.underlying140
 a222:=Tryz.isAgg140
 z222:=Tryz.sizeOf140
 v222:=Tryz.zeroValue140
 t228:=Tryz.underlying152
 a228:=Tryz.isAgg152
 z228:=Tryz.sizeOf152
 v228:=Tryz.zeroValue152
 t229:=Tryz.underlying153
 a229:=Tryz.isAgg153
 z229:=Tryz.sizeOf153
 v229:=Tryz.zeroValue153
theorem flatF_I (zs:List Int):flatF (zs.map I)=zs.map I:=by
 unfold flatF
 induction zs with
 | nil=>rfl
 | cons z zs ih=>rw [List.map_cons,List.flatMap_cons,ih];rfl
theorem own_cellsI {X:Cx} {w:World} {F:Nat→Prop} {loc:Nat→Nat × Nat} {t:List AV} {a:Act} {H:AH} {q:Nat} {zs:List Int} {ys:Array Value} (R:RelF X F loc ⟨t,H⟩ a w) (hq:H[q]?=some (some ⟨3,1,(zs.map I).map .f⟩))
  (hys:[AV.own q 1 0 zs.length].length=ys.size∧∀(j:Nat) x,[AV.own q 1 0 zs.length][j]?=some x→Rep w F loc H.length x (ys.getD j undef)) :
  ∃cap vs,ys=#[.slice (some ⟨(loc q).1,0,none⟩) zs.length cap]∧zs.length≤cap∧cap≤maxLen∧(loc q).2=cap∧q<H.length∧w.heap[(loc q).1]?=some (.cells vs 3 (0,0))∧vs.size=cap∧∀j,j<zs.length→vs[j]?=some (.int .i64 (zs.getD j 0)):=by
 obtain ⟨hyl,hyr⟩:=hys
 obtain ⟨y,rfl⟩:=Array.size_eq_one_iff.1 hyl.symm
 have h0:Rep w F loc H.length (.own q 1 0 zs.length) y:=hyr 0 _ rfl
 obtain ⟨hu,vs,hv,hvs,hc⟩:=R.obj q _ hq
 cases h0 with
 | own _ _ _ _ cap hr hk hm hs =>
  refine ⟨cap,vs,rfl,hk,hm,by omega,hr,hv,by rw [hvs,hs];omega,fun j hj=>?_⟩
  obtain ⟨u,h1,h2⟩:=hc j (.f (I zs[j])) (by
   show (flat ((zs.map I).map AV.f))[j]?=_
   rw [flat_f,flatF_I,List.getElem?_map,List.getElem?_map,List.getElem?_eq_getElem hj];rfl)
  rw [v_rep h2] at h1
  rw [h1,lget_lt zs 0 hj]
theorem holds_own {w:World} {blk:Nat} {vs:Array Value} {zs:List Int} (hv:w.heap[blk]?=some (.cells vs 3 (0,0))) (hcell:∀j,j<zs.length→vs[j]?=some (.int .i64 (zs.getD j 0))):Go.Sort.Holds (Value.int .i64) w blk 0 zs.toArray:=by
 intro j hj
 have hj':j<zs.length:=by simpa using hj
 refine ⟨?_,by simp [World.frozen?,hv]⟩
 have:=hcell j hj'
 simp only [World.cell?,hv,Nat.zero_add]
 simp only [Option.isSome_none,Bool.false_eq_true,if_false]
 rw [this,lget_lt zs 0 hj']
 simp [hj']
theorem put_rel {X:Cx} {w:World} {F:Nat→Prop} {loc:Nat→Nat × Nat} {t:List AV} {a:Act} {H:AH} {q n:Nat} {os:Array Obj} {zs ts:List Int} {vs:Array Value} (R:RelF X F loc ⟨t,H⟩ a w) (hq:H[q]?=some (some ⟨3,1,(zs.map I).map .f⟩)) (hr:q<H.length)
  (hv:w.heap[(loc q).1]?=some (.cells vs 3 (0,0))) (hvs:vs.size=(loc q).2) (htl:ts.length≤vs.size) :
  RelF X F loc ⟨t,H.set q (some ⟨3,1,(ts.map I).map .f⟩)⟩ a (Go.Sort.grow (Go.Sort.putRow (Value.int .i64) (Go.Sort.ahead w n) (loc q).1 0 ts.toArray) os):=by
 have hqn:=R.new q _ hq
 have hqF:=R.nF q _ hq
 have hblk:(loc q).1<w.heap.size:=(Array.getElem?_eq_some_iff.1 hv).1
 have hheap:(Go.Sort.grow (Go.Sort.putRow (Value.int .i64) (Go.Sort.ahead w n) (loc q).1 0 ts.toArray) os).heap[(loc q).1]?=some (.cells (Go.Sort.putCells (Value.int .i64) 0 ts.toArray vs) 3 (0,0)):=by
  rw [Go.Sort.heap_grow_old _ _ (by simpa [Go.Sort.putRow,Go.Sort.mapBlock,Go.Sort.ahead] using hblk)]
  simp [Go.Sort.putRow,Go.Sort.mapBlock,Go.Sort.ahead,Array.getElem?_modify,hv,Go.Sort.onCells]
 have hby:Beyond (fun b=>b=(loc q).1) w (Go.Sort.grow (Go.Sort.putRow (Value.int .i64) (Go.Sort.ahead w n) (loc q).1 0 ts.toArray) os):=⟨rfl,rfl,rfl,by simp [Go.Sort.grow,Go.Sort.putRow,Go.Sort.mapBlock,Go.Sort.ahead],fun k hk hne=>by
  have hne':¬(loc q).1=k:=fun e=>hne e.symm
  rw [Go.Sort.heap_grow_old _ _ (by simpa [Go.Sort.putRow,Go.Sort.mapBlock,Go.Sort.ahead] using hk)]
  simp [Go.Sort.putRow,Go.Sort.mapBlock,Go.Sort.ahead,Array.getElem?_modify,hne']⟩
 have hdead:∀(r:Nat) o,(H.set q none)[r]?=some (some o)→r≠q∧H[r]?=some (some o):=fun r o h=>by
  by_cases e:r=q
  ·subst e;rw [List.getElem?_set_self hr] at h;cases h
  ·rw [List.getElem?_set_ne (Ne.symm e)] at h;exact ⟨e,h⟩
 have R1:RelF X F loc ⟨t,H.set q none⟩ a w:=R.drop (by simp) fun r o h=>(hdead r o h).2
 have R2:=R1.stepO (F':=F) (O:=fun b=>b=(loc q).1) (fun b hb=>by rw [hb];exact hqn.symm) (fun b hf hb=>hqF (hb▸hf)) (fun r o h e=>(hdead r o h).1 (R.inj r q _ _ (hdead r o h).2 hq e)) hby (fun _ h=>h) (fun b hb=>Nat.lt_of_lt_of_le (R.hF b hb) hby.size) (fun b h=>.inl h)
 refine R2.revive hr hqn hqF (fun r o h e=>(hdead r o h).1 (R.inj r q _ _ (hdead r o h).2 hq e)) ⟨fun e he=>?_,_,hheap,by simp [Go.Sort.putCells];rw [hvs],fun j c hj=>?_⟩
 ·obtain ⟨x,hx,rfl⟩:=List.mem_map.1 he
  obtain ⟨z,_,rfl⟩:=List.mem_map.1 hx
  exact ⟨rfl,rfl⟩
 ·replace hj:(flat ((ts.map I).map AV.f))[j]?=some c:=hj
  rw [flat_f,flatF_I,List.getElem?_map,List.getElem?_map] at hj
  cases hz:ts[j]? with
  | none=>rw [hz] at hj;cases hj
  | some z =>
   rw [hz] at hj
   cases hj
   obtain ⟨hjl,hjz⟩:=List.getElem?_eq_some_iff.1 hz
   refine ⟨.int .i64 z,?_,.f _ _ (.v _)⟩
   have hjv:j<vs.size:=by omega
   simp [Go.Sort.putCells,hjl,hjv,hjz]
theorem sort_u {H:AH} {q:Nat} {zs:List Int} (hq:H[q]?=some (some ⟨3,1,(zs.map I).map .f⟩)) (hz:zs.length<4611686018427387904) :
  CallU Tryz.prog 50 [.own q 1 0 zs.length] H (fun u G=>u=.f (.v (.tuple #[]))∧G=H.set q (some ⟨3,1,((zs.mergeSort fun x y=>decide (x≤y)).map I).map .f⟩)):=by
 refine ⟨by kernel_rfl,fun X w F loc t a ys R hys=>?_⟩
 obtain ⟨cap,vs,rfl,hk,hm,hl2,hr,hv,hvs,hcell⟩:=own_cellsI R hq hys
 have hblk:(loc q).1<w.heap.size:=(Array.getElem?_eq_some_iff.1 hv).1
 refine (Any.slices_Sort_int sortLays (loc q).1 0 cap zs w (holds_own hv hcell) hblk hz).mono ?_
 rintro e w' ⟨rfl,n,os,rfl⟩
 exact ⟨_,F,loc,_,_,⟨rfl,rfl⟩,rfl,put_rel R hq hr hv (by omega) (by rw [List.length_mergeSort];omega),.f _ _ (.v _)⟩
end Go.Proofs.YtmcgeppgfjlclaaGreatDoor
set_option linter.unusedVariables false
set_option linter.unusedSimpArgs false
namespace Go.Proofs.YtmcgeppgfjlclaaGreatDoor
open Go Go.RowKit
section
variable {P : Program} {X : Cx} {w : World} {F : Nat → Prop} {loc : Nat → Nat × Nat} {s : AS} {a : Act}
end
end Go.Proofs.YtmcgeppgfjlclaaGreatDoor
set_option linter.unusedVariables false
set_option linter.unusedSimpArgs false
namespace Go.Proofs.YtmcgeppgfjlclaaGreatDoor
open Go Go.RowKit Go.Shelf
set_option maxRecDepth 100000 in
theorem indexZ_w {l:List Int} {k:Int} (hl:l.length≤140737488355328):Good Tryz.prog 64 [ints l,I k] (I (frsI (fun i=>decide (l.getD i 0=k)) l.length)):=by
 refine good_of Tryz.func64 rfl (by kernel_rfl) fun X hO hrd=>?_;rw [Tryz.ntmps64,Tryz.results64];simp only [ast0,List.map_cons,List.map_nil,List.length_cons,List.length_nil,Nat.reduceAdd,Nat.reduceSub,List.replicate_succ,List.replicate_zero,List.cons_append,List.nil_append]
 (repeat (with_reducible first|refine W_seq fun K hK=>?_|refine J_block ?_|refine J_region ?_ |(refine Kont.go (by assumption) ?_)|(simp (config:={ maxSteps:=3000000 }) (disch:=omega) only [go_sem,List.length_map])))
 refine W_loop [4,5,8,9,10,11,12,13,14,15,16,17,18] (fun x:Nat=>[(8,.f (I x))]) (fun x:Nat=>[]) (fun x:Nat=>x≤l.length∧∀j,j<x→decide (l.getD j 0=k)=false) (fun x:Nat=>l.length-x) (0) (⟨Nat.zero_le _,fun j h=>by omega⟩) (by refine weak_of ?_ ?_<;>simp (disch:=omega) only [go_sem]<;>first|rfl|exact ⟨rfl,rfl⟩|exact Or.inl rfl|exact ⟨Or.inl rfl,Or.inl rfl⟩|trivial|assumption|omega|(symm;assumption)|((repeat' apply And.intro)<;>first|rfl|omega|trivial|exact .inl rfl|exact .inr ⟨rfl,rfl⟩|exact .inr rfl|(right;symm;assumption)|(symm;assumption)|assumption)) ?_
 rintro i ⟨hi,hp⟩
 simp only [go_sem]
 (repeat (with_reducible first|refine W_seq fun K hK=>?_|refine J_region ?_ |refine J_c ?_|(refine Kont.go (by assumption) ?_)|(simp (config:={ maxSteps:=3000000 }) (disch:=omega) only [go_sem])))
 refine Jc_if (fun hlt=>?_) (fun hlt=>?_)<;>try simp only [decide_eq_true_eq,decide_eq_false_iff_not] at hlt
 ·have hx:=map_get I l hlt
  have g3:l.getD i 0=l[i]:=lget_lt l 0 hlt
  by_cases hb:l[i]=k
  ·have e:frsI (fun i=>decide (l.getD i 0=k)) l.length=i:=frsI_some hlt (decide_eq_true (by rw [g3];exact hb)) hp
   have hb':k=l[i]:=hb.symm
   (repeat (with_reducible first|refine W_seq fun K hK=>?_|refine J_block ?_|refine J_skip ?_|refine J_ret ?_|refine J_region ?_ |refine J_c ?_|refine Jc_true ?_|(refine Kont.go (by assumption) ?_)|(simp (config:={ maxSteps:=3000000 }) (disch:=omega) only [go_sem,↓reduceIte,hx,←hb',decide_true])))
   rw [e]
   exact Frz.f _
  ·have hb':¬k=l[i]:=fun h=>hb h.symm
   (repeat (with_reducible first|refine W_seq fun K hK=>?_|refine J_block ?_|refine J_skip ?_|refine J_region ?_ |refine J_c ?_|refine Jc_false ?_|(refine Kont.go (by assumption) ?_)|(simp (config:={ maxSteps:=3000000 }) (disch:=omega) only [go_sem,↓reduceIte,hx,hb'])))
   refine ⟨i+1,⟨by omega,upto_next (p:=fun j=>decide (l.getD j 0=k)=false) hp (decide_eq_false (by rw [g3];exact hb))⟩,by omega,weak_of ?_ ?_⟩<;>(try simp (disch:=omega) only [go_sem])<;>(try first|done|omega|rfl|exact ⟨rfl,rfl⟩|trivial)
 ·have he:i=l.length:=by omega
  have e:frsI (fun i=>decide (l.getD i 0=k)) l.length=-1:=frsI_none (he▸hp)
  (repeat (with_reducible first|refine W_seq fun K hK=>?_|refine J_exit ?_|refine J_ret ?_|refine J_region ?_ |(refine Kont.go (by assumption) ?_)|(simp (config:={ maxSteps:=3000000 }) (disch:=omega) only [go_sem,↓reduceIte,Int.reduceNeg])))
  rw [e]
  exact Frz.f _
set_option maxRecDepth 100000 in
theorem contZ_w {l:List Int} {k:Int} (hl:l.length≤140737488355328):Good Tryz.prog 36 [ints l,I k] (Bo (decide (k∈l))):=by
 have h:=indexZ_w (k:=k) hl
 have e:decide (0≤frsI (fun i=>decide (l.getD i 0=k)) l.length)=decide (k∈l):=by
  rw [frsI_any]
  by_cases hm:k∈l
  ·obtain ⟨c,hc,ec⟩:=List.getElem_of_mem hm
   rw [decide_eq_true hm]
   exact List.any_eq_true.2 ⟨c,List.mem_range.2 hc,decide_eq_true (by rw [lget_lt l 0 hc];exact ec)⟩
  ·rw [decide_eq_false hm,List.any_eq_false]
   intro j hj hh
   have hj:=List.mem_range.1 hj
   have:=of_decide_eq_true hh
   exact hm (by rw [←this,lget_lt l 0 hj];exact List.getElem_mem _)
 refine good_of Tryz.func36 rfl (by kernel_rfl) fun X hO hrd=>?_;rw [Tryz.ntmps36,Tryz.results36];simp only [ast0,List.map_cons,List.map_nil,List.length_cons,List.length_nil,Nat.reduceAdd,Nat.reduceSub,List.replicate_succ,List.replicate_zero,List.cons_append,List.nil_append]
 (repeat (with_reducible first|refine W_seq fun K hK=>?_|refine J_region ?_ |(refine Kont.go (by assumption) ?_)|(simp (config:={ maxSteps:=3000000 }) (disch:=omega) only [go_sem])))
 refine call_f h rfl ?_
 (repeat (with_reducible first|refine J_ret ?_|(refine Kont.go (by assumption) ?_)|(simp (config:={ maxSteps:=3000000 }) (disch:=omega) only [go_sem])))
 rw [e]
 exact Frz.f _
set_option maxRecDepth 100000 in
theorem cloneZ_w (z:Int) (l:List Int) (hl:l.length≤1000):GoodO Tryz.prog 42 [ints (z::l)] (.own 3 1 ((z::l).map I)):=by
 have hi:ints (z::l)=.fz 1 (I z::l.map I):=rfl
 have hll:(l.map I).length=l.length:=List.length_map ..
 refine goodO_of Tryz.func42 rfl (by kernel_rfl) fun X hO hrd=>?_;rw [Tryz.ntmps42,Tryz.results42];simp only [ast0,List.map_cons,List.map_nil,List.length_cons,List.length_nil,Nat.reduceAdd,Nat.reduceSub,List.replicate_succ,List.replicate_zero,List.cons_append,List.nil_append]
 (repeat (first|(with_reducible first|refine W_seq fun K hK=>?_|refine J_skip ?_|refine J_ret ?_|refine J_region ?_ |refine aApp_old ?_|refine J_c ?_|refine Jc_false ?_|(refine Kont.go (by assumption) ?_)|(simp (config:={ maxSteps:=3000000 }) (disch:=omega) only [go_sem,hi,hll]))|refine And.intro (by omega) ?_))
 refine ⟨1,by simp,rfl,fun x hx=>?_⟩
 rcases List.mem_cons.1 hx with rfl|hx
 ·exact .v _
 ·obtain ⟨y,_,rfl⟩:=List.mem_map.1 hx
  exact .v _
theorem sort0_w:Good Tryz.prog 50 [.v (.slice none 0 0)] (.v (.tuple #[])):=by
 refine ⟨by kernel_rfl,fun w G ys hT hG hys=>?_⟩
 obtain ⟨hl,hr⟩:=hys
 have h1:ys.size=1:=hl.symm
 have h0:=hr 0 _ rfl
 obtain ⟨u,rfl⟩:=Array.size_eq_one_iff.1 h1
 replace h0:RepF w G (.v (.slice none 0 0)) u:=h0
 cases h0
 refine (Any.slices_Sort_int_none sortLays none 0 w).mono ?_
 rintro e w' ⟨rfl,rfl⟩
 exact ⟨_,rfl,Beyond.refl _ _,.v _⟩
def cmpRen:Go.Shelf.Ren:=⟨fun|20=>51|n=>n,fun|22=>22|3=>3|4=>4|0=>0|n=>n,fun n=>n⟩
theorem cmpLays:Lays2.n20 Tryz.prog cmpRen where
 mixed:=by kernel_rfl
 f20:=Tryz.func51.trans (congrArg some (by kernel_rfl))
 t0:=Tryz.underlying0
 a0:=Tryz.isAgg0
 z0:=Tryz.sizeOf0
 v0:=Tryz.zeroValue0
 t3:=Tryz.underlying3
 a3:=Tryz.isAgg3
 z3:=Tryz.sizeOf3
 v3:=Tryz.zeroValue3
 t4:=Tryz.underlying4
 a4:=Tryz.isAgg4
 z4:=Tryz.sizeOf4
 v4:=Tryz.zeroValue4
 t22:=Tryz.underlying22
 a22:=Tryz.isAgg22
 z22:=Tryz.sizeOf22
 v22:=Tryz.zeroValue22
 i3:=by kernel_rfl
theorem compact_len (zs:List Int):(Lib.compact zs).length≤zs.length:=by
 unfold Lib.compact Lib.compactUpTo
 rw [List.length_map]
 exact Nat.le_trans (List.length_filter_le _ _) (by simp)
theorem compact_u {H:AH} {q:Nat} {zs:List Int} (hq:H[q]?=some (some ⟨3,1,(zs.map I).map .f⟩)) (hz:zs.length≤1000) :
  CallU Tryz.prog 51 [.own q 1 0 zs.length] H (fun u G=>u=.own q 1 0 (Lib.compact zs).length∧G=H.set q (some ⟨3,1,((Lib.compact zs++List.replicate (zs.length-(Lib.compact zs).length) 0).map I).map .f⟩)):=by
 refine ⟨by kernel_rfl,fun X w F loc t a ys R hys=>?_⟩
 obtain ⟨cap,vs,rfl,hk,hm,hl2,hr,hv,hvs,hcell⟩:=own_cellsI R hq hys
 have hcl:=compact_len zs
 refine (Any.slices_Compact_int cmpLays (loc q).1 0 cap zs w (holds_own hv hcell) (by omega) hk).mono ?_
 rintro e w' ⟨rfl,n,rfl⟩
 have hR:=put_rel (n:=n) (os:=#[]) (ts:=Lib.compact zs++List.replicate (zs.length-(Lib.compact zs).length) 0) R hq hr hv (by omega) (by rw [List.length_append,List.length_replicate];omega)
 rw [Go.Sort.grow_empty] at hR
 refine ⟨_,F,loc,_,_,⟨rfl,rfl⟩,rfl,hR,?_⟩
 have:=Rep.own (w:=Go.Sort.putRow (Value.int .i64) (Go.Sort.ahead w n) (loc q).1 0 (Lib.compact zs++List.replicate (zs.length-(Lib.compact zs).length) 0).toArray) (F:=F) (loc:=loc) (N:=(H.set q (some ⟨3,1,((Lib.compact zs++List.replicate (zs.length-(Lib.compact zs).length) 0).map I).map AV.f⟩)).length) q 1 0 (Lib.compact zs).length cap (by rw [List.length_set];exact hr) (by omega) hm (by omega)
 exact this
set_option maxRecDepth 100000 in
theorem compact0_w:Good Tryz.prog 51 [.v (.slice none 0 0)] (.v (.slice none 0 0)):=by
 refine good_of Tryz.func51 rfl (by kernel_rfl) fun X hO hrd=>?_;rw [Tryz.ntmps51,Tryz.results51];simp only [ast0,List.map_cons,List.map_nil,List.length_cons,List.length_nil,Nat.reduceAdd,Nat.reduceSub,List.replicate_succ,List.replicate_zero,List.cons_append,List.nil_append]
 (repeat (with_reducible first|refine W_seq fun K hK=>?_|refine J_ret ?_|refine J_region ?_ |refine J_c ?_|refine Jc_true ?_|exact Frz.f _|(refine Kont.go (by assumption) ?_)|(simp (config:={ maxSteps:=3000000 }) (disch:=omega) only [go_sem,Int.reduceLT])))
end Go.Proofs.YtmcgeppgfjlclaaGreatDoor
