/- The abstract machine: loops over a function that has captured something, and yields values of any kind without addresses of its own. Conditions: none. -/
import Derived.Test.YthehegidpamldaaGreatDoorZB15
import Derived.RegionIn
import Derived.Lib.MinMax
import Derived.Test.YthehegidpamldaaGreatDoorZB11
import Derived.Test.YthehegidpamldaaGreatDoorZB14
set_option linter.unusedVariables false
set_option linter.unusedSimpArgs false
namespace Go.Proofs.YthehegidpamldaaGreatDoor
open Go Go.RowKit
def IterF (P:Program) (gf:FuncId) (cs:List FV) (xs:List FV):Prop :=
 ∀(l:Nat) (I:Nat→World→Prop) (Ix:World→Prop) (W:World) (G:Nat→Prop) (us:Array Value),RepFL W G cs us→(∀i W1,I i W1→TabW W1∧∀b,G b→W1.heap[b]?=W.heap[b]?)→(∀i W1,I i W1→I i W1.drew)→I 0 W →
  (∀(i:Nat) x W1 u,xs[i]?=some x→I i W1→RepF W1 G x u→YieldAt Fence.wide 7 P l #[u] W1 fun e W'=>(e=.returned (.bool true)∧I (i+1) W')∨(e=.returned (.bool false)∧Ix W')) →
  CallsIn Fence.wide 8 P gf (#[.func (.yield l) #[] #[]]++us) W fun e W'=>(∃v,e=.returned v)∧(I xs.length W'∨Ix W')
section
variable {P : Program} {X : Cx} {w : World} {F : Nat → Prop} {loc : Nat → Nat × Nat} {s : AS} {a : Act}
theorem J_rangeF (hrd:X.rd=none) {g:Operand} {p:Tmp} {assign body:Code} {Q:Exit→AS→Prop} {gf:FuncId} {cs:List FV} {xs:List FV} {kp:Nat→Bool} (T:List AV) (H:Nat→AH)
  (hg:s.ev g=.f (.fn gf [] cs)) (hit:IterF P gf cs xs) (hok:enterOk P gf=true) (hw:Weak s ⟨T,H 0⟩) (hT:∀(j:Nat) x,T[j]?=some x→x=.any∨kp j=true) (hp:kp p=false) (hka:okC kp assign=true) (hkb:okC kp body=true)
  (round:∀(i:Nat) x,xs[i]?=some x→∀X1:Cx,X1.kp=kp→∀K:AS→Prop,(∀s',(∀X2:Cx,X2.kp=kp→J X2 P body (rpost T (H (i+1)) (Q .ret)) s')→K s')→J X1 P assign (athen K fun _ _=>False) ⟨T.set p (.f x),H i⟩)
  (hQ:Q .normal ⟨T,H xs.length⟩):J X P (.rangeFunc g #[p] assign body) Q s:=fun _ a w ⟨F0,loc0,R0⟩=>by
 have hfv:=R0.ev g
 rw [hg] at hfv
 obtain ⟨vs,us,hge,l1,l2⟩:=fnF_rep hfv
 have hvs:vs=#[]:=by
  have:=l1.1
  simp at this
  exact Array.eq_empty_of_size_eq_zero this.symm
 subst hvs
 obtain ⟨locT,RT⟩:=R0.weak hw
 rw [fen_wide hrd]
 refine wpIn_rangeFunc ?_
 intro fn hfn
 obtain ⟨rec,hrec⟩:∃rec:LoopState→Option Code→Loop,rec=fun st pe=>{ state:=st,pending:=pe,fn,tmps:=a.tmps,params:=#[p],assign,body,defers:=w.heap.size }:=⟨_,rfl⟩
 obtain ⟨W1,hW1⟩:∃W1,(w.alloc (.deferred (some []))).alloc (.loop (rec .ready none))=W1:=⟨_,rfl⟩
 obtain ⟨D,hD⟩:∃D,D=w.heap.size:=⟨_,rfl⟩
 have hL1:W1.heap[D+1]?=some (.loop (rec .ready none)):=by
  rw [←hW1,hD];have:=World.alloc_heap_new (w.alloc (.deferred (some []))) (.loop (rec .ready none));rwa [World.size_alloc] at this
 have hK1:W1.heap[D]?=some (.deferred (some [])):=by
  rw [←hW1,hD];exact (Below.heap_alloc _ _ _ (by simp)).trans (World.alloc_heap_new w _)
 refine ⟨D+1,[{ target:=.collected D,args:=#[] }],W1,{ target:=.fn (.func gf) us,args:=#[.func (.yield (D+1)) #[] #[]] },W1,gf,#[.func (.yield (D+1)) #[] #[]]++us,W1,?_,?_,?_,?_,(fun h=>by cases h),?_⟩
 ·rw [←hW1,hrec,hD];exact run_enterLoop_outer _ _ _ _ _
 ·simp only [resolve,hge,Deferred.ofValue,Sem.run_pure]
  simp [Act.eval]
 ·intro f' hf';trivial
 ·simp only [invoke]
  exact goodOk hok _ _
 ·obtain ⟨F1,hF1⟩:∃F1:Nat→Prop,F1=fun b=>F0 b∨b=D:=⟨_,rfl⟩
  have hsz:W1.heap.size=D+2:=by rw [←hW1,hD];simp
  have hbW:Beyond (fun _=>False) w W1:=by
   rw [←hW1]
   exact (beyond_alloc w _).trans ⟨rfl,rfl,rfl,by simp,fun k hk _=>Below.heap_alloc _ _ k hk⟩
  have RT1:RelF X F1 locT ⟨T,H 0⟩ a W1:=RT.step hbW (fun b h=>by rw [hF1];exact .inl h) (fun b h=>by
   rw [hF1] at h
   rcases h with h|h
   ·have:=RT.hF b h;omega
   ·omega) (fun b h=>by
   rw [hF1] at h
   rcases h with h|h
   ·exact .inl h
   ·exact .inr (by omega))
  have hDX:X.w0.heap.size≤D:=by have:=RT.below.size;omega
  have hTlen:T.length=a.tmps.size:=RT.len
  have hRL:RepFL W1 F1 cs us:=⟨by rw [←l2.1,List.length_map],fun j c hj=>by
   have:=l2.2 j (.f c) (by rw [List.getElem?_map,hj];rfl)
   cases this with
   | f _ _ h=>exact h.mono (fun b hb=>by rw [hF1];exact .inl hb) fun b o u hf hc=>by rw [cell_of_block (hbW.block b (R0.hF b hf) (fun h=>h))];exact hc⟩
  refine (hit (D+1) (fun i W=>∃F loc,RelF X F loc ⟨T,H i⟩ a W∧(F D∧¬F (D+1))∧W.heap[D+1]?=some (.loop (rec .ready none))∧W.heap[D]?=some (.deferred (some []))∧∀b,F1 b→F b∧W.heap[b]?=W1.heap[b]?)
   (fun W=>∃F loc H',RelF X F loc ⟨T,H'⟩ a W∧(F D∧¬F (D+1))∧Q .ret ⟨T,H'⟩∧W.heap[D+1]?=some (.loop (rec .done (some .ret)))∧W.heap[D]?=some (.deferred (some []))) W1 F1 us hRL (fun i W2 ⟨F,loc,R,_,_,_,hp⟩=>⟨R.tabW,fun b hb=>(hp b hb).2⟩) (fun i W2 ⟨F,loc,R,h1,h2,h3,hp⟩=>⟨F,loc,R.step (w':=W2.drew) ⟨rfl,rfl,rfl,Nat.le_refl _,fun k _ _=>rfl⟩ (fun b h=>h) (fun b h=>R.hF b h) (fun b h=>.inl h),h1,h2,h3,hp⟩) ⟨F1,locT,RT1,⟨by rw [hF1];exact .inr rfl,by rw [hF1];rintro (h|h);(have:=RT.hF _ h;omega);omega⟩,hL1,hK1,fun b hb=>⟨hb,rfl⟩⟩ ?_).mono ?_
  ·rintro i x W u hx ⟨F,loc,R,⟨hFD,hFl⟩,hl,hk,hpr⟩ hu
   have hy:=run_yield (P:=P) (args:=#[u]) hl (by rw [hrec];rfl)
   rw [hrec] at hy
   refine ⟨fn,_,assign,body,hy,roundIn_of_wpIn trivial ?_⟩
   have htm:((#[p]:Array Tmp).zip #[u]).foldl (fun tmps (t,a)=>tmps.setIfInBounds t a) a.tmps=a.tmps.setIfInBounds p u:=by simp
   rw [htm]
   have R1:=R.enter (s':=⟨T.set p (.f x),H i⟩) { tmps:=a.tmps.setIfInBounds p u,defers:=[] } (some (D+1)) kp a.tmps rfl (by simp [hTlen]) rfl (fun j hj=>by
    have hne:p≠j:=fun e=>by rw [←e,hp] at hj;cases hj
    simp [Array.getD_eq_getD_getElem?,hne]) (fun j y hj=>by
    have hj':(T.set p (.f x))[j]?=some y:=hj
    by_cases e:p=j
    ·subst e
     have hpl:p<T.length:=by
      rcases Nat.lt_or_ge p T.length with h'|h'
      ·exact h'
      ·rw [List.getElem?_eq_none (by simpa using h')] at hj';cases hj'
     rw [List.getElem?_set_self hpl] at hj'
     cases hj'
     have:(a.tmps.setIfInBounds p u).getD p undef=u:=by simp [Array.getD_eq_getD_getElem?,←hTlen,hpl]
     rw [this]
     exact .f _ _ (hu.mono (fun b hb=>(hpr b hb).1) fun _ _ _ _ h=>h)
    ·rw [List.getElem?_set_ne e] at hj'
     have:(a.tmps.setIfInBounds p u).getD j undef=a.tmps.getD j undef:=by simp [Array.getD_eq_getD_getElem?,e]
     rw [this];exact R.tmps j y hj')
   have hJ:=round i x hx ⟨W,F,fun b=>Live ⟨T,H i⟩ loc b,some (D+1),kp,a.tmps,X.hold⟩ rfl (fun s'=>∀X2:Cx,X2.kp=kp→J X2 P body (rpost T (H (i+1)) (Q .ret)) s') (fun s' h=>h) hka _ W ⟨F,loc,R1⟩
   refine wpIn_mono (wpIn_any hJ) ?_
   rintro e a1 Wa ⟨s1,hq,Fa,loca,Ra⟩
   cases e with
   | normal =>
    have hlW:D+1<W.heap.size:=(Array.getElem?_eq_some_iff.1 hl).1
    have hnl:∀{s0:AS} {F0:Nat→Prop} {loc0:Nat→Nat × Nat} {X0:Cx} {a0:Act} {w0:World} {b:Nat} {o:Obj},RelF X0 F0 loc0 s0 a0 w0→w0.heap[b]?=some o→o.isCells=false→¬Live s0 loc0 b:=fun R0 h ho ⟨r,q,hr,e⟩=>by
     obtain ⟨vs,hv⟩:=own_cells R0 hr
     rw [e,h] at hv
     cases hv
     cases ho
    have hla:Wa.heap[D+1]?=some (.loop (rec .ready none)):=(Ra.below.block (D+1) hlW (hnl R hl rfl)).trans hl
    have hka2:Wa.heap[D]?=some (.deferred (some [])):=(Ra.below.block D (show D<W.heap.size by omega) (hnl R hk rfl)).trans hk
    refine ⟨_,run_beginRound hla (by rw [hrec]),?_⟩
    have Rb:=Ra.poke (o:=.loop { rec .ready none with state:=.busy }) hla rfl (fun _ _ h=>by cases h) rfl
    have hlWa:D+1<Wa.heap.size:=(Array.getElem?_eq_some_iff.1 hla).1
    have hlb:(Wa.putObj (D+1) (.loop { rec .ready none with state:=.busy })).heap[D+1]?=some (.loop { rec .ready none with state:=.busy }):=World.putObj_heap_same hlWa
    have hkb2:(Wa.putObj (D+1) (.loop { rec .ready none with state:=.busy })).heap[D]?=some (.deferred (some [])):=(World.putObj_heap_other (by omega)).trans hka2
    have hJ2:=hq _ rfl hkb a1 _ ⟨Fa,loca,Rb⟩
    refine wpIn_mono (wpIn_any hJ2) ?_
    rintro e a2 Wc ⟨s2,hq2,Fc,locc,Rc⟩
    have hlc:Wc.heap[D+1]?=some (.loop { rec .ready none with state:=.busy }):=(Rc.below.block (D+1) (by rw [World.putObj_size];exact hlWa) (hnl Rb hlb rfl)).trans hlb
    have hkc:Wc.heap[D]?=some (.deferred (some [])):=(Rc.below.block D (by rw [World.putObj_size];omega) (hnl Rb hkb2 rfl)).trans hkb2
    have hsb:(Wa.putObj (D+1) (.loop { rec .ready none with state:=.busy })).heap.size=Wa.heap.size:=World.putObj_size
    have hWWa:W.heap.size≤Wa.heap.size:=Ra.below.size
    have hWaWc:Wa.heap.size≤Wc.heap.size:=by have:=Rc.below.size;rw [hsb] at this;exact this
    have nL1:∀b,Live s1 loca b→Live ⟨T,H i⟩ loc b∨W.heap.size≤b:=fun b ⟨r,q,hr,e⟩=>by
     rcases Ra.new r q hr with h|h
     ·exact .inr (by rw [←e];exact h)
     ·exact .inl (by rw [←e];exact h)
    have nL2:∀b,Live s2 locc b→Live ⟨T,H i⟩ loc b∨W.heap.size≤b:=fun b ⟨r,q,hr,e⟩=>by
     rcases Rc.new r q hr with h|h
     ·refine .inr ?_
      rw [←e]
      have h':Wa.heap.size≤(locc r).1:=by rw [←hsb];exact h
      omega
     ·exact nL1 b (by rw [←e];exact h)
    have fFc:∀b,Fc b→F b∨Live ⟨T,H i⟩ loc b∨W.heap.size≤b:=fun b h=>by
     rcases Rc.hN b h with h|h|h
     ·exact Ra.hN b h
     ·exact .inr (nL1 b h)
     ·refine .inr (.inr ?_)
      have h':Wa.heap.size≤b:=by rw [←hsb];exact h
      omega
    have hFFc:∀b,F b→Fc b:=fun b h=>Rc.hG b (Ra.hG b h)
    have hnlD:¬Live ⟨T,H i⟩ loc (D+1):=hnl R hl rfl
    have hFcl:¬Fc (D+1):=fun h=>by
     rcases fFc _ h with h|h|h
     ·exact hFl h
     ·exact hnlD h
     ·omega
    have leave:∀(st:LoopState) (pe:Option Code) (H':AH),Weak s2 ⟨T,H'⟩→∃loc',RelF X Fc loc' ⟨T,H'⟩ a (Wc.putObj (D+1) (.loop (rec st pe))):=fun st pe H' hwk=>by
     have R3:=Rc.poke (o:=.loop (rec st pe)) hlc rfl (fun _ _ h=>by cases h) rfl
     obtain ⟨loc3,R4⟩:=R3.weak hwk
     refine ⟨loc3,R.leave (l:=D+1) (by omega) hFl ⟨?_,?_,?_,?_,fun k hk1 hno=>?_⟩ hFFc fFc nL2 ?_ R4 hT hTlen⟩
     ·exact Rc.below.os.trans Ra.below.os
     ·exact Rc.below.tape.trans Ra.below.tape
     ·exact Rc.below.output.trans Ra.below.output
     ·rw [World.putObj_size];omega
     ·have hne:k≠D+1:=fun e=>hno (.inr (.inr e))
      have h1:¬Live s1 loca k:=fun h=>by
       rcases nL1 k h with h|h
       ·exact hno (.inl h)
       ·exact hno (.inr (.inl h))
      rw [World.putObj_heap_other hne,Rc.below.block k (show k<_ by rw [hsb];omega) h1,World.putObj_heap_other hne]
      exact Ra.below.block k hk1 fun h=>hno (.inl h)
     ·rw [World.putObj_size];omega
    have hlWc:D+1<Wc.heap.size:=by omega
    have fin:∀(jump:Option Code),(Instr.endRound (D+1) jump).run P Wc=.ok (.bool jump.isNone) (Wc.putObj (D+1) (.loop (rec (if jump.isNone then .ready else .done) jump))):=fun jump=>by
     have:=run_endRound (P:=P) jump hlc
     rw [hrec] at this ⊢
     exact this
    cases e with
    | normal =>
     obtain ⟨loc',R5⟩:=leave .ready none _ hq2
     have blk:∀b,F b→(Wc.putObj (D+1) (.loop (rec .ready none))).heap[b]?=W.heap[b]?:=fun b hf=>by
      have hbl:=R.hF b hf
      have hnv:¬Live ⟨T,H i⟩ loc b:=fun ⟨r,o,h,e⟩=>R.nF r o h (e▸hf)
      have hne:b≠D+1:=fun e=>hFl (e▸hf)
      have h1:¬Live s1 loca b:=fun h=>by
       rcases nL1 b h with h|h
       ·exact hnv h
       ·omega
      rw [World.putObj_heap_other hne,Rc.below.block b (show b<_ by rw [hsb];omega) h1,World.putObj_heap_other hne]
      exact Ra.below.block b hbl hnv
     exact ⟨_,_,fin none,.inl ⟨rfl,Fc,loc',R5,⟨hFFc D hFD,hFcl⟩,World.putObj_heap_same hlWc,(World.putObj_heap_other (by omega)).trans hkc,fun b hb=>⟨hFFc b (hpr b hb).1,(blk b (hpr b hb).1).trans (hpr b hb).2⟩⟩⟩
    | ret =>
     obtain ⟨H',hwk,hqr⟩:=hq2
     obtain ⟨loc',R5⟩:=leave .done (some .ret) _ hwk
     exact ⟨_,_,fin (some .ret),.inr ⟨rfl,Fc,loc',H',R5,⟨hFFc D hFD,hFcl⟩,hqr,World.putObj_heap_same hlWc,(World.putObj_heap_other (by omega)).trans hkc⟩⟩
    | exit id=>exact hq2.elim
    | goto t=>exact hq2.elim
    | panic ch=>exact hq2.elim
    | outgrown=>exact hq2.elim
   | exit id=>exact hq.elim
   | goto t=>exact hq.elim
   | ret=>exact hq.elim
   | panic ch=>exact hq.elim
   | outgrown=>exact hq.elim
  ·rintro e W2 ⟨⟨v,rfl⟩,⟨F,loc,R,⟨hFD,hFl⟩,hl,hk,_⟩|⟨F,loc,H',R,⟨hFD,hFl⟩,hq,hl,hk⟩⟩
   ·have he:=run_endLoop (P:=P) hl (by rw [hrec];simp)
    rw [hrec] at he
    exact ⟨none,_,he,_,hQ,F,loc,R.marked (l:=D+1) hl rfl (by omega) hFl hk hFD hDX (by omega) (fun d hd e=>by
     obtain ⟨D',e',hf',_,_⟩:=R0.defers.1.1 d hd
     rw [e'] at e
     have hDD:D'=D:=by injection e with e1 _;injection e1
     have:=R0.hF _ hf'
     omega) hrd⟩
   ·have he:=run_endLoop (P:=P) hl (by rw [hrec];simp)
    rw [hrec] at he
    refine ⟨some .ret,_,he,wpIn_ret ⟨_,hq,F,loc,R.marked (l:=D+1) hl rfl (by omega) hFl hk hFD hDX (by omega) (fun d hd e=>?_) hrd⟩⟩
    obtain ⟨D',e',hf',_,_⟩:=R0.defers.1.1 d hd
    rw [e'] at e
    have hDD:D'=D:=by injection e with e1 _;injection e1
    have:=R0.hF _ hf'
    omega
theorem J_rangeFW (hrd:X.rd=none) (ws:List Nat) (hp:Nat→AH) {g:Operand} {p:Tmp} {assign body:Code} {Q:Exit→AS→Prop} {gf:FuncId} {cs:List FV} {xs:List FV} {t:List AV} {H:AH}
  (hg:AS.ev ⟨t,H⟩ g=.f (.fn gf [] cs)) (hit:IterF P gf cs xs) (hok:enterOk P gf=true) (hw:Weak ⟨t,H⟩ ⟨msk ws t,hp 0⟩) (hpw:kpOf ws p=false) (hka:okC (kpOf ws) assign=true) (hkb:okC (kpOf ws) body=true)
  (round:∀(i:Nat) x,xs[i]?=some x→∀X1:Cx,X1.kp=kpOf ws→∀K:AS→Prop,Kont K (fun s'=>∀X2:Cx,X2.kp=kpOf ws→J X2 P body (rpost (msk ws t) (hp (i+1)) (Q .ret)) s')→J X1 P assign (athen K fun _ _=>False) ⟨(msk ws t).set p (.f x),hp i⟩)
  (hQ:Q .normal ⟨msk ws t,hp xs.length⟩):J X P (.rangeFunc g #[p] assign body) Q ⟨t,H⟩ :=
 J_rangeF hrd (msk ws t) hp hg hit hok hw (msk_get ws t) hpw hka hkb round hQ
end
end Go.Proofs.YthehegidpamldaaGreatDoor
set_option linter.unusedVariables false
set_option linter.unusedSimpArgs false
namespace Go.Proofs.YthehegidpamldaaGreatDoor
open Go Go.RowKit
theorem flatF_piece {sz:Nat} {es:List FV} (hu:UniF sz es) (i n:Nat):flatF ((es.drop i).take n)=((flatF es).drop (i*sz)).take (n*sz):=by
 have h1:=flat_take ((uni_f.2 hu).drop i) n
 rw [flat_drop (uni_f.2 hu),←List.map_drop,←List.map_take,flat_f,flat_f,←List.map_drop,←List.map_take] at h1
 exact (List.map_inj_right (fun x y h=>by injection h)).1 h1
theorem RepF.piece {w:World} {F:Nat→Prop} {sz b off:Nat} {es:List FV} (hF:F b) (hu:UniF sz es) (g:Nat→Value) (hg:∀(j:Nat) c,(flatF es)[j]?=some c→w.cell? ⟨b,off+j,none⟩=some (g j)) (hc:∀(j:Nat) c,(flatF es)[j]?=some c→RepF w F c (g j)) (i n c:Nat) (hin:i+n≤es.length) (hnc:n≤c) (hcm:c≤maxLen) :
  RepF w F (.fz sz ((es.drop i).take n)) (.slice (some ⟨b,off+i*sz,none⟩) n c):=by
 have hlen:((es.drop i).take n).length=n:=by rw [List.length_take,List.length_drop];omega
 have hat:∀(j:Nat) d,(flatF ((es.drop i).take n))[j]?=some d→(flatF es)[i*sz+j]?=some d:=fun j d hj=>by
  rw [flatF_piece hu,List.getElem?_take] at hj
  split at hj
  ·rwa [List.getElem?_drop] at hj
  ·cases hj
 have:=RepF.fz (w:=w) (F:=F) sz ((es.drop i).take n) b (off+i*sz) c hF (by omega) hcm (fun e he=>hu e (List.mem_of_mem_drop (List.mem_of_mem_take he))) (fun j=>g (i*sz+j)) (fun j d hj=>by
  have:=hg _ d (hat j d hj)
  rw [Nat.add_assoc];exact this) fun j d hj=>hc _ d (hat j d hj)
 rw [hlen] at this
 exact this
end Go.Proofs.YthehegidpamldaaGreatDoor
set_option linter.unusedVariables false
set_option linter.unusedSimpArgs false
namespace Go.Proofs.YthehegidpamldaaGreatDoor
open Go Go.RowKit
set_option maxRecDepth 100000 in
theorem chunk_w (l:List FV) {n:Nat} (hn:1≤n):Good Tryz.prog 93 [.fz 3 l,I (n:Int)] (.fn 133 [] [.fp (.fz 3 l) 0,.fp (I (n:Int)) 0]):=by
 have h1:¬(n:Int)<1:=by omega
 refine good_of Tryz.func93 rfl (by kernel_rfl) fun X hO hrd=>?_;rw [Tryz.ntmps93,Tryz.results93];simp only [ast0,List.map_cons,List.map_nil,List.length_cons,List.length_nil,Nat.reduceAdd,Nat.reduceSub,List.replicate_succ,List.replicate_zero,List.cons_append,List.nil_append]
 (repeat (with_reducible first|refine W_seq fun K hK=>?_|refine J_skip ?_|refine J_ret ?_|refine J_region ?_ |refine J_c ?_|refine Jc_false ?_|(refine Kont.go (by assumption) ?_)|(simp (config:={ maxSteps:=3000000 }) (disch:=omega) only [go_sem,↓reduceIte,h1])))
 exact Frz.fn _ _ _ _ _ rfl (fun j c d h=>by simp at h) rfl fun j cc d h h'=>by
  match j with
  | 0=>cases h;cases h';exact Frz.ptr0 rfl rfl
  | 1=>cases h;cases h';exact Frz.ptr0 rfl rfl
  | j+2=>simp at h
def chkL (l:List FV) (n:Nat):List FV:=(List.range (l.length/n)).map fun i=>.fz 3 ((l.drop (i*n)).take n)
theorem chkL_len {l:List FV} {n:Nat}:(chkL l n).length=l.length/n:=by simp [chkL]
theorem chkL_get {l:List FV} {n i:Nat} (h:i<l.length/n):(chkL l n)[i]?=some (.fz 3 ((l.drop (i*n)).take n)):=by simp [chkL,h]
theorem chk_box {w:World} {G:Nat→Prop} {l:List FV} {n:Int} {us:Array Value} (h:RepFL w G [.fp (.fz 3 l) 0,.fp (I n) 0] us):∃b off y b' off',us=#[.pointer (some ⟨b,off,none⟩),.pointer (some ⟨b',off',none⟩)]∧G b∧G b'∧w.cell? ⟨b,off,none⟩=some y∧w.cell? ⟨b',off',none⟩=some (.int .i64 n)∧RepF w G (.fz 3 l) y:=by
 obtain ⟨hl,hr⟩:=h
 have h1:us.size=2:=hl.symm
 have h0:=hr 0 _ rfl
 have h2:=hr 1 _ rfl
 obtain ⟨u,v,rfl⟩:∃u v,us=#[u,v]:=by
  match us,h1 with
  | ⟨[u,v]⟩,_=>exact ⟨u,v,rfl⟩
 replace h0:RepF w G (.fp (.fz 3 l) 0) u:=h0
 replace h2:RepF w G (.fp (I n) 0) v:=h2
 cases h0 with
 | fp _ _ b off hF g hg hc =>
  cases h2 with
  | fp _ _ b' off' hF' g' hg' hc' =>
   have e1:=hg' 0 _ rfl
   have e2:=hc' 0 _ rfl
   generalize g' 0=q at e1 e2
   cases e2
   exact ⟨b,off,g 0,b',off',rfl,hF,hF',hg 0 _ rfl,e1,hc 0 _ rfl⟩
set_option maxRecDepth 100000 in
set_option maxHeartbeats 4000000 in
theorem chunk_iter (l:List FV) {n m:Nat} (hn:1≤n) (hlm:l.length=m*n) (hl:l.length≤1000000):IterF Tryz.prog 133 [.fp (.fz 3 l) 0,.fp (I (n:Int)) 0] (chkL l n):=by
 intro lo J Jx W G us hus hT hD h0 hY
 obtain ⟨b,off,y,b',off',rfl,hGb,hGb',hcell,hcell',hrep⟩:=chk_box hus
 have hcb:∀i W1,J i W1→W1.cell? ⟨b,off,none⟩=some y:=fun i W1 h=>by rw [cell_of_block ((hT i W1 h).2 b hGb)];exact hcell
 have hcb':∀i W1,J i W1→W1.cell? ⟨b',off',none⟩=some (.int .i64 n):=fun i W1 h=>by rw [cell_of_block ((hT i W1 h).2 b' hGb')];exact hcell'
 have hlen:(chkL l n).length=m:=by rw [chkL_len,hlm,Nat.mul_div_cancel _ (by omega)]
 refine callsIn_of_wp Tryz.func133 rfl trivial ?_ rfl
 have hcb0:=hcb 0 W h0
 cases hrep with
 | fz0 _ a cap hm =>
  simp only [Tryz.ntmps133,List.size_toArray,List.length_cons,List.length_nil,Nat.reduceAdd,Nat.reduceSub,Array.replicate_succ,Array.replicate_zero,List.push_toArray,List.append_toArray,List.nil_append,List.cons_append]
  gi_wp2
  gi_loopw [4] (fun i wr=>i=.int .i64 0∧J 0 wr) (fun _ _=>0)
  case atStart=>exact ⟨rfl,h0⟩
  case round =>
   obtain ⟨rfl,hJs⟩:=hrel
   have hcbk:=hcb 0 _ hJs
   gi_wp2
   go_end0
   exact ⟨⟨_,rfl⟩,.inl (by rw [show (chkL [] n).length=0 by simp [chkL]];exact hJs)⟩
 | fz _ _ b2 off2 cap hF hnc hmc hu g hg hc =>
  simp only [Tryz.ntmps133,List.size_toArray,List.length_cons,List.length_nil,Nat.reduceAdd,Nat.reduceSub,Array.replicate_succ,Array.replicate_zero,List.push_toArray,List.append_toArray,List.nil_append,List.cons_append]
  gi_wp2
  gi_loopw [4] (fun q wr=>∃(k:Nat),q=.int .i64 ((k*n:Nat):Int)∧k≤m∧J k wr) (fun q _=>(l.length-(intOf q).toNat))
  case atStart=>exact ⟨0,by rw [Nat.zero_mul];rfl,by omega,h0⟩
  case round =>
   obtain ⟨k,rfl,hkm,hJs⟩:=hrel
   have hcbk:=hcb k wr hJs
   have hcbk':=hcb' k wr hJs
   by_cases hk:k<m
   ·have hxs:=chkL_get (l:=l) (n:=n) (i:=k) (by rw [hlm,Nat.mul_div_cancel _ (by omega)];exact hk)
    have hkn:k*n+n≤l.length:=by rw [hlm];have:=Nat.mul_le_mul_right n (show k+1≤m by omega);rw [Nat.succ_mul] at this;exact this
    have hmin:min (n:Int) ((m*n-k*n:Nat):Int)=n:=by omega
    have hend:((k*n:Nat)+n:Int).toNat-k*n=n:=by omega
    have hqm:k*n<m*n:=Nat.mul_lt_mul_of_pos_right hk (by omega)
    generalize hq:k*n=q at *
    gi_wp2
    gi_region
    have hJd:=hD k wr hJs
    have hwd:∀bb,G bb→wr.drew.heap[bb]?=W.heap[bb]?:=(hT k _ hJd).2
    obtain ⟨fn,tmps,assign,body,hy,hR⟩:=hY k _ wr.drew (.slice (some ⟨b2,off2+q*3,none⟩) n n) hxs hJd (RepF.piece (w:=wr.drew) hF hu g (fun j c hj=>by rw [cell_of_block (hwd b2 hF)];exact hg j c hj) (fun j c hj=>(hc j c hj).mono (fun _ h=>h) fun bb o u hf hcc=>by rw [cell_of_block (hwd bb hf)];exact hcc) q n n hkn (Nat.le_refl _) (by unfold maxLen;omega))
    have hcbd:=hcb k _ hJd
    have hcbd':=hcb' k _ hJd
    have H:Hid (q+n=(k+1)*n∧q+n≤m*n):=⟨by rw [Nat.succ_mul,hq],by rw [←hlm];exact hkn⟩
    clear hY hJd hwd hxs hkn hqm hcell hcell' hcb0 hcbk hcbk' hg hc hT
    gi_wp2
    refine hR.mono ?_
    rintro e W3 (⟨rfl,hJ3⟩|⟨rfl,hJx3⟩)
    ·have hcb3:=hcb _ _ hJ3
     have hcb3':=hcb' _ _ hJ3
     have hH:=H.out
     gi_wp2
     go_roundw
     case rel=>exact ⟨k+1,by rw [←hH.1];simp,by omega,hJ3⟩
     case measure=>simp [intOf];omega
    ·gi_wp2
     refine bodyPost_ret (results_none rfl _ _ _) rfl ?_
     exact ⟨⟨_,rfl⟩,.inr hJx3⟩
   ·obtain rfl:k=m:=by omega
    gi_wp2
    go_end0
    exact ⟨⟨_,rfl⟩,.inl (by rw [hlen];exact hJs)⟩
end Go.Proofs.YthehegidpamldaaGreatDoor
set_option linter.unusedVariables false
set_option linter.unusedSimpArgs false
namespace Go.Proofs.YthehegidpamldaaGreatDoor
open Go Go.RowKit
def badO:AO:=⟨0,1,[.tup []]⟩
def rpostP (T:List AV) (H:AH) (I:Prop) (Qr:AS→Prop):Exit→AS→Prop
 | .normal,s=>Weak s ⟨T,H⟩∧I
 | .ret,s=>∃H',Weak s ⟨T,H'⟩∧Qr ⟨T,H'⟩
 | _,_=>False
section
variable {P : Program} {X : Cx} {s : AS}
theorem J_bad {c:Code} {Q:Exit→AS→Prop} (h:s.H[0]?=some (some badO)):J X P c Q s:=fun hk a w ⟨F,loc,R⟩=>by
 obtain ⟨hu,_⟩:=R.obj 0 _ h
 have:=(hu (.tup []) (List.mem_singleton.2 rfl)).2
 cases this
open Classical in
theorem J_rangeFP (hrd:X.rd=none) (ws:List Nat) (hp:Nat→AH) (I:Nat→Prop) {g:Operand} {p:Tmp} {assign body:Code} {Q:Exit→AS→Prop} {gf:FuncId} {cs:List FV} {xs:List FV} {t:List AV} {H:AH} (h0:I 0)
  (hg:AS.ev ⟨t,H⟩ g=.f (.fn gf [] cs)) (hit:IterF P gf cs xs) (hok:enterOk P gf=true) (hw:Weak ⟨t,H⟩ ⟨msk ws t,hp 0⟩) (hpw:kpOf ws p=false) (hka:okC (kpOf ws) assign=true) (hkb:okC (kpOf ws) body=true)
  (hQb:∀s,s.H[0]?=some (some badO)→Q .normal s)
  (round:∀(i:Nat) x,xs[i]?=some x→I i→∀X1:Cx,X1.kp=kpOf ws→∀K:AS→Prop,Kont K (fun s'=>∀X2:Cx,X2.kp=kpOf ws→J X2 P body (rpostP (msk ws t) (hp (i+1)) (I (i+1)) (Q .ret)) s')→J X1 P assign (athen K fun _ _=>False) ⟨(msk ws t).set p (.f x),hp i⟩)
  (hQ:I xs.length→Q .normal ⟨msk ws t,hp xs.length⟩):J X P (.rangeFunc g #[p] assign body) Q ⟨t,H⟩:=by
 refine J_rangeFW hrd ws (fun i=>if I i then hp i else [some badO]) hg hit hok (by rw [if_pos h0];exact hw) hpw hka hkb (fun i x hx X1 hX1 K hK=>?_) ?_
 ·by_cases hi:I i
  ·rw [if_pos hi]
   refine round i x hx hi X1 hX1 K fun s' hs'=>hK s' fun X2 hX2=>J_mono (hs' X2 hX2) fun e s hq=>?_
   cases e with
   | normal =>
    obtain ⟨h1,h2⟩:=hq
    show Weak s ⟨_,_⟩
    rw [if_pos h2];exact h1
   | ret=>exact hq
   | _=>exact hq
  ·rw [if_neg hi]
   exact J_bad rfl
 ·by_cases hi:I xs.length
  ·rw [if_pos hi];exact hQ hi
  ·rw [if_neg hi];exact hQb _ rfl
end
end Go.Proofs.YthehegidpamldaaGreatDoor
set_option linter.unusedVariables false
set_option linter.unusedSimpArgs false
namespace Go.Proofs.YthehegidpamldaaGreatDoor
open Go Go.RowKit
set_option maxRecDepth 100000 in
set_option maxHeartbeats 4000000 in
theorem rows_w {V:List VarD} {PP RR xs:List FV} {pa:List Nat} {qs:List Rat} {k v:Nat} (hV:V.length≤1000000) (hT:OkT (szN V) pa) (hv:v<V.length) (hp:PP[v]?=some (.fz 1 (Ns pa))) (hr:RR[v]?=some (.fz 3 xs)) (hq:Frs k xs qs) (h1:1≤k) (hk:k≤10000000) (hn:qs.length≤1000000) :
  Good Tryz.prog 52 [netV V PP RR,I (v:Int)] (I (rowQ (szN V) pa (szT (szN V) v) qs)):=by
 have hc:=hT.cnt
 have hlen:=hq.len
 have hvs:v<(szN V).length:=by rw [szN_len];exact hv
 have hs4:=hT.sz4 hvs
 have hs1:=hT.szp hvs
 have hsg:(Ns (szN V))[v]?=some (I ((szT (szN V) v:Nat):Int)):=by unfold szT;exact Ns_get (by exact hvs)
 generalize hS:szT (szN V) v=S at *
 generalize hC:cntS (szT (szN V)) pa=C at *
 have hCS:C*S≤65536*4:=Nat.mul_le_mul hc hs4
 have hw:IntKind.i64.wrap ((C:Int)*(S:Int))=((C*S:Nat):Int):=by rw [IntKind.wrap_i64,←Int.natCast_mul];omega
 refine good_of Tryz.func52 rfl (by kernel_rfl) fun X hO hrd=>?_;rw [Tryz.ntmps52,Tryz.results52];simp only [ast0,List.map_cons,List.map_nil,List.length_cons,List.length_nil,Nat.reduceAdd,Nat.reduceSub,List.replicate_succ,List.replicate_zero,List.cons_append,List.nil_append]
 (repeat (with_reducible first|refine W_seq fun K hK=>?_|refine J_region ?_ |(refine Kont.go (by assumption) ?_)|(simp (config:={ maxSteps:=3000000 }) (disch:=omega) only [go_sem,↓reduceIte,Nat.reduceAdd])))
 (first|refine call_f (sizes_w V PP RR hV) rfl ?_|refine callQ_f (sizes_w V PP RR hV) rfl ?_|refine callHK_f (sizes_w V PP RR hV) rfl ?_|refine callH_f (sizes_w V PP RR hV) rfl ?_)
 (repeat (with_reducible first|refine W_seq fun K hK=>?_|refine J_region ?_ |(refine Kont.go (by assumption) ?_)|(simp (config:={ maxSteps:=3000000 }) (disch:=omega) only [go_sem,↓reduceIte,hp])))
 (first|refine call_f (tcountT_w hT) rfl ?_|refine callQ_f (tcountT_w hT) rfl ?_|refine callHK_f (tcountT_w hT) rfl ?_|refine callH_f (tcountT_w hT) rfl ?_)
 by_cases hl:qs.length=C*S
 ·have hd:decide ((qs.length:Int)=((C*S:Nat):Int))=true:=decide_eq_true (by omega)
  have hx:xs.length=C*S:=by rw [hlen];exact hl
  have hchl:(chkL xs S).length=C:=by rw [chkL_len,hx,Nat.mul_div_cancel _ (by omega)]
  have hit:=chunk_iter xs hs1 hx (by omega)
  have hxc:=chunk_w xs hs1
  (repeat (with_reducible first|refine W_seq fun K hK=>?_|refine J_skip ?_|refine J_drawn mixed (by kernel_rfl) ?_|refine J_c ?_|refine Jc_false ?_|(refine Kont.go (by assumption) ?_)|(simp (config:={ maxSteps:=3000000 }) (disch:=omega) only [go_sem,↓reduceIte,hr,hsg,hlen,hC,hw,hd])))
  (first|refine call_f (hxc) rfl ?_|refine callQ_f (hxc) rfl ?_|refine callHK_f (hxc) rfl ?_|refine callH_f (hxc) rfl ?_)
  (repeat (with_reducible first|refine J_block ?_|(refine Kont.go (by assumption) ?_)))
  refine J_rangeFP hrd [8,44,45,46,47] (fun i=>[oNt (V.map varF) PP RR,some ⟨28,1,[.f (I 0)]⟩]) (fun i=>∀j,j<i→chancesB (rwQ qs S j)=true) (fun j h=>by omega) rfl (hit) (by kernel_rfl) (by refine weak_of ?_ ?_<;>simp (disch:=omega) only [go_sem,Nat.reduceAdd]<;>first|rfl|exact ⟨rfl,rfl⟩|trivial|((repeat' apply And.intro)<;>first|rfl|trivial|exact .inl rfl|exact .inr ⟨rfl,rfl⟩|exact .inr rfl)) (by decide) (by kernel_rfl) (by kernel_rfl) (fun s h=>by simp only [go_sem];exact Kont.go (by assumption) (J_bad h)) ?_ ?_
  ·rintro i y hy hI X1 hX1 K hK
   have hic:i<C:=by have:=(List.getElem?_eq_some_iff.1 hy).1;rwa [hchl] at this
   rw [chkL_get (by rw [hx,Nat.mul_div_cancel _ (by omega)];exact hic)] at hy
   cases hy
   have hch:=chances_w (hq.piece (i*S) S) h1 (by rw [List.length_take];omega) hk
   simp only [go_sem]
   (repeat (with_reducible first|refine J_region ?_ |(refine Kont.go (by assumption) ?_)|(simp (config:={ maxSteps:=3000000 }) (disch:=omega) only [go_sem])))
   intro X2 hX2
   (repeat (with_reducible first|refine W_seq fun K hK=>?_|refine J_block ?_|refine J_region ?_ |(simp (config:={ maxSteps:=3000000 }) (disch:=omega) only [go_sem])))
   (first|refine call_f (hch) rfl ?_|refine callQ_f (hch) rfl ?_|refine callHK_f (hch) rfl ?_|refine callH_f (hch) rfl ?_)
   cases hb:chancesB (rwQ qs S i) with
   | true =>
    have hb':chancesB ((qs.drop (i*S)).take S)=true:=hb
    (repeat (with_reducible first|refine J_skip ?_|refine J_c ?_|refine Jc_false ?_|(refine Kont.go (by assumption) ?_)|(simp (config:={ maxSteps:=3000000 }) (disch:=omega) only [go_sem,hb'])))
    refine ⟨weak_of ?_ ?_,upto_next (p:=fun j=>chancesB (rwQ qs S j)=true) hI hb⟩<;>(try simp (disch:=omega) only [go_sem,Nat.reduceAdd])<;>(try first|done|omega|rfl|exact ⟨rfl,rfl⟩|trivial)
   | false =>
    have hb':chancesB ((qs.drop (i*S)).take S)=false:=hb
    have e:rowQ (szN V) pa S qs=9:=by
     unfold rowQ;rw [hC,if_pos hl,if_neg]
     intro h
     have:=List.all_eq_true.1 h i (List.mem_range.2 hic)
     rw [hb] at this;cases this
    (repeat (with_reducible first|refine W_seq fun K hK=>?_|refine J_ret ?_|refine J_region ?_ |refine J_c ?_|refine Jc_true ?_|(refine Kont.go (by assumption) ?_)|(simp (config:={ maxSteps:=3000000 }) (disch:=omega) only [go_sem,↓reduceIte,hb'])))
    refine ⟨[oNt (V.map varF) PP RR,some ⟨28,1,[.f (I 9)]⟩],weak_of ?_ ?_,?_⟩<;>(try simp (disch:=omega) only [go_sem,Nat.reduceAdd])<;>(try first|done|omega|rfl|exact ⟨rfl,rfl⟩|trivial)
    (skip)
    rw [e];exact Frz.f _
  ·rw [hchl]
   intro hI
   have e:rowQ (szN V) pa S qs=0:=by
    unfold rowQ;rw [hC,if_pos hl,if_pos]
    exact List.all_eq_true.2 fun j hj=>hI j (List.mem_range.1 hj)
   (repeat (with_reducible first|refine W_seq fun K hK=>?_|refine J_ret ?_|refine J_region ?_ |(refine Kont.go (by assumption) ?_)|(simp (config:={ maxSteps:=3000000 }) (disch:=omega) only [go_sem,↓reduceIte])))
   rw [e];exact Frz.f _
 ·have hd:decide ((qs.length:Int)=((C*S:Nat):Int))=false:=decide_eq_false (by omega)
  have e:rowQ (szN V) pa S qs=8:=by unfold rowQ;rw [hC,if_neg hl]
  (repeat (with_reducible first|refine W_seq fun K hK=>?_|refine J_ret ?_|refine J_region ?_ |refine J_drawn mixed (by kernel_rfl) ?_|refine J_c ?_|refine Jc_true ?_|(refine Kont.go (by assumption) ?_)|(simp (config:={ maxSteps:=3000000 }) (disch:=omega) only [go_sem,↓reduceIte,hr,hsg,hlen,hC,hw,hd])))
  rw [e];exact Frz.f _
end Go.Proofs.YthehegidpamldaaGreatDoor
