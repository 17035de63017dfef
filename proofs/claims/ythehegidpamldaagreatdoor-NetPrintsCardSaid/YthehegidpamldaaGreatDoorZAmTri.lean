/- Joined: AmI AmJ AmK AmL. Conditions: as said at each part. -/
import Derived.Test.YthehegidpamldaaGreatDoorZAmTwo
import Derived.CallsIn
import Derived.ControlIn
import Derived.OrdersIn
import Derived.OwnWalkIn
import Derived.RangeFuncLeaves
import Derived.Lib.SliceRun
import Derived.Sort.Row
set_option linter.unusedVariables false
set_option linter.unusedSimpArgs false
namespace Go.Proofs.YthehegidpamldaaGreatDoor
section
open Go Go.RowKit

def CallU (P:Program) (f:FuncId) (xs:List AV) (H:AH) (O:AV→AH→Prop):Prop :=
 enterOk P f=true∧∀(X:Cx) (w:World) (F:Nat→Prop) (loc:Nat→Nat × Nat) (t:List AV) (a:Act) (ys:Array Value),RelF X F loc ⟨t,H⟩ a w →
  (xs.length=ys.size∧∀(j:Nat) x,xs[j]?=some x→Rep w F loc H.length x (ys.getD j undef)) →
  Calls P f ys w fun e w'=>∃y F' loc' v H',O v H'∧e=.returned y∧RelF X F' loc' ⟨t,H'⟩ a w'∧Rep w' F' loc' H'.length v y
def CallT (P:Program) (f:FuncId) (xs:List AV) (s:AS) (O:AV→AS→Prop):Prop :=
 enterOk P f=true∧∀(X:Cx) (w:World) (F:Nat→Prop) (loc:Nat→Nat × Nat) (a:Act) (ys:Array Value),RelF X F loc s a w →
  (xs.length=ys.size∧∀(j:Nat) x,xs[j]?=some x→Rep w F loc s.H.length x (ys.getD j undef)) →
  Calls P f ys w fun e w'=>∃y F' loc' v s',O v s'∧e=.returned y∧RelF X F' loc' s' a w'∧Rep w' F' loc' s'.H.length v y
theorem CallU.t {P:Program} {f:FuncId} {xs:List AV} {H:AH} {O:AV→AH→Prop} (h:CallU P f xs H O) (t:List AV):CallT P f xs ⟨t,H⟩ (fun v s'=>∃H',s'=⟨t,H'⟩∧O v H') :=
 ⟨h.1,fun X w F loc a ys R hys=>(h.2 X w F loc t a ys R hys).mono fun e w' ⟨y,F',loc',v,H',ho,he,hR,hy⟩=>⟨y,F',loc',v,⟨t,H'⟩,⟨H',rfl,ho⟩,he,hR,hy⟩⟩
def acall (P:Program) (f:FuncId) (xs:List AV) (s:AS) (d:Option Tmp) (K:AS→Prop):Prop :=
 (∃zs r,FrzL s.H xs zs∧Good P f zs r∧Hal P f xs zs r∧K (s.put d (.f r))) ∨
 (∃zs r,FrzL s.H xs zs∧GoodO P f zs r∧K (AS.put ⟨s.t,s.H++r.hp⟩ d (r.av s.H.length))) ∨
 (∃zs r rs,FrzL s.H xs zs∧GoodOT P f zs r rs∧K (AS.put ⟨s.t,s.H++r.hp⟩ d (.tup (r.av s.H.length::rs.map .f)))) ∨
 (∃(zs:List AV) (H0:List AO) (g:Nat→Nat) (r:FV) (H':AH),zs.map (AV.ren g)=xs∧(∀z∈zs,z.lt0 H0.length=true)∧GoodM P f zs H0 r∧(∀i i',i<H0.length→i'<H0.length→g i=g i'→i=i') ∧
  (∀(i:Nat) o,H0[i]?=some o→s.H[g i]?=some (some ⟨o.e,o.sz,o.es.map (AV.ren g)⟩)∧∀e∈o.es,e.lt0 H0.length=true)∧H'.length=s.H.length ∧
  (∀(q:Nat) o,H'[q]?=some (some o)→s.H[q]?=some (some o)∧∀i,i<H0.length→g i≠q)∧K (AS.put ⟨s.t,H'⟩ d (.f r))) ∨
 (∃O,CallT P f xs s O∧∀v s',O v s'→K (s'.put d v))
def acallV (P:Program) (f:AV) (xs:List AV) (s:AS) (d:Option Tmp) (K:AS→Prop):Prop :=
 match f with
 | .f (.fn f a b)=>acall P f (a.map .f++xs++b.map .f) s d K
 | .fn f a b=>acall P f (a++xs++b) s d K
 | _=>False
def aClear (T:TI) (H:AH) (x:AV) (k:AH→Prop):Prop :=
 match x with
 | .own r sz off n=>T.size=1∧sz=1∧0<n∧∃z:Value,T.zero=some (.v z)∧z.cells=#[z]∧z.oneCell'=true∧∃o,H[r]?=some (some o)∧o.sz=1∧off+n≤o.es.length ∧
   k (H.set r (some ⟨o.e,1,o.es.take off++(List.replicate n (.f (.v z))++o.es.drop (off+n))⟩))
 | .f (.fz _ [])=>k H
 | _=>False
def aop (P:Program) (o:Oper) (K:AS→Prop) (s:AS):Prop :=
 match o.op with
 | .load t x=>match tI P t with|some T=>aload T s.H (s.ev x) fun v=>K (s.put o.dst v)|none=>False
 | .box t x=>match tI P t with|some T=>aBox t T s.H (s.ev x) fun v H=>K (AS.put ⟨s.t,H⟩ o.dst v)|none=>False
 | .alloc t=>match tI P t with|some T=>aAlloc t T s.H fun v H=>K (AS.put ⟨s.t,H⟩ o.dst v)|none=>False
 | .store t x y=>match tI P t with|some T=>aStore T s.H (s.ev x) (s.ev y) fun H=>K (AS.put ⟨s.t,H⟩ o.dst (.f (.v undef)))|none=>False
 | .makeSlice t n c=>match tS P t with|some T=>aMake T.1 T.2 s.H (s.ev n) (s.ev c) fun v H=>K (AS.put ⟨s.t,H⟩ o.dst v)|none=>False
 | .buildSlice t len ps=>match tS P t with|some T=>aBuildSlice T.1 T.2 s.H len (ps.toList.map fun p=>(p.1,s.ev p.2)) fun v H=>K (AS.put ⟨s.t,H⟩ o.dst v)|none=>False
 | .call { callee:=.builtin .append,args:=args,argTypes:=ts }=>match args.toList,ts.toList with
  | [x,y],[t,t']=>t=t'∧(match tS P t with|some T=>aApp T.1 T.2 s (s.ev x) (s.ev y) fun v s'=>K (s'.put o.dst v)|none=>False)
  | _,_=>False
 | .call { callee:=.builtin .clear,args:=args,argTypes:=ts }=>match args.toList,ts.toList with
  | [x],[t]=>(match tS P t with|some T=>aClear T.2 s.H (s.ev x) fun H=>K (AS.put ⟨s.t,H⟩ o.dst (.f (.v (.tuple #[]))))|none=>False)
  | _,_=>False
 | .call { callee:=.value f,args:=args,argTypes:=ts }=>acallV P (s.ev f) (args.toList.map s.ev) s o.dst K
 | op=>apure P op s.ev fun v=>K (s.put o.dst v)
def awant (ops:Array Oper) (o:Oper) (s:AS) (yes no:Prop):Prop :=
 match o.guard with
 | none=>yes
 | some (j,b)=>match (ops[j]?).bind (·.dst) with
  | some d=>match s.t[d]? with
   | some (.f (.v (.bool t)))=>if t=b then yes else no
   | some (.f (.v (.tuple _)))=>no
   | _=>False
  | none=>False
def aops (P:Program) (ops:Array Oper):List Oper→(AS→Prop)→AS→Prop
 | [],K,s=>K s
 | o::rest,K,s=>awant ops o s (aop P o (aops P ops rest K) s) (aops P ops rest K (s.put o.dst (.f (.v undef))))

section
variable {P : Program} {X : Cx} {w : World} {s : AS} {a : Act}
theorem goodOk {f:FuncId} (h:enterOk P f=true) (args:Array Value) (w:World):(callFunc f args).run P w=.ok (.enter f args) w:=by
 unfold enterOk at h
 cases hf:P.funcs[f]? with
 | none=>rw [hf] at h;cases h
 | some fn =>
  rw [hf] at h
  simp only [Bool.and_eq_true,bne_iff_ne,ne_eq] at h
  obtain ⟨h1,h2⟩:=h
  simp [callFunc,hf,h1]
  intro h3;rw [h3] at h2;cases h2
theorem RelF.revive {X:Cx} {w:World} {F:Nat→Prop} {loc:Nat→Nat × Nat} {t:List AV} {a:Act} {H:AH} {q:Nat} {o:AO} (R:RelF X F loc ⟨t,H.set q none⟩ a w) (hq:q<H.length) (hn:X.w0.heap.size≤(loc q).1∨X.O (loc q).1) (hF:¬F (loc q).1)
  (hl:∀(r:Nat) o',(H.set q none)[r]?=some (some o')→(loc r).1≠(loc q).1) (ho:ObjAt w F loc H.length q o):RelF X F loc ⟨t,H.set q (some o)⟩ a w:=by
 have hlen:(H.set q none).length=(H.set q (some o)).length:=by rw [List.length_set,List.length_set]
 have hob:∀(r:Nat) p,(H.set q (some o))[r]?=some (some p)→(r=q∧p=o)∨(r≠q∧(H.set q none)[r]?=some (some p)):=fun r p h=>by
  by_cases e:r=q
  ·subst e
   rw [List.getElem?_set_self hq] at h
   cases h;exact .inl ⟨rfl,rfl⟩
  ·rw [List.getElem?_set_ne (Ne.symm e)] at h
   exact .inr ⟨e,by rw [List.getElem?_set_ne (Ne.symm e)];exact h⟩
 refine ⟨R.hF,R.hG,R.hN,R.below,R.defers,R.len,fun j x h=>by have:=R.tmps j x h;rw [hlen] at this;exact this,fun r p h=>?_,fun r p h=>?_,fun r p h=>?_,fun r r' p p' h h' e=>?_⟩
 ·rcases hob r p h with ⟨rfl,rfl⟩|⟨_,h⟩
  ·rw [List.length_set];exact ho
  ·have:=R.obj r p h
   rw [hlen] at this;exact this
 ·rcases hob r p h with ⟨rfl,rfl⟩|⟨_,h⟩
  ·exact hn
  ·exact R.new r p h
 ·rcases hob r p h with ⟨rfl,rfl⟩|⟨_,h⟩
  ·exact hF
  ·exact R.nF r p h
 ·rcases hob r p h with ⟨rfl,rfl⟩|⟨_,h1⟩<;>rcases hob r' p' h' with ⟨rfl,rfl⟩|⟨_,h2⟩
  ·rfl
  ·exact absurd e.symm (hl r' p' h2)
  ·exact absurd e (hl r p h1)
  ·exact R.inj r r' p p' h1 h2 e
theorem setCells_map (blk:Nat):∀(vs:List Value) (o:Nat) (w:World),w.setCells blk o vs=Go.Sort.mapBlock w blk fun c=>(List.range vs.length).foldl (fun c j=>c.setIfInBounds (o+j) (vs.getD j undef)) c:=by
 intro vs
 induction vs with
 | nil=>intro o w;show w=_;exact (Go.Sort.mapBlock_id w blk _ fun c e fr _=>rfl).symm
 | cons v vs ih =>
  intro o w
  show (w.setCell ⟨blk,o,none⟩ v).setCells blk (o+1) vs=_
  rw [ih,Go.Sort.setCell_eq,Go.Sort.mapBlock_mapBlock]
  congr 1
  funext c
  rw [List.length_cons,List.range_succ_eq_map,List.foldl_cons,List.foldl_map]
  congr 1
  funext c j
  rw [show o+1+j=o+(j+1) by omega];rfl
theorem foldSet_get (z:Value) (o:Nat):∀(n:Nat) (c:Array Value),o+n≤c.size→∀j,((List.range n).foldl (fun c j=>c.setIfInBounds (o+j) ((List.replicate n z).getD j undef)) c)[j]?=if o≤j∧j<o+n then some z else c[j]?:=by
 intro n c hn
 suffices h:∀m,m≤n→((List.range m).foldl (fun c j=>c.setIfInBounds (o+j) ((List.replicate n z).getD j undef)) c).size=c.size∧∀j,((List.range m).foldl (fun c j=>c.setIfInBounds (o+j) ((List.replicate n z).getD j undef)) c)[j]?=if o≤j∧j<o+m then some z else c[j]? from (h n (Nat.le_refl _)).2
 intro m
 induction m with
 | zero=>intro _;exact ⟨rfl,fun j=>by rw [if_neg (by omega)];rfl⟩
 | succ m ih =>
  intro hm
  obtain ⟨h1,h2⟩:=ih (by omega)
  rw [List.range_succ,List.foldl_append]
  have hz:(List.replicate n z).getD m undef=z:=by rw [List.getD_eq_getElem?_getD,List.getElem?_replicate,if_pos (by omega)];rfl
  show ((Array.setIfInBounds _ (o+m) ((List.replicate n z).getD m undef))).size=_∧∀j,(Array.setIfInBounds _ (o+m) ((List.replicate n z).getD m undef))[j]?=_
  rw [hz]
  refine ⟨by rw [Array.size_setIfInBounds,h1],fun j=>?_⟩
  rw [Array.getElem?_setIfInBounds,h2 j]
  by_cases e:o+m=j
  ·subst e
   rw [if_pos rfl,if_pos (by rw [h1];omega),if_pos (by omega)]
  ·rw [if_neg e]
   by_cases e2:o≤j∧j<o+m
   ·rw [if_pos e2,if_pos (by omega)]
   ·rw [if_neg e2,if_neg (by omega)]
theorem foldSet_size (z:Value) (o n:Nat) (vs:List Value):∀(m:Nat) (c:Array Value),((List.range m).foldl (fun c j=>c.setIfInBounds (o+j) (vs.getD j undef)) c).size=c.size:=by
 intro m
 induction m with
 | zero=>intro c;rfl
 | succ m ih=>intro c;rw [List.range_succ,List.foldl_append];show (Array.setIfInBounds _ _ _).size=_;rw [Array.size_setIfInBounds,ih]
theorem clear_rel {F:Nat→Prop} {loc:Nat→Nat × Nat} (R:RelF X F loc s a w) {t ty:TypeId} {e:TypeId} {T:TI} (hT:tS P t=some (e,T)) {x:AV} {u:Value} (hx:Rep w F loc s.H.length x u) {k:AH→Prop} (h:aClear T s.H x k) :
  ∃H' w',k H'∧(Builtin.clear_ #[t] ty #[u]).run P w=.ok (.tuple #[]) w'∧RelF X F loc ⟨s.t,H'⟩ a w':=by
 obtain ⟨hu,hE⟩:=tS_elem hT
 unfold aClear at h
 split at h
 ·rename_i q sz off n
  obtain ⟨hs1,rfl,hn,z,hz,hzc,hz1,o,ho,hos,hle,hk⟩:=h
  cases hx with
  | own _ _ _ _ cap hr hkc hm hsz =>
   obtain ⟨huni,vs,hv,hvs,hc⟩:=R.obj q o ho
   have hqn:=R.new q o ho
   have hqF:=R.nF q o ho
   have hzv:∀w,(zeroValue e).run P w=.ok z w:=fun w=>by
    obtain ⟨zv,hzr,hze⟩:=tI_zero hE hz w
    have:zv=z:=by
     cases zv<;>first|(cases hze;done)|(injection hze with h;exact h.symm)
    rw [←this];exact hzr
   have hfl:(flat o.es).length=o.es.length:=by rw [flat_len huni,hos,Nat.mul_one]
   have hblk:(loc q).1<w.heap.size:=(Array.getElem?_eq_some_iff.1 hv).1
   have hcs:off*1+n≤vs.size:=by rw [hvs,hsz];omega
   have hrun:=Go.Lib.run_clear_slice (P:=P) w t e ty z hu hzv hzc hz1 (loc q).1 (off*1) n cap hn (fun j hj=>by
    have hjv:off*1+j<vs.size:=by omega
    simp [World.cell?,hv];omega) (fun j hj=>by simp [World.frozen?,hv])
   refine ⟨_,_,hk,hrun,?_⟩
   rw [setCells_map,List.length_replicate]
   obtain ⟨fn,hfn⟩:∃fn:Array Value→Array Value,fn=fun c=>(List.range n).foldl (fun c j=>c.setIfInBounds (off*1+j) ((List.replicate n z).getD j undef)) c:=⟨_,rfl⟩
   rw [←hfn]
   have hheap:(Go.Sort.mapBlock w (loc q).1 fn).heap[(loc q).1]?=some (.cells (fn vs) o.e (0,0)):=by
    simp [Go.Sort.mapBlock,Array.getElem?_modify,hv,Go.Sort.onCells]
   have hby:Beyond (fun b=>b=(loc q).1) w (Go.Sort.mapBlock w (loc q).1 fn):=⟨rfl,rfl,rfl,by simp [Go.Sort.mapBlock],fun k hk hne=>by
    have hne':¬(loc q).1=k:=fun e=>hne e.symm
    simp [Go.Sort.mapBlock,Array.getElem?_modify,hne']⟩
   have hdead:∀(r:Nat) p,(s.H.set q none)[r]?=some (some p)→r≠q∧s.H[r]?=some (some p):=fun r p h=>by
    by_cases e:r=q
    ·subst e;rw [List.getElem?_set_self hr] at h;cases h
    ·rw [List.getElem?_set_ne (Ne.symm e)] at h;exact ⟨e,h⟩
   have R1:RelF X F loc ⟨s.t,s.H.set q none⟩ a w:=R.drop (by simp) fun r p h=>(hdead r p h).2
   have R2:=R1.stepO (F':=F) (O:=fun b=>b=(loc q).1) (fun b hb=>by rw [hb];exact hqn.symm) (fun b hf hb=>hqF (hb▸hf)) (fun r p h e=>(hdead r p h).1 (R.inj r q _ _ (hdead r p h).2 ho e)) hby (fun _ h=>h) (fun b hb=>Nat.lt_of_lt_of_le (R.hF b hb) hby.size) (fun b h=>.inl h)
   have hfs:(fn vs).size=vs.size:=by rw [hfn];exact foldSet_size z _ n _ n vs
   have h1c:∀y∈o.es,y.cells.length=1:=fun y hy=>by rw [←hos];exact (huni y hy).1
   have hflat:∀(l:List AV),(∀y∈l,y.cells.length=1)→∀j:Nat,(flat l)[j]?=(l[j]?).bind (fun y:AV=>y.cells[0]?):=fun l=>by
    induction l with
    | nil=>intro _ j;simp [flat]
    | cons y l ih =>
     intro hl j
     obtain ⟨c,hyc⟩:=List.length_eq_one_iff.1 (hl y (List.mem_cons_self ..))
     have e:flat (y::l)=c::flat l:=by show y.cells++flat l=_;rw [hyc];rfl
     rw [e]
     cases j with
     | zero=>show some c=(some y).bind _;rw [Option.bind_some,hyc];rfl
     | succ j=>exact ih (fun y hy=>hl y (List.mem_cons_of_mem _ hy)) j
   have hnew:∀y∈o.es.take off++(List.replicate n (AV.f (.v z))++o.es.drop (off+n)),y.cells.length=1∧y.st=true:=fun y hy=>by
    rcases List.mem_append.1 hy with hy|hy
    ·have:=huni y (List.mem_of_mem_take hy);rw [hos] at this;exact this
    ·rcases List.mem_append.1 hy with hy|hy
     ·rw [List.eq_of_mem_replicate hy]
      refine ⟨rfl,?_⟩
      cases z<;>first|rfl|cases hz1
     ·have:=huni y (List.mem_of_mem_drop hy);rw [hos] at this;exact this
   refine R2.revive hr hqn hqF (fun r p h e=>(hdead r p h).1 (R.inj r q _ _ (hdead r p h).2 ho e)) ⟨hnew,_,hheap,by rw [hfs,hvs],fun j c hj=>?_⟩
   have hget:(fn vs)[j]?=if off*1≤j∧j<off*1+n then some z else vs[j]?:=by rw [hfn];exact foldSet_get z _ n vs hcs j
   rw [hget]
   rw [hflat _ (fun y hy=>(hnew y hy).1)] at hj
   by_cases hin:off*1≤j∧j<off*1+n
   ·rw [if_pos hin]
    have e:(o.es.take off++(List.replicate n (AV.f (.v z))++o.es.drop (off+n)))[j]?=some (.f (.v z)):=by
     rw [List.getElem?_append_right (by rw [List.length_take];omega),List.length_take,List.getElem?_append_left (by rw [List.length_replicate];omega),List.getElem?_replicate,if_pos (by omega)]
    rw [e] at hj
    cases hj
    exact ⟨z,rfl,.f _ _ (.v _)⟩
   ·rw [if_neg hin]
    have e:(o.es.take off++(List.replicate n (AV.f (.v z))++o.es.drop (off+n)))[j]?=o.es[j]?:=by
     rcases Nat.lt_or_ge j off with h1|h1
     ·rw [List.getElem?_append_left (by rw [List.length_take];omega),List.getElem?_take,if_pos h1]
     ·rw [List.getElem?_append_right (by rw [List.length_take];omega),List.length_take,List.getElem?_append_right (by rw [List.length_replicate];omega),List.length_replicate,List.getElem?_drop]
      congr 1;omega
    rw [e,←hflat _ h1c] at hj
    obtain ⟨u,h1,h2⟩:=hc j c hj
    have T2:Tr F loc s.H.length w F loc s.H.length (Go.Sort.mapBlock w (loc q).1 fn):=⟨fun _ h=>h,fun b o' u' hf hcc=>by
     have hne:b≠(loc q).1:=fun e=>hqF (e▸hf)
     rw [cell_of_block (hby.block b (R.hF b hf) hne)];exact hcc,Nat.le_refl _,fun _ _=>rfl⟩
    exact ⟨u,h1,h2.tr T2⟩
 ·rename_i sz
  cases hx with
  | f _ _ h =>
   cases h with
   | fz0 _ a0 cap hm=>exact ⟨_,w,h,by cases a0<;>simp [Builtin.clear_,run_underlying hu],R⟩
   | fz _ _ b off cap hF hn=>exact ⟨_,w,h,by simp [Builtin.clear_,run_underlying hu],R⟩
 ·exact h.elim
theorem acall_sound {F:Nat→Prop} {loc:Nat→Nat × Nat} (R:RelF X F loc s a w) {f:FuncId} {xs:List AV} {ys:Array Value} (hxs:xs.length=ys.size∧∀(j:Nat) x,xs[j]?=some x→Rep w F loc s.H.length x (ys.getD j undef)) {d:Option Tmp} (hd:∀j,d=some j→X.kp j=false) {K:AS→Prop}
  (h:acall P f xs s d K):enterOk P f=true∧∀Q:Ending→World→Prop,(∀v w',(∃s',K s'∧Rel X s' (a.put d v) w')→Q (.returned v) w')→Calls P f ys w Q:=by
 rcases h with ⟨zs,r,hz,hg,hal,hK⟩|⟨zs,r,hz,hg,hK⟩|⟨zs,r,rs,hz,hg,hK⟩|⟨zs,H0,g,r,H',hz,hzl,hg,hi,ho,hl,hH',hK⟩|⟨O,hu,hK⟩
 ·exact ⟨hg.1,fun Q hQ=>call_good R hxs hz hg hal (d:=d) hd (K:=fun a' w'=>∃s',K s'∧Rel X s' a' w') (fun a' w' hr=>⟨_,hK,hr⟩) hQ⟩
 ·exact ⟨hg.1,fun Q hQ=>call_goodO R hxs hz hg (d:=d) hd (K:=fun a' w'=>∃s',K s'∧Rel X s' a' w') (fun a' w' hr=>⟨_,hK,hr⟩) hQ⟩
 ·exact ⟨hg.1,fun Q hQ=>call_goodOT R hxs hz hg (d:=d) hd (K:=fun a' w'=>∃s',K s'∧Rel X s' a' w') (fun a' w' hr=>⟨_,hK,hr⟩) hQ⟩
 ·exact ⟨hg.1,fun Q hQ=>call_goodM R hxs hz hzl hg hi ho hl hH' (d:=d) hd (K:=fun a' w'=>∃s',K s'∧Rel X s' a' w') (fun a' w' hr=>⟨_,hK,hr⟩) hQ⟩
 ·exact ⟨hu.1,fun Q hQ=>(hu.2 X w F loc a ys R hxs).mono fun e w' ⟨y,F',loc',v,s',ho,he,hR,hy⟩=>by subst he;exact hQ y w' ⟨_,hK v s' ho,F',loc',hR.put d hy hd⟩⟩
theorem repList {F:Nat→Prop} {loc:Nat→Nat × Nat} (R:RelF X F loc s a w) (args:Array Operand):(args.toList.map s.ev).length=(args.map a.eval).size∧∀(j:Nat) x,(args.toList.map s.ev)[j]?=some x→Rep w F loc s.H.length x ((args.map a.eval).getD j undef):=by
 refine ⟨by simp,fun j x hj=>?_⟩
 rw [List.getElem?_map,Array.getElem?_toList] at hj
 rw [Array.getD_eq_getD_getElem?,Array.getElem?_map]
 cases hv:args[j]? with
 | none=>rw [hv] at hj;cases hj
 | some q=>rw [hv] at hj;cases hj;exact R.ev q
theorem repApp {F:Nat→Prop} {loc:Nat→Nat × Nat} {N:Nat} {xs ys:List AV} {us vs:Array Value} (h1:xs.length=us.size∧∀(j:Nat) x,xs[j]?=some x→Rep w F loc N x (us.getD j undef)) (h2:ys.length=vs.size∧∀(j:Nat) x,ys[j]?=some x→Rep w F loc N x (vs.getD j undef)) :
  (xs++ys).length=(us++vs).size∧∀(j:Nat) x,(xs++ys)[j]?=some x→Rep w F loc N x ((us++vs).getD j undef):=by
 refine ⟨by simp [h1.1,h2.1],fun j x hj=>?_⟩
 rw [List.getElem?_append] at hj
 rw [Array.getD_eq_getD_getElem?,Array.getElem?_append,←h1.1]
 split at hj
 ·rename_i hl
  rw [if_pos hl,←Array.getD_eq_getD_getElem?];exact h1.2 j x hj
 ·rename_i hl
  rw [if_neg hl,←Array.getD_eq_getD_getElem?];exact h2.2 _ x hj
theorem fn_rep {F:Nat→Prop} {loc:Nat→Nat × Nat} {N:Nat} {g:FuncId} {p q:List AV} {y:Value} (h:Rep w F loc N (.fn g p q) y):∃vs us,y=.func (.func g) vs us ∧
  (p.length=vs.size∧∀(j:Nat) x,p[j]?=some x→Rep w F loc N x (vs.getD j undef))∧(q.length=us.size∧∀(j:Nat) x,q[j]?=some x→Rep w F loc N x (us.getD j undef)):=by
 cases h with|fn _ _ _ vs us q1 q2 q3 q4=>exact ⟨vs,us,rfl,⟨q1,q2⟩,q3,q4⟩
theorem fnF_rep {F:Nat→Prop} {loc:Nat→Nat × Nat} {N:Nat} {g:FuncId} {p q:List FV} {y:Value} (h:Rep w F loc N (.f (.fn g p q)) y):∃vs us,y=.func (.func g) vs us ∧
  ((p.map AV.f).length=vs.size∧∀(j:Nat) x,(p.map AV.f)[j]?=some x→Rep w F loc N x (vs.getD j undef))∧((q.map AV.f).length=us.size∧∀(j:Nat) x,(q.map AV.f)[j]?=some x→Rep w F loc N x (us.getD j undef)):=by
 have key:∀{p:List FV} {vs:Array Value},p.length=vs.size→(∀(j:Nat) c,p[j]?=some c→RepF w F c (vs.getD j undef))→(p.map AV.f).length=vs.size∧∀(j:Nat) x,(p.map AV.f)[j]?=some x→Rep w F loc N x (vs.getD j undef):=fun {p vs} h1 h2=>⟨by simpa using h1,fun j x hj=>by
  rw [List.getElem?_map] at hj
  cases hp:p[j]? with
  | none=>rw [hp] at hj;cases hj
  | some z=>rw [hp] at hj;cases hj;exact .f _ _ (h2 j z hp)⟩
 cases h with
 | f _ _ h=>cases h with|fn _ _ _ vs us q1 q2 q3 q4=>exact ⟨vs,us,rfl,key q1 q2,key q3 q4⟩
def fen (r:Option Nat):Fence:={ Fence.wide with round:=r }
theorem calls_in {r:Option Nat} {n:Nat} {f:FuncId} {args:Array Value} {w:World} {R:Ending→World→Prop} (h:Calls P f args w R):CallsIn (fen r) n P f args w R:=(callsIn_wide (n:=n)).2 h
theorem in_of {r:Option Nat} {n:Nat} {o:Oper} {a:Act} {w:World} {next:Act→World→Prop} {Q:Exit→Act→World→Prop} {res:Result Next} (hrun:(execOp a.eval o).run P w=res) (hnd:∀c,o.op≠.defer c) (h:o.uponIn (fen r) n P a next Q res):o.wpIn (fen r) n P a w next Q :=
 ⟨fun _ _=>trivial,by rw [Oper.semAt_plain (fen r) a.eval o hnd,hrun];exact h⟩
theorem nd {o:Oper} {x:Op} (hop:o.op=x) (hx:(match x with|.defer _=>false|_=>true)=true:=by rfl):∀c,o.op≠.defer c:=fun c e=>by rw [hop] at e;subst e;cases hx
theorem nd2 {op:Op} {ev:Operand→AV} {k:AV→Prop} (h:apure P op ev k):∀c,op≠.defer c:=fun c e=>by subst e;exact h
theorem aop_sound {n:Nat} {F:Nat→Prop} {loc:Nat→Nat × Nat} (R:RelF X F loc s a w) {o:Oper} (hd:∀j,o.dst=some j→X.kp j=false) {K:AS→Prop} (h:aop P o K s) {Q:Exit→Act→World→Prop} :
  o.wpIn (fen X.rd) n P a w (fun a' w'=>∃s',K s'∧Rel X s' a' w') Q:=by
 have hval:∀{v:AV} {H:AH} {u:Value} {w':World} {F':Nat→Prop} {loc':Nat→Nat × Nat},K (AS.put ⟨s.t,H⟩ o.dst v)→RelF X F' loc' ⟨s.t,H⟩ a w'→Rep w' F' loc' H.length v u→(execOp a.eval o).run P w=.ok (.value u) w'→(∀c,o.op≠.defer c)→o.wpIn (fen X.rd) n P a w (fun a' w'=>∃s',K s'∧Rel X s' a' w') Q:=by
  intro v H u w' F' loc' hK hR hr hrun hnd
  refine in_of hrun hnd ?_
  show ∃s',K s'∧Rel X s' (a.put o.dst u) w'
  exact ⟨_,hK,F',loc',hR.put o.dst hr hd⟩
 have hs:∀v,s.put o.dst v=AS.put ⟨s.t,s.H⟩ o.dst v:=fun v=>rfl
 unfold aop at h
 split at h
 ·rename_i t x hop
  split at h
  ·rename_i T hT
   obtain ⟨v,u,hk,hrun,hr⟩:=aload_sound R hT (R.ev x) h
   exact hval hk R hr (by simp [execOp,hop,hrun]) (nd hop)
  ·cases h
 ·rename_i t x hop
  split at h
  ·rename_i T hT
   obtain ⟨h1,h2,hk⟩:=h
   obtain ⟨r1,r2⟩:=box_rel R (t:=t) (R.ev x) h1 h2
   exact hval hk r1 r2 (by simp [execOp,hop,Instr.box,newVar,newRow]) (nd hop)
  ·cases h
 ·rename_i t hop
  split at h
  ·rename_i T hT
   unfold aAlloc at h
   split at h
   ·rename_i z hz
    obtain ⟨h1,h2,hk⟩:=h
    obtain ⟨zv,hzr,hze⟩:=tI_zero hT hz w
    have hx:Rep w F loc s.H.length (.f z) zv:=.f _ _ (hze▸RepF.ofV zv)
    obtain ⟨r1,r2⟩:=box_rel R (t:=t) (sz:=T.size) hx h1 (by rw [cells_f_len];exact h2)
    exact hval hk r1 r2 (by simp [execOp,hop,Instr.alloc,hzr,newVar,newRow]) (nd hop)
   ·cases h
  ·cases h
 ·rename_i t x y hop
  split at h
  ·rename_i T hT
   obtain ⟨H',w',hk,hrun,hR,hl⟩:=store_rel R hT (R.ev x) (R.ev y) h
   have:(execOp a.eval o).run P w=.ok .skip w':=by simp [execOp,hop,hrun]
   refine in_of this (nd hop) ?_
   show ∃s',K s'∧Rel X s' (a.put o.dst undef) w'
   exact ⟨_,hk,F,loc,hR.put o.dst (.f _ _ (.v _)) hd⟩
  ·cases h
 ·rename_i t n c hop
  split at h
  ·rename_i T hT
   obtain ⟨q,H',r,w',loc',hk,hrun,hR,hr⟩:=make_rel R (e:=T.1) (T:=T.2) hT (R.ev n) (R.ev c) h
   exact hval hk hR hr (by simp [execOp,hop,hrun]) (nd hop)
  ·cases h
 ·rename_i t len ps hop
  split at h
  ·rename_i T hT
   obtain ⟨q,H',r,w',loc',hk,hrun,hR,hr⟩:=buildSlice_rel R (e:=T.1) (T:=T.2) hT h
   exact hval hk hR hr (by simp [execOp,hop,hrun]) (nd hop)
  ·cases h
 ·rename_i args ts hop
  split at h
  ·rename_i x y t t' hargs hts
   obtain ⟨rfl,h⟩:=h
   have ea:args=#[x,y]:=Array.toList_inj.1 hargs
   have et:ts=#[t,t]:=Array.toList_inj.1 hts
   subst ea;subst et
   split at h
   ·rename_i T hT
    obtain ⟨q,s',r,w',loc',hk,hrun,hR,hr⟩:=app_rel R (e:=T.1) (T:=T.2) (ty:=o.type) hT (R.ev x) (R.ev y) h
    have:(execOp a.eval o).run P w=.ok (.value r) w':=by simp [execOp,hop,resolve,invoke,builtin,hrun]
    refine in_of this (nd hop) ?_
    show ∃s',K s'∧Rel X s' (a.put o.dst r) w'
    exact ⟨_,hk,F,loc',hR.put o.dst hr hd⟩
   ·cases h
  ·cases h
 ·rename_i args ts hop
  split at h
  ·rename_i x t hargs hts
   have ea:args=#[x]:=Array.toList_inj.1 hargs
   have et:ts=#[t]:=Array.toList_inj.1 hts
   subst ea;subst et
   split at h
   ·rename_i T hT
    obtain ⟨H',w',hk,hrun,hR⟩:=clear_rel (ty:=o.type) R (e:=T.1) (T:=T.2) hT (R.ev x) h
    have:(execOp a.eval o).run P w=.ok (.value (.tuple #[])) w':=by simp [execOp,hop,resolve,invoke,builtin,hrun]
    refine in_of this (nd hop) ?_
    show ∃s',K s'∧Rel X s' (a.put o.dst (.tuple #[])) w'
    exact ⟨_,hk,F,loc,hR.put o.dst (.f _ _ (.v _)) hd⟩
   ·cases h
  ·cases h
 ·rename_i f args ts hop
  unfold acallV at h
  split at h
  ·rename_i g p q hf
   have hfv:=R.ev f
   rw [hf] at hfv
   obtain ⟨vs,us,hfe,l1,l2⟩:=fnF_rep hfv
   obtain ⟨hok,hc⟩:=acall_sound R (repApp (repApp l1 (repList R args)) l2) hd h
   have:(execOp a.eval o).run P w=.ok (.enter g (vs++args.map a.eval++us)) w:=by
    simp only [execOp,hop,resolve,hfe,Deferred.ofValue,Sem.run_bind,Sem.run_pure,Result.andThen_ok,invoke]
    exact goodOk hok _ w
   refine in_of this (nd hop) ?_
   rw [Oper.uponIn_enter]
   exact ⟨(fun h=>by cases h),calls_in (hc _ fun v w' h=>h)⟩
  ·rename_i g p q hf
   have hfv:=R.ev f
   rw [hf] at hfv
   obtain ⟨vs,us,hfe,l1,l2⟩:=fn_rep hfv
   obtain ⟨hok,hc⟩:=acall_sound R (repApp (repApp l1 (repList R args)) l2) hd h
   have:(execOp a.eval o).run P w=.ok (.enter g (vs++args.map a.eval++us)) w:=by
    simp only [execOp,hop,resolve,hfe,Deferred.ofValue,Sem.run_bind,Sem.run_pure,Result.andThen_ok,invoke]
    exact goodOk hok _ w
   refine in_of this (nd hop) ?_
   rw [Oper.uponIn_enter]
   exact ⟨(fun h=>by cases h),calls_in (hc _ fun v w' h=>h)⟩
  ·cases h
 ·obtain ⟨v,u,hk,hrun,hr⟩:=pure_sound R h
  exact hval hk R hr hrun (nd2 h)
theorem awant_sound {F:Nat→Prop} {loc:Nat→Nat × Nat} (R:RelF X F loc s a w) {ops:Array Oper} {o:Oper} {yes no:Prop} (h:awant ops o s yes no) :
  (Region.wanted o (yielded ops a.tmps)=true∧yes)∨(Region.wanted o (yielded ops a.tmps)=false∧no):=by
 unfold awant at h
 split at h
 ·rename_i hg;left;exact ⟨by simp [Region.wanted,hg],h⟩
 ·rename_i j b hg
  split at h
  ·rename_i d hd
   have hl:=R.len
   split at h
   ·rename_i t ht
    have hdl:=glt ht
    have hr:=R.tmps d _ ht
    have hv:=v_rep hr
    have hy:yielded ops a.tmps j=some t:=by
     unfold yielded
     have:a.tmps[d]?=some (.bool t):=by
      obtain ⟨e1,e2⟩:=getD_lt (vs:=a.tmps) (j:=d) (by omega)
      rw [e2,←e1,hv]
     rw [hd]
     simp [this]
    split at h
    ·rename_i htb;left;exact ⟨by simp [Region.wanted,hg,hy,htb],h⟩
    ·rename_i htb;right;exact ⟨by simp [Region.wanted,hg,hy,htb],h⟩
   ·rename_i vs ht
    have hdl:=glt ht
    have hr:=R.tmps d _ ht
    have hv:=v_rep hr
    have hy:yielded ops a.tmps j=none:=by
     unfold yielded
     have:a.tmps[d]?=some (.tuple vs):=by
      obtain ⟨e1,e2⟩:=getD_lt (vs:=a.tmps) (j:=d) (by omega)
      rw [e2,←e1,hv]
     rw [hd]
     simp [this]
    right;exact ⟨by simp [Region.wanted,hg,hy],h⟩
   ·cases h
  ·cases h
theorem aops_sound {m:Nat} {ops:Array Oper} (hk:∀(i:Nat) o,ops[i]?=some o→∀j,o.dst=some j→X.kp j=false):∀(n i:Nat) (K:AS→Prop) (s:AS) (a:Act) (w:World),i+n=ops.size→aops P ops (ops.toList.drop i) K s→Rel X s a w→∀{Q:Exit→Act→World→Prop},(∀s a w,K s→Rel X s a w→Q .normal a w) →
  wpOpsIn (fen X.rd) m P ops Q (List.range' i n) a w:=by
 intro n
 induction n with
 | zero =>
  intro i K s a w hi h hR Q hQ
  rw [List.drop_of_length_le (by rw [Array.length_toList];omega)] at h
  exact hQ s a w h hR
 | succ n ih =>
  intro i K s a w hi h hR Q hQ
  have hil:i<ops.size:=by omega
  rw [List.drop_eq_getElem_cons (by rw [Array.length_toList];exact hil)] at h
  rw [List.range'_succ]
  have ho:ops[i]?=some ops.toList[i]:=by simp [hil]
  simp only [wpOpsIn,ho]
  obtain ⟨F,loc,R⟩:=hR
  rcases awant_sound R h with ⟨hw,h⟩|⟨hw,h⟩
  ·rw [if_pos hw]
   refine Oper.wpIn_mono ?_ (aop_sound R (hk i _ ho) h)
   rintro a' w' ⟨s',hk,hR'⟩
   exact ih (i+1) K s' a' w' (by omega) hk hR' hQ
  ·rw [if_neg (by rw [hw];simp)]
   exact ⟨fun _ _=>trivial,ih (i+1) K _ _ w (by omega) h ⟨F,loc,R.put _ (.f _ _ (.v _)) (hk i _ ho)⟩ hQ⟩
end

def okOps (kp:Nat→Bool) (ops:Array Oper):Bool:=ops.all fun o=>match o.dst with|some d=>!kp d|none=>true
def okC (kp:Nat→Bool):Code→Bool
 | .region _ ops _=>okOps kp ops
 | .seq x y=>okC kp x&&okC kp y
 | .cond _ x y=>okC kp x&&okC kp y
 | .block _ c=>okC kp c
 | .loop c=>okC kp c
 | .scope c=>okC kp c
 | .rangeFunc _ ps x y=>(ps.all fun d=>!kp d)&&okC kp x&&okC kp y
 | _=>true
theorem okOps_at {kp:Nat→Bool} {ops:Array Oper} (h:okOps kp ops=true):∀(i:Nat) o,ops[i]?=some o→∀j,o.dst=some j→kp j=false:=fun i o ho j hj=>by
 have:=Array.all_eq_true'.1 h o (Array.mem_of_getElem? ho)
 rw [hj] at this
 simpa using this
theorem okC_none {kp:Nat→Bool} (h:∀d,kp d=false):∀c:Code,okC kp c=true:=fun c=>by
 induction c with
 | region id ops draw =>
  refine Array.all_eq_true'.2 fun o _=>?_
  cases o.dst with
  | none=>rfl
  | some d=>simp [h d]
 | seq x y h1 h2=>show (okC kp x&&okC kp y)=true;rw [h1,h2];rfl
 | cond c x y h1 h2=>show (okC kp x&&okC kp y)=true;rw [h1,h2];rfl
 | block id c h1=>exact h1
 | loop c h1=>exact h1
 | scope c h1=>exact h1
 | rangeFunc f ps x y h1 h2 =>
  show ((ps.all fun d=>!kp d)&&okC kp x&&okC kp y)=true
  rw [h1,h2,Bool.and_true,Bool.and_true]
  exact Array.all_eq_true'.2 fun d _=>by simp [h d]
 | _=>rfl
def J (X:Cx) (P:Program) (c:Code) (Q:Exit→AS→Prop) (s:AS):Prop:=okC X.kp c=true→∀a w,Rel X s a w→c.wpIn (fen X.rd) 9 P (fun e a w=>∃s,Q e s∧Rel X s a w) a w
def athen (next:AS→Prop) (Q:Exit→AS→Prop):Exit→AS→Prop
 | .normal,s=>next s
 | e,s=>Q e s
def ablock (id:Nat) (Q:Exit→AS→Prop):Exit→AS→Prop
 | .exit id',s=>if id'=id then Q .normal s else Q (.exit id') s
 | e,s=>Q e s
section
variable {X : Cx} {P : Program} {Q : Exit → AS → Prop} {s s' : AS}
theorem J_weak (hw:Weak s s') {c:Code} (h:J X P c Q s'):J X P c Q s:=fun hk a w ⟨F,loc,R⟩=>h hk a w ⟨F,R.weak hw⟩
theorem J_freeze {j r sz:Nat} {e:TypeId} {l:List FV} (hj:s.t[j]?=some (sl r sz l)) (hr:s.H[r]?=some (ob e sz l)) {c:Code} (h:J X P c Q ⟨(s.t.map (AV.kill r)).set j (.f (.fz sz l)),(s.H.map (killO r)).set r none⟩):J X P c Q s :=
 fun hk a w ⟨F,loc,R⟩=>by obtain ⟨F',R'⟩:=R.sl_frozen hj hr;exact h hk a w ⟨F',loc,R'⟩
theorem J_freezeO {j r sz k:Nat} {e:TypeId} {l:List FV} (hj:s.t[j]?=some (.own r sz 0 k)) (hk0:k=l.length) (hr:s.H[r]?=some (some ⟨e,sz,l.map .f⟩)) {c:Code} (h:J X P c Q ⟨(s.t.map (AV.kill r)).set j (.f (.fz sz l)),(s.H.map (killO r)).set r none⟩):J X P c Q s :=
 fun hk a w ⟨F,loc,R⟩=>by obtain ⟨F',R'⟩:=R.slice_frozen hj hk0 hr;exact h hk a w ⟨F',loc,R'⟩
theorem J_reserve {c:Code} (h:J X P c Q ⟨s.t,s.H++[none]⟩):J X P c Q s:=fun hk a w ⟨F,loc,R⟩=>h hk a w ⟨F,loc,R.reserve⟩
theorem J_skip (h:Q .normal s):J X P .skip Q s:=fun _ a w R=>wpIn_skip ⟨s,h,R⟩
theorem J_exit {id:Nat} (h:Q (.exit id) s):J X P (.exit id) Q s:=fun _ a w R=>wpIn_exit ⟨s,h,R⟩
theorem J_ret (h:Q .ret s):J X P .ret Q s:=fun _ a w R=>wpIn_ret ⟨s,h,R⟩
theorem J_region {id:Nat} {ops:Array Oper} (h:aops P ops ops.toList (Q .normal) s):J X P (.region id ops false) Q s:=fun hk a w R=>by
 refine wpIn_region ?_
 rw [List.range_eq_range']
 exact aops_sound (okOps_at hk) ops.size 0 (Q .normal) s a w (by omega) (by simpa using h) R fun s a w hk hR=>⟨s,hk,hR⟩
theorem J_seq {x y:Code} (h:∀K:AS→Prop,(∀s,J X P y Q s→K s)→J X P x (athen K Q) s):J X P (.seq x y) Q s:=fun hk a w R=>by
 obtain ⟨hk1,hk2⟩:=Bool.and_eq_true_iff.1 (show (okC X.kp x&&okC X.kp y)=true from hk)
 refine wpIn_seq (wpIn_mono (h (fun s=>J X P y Q s) (fun _ h=>h) hk1 a w R) ?_)
 rintro e a' w' ⟨s',hq,hR⟩
 cases e with
 | normal=>exact hq hk2 a' w' hR
 | _=>exact ⟨s',hq,hR⟩
theorem J_cond {c:Operand} {x y:Code} {t:Bool} (hc:s.ev c=.f (.v (.bool t))) (h1:t=true→J X P x Q s) (h2:t=false→J X P y Q s):J X P (.cond c x y) Q s:=fun hk a w R=>by
 obtain ⟨hk1,hk2⟩:=Bool.and_eq_true_iff.1 (show (okC X.kp x&&okC X.kp y)=true from hk)
 obtain ⟨F,loc,R'⟩:=R
 have hv:=R'.ev c
 rw [hc] at hv
 exact wpIn_cond_split (v_rep hv) (fun ht=>h1 ht hk1 a w ⟨F,loc,R'⟩) (fun ht=>h2 ht hk2 a w ⟨F,loc,R'⟩)
theorem J_block {id:Nat} {c:Code} (h:J X P c (ablock id Q) s):J X P (.block id c) Q s:=fun hk a w R=>by
 refine wpIn_block (wpIn_mono (h hk a w R) ?_)
 rintro e a' w' ⟨s',hq,hR⟩
 cases e with
 | exit id' =>
  unfold Exit.inBlock
  unfold ablock at hq
  simp only at hq ⊢
  split
  ·rename_i e;rw [if_pos e] at hq;exact ⟨s',hq,hR⟩
  ·rename_i e;rw [if_neg e] at hq;exact ⟨s',hq,hR⟩
 | _=>exact ⟨s',hq,hR⟩
noncomputable def loopMu (I:Nat→Act→World→Prop) (a:Act) (w:World):Nat:=@dite _ (∃n,I n a w∧∀j,j<n→¬I j a w) (Classical.propDecidable _) (fun h=>h.choose) (fun _=>0)
theorem loopMu_ex {I:Nat→Act→World→Prop} {a:Act} {w:World} {n:Nat}:I n a w→∃n,I n a w∧∀j,j<n→¬I j a w:=by
 induction n using Nat.strongRecOn with
 | ind n ih =>
  intro h
  by_cases hl:∃j,j<n∧I j a w
  ·obtain ⟨j,hj,hp⟩:=hl
   exact ih j hj hp
  ·exact ⟨n,h,fun j hj hp=>hl ⟨j,hj,hp⟩⟩
theorem loopMu_spec {I:Nat→Act→World→Prop} {a:Act} {w:World} (h:∃n,I n a w):∃n,I n a w∧loopMu I a w=n:=by
 obtain ⟨n,h⟩:=h
 have hx:=loopMu_ex h
 refine ⟨_,hx.choose_spec.1,?_⟩
 unfold loopMu
 rw [dif_pos hx]
theorem loopMu_le {I:Nat→Act→World→Prop} {a:Act} {w:World} {n:Nat} (h:I n a w):loopMu I a w≤n:=by
 have hx:=loopMu_ex h
 unfold loopMu
 rw [dif_pos hx]
 exact Nat.not_lt.1 fun hlt=>hx.choose_spec.2 n hlt h
theorem wpIn_loop_n {F:Fence} {m:Nat} {P:Program} {c:Code} {Q:Exit→Act→World→Prop} (I:Nat→Act→World→Prop) (round:∀n a w,I n a w→c.wpIn F m P (Exit.then (fun a' w'=>∃m,m<n∧I m a' w') Q) a w) :
  ∀n a w,I n a w→(Code.loop c).wpIn F m P Q a w:=by
 intro n a w h
 refine wpIn_loop (fun a w=>∃n,I n a w) (fun a w=>loopMu I a w) ⟨n,h⟩ ?_
 intro a w h
 obtain ⟨n,hn,hmin⟩:=loopMu_spec h
 refine wpIn_mono (round n a w hn) ?_
 rintro e a' w' hq
 cases e with
 | normal =>
  obtain ⟨m,hlt,hI⟩:=hq
  refine ⟨⟨m,hI⟩,?_⟩
  rw [hmin]
  exact Nat.lt_of_le_of_lt (loopMu_le hI) hlt
 | _=>exact hq
theorem J_loop {c:Code} {γ:Type} (st:γ→AS) (I:γ→Prop) (μ:γ→Nat) (x0:γ) (h0:I x0) (hw:Weak s (st x0))
  (round:∀x,I x→J X P c (athen (fun s=>∃y,I y∧μ y<μ x∧Weak s (st y)) Q) (st x)):J X P (.loop c) Q s:=fun hk a w ⟨F,loc,R⟩=>by
 refine wpIn_loop_n (P:=P) (fun n a w=>∃x,μ x=n∧I x∧Rel X (st x) a w) ?_ (μ x0) a w ⟨x0,rfl,h0,F,R.weak hw⟩
 rintro n a w ⟨x,rfl,hI,hR⟩
 refine wpIn_mono (round x hI hk a w hR) ?_
 rintro e a' w' ⟨s',hq,hR'⟩
 cases e with
 | normal =>
  obtain ⟨y,hy,hlt,hwk⟩:=hq
  obtain ⟨F',loc',R'⟩:=hR'
  exact ⟨μ y,hlt,y,rfl,hy,F',R'.weak hwk⟩
 | _=>exact ⟨s',hq,hR'⟩
end
end

section
open Go Go.RowKit

def Lin {α:Type} (A:(α→Prop)→Prop):Prop:=∀k,A k→∃v,A (fun u=>u=v)∧k v
section
variable {P : Program} {T : TI} {x y i : AV} {f : Nat}
theorem lin_fieldAddr:Lin (aFieldAddr T x f):=fun k h=>by
 unfold aFieldAddr at h ⊢
 split at h
 ·rename_i e;(try rw [e]);exact ⟨_,rfl,h⟩
 ·rename_i e;(try rw [e]);exact ⟨_,rfl,h⟩
 ·exact h.elim
theorem lin_indexAddr:Lin (aIndexAddr T x i):=fun k h=>by
 unfold aIndexAddr at h ⊢
 split at h
 ·exact ⟨_,⟨h.1,h.2.1,rfl⟩,h.2.2⟩
 ·obtain ⟨h1,h2,c,h3,h4⟩:=h;exact ⟨_,⟨h1,h2,c,h3,rfl⟩,h4⟩
 ·exact h.elim
theorem lin_sliceS {lo hi:Option AV}:Lin (aSliceS x lo hi):=fun k h=>by
 unfold aSliceS at h ⊢
 split at h
 ·split at h
  ·rename_i e1 e2;(try rw [e1,e2]);exact ⟨_,⟨h.1,h.2.1,h.2.2.1,rfl⟩,h.2.2.2⟩
  ·exact h.elim
 ·exact h.elim
theorem lin_slice {lo hi:Option AV}:Lin (aSlice T x lo hi):=fun k h=>by
 unfold aSlice at h ⊢
 split at h
 ·split at h
  ·rename_i e1 e2
   obtain ⟨h1,h2,h3,h4,h5⟩:=h
   split at h5
   ·rename_i hc;exact ⟨_,by (try rw [e1,e2]);exact ⟨h1,h2,h3,h4,by rw [if_pos hc]⟩,h5⟩
   ·rename_i hc;exact ⟨_,by (try rw [e1,e2]);exact ⟨h1,h2,h3,h4,by rw [if_neg hc]⟩,h5⟩
  ·exact h.elim
 ·split at h
  ·rename_i e1 e2;exact ⟨_,by (try rw [e1,e2]);exact ⟨h.1,h.2.1,h.2.2.1,h.2.2.2.1,rfl⟩,h.2.2.2.2⟩
  ·exact h.elim
 ·exact h.elim
theorem lin_lenS:Lin (aLenS x):=fun k h=>by
 unfold aLenS at h ⊢
 split at h
 ·exact ⟨_,rfl,h⟩
 ·rename_i hne
  unfold aLen at h ⊢
  split at h
  ·exact ⟨_,rfl,h⟩
  ·exact ⟨_,rfl,h⟩
  ·exact ⟨_,rfl,h⟩
  ·exact h.elim
theorem lin_pick {t:Bool}:Lin (aPick t x y):=fun k h=>by
 unfold aPick at h ⊢
 split at h
 ·exact ⟨_,rfl,h⟩
 ·rename_i hn
  split at h
  ·rename_i ht;exact ⟨_,by rw [if_pos ht],h⟩
  ·rename_i ht;exact ⟨_,by rw [if_neg ht],h⟩
theorem lin_bin {op:BinOp} {t:TypeId} {A B:Operand}:Lin (aBin P op t A B x y):=fun k h=>by
 unfold aBin at h ⊢
 split at h
 ·cases op
  all_goals
   simp only at h ⊢
   first
   | (split at h<;>first|exact ⟨_,rfl,h⟩|exact h.elim)
   | exact ⟨_,⟨h.1,rfl⟩,h.2⟩
   | (obtain ⟨h1,h2⟩:=h;unfold aDiv at h2 ⊢;exact ⟨_,⟨h1,h2.1,rfl⟩,h2.2⟩)
 ·cases op
  all_goals
   simp only at h ⊢<;>first
    | exact h.elim
    | (split at h<;>first|exact ⟨_,rfl,h⟩|exact h.elim)
    | exact ⟨_,⟨h.1,rfl⟩,h.2⟩
 ·obtain ⟨h1,h⟩:=h
  unfold aNil at h ⊢
  split at h
  ·exact ⟨_,⟨h1,rfl⟩,h⟩
  ·exact ⟨_,⟨h1,rfl⟩,h⟩
  ·exact h.elim
 ·obtain ⟨h1,h⟩:=h
  unfold aNil at h ⊢
  split at h
  ·exact ⟨_,⟨h1,rfl⟩,h⟩
  ·exact ⟨_,⟨h1,rfl⟩,h⟩
  ·exact h.elim
 ·rename_i h1 h2
  obtain ⟨u,v,r,e1,e2,e3,h⟩:=h
  exact ⟨_,⟨u,v,r,e1,e2,e3,rfl⟩,h⟩
 ·exact h.elim
theorem lin_un {op:UnOp}:Lin (aUn op x):=fun k h=>by
 unfold aUn at h ⊢
 split at h
 ·exact ⟨_,rfl,h⟩
 ·exact ⟨_,rfl,h⟩
 ·exact ⟨_,rfl,h⟩
 ·exact h.elim
theorem lin_conv {s d:TypeId}:Lin (aConv P s d x):=fun k h=>by
 unfold aConv at h ⊢
 split at h
 ·exact ⟨_,⟨h.1,h.2.1,rfl⟩,h.2.2⟩
 ·rename_i z hn
  obtain ⟨u,r,e1,e2,h⟩:=h
  exact ⟨_,⟨u,r,e1,e2,rfl⟩,h⟩
 ·exact h.elim
theorem lin_index:Lin (aIndex T x i):=fun k h=>by
 unfold aIndex at h ⊢
 split at h
 ·exact ⟨_,⟨h.1,h.2.1,rfl⟩,h.2.2⟩
 ·exact h.elim
theorem lin_extract {n:Nat}:Lin (aExtract x n):=fun k h=>by
 unfold aExtract at h ⊢
 split at h
 ·obtain ⟨c,h1,h2⟩:=h;exact ⟨_,⟨c,h1,rfl⟩,h2⟩
 ·obtain ⟨c,h1,h2⟩:=h;exact ⟨_,⟨c,h1,rfl⟩,h2⟩
 ·exact h.elim
theorem lin_pure {op:Op} {ρ:Operand→AV}:Lin (apure P op ρ):=fun k h=>by
 unfold apure at h ⊢
 split at h
 ·exact ⟨_,rfl,h⟩
 ·exact ⟨_,rfl,h⟩
 ·split at h
  ·rename_i e;(try rw [e]);exact lin_pick k h
  ·exact h.elim
 ·exact lin_bin k h
 ·exact lin_un k h
 ·exact lin_conv k h
 ·split at h
  ·rename_i e;(try rw [e]);exact lin_fieldAddr k h
  ·exact h.elim
 ·split at h
  ·rename_i e;(try rw [e]);exact lin_indexAddr k h
  ·exact h.elim
 ·split at h
  ·rename_i e;(try rw [e]);exact lin_index k h
  ·exact h.elim
 ·split at h
  ·rename_i e;(try rw [e]);exact lin_slice k h
  ·rename_i e;(try rw [e])
   obtain ⟨h1,h2⟩:=h
   obtain ⟨v,h3,h4⟩:=lin_sliceS k h2
   exact ⟨v,⟨h1,h3⟩,h4⟩
 ·exact lin_extract k h
 ·exact ⟨_,rfl,h⟩
 ·split at h
  ·rename_i e;(try rw [e])
   split at h
   ·rename_i e';(try rw [e'])
    obtain ⟨h1,h2,h3,h⟩:=h
    split at h
    ·rename_i hc;exact ⟨_,⟨h1,h2,h3,by rw [if_pos hc]⟩,h⟩
    ·rename_i hc
     obtain ⟨cs,h4,h5⟩:=h
     exact ⟨_,⟨h1,h2,h3,by rw [if_neg hc];exact ⟨cs,h4,rfl⟩⟩,h5⟩
   ·exact h.elim
  ·exact h.elim
 ·split at h
  ·rename_i e;(try rw [e]);exact ⟨_,rfl,h⟩
  ·rename_i e;(try rw [e]);exact ⟨_,rfl,h⟩
  ·exact h.elim
 ·split at h
  ·rename_i e1 e2
   (try rw [e1,e2])
   obtain ⟨h1,h2⟩:=h
   obtain ⟨v,h3,h4⟩:=lin_lenS k h2
   exact ⟨v,⟨h1,h3⟩,h4⟩
  ·exact h.elim
 ·exact h.elim
theorem lin_ldF {j:Nat} {z:FV}:Lin (ldF T z j):=fun k h=>by
 unfold ldF at h ⊢
 split at h
 ·rename_i h1
  split at h
  ·rename_i h2;exact ⟨_,by rw [if_pos h1,if_pos h2],h⟩
  ·rename_i h2;exact ⟨_,by rw [if_pos h1,if_neg h2];exact ⟨h.1,rfl⟩,h.2⟩
 ·rename_i h1
  obtain ⟨c,h2,h3⟩:=h
  exact ⟨_,by rw [if_neg h1];exact ⟨c,h2,rfl⟩,h3⟩
theorem lin_ld {j:Nat} {z:AV}:Lin (ld T z j):=fun k h=>by
 unfold ld at h ⊢
 split at h
 ·rename_i h1
  split at h
  ·rename_i h2;exact ⟨_,by rw [if_pos h1,if_pos h2],h⟩
  ·rename_i h2;exact ⟨_,by rw [if_pos h1,if_neg h2];exact ⟨h.1,rfl⟩,h.2⟩
 ·rename_i h1
  obtain ⟨c,h2,h3⟩:=h
  exact ⟨_,by rw [if_neg h1];exact ⟨c,h2,rfl⟩,h3⟩
theorem lin_load {H:AH}:Lin (aload T H x):=fun k h=>by
 unfold aload at h ⊢
 split at h
 ·obtain ⟨o,h1,h2,e,h3,h4⟩:=h
  obtain ⟨v,h5,h6⟩:=lin_ld k h4
  exact ⟨v,⟨o,h1,h2,e,h3,h5⟩,h6⟩
 ·obtain ⟨v,h5,h6⟩:=lin_ldF _ h
  refine ⟨.f v,?_,h6⟩
  unfold ldF at h5 ⊢
  split at h5
  ·rename_i h1
   rw [if_pos h1]
   split at h5
   ·rename_i h2;rw [if_pos h2,h5]
   ·rename_i h2;rw [if_neg h2];exact ⟨h5.1,by rw [h5.2]⟩
  ·rename_i h1
   rw [if_neg h1]
   obtain ⟨c,h2,h3⟩:=h5
   exact ⟨c,h2,by rw [h3]⟩
 ·exact h.elim
theorem lin_store {H:AH}:Lin (aStore T H x y):=fun k h=>by
 unfold aStore at h ⊢
 split at h
 ·obtain ⟨o,h1,h2,h3,h4,e,h5,h6⟩:=h
  split at h6
  ·rename_i hc;exact ⟨_,⟨o,h1,h2,h3,h4,e,h5,by rw [if_pos hc]⟩,h6⟩
  ·rename_i hc;exact ⟨_,⟨o,h1,h2,h3,h4,e,h5,by rw [if_neg hc];exact ⟨h6.1,rfl⟩⟩,h6.2⟩
 ·exact h.elim
end

def acallQ (P:Program) (f:FuncId) (xs:List AV) (H:AH) (k:AV→Prop):Prop :=
 ∃zs r,FrzL H xs zs∧Good P f zs r∧Hal P f xs zs r∧k (.f r)
def acallQV (P:Program) (f:AV) (xs:List AV) (H:AH) (k:AV→Prop):Prop :=
 match f with
 | .f (.fn f a b)=>acallQ P f (a.map .f++xs++b.map .f) H k
 | .fn f a b=>acallQ P f (a++xs++b) H k
 | _=>False
def aread (P:Program) (op:Op) (ρ:Operand→AV) (H:AH) (k:AV→Prop):Prop :=
 match op with
 | .load t x=>match tI P t with|some T=>aload T H (ρ x) k|none=>False
 | .call { callee:=.value f,args:=args,argTypes:=ts }=>acallQV P (ρ f) (args.toList.map ρ) H k
 | _=>False
def isRead:Op→Bool
 | .load _ _|.call { callee:=.value _,args:=_,argTypes:=_ }=>true
 | _=>false
def isStore:Op→Bool
 | .store _ _ _=>true
 | _=>false
def isNew:Op→Bool
 | .alloc _|.box _ _|.buildSlice _ _ _=>true
 | _=>false
def anew (P:Program) (op:Op) (ρ:Operand→AV) (H:AH) (k:AV→AH→Prop):Prop :=
 match op with
 | .alloc t=>match tI P t with|some T=>aAlloc t T H k|none=>False
 | .box t x=>match tI P t with|some T=>aBox t T H (ρ x) k|none=>False
 | .buildSlice t len ps=>match tS P t with|some T=>aBuildSlice T.1 T.2 H len (ps.toList.map fun p=>(p.1,ρ p.2)) k|none=>False
 | _=>False
def aopD (P:Program) (o:Oper) (K:AS→Prop) (s:AS):Prop :=
 if isNew o.op=true then anew P o.op s.ev s.H fun v H=>K (AS.put ⟨s.t,H⟩ o.dst v)
 else if isStore o.op=true then (match o.op with
  | .store t x y=>match tI P t with|some T=>aStore T s.H (s.ev x) (s.ev y) fun H=>K (AS.put ⟨s.t,H⟩ o.dst (.f (.v undef)))|none=>False
  | _=>False)
 else if isRead o.op=true then aread P o.op s.ev s.H fun v=>K (s.put o.dst v)
 else apure P o.op s.ev fun v=>K (s.put o.dst v)
def aopsD (P:Program) (ops:Array Oper):List Oper→(AS→Prop)→AS→Prop
 | [],K,s=>K s
 | o::rest,K,s=>awant ops o s (aopD P o (aopsD P ops rest K) s) (aopsD P ops rest K (s.put o.dst (.f (.v undef))))

section
variable {P : Program} {X : Cx} {w : World} {s : AS} {a : Act} {ops : Array Oper}
theorem lin_read {op:Op} {ρ:Operand→AV} {H:AH}:Lin (aread P op ρ H):=fun k h=>by
 unfold aread at h ⊢
 split at h
 ·split at h
  ·rename_i e;(try rw [e]);exact lin_load k h
  ·exact h.elim
 ·unfold acallQV at h ⊢
  split at h
  ·rename_i e;(try rw [e])
   obtain ⟨zs,r,h1,h2,h3,h4⟩:=h;exact ⟨_,⟨zs,r,h1,h2,h3,rfl⟩,h4⟩
  ·rename_i e;(try rw [e])
   obtain ⟨zs,r,h1,h2,h3,h4⟩:=h;exact ⟨_,⟨zs,r,h1,h2,h3,rfl⟩,h4⟩
  ·exact h.elim
 ·exact h.elim
theorem anew_lin {op:Op} {ρ:Operand→AV} {H:AH} {k:AV→AH→Prop} (h:anew P op ρ H k):∃(f:Nat→AV) (o:AO),k (f H.length) (H++[some o])∧∀H',anew P op ρ H' fun v H''=>v=f H'.length∧H''=H'++[some o]:=by
 unfold anew at h
 split at h
 ·split at h
  ·rename_i T hT
   unfold aAlloc at h
   split at h
   ·rename_i z hz
    obtain ⟨h1,h2,h3⟩:=h
    refine ⟨fun n=>.ptr n T.size 0 0,_,h3,fun H'=>?_⟩
    unfold anew
    simp only [hT]
    unfold aAlloc
    rw [hz]
    exact ⟨h1,h2,rfl,rfl⟩
   ·exact h.elim
  ·exact h.elim
 ·split at h
  ·rename_i T hT
   obtain ⟨h1,h2,h3⟩:=h
   refine ⟨fun n=>.ptr n T.size 0 0,_,h3,fun H'=>?_⟩
   unfold anew
   simp only [hT]
   exact ⟨h1,h2,rfl,rfl⟩
  ·exact h.elim
 ·rename_i t len ps
  split at h
  ·rename_i T hT
   unfold aBuildSlice at h
   split at h
   ·rename_i z hz
    obtain ⟨h1,h2,h3,h4,es,h5,h6⟩:=h
    refine ⟨fun n=>.own n T.2.size 0 len,_,h6,fun H'=>?_⟩
    unfold anew
    simp only [hT]
    unfold aBuildSlice
    rw [hz]
    exact ⟨h1,h2,h3,h4,es,h5,rfl,rfl⟩
   ·exact h.elim
  ·exact h.elim
 ·exact h.elim
inductive DStep (P : Program) (ops : Array Oper) (o : Oper) (s : AS) : AS → Prop
  | new (v : AV) (H : AH) (hn : isNew o.op = true) (h : anew P o.op s.ev s.H fun u H' => u = v ∧ H' = H) : DStep P ops o s (AS.put ⟨s.t, H⟩ o.dst v)
  | val (v : AV) (hs : isStore o.op = false) (hr : isRead o.op = true) (h : aread P o.op s.ev s.H fun u => u = v) : DStep P ops o s (s.put o.dst v)
  | pur (v : AV) (hs : isStore o.op = false) (hr : isRead o.op = false) (h : apure P o.op s.ev fun u => u = v) : DStep P ops o s (s.put o.dst v)
  | sto (t : TypeId) (x y : Operand) (hop : o.op = .store t x y) (T : TI) (hT : tI P t = some T) (H : AH) (h : aStore T s.H (s.ev x) (s.ev y) fun u => u = H) : DStep P ops o s (AS.put ⟨s.t, H⟩ o.dst (.f (.v undef)))
def GStep' (P:Program) (ops:Array Oper) (o:Oper) (s s':AS):Prop:=awant ops o s (DStep P ops o s s') (s'=s.put o.dst (.f (.v undef)))
theorem awant_mono {o:Oper} {y n y' n':Prop} (h:awant ops o s y n) (hy:y→y') (hn:n→n'):awant ops o s y' n':=by
 unfold awant at h ⊢
 split at h
 ·exact hy h
 ·split at h
  ·split at h
   ·split at h
    ·rename_i hc;rw [if_pos hc];exact hy h
    ·rename_i hc;rw [if_neg hc];exact hn h
   ·exact hn h
   ·exact h
  ·exact h
theorem awant_or {o:Oper} {y n:Prop} (h:awant ops o s y n):(y∧∀n',awant ops o s True n')∨(n∧∀y',awant ops o s y' True):=by
 unfold awant at h ⊢
 split at h
 ·exact .inl ⟨h,fun _=>trivial⟩
 ·split at h
  ·split at h
   ·rename_i t ht
    split at h
    ·rename_i hc;exact .inl ⟨h,fun _=>by rw [if_pos hc];trivial⟩
    ·rename_i hc;exact .inr ⟨h,fun _=>by rw [if_neg hc];trivial⟩
   ·exact .inr ⟨h,fun _=>trivial⟩
   ·exact h.elim
  ·exact h.elim
theorem aopD_step {o:Oper} {K:AS→Prop} (h:aopD P o K s):∃s',DStep P ops o s s'∧K s':=by
 unfold aopD at h
 split at h
 ·rename_i hn
  obtain ⟨f,o',h1,h2⟩:=anew_lin h
  exact ⟨_,.new _ _ hn (h2 s.H),h1⟩
 split at h
 ·split at h
  ·rename_i t x y hop
   split at h
   ·rename_i T hT
    obtain ⟨H,h1,h2⟩:=lin_store _ h
    exact ⟨_,.sto t x y hop T hT H h1,h2⟩
   ·exact h.elim
  ·exact h.elim
 ·rename_i hs
  split at h
  ·rename_i hr
   obtain ⟨v,h1,h2⟩:=lin_read _ h
   exact ⟨_,.val v (by simpa using hs) hr h1,h2⟩
  ·rename_i hr
   obtain ⟨v,h1,h2⟩:=lin_pure _ h
   exact ⟨_,.pur v (by simpa using hs) (by simpa using hr) h1,h2⟩
theorem gstep_of {o:Oper} {K:AS→Prop} (h:awant ops o s (aopD P o K s) (K (s.put o.dst (.f (.v undef))))):∃s',GStep' P ops o s s'∧K s':=by
 rcases awant_or h with ⟨h1,h2⟩|⟨h1,h2⟩
 ·obtain ⟨s',h3,h4⟩:=aopD_step (ops:=ops) h1
  exact ⟨s',awant_mono (h2 False) (fun _=>h3) (fun h=>h.elim),h4⟩
 ·exact ⟨_,awant_mono (h2 False) (fun h=>h.elim) (fun _=>rfl),h1⟩
theorem DStep.sound {n:Nat} {F:Nat→Prop} {loc:Nat→Nat × Nat} (R:RelF X F loc s a w) {o:Oper} (hd:∀j,o.dst=some j→X.kp j=false) {s':AS} (h:DStep P ops o s s') {Q:Exit→Act→World→Prop}:o.wpIn (fen X.rd) n P a w (fun a' w'=>Rel X s' a' w') Q:=by
 cases h with
 | new v H hn h =>
  have key:Go.Proofs.YthehegidpamldaaGreatDoor.aop P o (fun x=>x=AS.put ⟨s.t,H⟩ o.dst v) s:=by
   unfold anew at h
   unfold Go.Proofs.YthehegidpamldaaGreatDoor.aop
   split at h
   ·rename_i t hop
    split at h
    ·rename_i T hT
     rw [hop]
     simp only [hT]
     unfold aAlloc at h ⊢
     split at h
     ·obtain ⟨h1,h2,h3,h4⟩:=h
      exact ⟨h1,h2,by rw [h3,h4]⟩
     ·exact h.elim
    ·exact h.elim
   ·rename_i t x hop
    split at h
    ·rename_i T hT
     rw [hop]
     simp only [hT]
     obtain ⟨h1,h2,h3,h4⟩:=h
     exact ⟨h1,h2,by rw [h3,h4]⟩
    ·exact h.elim
   ·rename_i t len ps hop
    split at h
    ·rename_i T hT
     rw [hop]
     simp only [hT]
     unfold aBuildSlice at h ⊢
     split at h
     ·obtain ⟨h1,h2,h3,h4,es,h5,h6,h7⟩:=h
      exact ⟨h1,h2,h3,h4,es,h5,by rw [h6,h7]⟩
     ·exact h.elim
    ·exact h.elim
   ·exact h.elim
  refine Oper.wpIn_mono ?_ (aop_sound R hd key)
  rintro a' w' ⟨s',rfl,hR⟩
  exact hR
 | val v hs hr h =>
  unfold aread at h
  split at h
  ·rename_i t x hop
   split at h
   ·rename_i T hT
    obtain ⟨v',u,hk,hrun,hr⟩:=aload_sound R hT (R.ev x) h
    replace hk:v'=v:=hk
    subst hk
    have:(execOp a.eval o).run P w=.ok (.value u) w:=by simp [execOp,hop,hrun]
    exact in_of this (nd hop) (show Rel X _ (a.put o.dst u) w from ⟨F,loc,R.put o.dst hr hd⟩)
   ·exact h.elim
  ·rename_i f args ts hop
   have key:Go.Proofs.YthehegidpamldaaGreatDoor.aop P o (fun x=>x=s.put o.dst v) s:=by
    unfold Go.Proofs.YthehegidpamldaaGreatDoor.aop
    rw [hop]
    simp only
    unfold acallQV at h
    unfold acallV
    split at h
    ·rename_i e;(try rw [e])
     obtain ⟨zs,r,h1,h2,h3,h4⟩:=h
     exact Or.inl ⟨zs,r,h1,h2,h3,by rw [h4]⟩
    ·rename_i e;(try rw [e])
     obtain ⟨zs,r,h1,h2,h3,h4⟩:=h
     exact Or.inl ⟨zs,r,h1,h2,h3,by rw [h4]⟩
    ·exact h.elim
   refine Oper.wpIn_mono ?_ (aop_sound R hd key)
   rintro a' w' ⟨s',rfl,hR⟩
   exact hR
  ·exact h.elim
 | pur v hs hr h =>
  obtain ⟨v',u,hk,hrun,hr⟩:=pure_sound R h
  replace hk:v'=v:=hk
  subst hk
  exact in_of hrun (nd2 h) (show Rel X _ (a.put o.dst u) w from ⟨F,loc,R.put o.dst hr hd⟩)
 | sto t x y hop T hT H h =>
  obtain ⟨H',w',hk,hrun,hR,hl⟩:=store_rel R hT (R.ev x) (R.ev y) h
  replace hk:H'=H:=hk
  subst hk
  have:(execOp a.eval o).run P w=.ok .skip w':=by simp [execOp,hop,hrun]
  exact in_of this (nd hop) (show Rel X _ (a.put o.dst undef) w' from ⟨F,loc,hR.put o.dst (.f _ _ (.v _)) hd⟩)
end
end

section
open Go Go.RowKit

section
variable {P : Program} {ops : Array Oper}
def DV (P:Program) (o:Oper) (s:AS) (v:AV) (H:AH):Prop :=
 (isStore o.op=false∧isRead o.op=true∧H=s.H∧aread P o.op s.ev s.H fun u=>u=v) ∨
 (isStore o.op=false∧isRead o.op=false∧H=s.H∧apure P o.op s.ev fun u=>u=v) ∨
 (∃t x y T,o.op=.store t x y∧tI P t=some T∧v=.f (.v undef)∧aStore T s.H (s.ev x) (s.ev y) fun u=>u=H) ∨
 (isNew o.op=true∧anew P o.op s.ev s.H fun u H'=>u=v∧H'=H)
theorem new_nr {op:Op} (h:isNew op=true):isStore op=false∧isRead op=false:=by cases op<;>first|exact ⟨rfl,rfl⟩|cases h
def E (P:Program) (ops:Array Oper) (o:Oper) (s:AS) (v:AV) (H:AH):Prop:=awant ops o s (DV P o s v H) (v=.f (.v undef)∧H=s.H)
theorem E_of {o:Oper} {s s':AS} (h:GStep' P ops o s s'):∃v H,s'=AS.put ⟨s.t,H⟩ o.dst v∧E P ops o s v H:=by
 rcases awant_or h with ⟨h1,h2⟩|⟨h1,h2⟩
 ·cases h1 with
  | new v H hn hv=>exact ⟨v,H,rfl,awant_mono (h2 False) (fun _=>.inr (.inr (.inr ⟨hn,hv⟩))) (fun h=>h.elim)⟩
  | val v hs hr hv=>exact ⟨v,s.H,rfl,awant_mono (h2 False) (fun _=>.inl ⟨hs,hr,rfl,hv⟩) (fun h=>h.elim)⟩
  | pur v hs hr hv=>exact ⟨v,s.H,rfl,awant_mono (h2 False) (fun _=>.inr (.inl ⟨hs,hr,rfl,hv⟩)) (fun h=>h.elim)⟩
  | sto t x y hop T hT H hv=>exact ⟨_,H,rfl,awant_mono (h2 False) (fun _=>.inr (.inr (.inl ⟨t,x,y,T,hop,hT,rfl,hv⟩))) (fun h=>h.elim)⟩
 ·exact ⟨_,s.H,h1,awant_mono (h2 False) (fun h=>h.elim) (fun _=>⟨rfl,rfl⟩)⟩
theorem E_to {o:Oper} {s:AS} {v:AV} {H:AH} (h:E P ops o s v H):GStep' P ops o s (AS.put ⟨s.t,H⟩ o.dst v):=by
 refine awant_mono h (fun h=>?_) (fun ⟨h1,h2⟩=>by subst h1;subst h2;rfl)
 rcases h with ⟨h1,h2,rfl,h3⟩|⟨h1,h2,rfl,h3⟩|⟨t,x,y,T,hop,hT,rfl,h3⟩|⟨h1,h3⟩
 ·exact .val v h1 h2 h3
 ·exact .pur v h1 h2 h3
 ·exact .sto t x y hop T hT H h3
 ·exact .new v H h1 h3
theorem pure_congr {op : Op} {ρ ρ' : Operand → AV} (hρ : ∀ x ∈ op.operands, ρ' x = ρ x) {k : AV → Prop} (h : apure P op ρ k) : apure P op ρ' k := by
  have hm : ∀ (o : Option Operand), (∀ x, o = some x → x ∈ op.operands) → o.map ρ' = o.map ρ := fun o ho => by
    cases o with
    | none => rfl
    | some x => simp [hρ x (ho x rfl)]
  have hl : ∀ (l : List Operand), (∀ x ∈ l, x ∈ op.operands) → l.map ρ' = l.map ρ := fun l hl => List.map_congr_left fun x hx => hρ x (hl x hx)
  unfold apure at h ⊢
  split at h
  · rename_i x; rw [hρ x (by simp [Op.operands])]; exact h
  · rename_i x; rw [hρ x (by simp [Op.operands])]; exact h
  · rename_i c x y; rw [hρ c (by simp [Op.operands]), hρ x (by simp [Op.operands]), hρ y (by simp [Op.operands])]; exact h
  · rename_i op t x y ty; rw [hρ x (by simp [Op.operands]), hρ y (by simp [Op.operands])]; exact h
  · rename_i op t x; rw [hρ x (by simp [Op.operands])]; exact h
  · rename_i t d x; rw [hρ x (by simp [Op.operands])]; exact h
  · rename_i t x f; rw [hρ x (by simp [Op.operands])]; exact h
  · rename_i t x i; rw [hρ x (by simp [Op.operands]), hρ i (by simp [Op.operands])]; exact h
  · rename_i t x i; rw [hρ x (by simp [Op.operands]), hρ i (by simp [Op.operands])]; exact h
  · rename_i t x lo hi
    rw [hρ x (by simp [Op.operands]), hm lo (fun y hy => by subst hy; simp [Op.operands]), hm hi (fun y hy => by subst hy; simp [Op.operands])]; exact h
  · rename_i x i; rw [hρ x (by simp [Op.operands])]; exact h
  · rename_i f x y
    rw [hl x.toList (fun z hz => by simp [Op.operands] at *; exact .inl hz), hl y.toList (fun z hz => by simp [Op.operands] at *; exact .inr hz)]; exact h
  · rename_i t ps
    have : ps.toList.map (fun p => (p.1, ρ' p.2)) = ps.toList.map (fun p => (p.1, ρ p.2)) := List.map_congr_left fun p hp => by
      rw [hρ p.2 (by simp only [Op.operands, List.mem_toArray, List.mem_map]; exact ⟨p, hp, rfl⟩)]
    rw [this]; exact h
  · rename_i x; rw [hρ x (by simp [Op.operands])]; exact h
  · rename_i args ts
    split at h
    · rename_i x t hargs hts
      rw [hρ x (by have : x ∈ args.toList := by rw [hargs]; simp
                   simp [Op.operands, Call.operands]; simpa using this)]
      exact h
    · exact h.elim
  · exact h.elim
theorem read_congr {op:Op} {ρ ρ':Operand→AV} {H:AH} (hρ:∀x∈op.operands,ρ' x=ρ x) {k:AV→Prop} (h:aread P op ρ H k):aread P op ρ' H k:=by
 unfold aread at h ⊢
 split at h
 ·rename_i t x;rw [hρ x (by simp [Op.operands])];exact h
 ·rename_i f args ts
  rw [hρ f (by simp [Op.operands,Call.operands]),List.map_congr_left (f:=ρ') (g:=ρ) (l:=args.toList) fun x hx=>hρ x (by simp [Op.operands,Call.operands];exact .inr (by simpa using hx))]
  exact h
 ·exact h.elim
theorem new_congr {op:Op} {ρ ρ':Operand→AV} {H:AH} (hρ:∀x∈op.operands,ρ' x=ρ x) {k:AV→AH→Prop} (h:anew P op ρ H k):anew P op ρ' H k:=by
 unfold anew at h ⊢
 split at h
 ·exact h
 ·rename_i t x;rw [hρ x (by simp [Op.operands])];exact h
 ·rename_i t len ps
  have:ps.toList.map (fun p=>(p.1,ρ' p.2))=ps.toList.map (fun p=>(p.1,ρ p.2)):=List.map_congr_left fun p hp=>by
   rw [hρ p.2 (by simp only [Op.operands,List.mem_toArray,List.mem_map];exact ⟨p,hp,rfl⟩)]
  rw [this];exact h
 ·exact h.elim
def Same (ops:Array Oper) (o:Oper) (s s':AS):Prop:=(∀x∈o.op.operands,s'.ev x=s.ev x)∧∀j b,o.guard=some (j,b)→∀d,(ops[j]?).bind (·.dst)=some d→s'.t[d]?=s.t[d]?
theorem want_congr {o:Oper} {s s':AS} (hs:Same ops o s s') {y n:Prop} (h:awant ops o s y n):awant ops o s' y n:=by
 unfold awant at h ⊢
 cases hg:o.guard with
 | none=>rw [hg] at h;exact h
 | some p =>
  obtain ⟨j,b⟩:=p
  rw [hg] at h
  simp only at h ⊢
  cases hd:(ops[j]?).bind (·.dst) with
  | none=>rw [hd] at h;exact h
  | some d =>
   rw [hd] at h
   simp only at h ⊢
   rw [hs.2 j b hg d hd];exact h
theorem E_congr {o:Oper} {s s':AS} (hs:Same ops o s s') (hH:s'.H=s.H) {v:AV} {H:AH} (h:E P ops o s v H):E P ops o s' v H:=by
 refine want_congr hs (awant_mono h (fun h=>?_) (fun h=>by rw [hH];exact h))
 rcases h with ⟨h1,h2,rfl,h3⟩|⟨h1,h2,rfl,h3⟩|⟨t,x,y,T,hop,hT,rfl,h3⟩|⟨h1,h3⟩
 ·exact .inl ⟨h1,h2,hH.symm,by rw [hH];exact read_congr hs.1 h3⟩
 ·exact .inr (.inl ⟨h1,h2,hH.symm,pure_congr hs.1 h3⟩)
 ·exact .inr (.inr (.inl ⟨t,x,y,T,hop,hT,rfl,by rw [hH,hs.1 x (by rw [hop];simp [Op.operands]),hs.1 y (by rw [hop];simp [Op.operands])];exact h3⟩))
 ·exact .inr (.inr (.inr ⟨h1,by rw [hH];exact new_congr hs.1 h3⟩))
theorem E_keep {o:Oper} {s:AS} (hns:isStore o.op=false) (hnn:isNew o.op=false) {v:AV} {H:AH} (h:E P ops o s v H):H=s.H:=by
 rcases awant_or h with ⟨h1,_⟩|⟨h1,_⟩
 ·rcases h1 with ⟨_,_,h,_⟩|⟨_,_,h,_⟩|⟨t,x,y,T,hop,_⟩|⟨h,_⟩
  ·exact h
  ·exact h
  ·rw [hop] at hns;cases hns
  ·rw [hnn] at h;cases h
 ·exact h1.2
theorem E_free {o:Oper} {s s':AS} (hns:isStore o.op=false) (hnn:isNew o.op=false) (hnr:isRead o.op=false) (hs:Same ops o s s') {v:AV} {H:AH} (h:E P ops o s v H):E P ops o s' v s'.H:=by
 refine want_congr hs (awant_mono h (fun h=>?_) (fun h=>⟨h.1,rfl⟩))
 rcases h with ⟨_,h2,_⟩|⟨h1,h2,rfl,h3⟩|⟨t,x,y,T,hop,_⟩|⟨h,_⟩
 ·rw [hnr] at h2;cases h2
 ·exact .inr (.inl ⟨h1,h2,rfl,pure_congr hs.1 h3⟩)
 ·rw [hop] at hns;cases hns
 ·rw [hnn] at h;cases h
theorem put_same {o:Oper} {s:AS} {d:Option Tmp} (v:AV) (H:AH) (h:∀t,d=some t→t∉o.looksAt ops):Same ops o s (AS.put ⟨s.t,H⟩ d v):=by
 cases d with
 | none=>exact ⟨fun x _=>rfl,fun _ _ _ _ _=>rfl⟩
 | some d =>
  have hd:=h d rfl
  unfold Oper.looksAt at hd
  rw [List.mem_append,not_or] at hd
  refine ⟨fun x hx=>?_,fun j b hg t ht=>?_⟩
  ·cases x with
   | tmp t =>
    have hne:d≠t:=fun e=>hd.1 (List.mem_filterMap.2 ⟨.tmp d,by rw [e];simpa using hx,rfl⟩)
    show (s.t.set d v).getD t .any=s.t.getD t .any
    simp [List.getD_eq_getElem?_getD,List.getElem?_set_ne hne]
   | _=>rfl
  ·have hne:d≠t:=fun e=>hd.2 (by rw [hg];simp only;rw [ht];simp [e])
   show (s.t.set d v)[t]?=s.t[t]?
   exact List.getElem?_set_ne hne
theorem put_comm (s:AS) {x y:Option Tmp} (v u:AV) (h:∀d,x=some d→y≠some d):(s.put x v).put y u=(s.put y u).put x v:=by
 cases x with
 | none=>rfl
 | some a =>
  cases y with
  | none=>rfl
  | some b =>
   have hne:a≠b:=fun e=>h a rfl (by rw [e])
   show (⟨(s.t.set a v).set b u,s.H⟩:AS)=⟨(s.t.set b u).set a v,s.H⟩
   rw [List.set_comm _ _ hne]
def memconf (a b:Op):Bool:=((isStore a&&(isStore b||isRead b))||(isStore b&&isRead a))||(isNew a&&((isStore b||isRead b)||isNew b))
theorem Frz.more {H:AH} {x:AV} {y:FV} (h:Frz H x y) (o:AO):Frz (H++[some o]) x y:=by
 have up:∀{r:Nat} {p:AO},H[r]?=some (some p)→(H++[some o])[r]?=some (some p):=fun {r p} h=>by rw [List.getElem?_append_left (hlt h)];exact h
 induction h with
 | f x=>exact .f x
 | nil sz=>exact .nil sz
 | agg cs ds hl _ ih=>exact .agg cs ds hl ih
 | tup cs ds hl _ ih=>exact .tup cs ds hl ih
 | own r sz off k p ds ho hs hk hl _ ih=>exact .own r sz off k p ds (up ho) hs hk hl ih
 | ptr r sz i j p e d ho hs he _ ih=>exact .ptr r sz i j p e d (up ho) hs he ih
 | fn f a b a' b' h1 _ h3 _ ih1 ih2=>exact .fn f a b a' b' h1 ih1 h3 ih2
theorem read_more {op:Op} {ρ:Operand→AV} {H:AH} {k:AV→Prop} (o:AO) (h:aread P op ρ H k):aread P op ρ (H++[some o]) k:=by
 have hz:∀{xs:List AV} {zs:List FV},FrzL H xs zs→FrzL (H++[some o]) xs zs:=fun h=>⟨h.1,fun j x y hx hy=>(h.2 j x y hx hy).more o⟩
 unfold aread at h ⊢
 split at h
 ·split at h
  ·rename_i e;(try rw [e])
   unfold aload at h ⊢
   split at h
   ·obtain ⟨p,h1,h2⟩:=h
    exact ⟨p,by rw [List.getElem?_append_left (hlt h1)];exact h1,h2⟩
   ·exact h
   ·exact h.elim
  ·exact h.elim
 ·unfold acallQV at h ⊢
  split at h
  ·rename_i e;(try rw [e])
   obtain ⟨zs,r,h1,h2⟩:=h;exact ⟨zs,r,hz h1,h2⟩
  ·rename_i e;(try rw [e])
   obtain ⟨zs,r,h1,h2⟩:=h;exact ⟨zs,r,hz h1,h2⟩
  ·exact h.elim
 ·exact h.elim
theorem store_more {T:TI} {H H1:AH} {x y:AV} (o:AO) (h:aStore T H x y fun u=>u=H1):H1.length=H.length∧aStore T (H++[some o]) x y fun u=>u=H1++[some o]:=by
 unfold aStore at h ⊢
 split at h
 ·rename_i r sz i j
  obtain ⟨p,h1,h2,h3,h4,e,h5,h6⟩:=h
  have hr:=hlt h1
  have hset:∀q:Option AO,(H++[some o]).set r q=H.set r q++[some o]:=fun q=>List.set_append_left _ _ hr
  split at h6
  ·rename_i hc
   subst h6
   exact ⟨by simp,p,by rw [List.getElem?_append_left hr];exact h1,h2,h3,h4,e,h5,by rw [if_pos hc,hset]⟩
  ·rename_i hc
   obtain ⟨h6,h7⟩:=h6
   subst h7
   exact ⟨by simp,p,by rw [List.getElem?_append_left hr];exact h1,h2,h3,h4,e,h5,by rw [if_neg hc];exact ⟨h6,hset _⟩⟩
 ·exact h.elim
theorem put_t (s:AS) (H H':AH) (d:Option Tmp) (v:AV):(⟨(AS.put ⟨s.t,H⟩ d v).t,H'⟩:AS)=AS.put ⟨s.t,H'⟩ d v:=by cases d<;>rfl
theorem step_comm {oi oj:Oper} (hap:oi.apart ops oj=true) (hm:memconf oi.op oj.op=false) {s s1 s2:AS} (h1:GStep' P ops oi s s1) (h2:GStep' P ops oj s1 s2):∃s1',GStep' P ops oj s s1'∧GStep' P ops oi s1' s2:=by
 obtain ⟨a1,a2,a3⟩:=Oper.apart_spec hap
 obtain ⟨v,H1,rfl,e1⟩:=E_of h1
 obtain ⟨u,H2,rfl,e2⟩:=E_of h2
 have hput:∀(H:AH),(AS.put ⟨s.t,H⟩ oi.dst v).H=H:=fun H=>AS.put_H _ _ _
 have back:∀H,Same ops oj (AS.put ⟨s.t,H⟩ oi.dst v) s:=fun H=>by
  have:=put_same (ops:=ops) (o:=oj) (s:=s) v H a1
  exact ⟨fun x hx=>(this.1 x hx).symm,fun j b hg d hd=>(this.2 j b hg d hd).symm⟩
 have fwd:∀H,Same ops oi s (AS.put ⟨s.t,H⟩ oj.dst u):=fun H=>put_same (ops:=ops) (o:=oi) (s:=s) u H a3
 have fin:∀H,(AS.put ⟨(AS.put ⟨s.t,H1⟩ oi.dst v).t,H2⟩ oj.dst u)=AS.put ⟨(AS.put ⟨s.t,H⟩ oj.dst u).t,H2⟩ oi.dst v:=fun H=>by
  rw [put_t,put_t,put_comm _ _ _ a2]
 rw [memconf,Bool.or_eq_false_iff,Bool.or_eq_false_iff] at hm
 obtain ⟨⟨m1,m2⟩,m3⟩:=hm
 -- the later one lays a new object
 cases hjn:isNew oj.op with
 | true =>
  rw [hjn,Bool.or_true,Bool.and_true] at m3
  have e2s:E P ops oj (⟨s.t,H1⟩:AS) u H2:=E_congr (s:=AS.put ⟨s.t,H1⟩ oi.dst v) (s':=⟨s.t,H1⟩) (by
   have:=put_same (ops:=ops) (o:=oj) (s:=⟨s.t,H1⟩) v H1 a1
   exact ⟨fun x hx=>(this.1 x hx).symm,fun j b hg d hd=>(this.2 j b hg d hd).symm⟩) (AS.put_H _ _ _).symm e2
  have main:∀(f:Nat→AV) (o:AO),u=f H1.length→H2=H1++[some o]→(∀H',H'.length=H1.length→E P ops oj (⟨s.t,H'⟩:AS) u (H'++[some o]))→H1.length=s.H.length→E P ops oi (⟨s.t,s.H++[some o]⟩:AS) v (H1++[some o])→∃s1',GStep' P ops oj s s1'∧GStep' P ops oi s1' (AS.put ⟨(AS.put ⟨s.t,H1⟩ oi.dst v).t,H2⟩ oj.dst u):=by
   rintro f o _ hH2 hany hlen hoi
   refine ⟨AS.put ⟨s.t,s.H++[some o]⟩ oj.dst u,E_to (hany s.H hlen.symm),?_⟩
   rw [fin (s.H++[some o])]
   refine E_to ?_
   have:=put_same (ops:=ops) (o:=oi) (s:=⟨s.t,s.H++[some o]⟩) u (s.H++[some o]) a3
   rw [hH2]
   exact E_congr this (AS.put_H _ _ _) hoi
  rcases awant_or e2s with ⟨hd,hw⟩|⟨hd,hw⟩
  ·have hnew:anew P oj.op (AS.ev ⟨s.t,H1⟩) H1 fun u' H'=>u'=u∧H'=H2:=by
    rcases hd with ⟨_,h,_⟩|⟨_,_,_,h⟩|⟨t,x,y,T,hop,_⟩|⟨_,h⟩
    ·rw [(new_nr hjn).2] at h;cases h
    ·exfalso
     cases hop:oj.op<;>rw [hop] at hjn h<;>first|exact h|cases hjn
    ·rw [hop] at hjn;cases hjn
    ·exact h
   obtain ⟨f,o,⟨hf,hH2⟩,hall⟩:=anew_lin hnew
   have hany:∀H',H'.length=H1.length→E P ops oj (⟨s.t,H'⟩:AS) u (H'++[some o]):=fun H' hl=>by
    refine want_congr (s:=⟨s.t,H1⟩) ⟨fun x _=>by cases x<;>rfl,fun _ _ _ _ _=>rfl⟩ (awant_mono (hw False) (fun _=>.inr (.inr (.inr ⟨hjn,?_⟩))) (fun h=>h.elim))
    have:=hall H'
    rw [hl,hf] at this
    exact new_congr (ρ:=AS.ev ⟨s.t,H1⟩) (fun x _=>by cases x<;>rfl) this
   have hoi:E P ops oi (⟨s.t,s.H++[some o]⟩:AS) v (H1++[some o])∧H1.length=s.H.length:=by
    rcases awant_or e1 with ⟨hd1,hw1⟩|⟨hd1,hw1⟩
    ·have cg:∀{y:Prop},y→awant ops oi (⟨s.t,s.H++[some o]⟩:AS) y (v=.f (.v undef)∧H1++[some o]=s.H++[some o]):=fun {y} hy=>want_congr (s:=s) ⟨fun x _=>by cases x<;>rfl,fun _ _ _ _ _=>rfl⟩ (awant_mono (hw1 False) (fun _=>hy) (fun h=>h.elim))
     have ev:AS.ev (⟨s.t,s.H++[some o]⟩:AS)=s.ev:=by funext x;cases x<;>rfl
     rcases hd1 with ⟨g1,g2,rfl,g3⟩|⟨g1,g2,rfl,g3⟩|⟨t,x,y,T,hop,hT,rfl,g3⟩|⟨g1,g3⟩
     ·exact ⟨cg (.inl ⟨g1,g2,rfl,by rw [ev];exact read_more o g3⟩),rfl⟩
     ·exact ⟨cg (.inr (.inl ⟨g1,g2,rfl,by rw [ev];exact g3⟩)),rfl⟩
     ·obtain ⟨hl,g4⟩:=store_more o g3
      exact ⟨cg (.inr (.inr (.inl ⟨t,x,y,T,hop,hT,rfl,by rw [ev];exact g4⟩))),hl⟩
     ·rw [m3] at g1;cases g1
    ·obtain ⟨rfl,rfl⟩:=hd1
     exact ⟨want_congr (s:=s) ⟨fun x _=>by cases x<;>rfl,fun _ _ _ _ _=>rfl⟩ (awant_mono (hw1 False) (fun h=>h.elim) (fun _=>⟨rfl,rfl⟩)),rfl⟩
   exact main f o hf.symm hH2.symm hany hoi.2 hoi.1
  · -- not wanted: as a pure one
   have hu:u=.f (.v undef):=hd.1
   have hH2:H2=H1:=hd.2
   have e2n:∀H',E P ops oj (⟨s.t,H'⟩:AS) u H':=fun H'=>want_congr (s:=⟨s.t,H1⟩) ⟨fun x _=>by cases x<;>rfl,fun _ _ _ _ _=>rfl⟩ (awant_mono (hw False) (fun h=>h.elim) (fun _=>⟨hu,rfl⟩))
   refine ⟨AS.put ⟨s.t,s.H⟩ oj.dst u,E_to (e2n s.H),?_⟩
   rw [fin s.H,hH2]
   exact E_to (E_congr (fwd s.H) (AS.put_H _ _ _) e1)
 | false =>
 cases hin:isNew oi.op with
 | true =>
  rw [hin,Bool.true_and,Bool.or_eq_false_iff,Bool.or_eq_false_iff] at m3
  have hH2:=E_keep m3.1.1 hjn e2
  rw [hput] at hH2
  subst hH2
  have e2':=E_free m3.1.1 hjn m3.1.2 (back H2) e2
  refine ⟨AS.put ⟨s.t,s.H⟩ oj.dst u,E_to e2',?_⟩
  rw [fin s.H]
  exact E_to (E_congr (fwd s.H) (AS.put_H _ _ _) e1)
 | false =>
 cases hi:isStore oi.op with
 | true =>
  rw [hi,Bool.true_and,Bool.or_eq_false_iff] at m1
  have hH2:=E_keep m1.1 hjn e2
  rw [hput] at hH2
  subst hH2
  have e2':=E_free m1.1 hjn m1.2 (back H2) e2
  refine ⟨AS.put ⟨s.t,s.H⟩ oj.dst u,E_to e2',?_⟩
  rw [fin s.H]
  exact E_to (E_congr (fwd s.H) (AS.put_H _ _ _) e1)
 | false =>
  have hH1:=E_keep hi hin e1
  subst hH1
  have e2':E P ops oj s u H2:=E_congr (back s.H) (hput s.H).symm e2
  refine ⟨AS.put ⟨s.t,H2⟩ oj.dst u,E_to e2',?_⟩
  rw [fin H2]
  cases hj:isStore oj.op with
  | true =>
   rw [hj,Bool.true_and] at m2
   have:=E_free hi hin m2 (fwd H2) e1
   rw [AS.put_H] at this
   exact E_to this
  | false =>
   have hH2:=E_keep hj hjn e2'
   subst hH2
   exact E_to (E_congr (fwd s.H) (AS.put_H _ _ _) e1)

def aany (P:Program) (ops:Array Oper) (K:AS→Prop):Nat→Array Bool→AS→Prop
 | 0,listed,s=>Region.ready .any ops listed=[]∧K s
 | n+1,listed,s=>(Region.ready .any ops listed=[]→K s)∧∀i∈Region.ready .any ops listed,∀o,ops[i]?=some o→∃s',GStep' P ops o s s'∧aany P ops K n (listed.setIfInBounds i true) s'
theorem aany_sound {m:Nat} {X:Cx} (hk:∀(i:Nat) o,ops[i]?=some o→∀j,o.dst=some j→X.kp j=false) {K:AS→Prop} {Q:Exit→Act→World→Prop} (hQ:∀s a w,K s→Rel X s a w→Q .normal a w):∀(n:Nat) (listed:Array Bool) (s:AS) (a:Act) (w:World),aany P ops K n listed s→Rel X s a w→wpAnyIn (fen X.rd) m P .any ops Q n listed a w:=by
 intro n
 induction n with
 | zero=>intro listed s a w h hR;exact ⟨h.1,hQ s a w h.2 hR⟩
 | succ n ih =>
  intro listed s a w h hR
  refine ⟨fun e=>hQ s a w (h.1 e) hR,fun i hi=>?_⟩
  obtain ⟨_,o,ho,_⟩:=mem_ready.1 hi
  obtain ⟨s',h1,h2⟩:=h.2 i hi o ho
  unfold wpOpIn
  rw [ho]
  simp only
  obtain ⟨F,loc,R⟩:=hR
  rcases awant_sound R h1 with ⟨hw,h1⟩|⟨hw,h1⟩
  ·rw [if_pos hw]
   exact (Oper.wpIn_mono (fun a' w' hR'=>ih _ s' a' w' h2 hR') (DStep.sound R (hk i _ ho) h1))
  ·rw [if_neg (by rw [hw];simp)]
   subst h1
   exact ⟨fun _ _=>trivial,ih _ _ _ w h2 ⟨F,loc,R.put _ (.f _ _ (.v _)) (hk i _ ho)⟩⟩
def waitBits (ops:List Oper):List Nat→List Nat
 | acc=>match ops with
  | []=>acc
  | o::rest=>waitBits rest (acc++[o.after.toList.foldl (fun m e=>if Region.binds .any e then m|||2^e.on|||acc.getD e.on 0 else m) 0])
theorem foldBits (acc:List Nat) (i:Nat):∀(l:List Edge) (m:Nat),(l.foldl (fun m e=>if Region.binds .any e then m|||2^e.on|||acc.getD e.on 0 else m) m).testBit i=true →
  m.testBit i=true∨∃e∈l,Region.binds .any e=true∧(e.on=i∨(acc.getD e.on 0).testBit i=true):=by
 intro l
 induction l with
 | nil=>intro m h;exact .inl h
 | cons e l ih =>
  intro m h
  rw [List.foldl_cons] at h
  rcases ih _ h with h|⟨e',he',hb,h⟩
  ·split at h
   ·rename_i hb
    rw [Nat.testBit_or,Nat.testBit_or,Bool.or_eq_true,Bool.or_eq_true] at h
    rcases h with (h|h)|h
    ·exact .inl h
    ·right
     refine ⟨e,by simp,hb,.inl ?_⟩
     rw [Nat.testBit_two_pow] at h
     simpa using h
    ·exact .inr ⟨e,by simp,hb,.inr h⟩
   ·exact .inl h
  ·exact .inr ⟨e',by simp [he'],hb,h⟩
theorem waitBits_ge:∀(ops:List Oper) (acc:List Nat) (j:Nat),j<acc.length→(waitBits ops acc)[j]?=acc[j]?:=by
 intro ops
 induction ops with
 | nil=>intro acc j _;unfold waitBits;rfl
 | cons o rest ih=>intro acc j h;unfold waitBits;rw [ih _ j (by simp;omega),List.getElem?_append_left h]
theorem waitBits_spec:∀(ops:List Oper) (acc:List Nat) (j:Nat) (o:Oper),ops[j]?=some o→∀i,((waitBits ops acc).getD (acc.length+j) 0).testBit i=true →
  ∃e∈o.after.toList,Region.binds .any e=true∧(e.on=i∨((waitBits ops acc).getD e.on 0).testBit i=true):=by
 intro ops
 induction ops with
 | nil=>intro acc j o h;simp at h
 | cons o' rest ih =>
  intro acc j o h i hi
  unfold waitBits at hi ⊢
  cases j with
  | zero =>
   simp only [List.getElem?_cons_zero,Option.some.injEq] at h
   subst h
   rw [Nat.add_zero,List.getD_eq_getElem?_getD,waitBits_ge _ _ _ (by simp),List.getElem?_append_right (Nat.le_refl _)] at hi
   simp only [Nat.sub_self,List.getElem?_cons_zero,Option.getD_some] at hi
   rcases foldBits acc i _ _ hi with h|⟨e,he,hb,h⟩
   ·simp at h
   ·refine ⟨e,he,hb,?_⟩
    rcases h with h|h
    ·exact .inl h
    ·right
     by_cases hl:e.on<acc.length
     ·rw [List.getD_eq_getElem?_getD,waitBits_ge _ _ _ (by simp;omega),List.getElem?_append_left hl,←List.getD_eq_getElem?_getD];exact h
     ·rw [List.getD_eq_getElem?_getD,List.getElem?_eq_none (by omega)] at h;simp at h
  | succ j =>
   have:=ih (acc++[_]) j o (by simpa using h) i (by rw [List.length_append];simp only [List.length_singleton];rw [show acc.length+1+j=acc.length+(j+1) by omega];exact hi)
   exact this
def drawOk (ops:Array Oper):Bool :=
 let b:=waitBits ops.toList []
 (List.range ops.size).all fun i=>match ops[i]? with
  | none=>false
  | some oi=>oi.after.toList.all (fun e=>!Region.binds .any e||decide (e.on<i)) &&
   (List.range ops.size).all fun j=>decide (j≤i)||(b.getD j 0).testBit i||(match ops[j]? with
    | none=>true
    | some oj=>oi.apart ops oj&&!memconf oi.op oj.op)
def Closed (ops:Array Oper) (listed:Array Bool):Prop:=∀j o,ops[j]?=some o→listed.getD j true=true→∀e∈o.after,Region.binds .any e=true→listed.getD e.on false=true
theorem waits_listed {listed:Array Bool} (hc:Closed ops listed) (hsz:listed.size=ops.size) {i:Nat}:∀(n j:Nat) (o:Oper),j<n→ops[j]?=some o→(∀e∈o.after,Region.binds .any e=true→listed.getD e.on false=true∧e.on<j) →
  (∀k o,ops[k]?=some o→∀e∈o.after,Region.binds .any e=true→e.on<k)→((waitBits ops.toList []).getD j 0).testBit i=true→listed.getD i false=true:=by
 intro n
 induction n with
 | zero=>intro j o h;omega
 | succ n ih =>
  intro j o hj ho hall hlt hb
  have:=waitBits_spec ops.toList [] j o (by simpa using ho) i (by simpa using hb)
  obtain ⟨e,he,hbd,h⟩:=this
  obtain ⟨h1,h2⟩:=hall e (by simpa using he) hbd
  rcases h with rfl|h
  ·exact h1
  ·have hel:e.on<ops.size:=by have:=(Array.getElem?_eq_some_iff.1 ho).1;omega
   refine ih e.on ops[e.on] (by omega) (by simp [hel]) (fun e' he' hb'=>⟨?_,hlt e.on _ (by simp [hel]) e' he' hb'⟩) hlt h
   refine hc e.on _ (by simp [hel]) ?_ e' he' hb'
   have:e.on<listed.size:=by omega
   simpa [Array.getD_eq_getD_getElem?,this] using h1
theorem aany_first {K:AS→Prop} {i:Nat} {oi:Oper} (hi:ops[i]?=some oi) (hord:∀k o,ops[k]?=some o→∀e∈o.after,Region.binds .any e=true→e.on<k) :
  ∀(n:Nat) (listed:Array Bool) (s s':AS),listed.size=ops.size→Closed ops listed→(∀j oj,ops[j]?=some oj→j≠i→listed.getD j true=false→((waitBits ops.toList []).getD j 0).testBit i=false→oi.apart ops oj=true∧memconf oi.op oj.op=false) →
   i∈Region.ready .any ops listed→GStep' P ops oi s s'→aany P ops K n (listed.setIfInBounds i true) s'→aany P ops K (n+1) listed s:=by
 intro n
 induction n with
 | zero =>
  intro listed s s' _ _ _ hr hst h
  refine ⟨fun e=>(by rw [e] at hr;cases hr),fun j hj oj hoj=>?_⟩
  by_cases hji:j=i
  ·subst hji;rw [hi] at hoj;cases hoj;exact ⟨s',hst,h⟩
  ·have:=ready_mono hj hji
   rw [h.1] at this;cases this
 | succ n ih =>
  intro listed s s' hsz hcl hfree hr hst h
  refine ⟨fun e=>(by rw [e] at hr;cases hr),fun j hj oj hoj=>?_⟩
  by_cases hji:j=i
  ·subst hji;rw [hi] at hoj;cases hoj;exact ⟨s',hst,h⟩
  ·obtain ⟨s2,g1,g2⟩:=h.2 j (ready_mono hj hji) oj hoj
   obtain ⟨hjun,oj',hoj',hall⟩:=mem_ready.1 hj
   rw [hoj] at hoj';cases hoj'
   have hiun:=(mem_ready.1 hr).1
   have hil:i<listed.size:=by
    rcases Nat.lt_or_ge i listed.size with h'|h'
    ·exact h'
    ·rw [Array.getD_eq_getD_getElem?,Array.getElem?_eq_none h'] at hiun;cases hiun
   have hnw:((waitBits ops.toList []).getD j 0).testBit i=false:=by
    cases hb:((waitBits ops.toList []).getD j 0).testBit i with
    | false=>rfl
    | true =>
     have:=waits_listed hcl hsz (j+1) j oj (by omega) hoj (fun e he hb=>⟨hall e he hb,hord j oj hoj e he hb⟩) hord hb
     have e2:listed.getD i true=listed.getD i false:=by simp [Array.getD_eq_getD_getElem?,hil]
     rw [e2,this] at hiun;cases hiun
   obtain ⟨hap,hmc⟩:=hfree j oj hoj hji hjun hnw
   obtain ⟨s1',c1,c2⟩:=step_comm hap hmc hst g1
   refine ⟨s1',c1,ih (listed.setIfInBounds j true) s1' s2 (by simpa using hsz) ?_ (fun k ok hk hki hun hno=>?_) (ready_mono hr (Ne.symm hji)) c2 ?_⟩
   ·intro k o hk hl e he hb
    by_cases hkj:k=j
    ·subst hkj
     rw [hoj] at hk;cases hk
     exact getD_set_true (hall e he hb)
    ·rw [getD_set_ne true (Ne.symm hkj)] at hl
     exact getD_set_true (hcl k o hk hl e he hb)
   ·refine hfree k ok hk hki ?_ hno
    by_cases hjk:j=k
    ·subst hjk;exact hjun
    ·rw [getD_set_ne true hjk] at hun;exact hun
   ·rw [Array.setIfInBounds_comm _ _ hji]
    exact g2
theorem aopsD_any (hok:drawOk ops=true) {K:AS→Prop}:∀(n i:Nat) (s:AS),i+n=ops.size→aopsD P ops (ops.toList.drop i) K s→aany P ops K n ((Array.range ops.size).map fun j=>decide (j<i)) s:=by
 have hall:∀i oi,ops[i]?=some oi→(∀e∈oi.after,Region.binds .any e=true→e.on<i)∧∀j oj,ops[j]?=some oj→i<j→((waitBits ops.toList []).getD j 0).testBit i=false→oi.apart ops oj=true∧memconf oi.op oj.op=false:=fun i oi hi=>by
  have hil:=(Array.getElem?_eq_some_iff.1 hi).1
  have h1:=List.all_eq_true.1 hok i (by simpa using hil)
  rw [hi] at h1
  simp only [Bool.and_eq_true,List.all_eq_true,List.mem_range,Bool.or_eq_true,decide_eq_true_eq,Bool.not_eq_true',Array.mem_toList_iff] at h1
  refine ⟨fun e he hb=>?_,fun j oj hj hij hw=>?_⟩
  ·rcases h1.1 e he with h|h
   ·rw [hb] at h;cases h
   ·exact h
  ·have hjl:=(Array.getElem?_eq_some_iff.1 hj).1
   have h2:=h1.2 j hjl
   rw [hj] at h2
   rcases h2 with (h2|h2)|h2
   ·omega
   ·rw [hw] at h2;cases h2
   ·simpa using h2
 have hord:∀k o,ops[k]?=some o→∀e∈o.after,Region.binds .any e=true→e.on<k:=fun k o hk=>(hall k o hk).1
 have hget:∀i j d,j<ops.size→((Array.range ops.size).map fun j=>decide (j<i)).getD j d=decide (j<i):=fun i j d hj=>by simp [Array.getD_eq_getD_getElem?,hj]
 intro n
 induction n with
 | zero =>
  intro i s hi h
  rw [List.drop_of_length_le (by rw [Array.length_toList];omega)] at h
  refine ⟨List.eq_nil_iff_forall_not_mem.2 fun j hj=>?_,h⟩
  obtain ⟨hun,o,ho,_⟩:=mem_ready.1 hj
  have hjl:=(Array.getElem?_eq_some_iff.1 ho).1
  rw [hget i j true hjl] at hun
  simp at hun;omega
 | succ n ih =>
  intro i s hi h
  have hil:i<ops.size:=by omega
  rw [List.drop_eq_getElem_cons (by rw [Array.length_toList];exact hil)] at h
  have hoi:ops[i]?=some ops.toList[i]:=by simp [hil]
  obtain ⟨s',hst,hrest⟩:=gstep_of (ops:=ops) (K:=aopsD P ops (ops.toList.drop (i+1)) K) h
  have hset:((Array.range ops.size).map fun j=>decide (j<i)).setIfInBounds i true=(Array.range ops.size).map fun j=>decide (j<i+1):=by
   apply Array.ext
   ·simp
   ·intro j h1 h2
    simp only [Array.size_setIfInBounds,Array.size_map,Array.size_range] at h1
    by_cases e:i=j
    ·subst e;simp
    ·rw [Array.getElem_setIfInBounds (by simpa using h1),if_neg e]
     simp only [Array.getElem_map,Array.getElem_range]
     congr 1;exact propext ⟨fun h=>by omega,fun h=>by omega⟩
  refine aany_first hoi hord n _ s s' (by simp) (fun j o hj hl e he hb=>?_) (fun j oj hj hne hun hw=>?_) ?_ hst ?_
  ·have hjl:=(Array.getElem?_eq_some_iff.1 hj).1
   rw [hget i j true hjl] at hl
   have:=hord j o hj e he hb
   rw [hget i e.on false (by omega)]
   simp at hl ⊢;omega
  ·have hjl:=(Array.getElem?_eq_some_iff.1 hj).1
   rw [hget i j true hjl] at hun
   simp at hun
   exact (hall i _ hoi).2 j oj hj (by omega) hw
  ·refine mem_ready.2 ⟨by rw [hget i i true hil];simp,_,hoi,fun e he hb=>?_⟩
   have:=hord i _ hoi e he hb
   rw [hget i e.on false (by omega)]
   simpa using this
  ·rw [hset];exact ih (i+1) s' (by omega) hrest
end
theorem J_drawn {X:Cx} {P:Program} {Q:Exit→AS→Prop} {s:AS} {id:Nat} {ops:Array Oper} (hm:P.follows .mixedOrders=true) (hok:drawOk ops=true) (h:aopsD P ops ops.toList (Q .normal) s):J X P (.region id ops true) Q s:=fun hk a w ⟨F,loc,R⟩=>by
 refine wpIn_region_any hm ?_
 have h1:=aopsD_any hok (K:=Q .normal) ops.size 0 s (by omega) (by simpa using h)
 have e:(Array.range ops.size).map (fun j=>decide (j<0))=Array.replicate ops.size false:=by
  apply Array.ext
  ·simp
  ·intro i h1 h2;simp
 rw [e] at h1
 exact aany_sound (X:=X) (okOps_at hk) (fun s a w hk hR=>⟨s,hk,hR⟩) ops.size _ s a w.drew h1 ⟨F,loc,R.drew⟩
end

section
open Go Go.RowKit

def aresult (P:Program) (rv:ResultVar) (s:AS) (k:AV→Prop):Prop :=
 match rv with
 | .tmp t=>k (s.t.getD t .any)
 | .cell a t=>match tI P t with|some T=>aload T s.H (s.t.getD a .any) k|none=>False
def aresults (P:Program):List ResultVar→AS→(List AV→Prop)→Prop
 | [],s,k=>k []
 | rv::rs,s,k=>aresult P rv s fun v=>aresults P rs s fun vs=>k (v::vs)
def aend (P:Program) (rvs:List ResultVar) (r:FV):Exit→AS→Prop
 | .normal,s|.ret,s=>aresults P rvs s fun vs=>match vs with
  | [v]=>Frz s.H v r
  | vs=>∃rs,r=.tup rs∧FrzL s.H vs rs
 | _,_=>False
def ownR (H:AH) (v:AV) (r:RV):Prop :=
 match r with
 | .f x=>v=.f x∧FlatF x
 | .own e sz es=>∃i,v=.own i sz 0 es.length∧H[i]?=some (some ⟨e,sz,es.map .f⟩)∧∀x∈es,FlatF x
def aendO (P:Program) (rvs:List ResultVar) (r:RV):Exit→AS→Prop
 | .normal,s|.ret,s=>aresults P rvs s fun vs=>∃v,vs=[v]∧ownR s.H v r
 | _,_=>False
def aendOT (P:Program) (rvs:List ResultVar) (r:RV) (rs:List FV):Exit→AS→Prop
 | .normal,s|.ret,s=>aresults P rvs s fun vs=>∃v,vs=v::rs.map .f∧rs≠[]∧ownR s.H v r∧∀x∈rs,FlatF x
 | _,_=>False
def ast0 (xs:List FV) (n:Nat):AS:=⟨xs.map .f++List.replicate (n-xs.length) (.f (.v undef)),[]⟩
section
variable {P : Program} {X : Cx} {w : World} {F : Nat → Prop} {loc : Nat → Nat × Nat} {s : AS} {a : Act}
def resV (tmps:Array Value) (rv:ResultVar):Sem Value :=
 match rv with
 | .tmp t=>pure (tmps.getD t undef)
 | .cell p t=>do loadVar t (←asAddr (tmps.getD p undef))
theorem aresult_sound (R:RelF X F loc s a w) {rv:ResultVar} {k:AV→Prop} (h:aresult P rv s k) :
  ∃v u,k v∧Rep w F loc s.H.length v u∧(resV a.tmps rv).run P w=.ok u w:=by
 unfold aresult at h
 split at h
 ·rename_i t
  exact ⟨_,_,h,R.ev (.tmp t),rfl⟩
 ·rename_i p t
  split at h
  ·rename_i T hT
   obtain ⟨v,u,hk,hrun,hr⟩:=aload_sound R hT (R.ev (.tmp p)) h
   refine ⟨v,u,hk,hr,?_⟩
   have e:(Act.eval a (.tmp p))=a.tmps.getD p undef:=rfl
   rw [e] at hrun
   cases hv:a.tmps.getD p undef with
   | pointer q =>
    cases q with
    | none=>rw [hv] at hrun;simp [Instr.loadAt,Instr.sureAddr,stuck] at hrun
    | some q=>rw [hv] at hrun;simpa [Instr.loadAt,Instr.sureAddr,asAddr,resV,hv] using hrun
   | _=>rw [hv] at hrun;simp [Instr.loadAt,Instr.sureAddr,stuck] at hrun
  ·exact h.elim
theorem aresults_sound (R:RelF X F loc s a w):∀(rvs:List ResultVar) {k:List AV→Prop},aresults P rvs s k →
  ∃(vs:List AV) (us:List Value),k vs∧vs.length=us.length∧(∀(j:Nat) v u,vs[j]?=some v→us[j]?=some u→Rep w F loc s.H.length v u) ∧
   (rvs.mapM (resV a.tmps)).run P w=.ok us w∧vs.length=rvs.length:=by
 intro rvs
 induction rvs with
 | nil=>intro k h;exact ⟨[],[],h,rfl,fun j v u h=>by simp at h,rfl,rfl⟩
 | cons rv rvs ih =>
  intro k h
  obtain ⟨v,u,hk,hr,hrun⟩:=aresult_sound R h
  obtain ⟨vs,us,hk',hl,hrs,hruns,hlen⟩:=ih hk
  refine ⟨v::vs,u::us,hk',by simp [hl],fun j x y hx hy=>?_,?_,by simp [hlen]⟩
  ·cases j with
   | zero=>simp at hx hy;subst hx;subst hy;exact hr
   | succ j=>exact hrs j x y (by simpa using hx) (by simpa using hy)
  ·rw [List.mapM_cons]
   simp only [Sem.run_bind]
   rw [hrun]
   simp only [Result.andThen_ok]
   rw [hruns]
   rfl
theorem results_run (fn:Func) (tmps:Array Value) (us:List Value) (h:(fn.results.toList.mapM (resV tmps)).run P w=.ok us w) :
  (results fn tmps).run P w=.ok (if h:us.length=1 then us[0] else .tuple us.toArray) w:=by
 have e:results fn tmps=(do let vs ←fn.results.mapM (resV tmps);pure (if h:vs.size=1 then vs[0] else .tuple vs)):=rfl
 rw [e,Sem.run_bind,Array.mapM_eq_mapM_toList,Sem.run_map,h]
 rfl
theorem rel0 {xs:List FV} {n:Nat} {ys:Array Value} {G:Nat→Prop} (hTab:TabW w) (hG:∀b,G b→b<w.heap.size) (h:RepFL w G xs ys) :
  Rel ⟨w,G,fun _=>False,none,fun _=>false,#[],fun _=>none⟩ (ast0 xs n) { tmps:=ys++Array.replicate (n-ys.size) undef,defers:=[] } w:=by
 refine ⟨G,fun _=>(0,0),hG,fun _ h=>h,fun _ h=>.inl h,Beyond.refl _ _,⟨DefOk.nil,(fun j h=>by cases h),fun _=>rfl,⟨hTab,fun _ _ h=>h⟩,fun b o h=>by cases h⟩,by simp [ast0,h.1],fun j x hj=>?_,fun r o hr=>by simp [ast0] at hr,fun r o hr=>by simp [ast0] at hr,fun r o hr=>by simp [ast0] at hr,fun r r' o o' hr=>by simp [ast0] at hr⟩
 unfold ast0 at hj
 simp only at hj
 rw [List.getElem?_append,List.length_map] at hj
 show Rep _ _ _ _ _ ((ys++Array.replicate (n-ys.size) undef).getD j undef)
 rw [Array.getD_eq_getD_getElem?,Array.getElem?_append,←h.1]
 split at hj
 ·rename_i hl
  rw [if_pos hl]
  rw [List.getElem?_map] at hj
  cases hx:xs[j]? with
  | none=>rw [hx] at hj;cases hj
  | some y =>
   rw [hx] at hj
   cases hj
   rw [←Array.getD_eq_getD_getElem?]
   exact .f _ _ (h.2 j y hx)
 ·rename_i hl
  rw [if_neg hl]
  rw [List.getElem?_replicate] at hj
  split at hj
  ·rename_i hl2;cases hj;rw [Array.getElem?_replicate,if_pos hl2];exact .f _ _ (.v _)
  ·cases hj
theorem RelF.take (R:RelF X F loc s a w) {d:Deferred} {ds:List Deferred} {D:Nat} (hd:a.defers=d::ds) (e:d={ target:=.collected D,args:=#[] }) (hfD:F D) (hB:X.w0.heap.size≤D) (hD:w.heap[D]?=some (.deferred (some []))) :
  RelF X F loc s { a with defers:=ds } (w.putObj D (.deferred none)):=by
 have hoth:∀b,b≠D→(w.putObj D (.deferred none)).heap[b]?=w.heap[b]?:=fun b h=>World.putObj_heap_other h
 have T:Tr F loc s.H.length w F loc s.H.length (w.putObj D (.deferred none)):=⟨fun _ h=>h,fun b o u hf h=>by
  by_cases eb:b=D
  ·subst eb
   unfold World.cell? at h
   simp [hD] at h
  ·rw [cell_of_block (hoth b eb)];exact h,Nat.le_refl _,fun _ _=>rfl⟩
 have hR:=R.defers.1
 rw [hd] at hR
 refine ⟨fun b h=>by rw [World.putObj_size];exact R.hF b h,R.hG,R.hN,R.below.trans ⟨rfl,rfl,rfl,by rw [World.putObj_size];exact Nat.le_refl _,fun k _ hno=>hoth k fun e=>hno (.inr (by rw [e];exact hB))⟩,⟨⟨fun d' hd'=>?_,(List.pairwise_cons.1 hR.2).2⟩,R.defers.2.1,fun h=>absurd (R.defers.2.2.1 h) (by rw [hd];simp),R.defers.2.2.2.1,R.defers.2.2.2.2.mono (fun _ h=>h) fun b o _ h1 ⟨es,c,h2⟩=>hoth b fun e=>by rw [e,hD,h2] at h1;cases h1⟩,R.len,fun j x h=>(R.tmps j x h).tr T,fun r o h=>?_,R.new,R.nF,R.inj⟩
 ·obtain ⟨D',e',hf',hB',hD'⟩:=hR.1 d' (List.mem_cons_of_mem _ hd')
  have hne:D'≠D:=fun h=>(List.pairwise_cons.1 hR.2).1 d' hd' (by rw [e,e',h])
  exact ⟨D',e',hf',hB',by rw [hoth D' hne];exact hD'⟩
 ·exact (R.obj r o h).tr T (hlt h) (hoth _ fun e=>R.nF r o h (by rw [e];exact hfD))
theorem leaves_J {fn:Func} {Rr:Ending→World→Prop}:∀(ds:List Deferred) (a:Act) (w:World),a.defers=ds→RelF X F loc s a w→(∀a' w',a'.tmps=a.tmps→RelF X F loc s a' w'→∃v,(results fn a'.tmps).run P w'=.ok v w'∧Rr (.returned v) w')→LeavesInM Fence.wide 9 P fn a.tmps Rr ds .returning w:=by
 intro ds
 induction ds with
 | nil =>
  intro a w hd R hend
  exact hend a w rfl R
 | cons d ds ih =>
  intro a w hd R hend
  obtain ⟨D,e,hf,hB,hD⟩:=R.defers.1.1 d (by rw [hd];simp)
  refine ⟨(fun h=>by cases h),.inl ⟨D,_,by rw [e],run_takeDeferred hD,?_⟩⟩
  exact ih { a with defers:=ds } _ rfl (R.take hd e hf hB hD) hend
theorem calls_of_J {X:Cx} (hrd:X.rd=none) {f:FuncId} {fn:Func} {c:Code} {args:Array Value} {w:World} {Rr:Ending→World→Prop} {Q:Exit→AS→Prop} (hf:P.funcs[f]?=some fn) (hb:fn.body=some c)
  (h:c.wpIn (fen X.rd) 9 P (fun e a w=>∃s,Q e s∧Rel X s a w) { tmps:=args++Array.replicate (fn.ntmps-args.size) undef,defers:=[] } w)
  (hend:∀(e:Exit) (a:Act) (w':World) (s:AS) (F:Nat→Prop) (loc:Nat→Nat × Nat),Q e s→RelF X F loc s a w'→match e with|.normal|.ret=>∃v,(results fn a.tmps).run P w'=.ok v w'∧Rr (.returned v) w'|_=>False):Calls P f args w Rr:=by
 rw [hrd] at h
 refine (callsIn_wide (n:=9)).1 (callsIn_of_wp_marks hf hb trivial (wpIn_mono h ?_))
 rintro e a w' ⟨s,hq,F,loc,R⟩
 have h1:=hend e a w' s F loc hq R
 cases e with
 | normal=>exact leaves_J _ a w' rfl R fun a' w'' _ R'=>hend .normal a' w'' s F loc hq R'
 | ret=>exact leaves_J _ a w' rfl R fun a' w'' _ R'=>hend .ret a' w'' s F loc hq R'
 | _=>exact h1.elim
theorem good_of {f:FuncId} {fn:Func} {c:Code} (hf:P.funcs[f]?=some fn) (hb:fn.body=some c) (hok:enterOk P f=true) {xs:List FV} {r:FV}
  (h:∀X:Cx,(∀b,¬X.O b)→X.rd=none→J X P c (aend P fn.results.toList r) (ast0 xs fn.ntmps)):Good P f xs r:=by
 refine ⟨hok,fun w G ys hTab hG hrep=>?_⟩
 refine calls_of_J (X:=⟨w,G,fun _=>False,none,fun _=>false,#[],fun _=>none⟩) rfl hf hb (h ⟨w,G,fun _=>False,none,fun _=>false,#[],fun _=>none⟩ (fun _ h=>h) rfl (okC_none (fun _=>rfl) _) _ w (rel0 hTab hG hrep)) ?_
 rintro e a w' s F loc hq R
 have fin:(aresults P fn.results.toList s fun vs=>match vs with|[v]=>Frz s.H v r|vs=>∃rs,r=.tup rs∧FrzL s.H vs rs)→∃v,(results fn a.tmps).run P w'=.ok v w'∧∃v',Ending.returned v=.returned v'∧Beyond (fun _=>False) w w'∧RepF w' (fun b=>G b∨(w.heap.size≤b∧b<w'.heap.size)) r v':=by
  intro hq
  obtain ⟨vs,us,hk,hl,hrs,hrun,hlen⟩:=aresults_sound R _ hq
  have hsub:∀b,(F b∨Live s loc b)→G b∨(w.heap.size≤b∧b<w'.heap.size):=fun b hb=>by
   rcases hb with hb|⟨i,o,ho,rfl⟩
   ·rcases R.hN b hb with h'|h'|h'
    ·exact .inl h'
    ·exact h'.elim
    ·exact .inr ⟨h',R.hF b hb⟩
   ·obtain ⟨_,vs,hv,_⟩:=R.obj i o ho
    rcases R.new i o ho with h'|h'
    ·exact .inr ⟨h',(Array.getElem?_eq_some_iff.1 hv).1⟩
    ·exact h'.elim
  refine ⟨_,results_run fn a.tmps us hrun,_,rfl,R.below,?_⟩
  split at hk
  ·rename_i v
   obtain ⟨u,rfl⟩:∃u,us=[u]:=by
    match us,hl with
    | [u],_=>exact ⟨u,rfl⟩
   exact ((hk.rep R).1 u (hrs 0 v u rfl rfl)).mono hsub (fun _ _ _ _ h=>h)
  ·rename_i hne
   obtain ⟨rs,rfl,hfl⟩:=hk
   have h1:us.length≠1:=fun e=>by
    rw [←hl] at e
    match vs,e with
    | [v],_=>exact hne v rfl
   rw [dif_neg h1]
   refine .tup rs us.toArray (by simp;rw [←hl];exact hfl.1.symm) fun j c hj=>?_
   have hjl:=glt hj
   have hv:=List.getElem?_eq_getElem (l:=vs) (i:=j) (by rw [hfl.1];exact hjl)
   have hu:=List.getElem?_eq_getElem (l:=us) (i:=j) (by rw [←hl,hfl.1];exact hjl)
   have e:us.toArray.getD j undef=us[j]'(by rw [←hl,hfl.1];exact hjl):=by simp [Array.getD_eq_getD_getElem?,hu]
   rw [e]
   exact (((hfl.2 j _ c hv hj).rep R).1 _ (hrs j _ _ hv hu)).mono hsub (fun _ _ _ _ h=>h)
 cases e with
 | normal=>exact fin hq
 | ret=>exact fin hq
 | _=>exact hq.elim
theorem ownR_rep (R:RelF X F loc s a w) (hO:∀b,¬X.O b) {v:AV} {r:RV} (h:ownR s.H v r) {u:Value} (hu:Rep w F loc s.H.length v u):RepR X.w0 w r u:=by
 cases r with
 | f x =>
  obtain ⟨rfl,hf⟩:=h
  cases hu with|f _ _ h=>exact .f x u hf (hf.rep h)
 | own e sz es =>
  obtain ⟨i,rfl,hi,hf⟩:=h
  obtain ⟨huni,vs,hvs,hvz,hc⟩:=R.obj i _ hi
  have hvs':w.heap[(loc i).1]?=some (.cells vs e (0,0)):=hvs
  cases hu with
  | own _ _ _ _ cap hr hk hm hs =>
   rw [Nat.zero_mul]
   refine .own e sz es (loc i).1 cap ((R.new i _ hi).resolve_right (hO _)) hk hm hf (uni_f.1 huni) vs hvs' (by rw [hvz,hs,Nat.zero_add]) fun j c hj=>?_
   obtain ⟨q,h1,h2⟩:=hc j (.f c) (by
    show (flat (es.map AV.f))[j]?=_
    rw [flat_f,List.getElem?_map,hj];rfl)
   have hcf:FlatF c:=by
    obtain ⟨x,hx,hcx⟩:=List.mem_flatMap.1 (List.mem_of_getElem? hj)
    have hxf:=hf x hx
    cases hxf with
    | v y=>simp only [FV.cells,List.mem_singleton] at hcx;subst hcx;exact .v y
    | agg cs hcs=>obtain ⟨m,hm⟩:=List.getElem?_of_mem (show c∈cs from hcx);exact hcs m c hm
    | tup cs hcs=>simp only [FV.cells,List.mem_singleton] at hcx;subst hcx;exact .tup cs hcs
   cases h2 with|f _ _ h2=>exact ⟨q,h1,hcf.rep h2⟩
theorem goodOT_of {f:FuncId} {fn:Func} {c:Code} (hf:P.funcs[f]?=some fn) (hb:fn.body=some c) (hok:enterOk P f=true) {xs:List FV} {r:RV} {rs:List FV}
  (h:∀X:Cx,(∀b,¬X.O b)→X.rd=none→J X P c (aendOT P fn.results.toList r rs) (ast0 xs fn.ntmps)):GoodOT P f xs r rs:=by
 refine ⟨hok,fun w G ys hTab hG hrep=>?_⟩
 refine calls_of_J (X:=⟨w,G,fun _=>False,none,fun _=>false,#[],fun _=>none⟩) rfl hf hb (h ⟨w,G,fun _=>False,none,fun _=>false,#[],fun _=>none⟩ (fun _ h=>h) rfl (okC_none (fun _=>rfl) _) _ w (rel0 hTab hG hrep)) ?_
 rintro e a w' s F loc hq R
 have fin:(aresults P fn.results.toList s fun vs=>∃v,vs=v::rs.map .f∧rs≠[]∧ownR s.H v r∧∀x∈rs,FlatF x)→∃v,(results fn a.tmps).run P w'=.ok v w' ∧
   ∃v' vs',Ending.returned v=.returned (.tuple (#[v']++vs'))∧Beyond (fun _=>False) w w'∧RepR w w' r v'∧(∀x∈rs,FlatF x)∧RepFL w' (fun _=>False) rs vs':=by
  intro hq
  obtain ⟨vs,us,⟨v,rfl,hne,hr,hfl⟩,hl,hrs,hrun,hlen⟩:=aresults_sound R _ hq
  cases us with
  | nil=>simp at hl
  | cons u us =>
   have hl':rs.length=us.length:=by simpa using hl
   have h1:(u::us).length≠1:=by
    simp only [List.length_cons]
    intro e
    exact hne (List.eq_nil_of_length_eq_zero (by omega))
   refine ⟨_,results_run fn a.tmps (u::us) hrun,u,us.toArray,?_,R.below,ownR_rep R (fun _ h=>h) hr (hrs 0 v u rfl rfl),hfl,by simpa using hl',fun j x hj=>?_⟩
   ·rw [dif_neg h1];simp
   ·have hjl:=glt hj
    have hu:=List.getElem?_eq_getElem (l:=us) (i:=j) (by omega)
    have e:us.toArray.getD j undef=us[j]'(by omega):=by simp [Array.getD_eq_getD_getElem?,hu]
    rw [e]
    have:=hrs (j+1) (.f x) (us[j]'(by omega)) (by simp [hj]) (by simp [hu])
    cases this with|f _ _ h=>exact (hfl x (List.mem_of_getElem? hj)).rep h
 cases e with
 | normal=>exact fin hq
 | ret=>exact fin hq
 | _=>exact hq.elim
end
end
end Go.Proofs.YthehegidpamldaaGreatDoor
