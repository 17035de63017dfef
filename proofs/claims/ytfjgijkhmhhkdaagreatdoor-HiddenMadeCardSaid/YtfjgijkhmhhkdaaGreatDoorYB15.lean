/- The abstract machine: calls that give new objects of their own (a slice of rows, say). Conditions: none. -/
import Derived.Test.YtfjgijkhmhhkdaaGreatDoorYB11
import Derived.Test.YtfjgijkhmhhkdaaGreatDoorYB14
set_option linter.unusedVariables false
set_option linter.unusedSimpArgs false
namespace Go.Proofs.YtfjgijkhmhhkdaaGreatDoor
open Go Go.RowKit
def AV.sim:AV→Bool
 | .f _|.own ..|.ptr ..=>true
 | _=>false
def aendN (P:Program) (rvs:List ResultVar) (v:AV) (Hn:List AO):Exit→AS→Prop
 | .normal,s|.ret,s=>aresults P rvs s fun vs=>Weak ⟨vs,s.H⟩ ⟨[v],Hn.map some⟩
 | _,_=>False
def GoodN (P:Program) (f:FuncId) (xs:List FV) (v:AV) (Hn:List AO):Prop :=
 enterOk P f=true∧∀(w:World) (G:Nat→Prop) (ys:Array Value),TabW w→(∀b,G b→b<w.heap.size)→RepFL w G xs ys →
  Calls P f ys w fun e w'=>∃(y:Value) (F:Nat→Prop) (loc:Nat→Nat × Nat),e=.returned y∧Beyond (fun _=>False) w w'∧(∀b,G b→F b)∧(∀b,F b→G b∨w.heap.size≤b)∧(∀b,F b→b<w'.heap.size) ∧
   Rep w' F loc Hn.length v y∧(∀(i:Nat) o,Hn[i]?=some o→ObjAt w' F loc Hn.length i o∧w.heap.size≤(loc i).1∧¬F (loc i).1) ∧
   (∀(i i':Nat) o o',Hn[i]?=some o→Hn[i']?=some o'→(loc i).1=(loc i').1→i=i')
section
variable {P : Program}
theorem goodN_of {f:FuncId} {fn:Func} {c:Code} (hf:P.funcs[f]?=some fn) (hb:fn.body=some c) (hok:enterOk P f=true) {xs:List FV} {v:AV} {Hn:List AO}
  (h:∀X:Cx,(∀b,¬X.O b)→X.rd=none→J X P c (aendN P fn.results.toList v Hn) (ast0 xs fn.ntmps)):GoodN P f xs v Hn:=by
 refine ⟨hok,fun w G ys hTab hG hrep=>?_⟩
 refine calls_of_J (X:=⟨w,G,fun _=>False,none,fun _=>false,#[],fun _=>none⟩) rfl hf hb (h ⟨w,G,fun _=>False,none,fun _=>false,#[],fun _=>none⟩ (fun _ h=>h) rfl (okC_none (fun _=>rfl) _) _ w (rel0 hTab hG hrep)) ?_
 rintro e a w' s F loc hq R
 have hsome:∀(i:Nat) o,Hn[i]?=some o→(Hn.map some)[i]?=some (some o):=fun i o h=>by rw [List.getElem?_map,h];rfl
 have fin:(aresults P fn.results.toList s fun vs=>Weak ⟨vs,s.H⟩ ⟨[v],Hn.map some⟩)→∃u,(results fn a.tmps).run P w'=.ok u w'∧∃(y:Value) (F:Nat→Prop) (loc:Nat→Nat × Nat),Ending.returned u=.returned y∧Beyond (fun _=>False) w w'∧(∀b,G b→F b)∧(∀b,F b→G b∨w.heap.size≤b)∧(∀b,F b→b<w'.heap.size) ∧
   Rep w' F loc Hn.length v y∧(∀(i:Nat) o,Hn[i]?=some o→ObjAt w' F loc Hn.length i o∧w.heap.size≤(loc i).1∧¬F (loc i).1) ∧
   (∀(i i':Nat) o o',Hn[i]?=some o→Hn[i']?=some o'→(loc i).1=(loc i').1→i=i'):=by
  intro hq
  obtain ⟨vs,us,hw,hl,hrs,hrun,hlen⟩:=aresults_sound R _ hq
  have hvl:vs.length=1:=by obtain ⟨g,hg⟩:=hw;exact hg.len.symm
  obtain ⟨u,rfl⟩:∃u,us=[u]:=by
   match us,(hl.symm.trans hvl:us.length=1) with
   | [u],_=>exact ⟨u,rfl⟩
  have R':RelF ⟨w,G,fun _=>False,none,fun _=>false,#[],fun _=>none⟩ F loc ⟨vs,s.H⟩ { a with tmps:=#[u] } w' :=
   ⟨R.hF,R.hG,R.hN,R.below,⟨R.defers.1,fun j h=>(by cases h),R.defers.2.2⟩,hvl,fun j x hj=>by
    have hj0:j=0:=by have:=glt hj;simp only at this;omega
    subst hj0
    exact hrs 0 x u hj rfl,R.obj,R.new,R.nF,R.inj⟩
  obtain ⟨loc',R2⟩:=R'.weak hw
  have hlm:(Hn.map some).length=Hn.length:=List.length_map ..
  refine ⟨_,results_run fn a.tmps [u] hrun,_,F,loc',rfl,R.below,R.hG,fun b hb=>?_,R.hF,?_,fun i o hi=>⟨?_,?_,R2.nF i o (hsome i o hi)⟩,fun i i' o o' hi hi' e=>R2.inj i i' o o' (hsome i o hi) (hsome i' o' hi') e⟩
  ·rcases R.hN b hb with h|h|h
   ·exact .inl h
   ·exact h.elim
   ·exact .inr h
  ·have:=R2.tmps 0 v rfl
   rw [hlm] at this
   exact this
  ·have:=R2.obj i o (hsome i o hi)
   rw [hlm] at this
   exact this
  ·rcases R2.new i o (hsome i o hi) with h|h
   ·exact h
   ·exact h.elim
 cases e with
 | normal=>exact fin hq
 | ret=>exact fin hq
 | _=>exact hq.elim
theorem Rep.shift {w:World} {F:Nat→Prop} {loc loc':Nat→Nat × Nat} {M N N':Nat} {x:AV} {y:Value} (h:Rep w F loc M x y) (hsim:x.sim=true) (hN:N+M≤N') (hl:∀r,r<M→loc' (N+r)=loc r):Rep w F loc' N' (x.ren (N+·)) y:=by
 cases h with
 | any=>cases hsim
 | one=>cases hsim
 | f x y h=>exact .f x y h
 | agg=>cases hsim
 | tup=>cases hsim
 | own r sz off k cap hr hk hm hs =>
  have:=Rep.own (w:=w) (F:=F) (loc:=loc') (N:=N') (N+r) sz off k cap (by omega) hk hm (by rw [hl r hr];exact hs)
  rwa [hl r hr] at this
 | ptr r sz i j hr =>
  have:=Rep.ptr (w:=w) (F:=F) (loc:=loc') (N:=N') (N+r) sz i j (by omega)
  rwa [hl r hr] at this
 | fn=>cases hsim
theorem sim_cells {x:AV} (h:x.sim=true):∀c∈x.cells,c.sim=true:=fun c hc=>by
 cases x with
 | f x =>
  obtain ⟨d,_,rfl⟩:=List.mem_map.1 (show c∈x.cells.map AV.f from hc)
  rfl
 | own=>rw [List.mem_singleton.1 (show c∈[_] from hc)];rfl
 | ptr=>rw [List.mem_singleton.1 (show c∈[_] from hc)];rfl
 | _=>cases h
def hpN (N:Nat) (Hn:List AO):AH:=Hn.map fun o=>some ⟨o.e,o.sz,o.es.map (AV.ren (N+·))⟩
theorem hpN_get {N i:Nat} {Hn:List AO} {p:AO} (h:(hpN N Hn)[i]?=some (some p)):∃o,Hn[i]?=some o∧p=⟨o.e,o.sz,o.es.map (AV.ren (N+·))⟩:=by
 unfold hpN at h
 rw [List.getElem?_map] at h
 cases ho:Hn[i]? with
 | none=>rw [ho] at h;cases h
 | some o=>rw [ho] at h;cases h;exact ⟨o,rfl,rfl⟩
theorem callU_N {f:FuncId} {xs:List FV} {v:AV} {Hn:List AO} (hg:GoodN P f xs v Hn) (hv:v.sim=true) (hsim:∀o∈Hn,∀e∈o.es,e.sim=true∧e.lt0 Hn.length=true) (H:AH) :
  CallU P f (xs.map .f) H (fun u G=>u=v.ren (H.length+·)∧G=H++hpN H.length Hn):=by
 refine ⟨hg.1,fun X w F loc t a ys R hys=>?_⟩
 refine (hg.2 w F ys R.tabW R.hF ⟨by rw [←hys.1,List.length_map],fun j x hj=>?_⟩).mono ?_
 ·have:=hys.2 j (.f x) (by rw [List.getElem?_map,hj];rfl)
  cases this with|f _ _ h=>exact h
 rintro e w' ⟨y,F',loc2,rfl,hb,hGF,hFn,hFl,hr,hobj,hinj⟩
 have R1:=R.step hb hGF hFl hFn
 obtain ⟨loc3,hloc⟩:∃loc3:Nat→Nat × Nat,loc3=fun r=>if r<H.length then loc r else loc2 (r-H.length):=⟨_,rfl⟩
 have l1:∀r,r<H.length→loc3 r=loc r:=fun r h=>by rw [hloc];exact if_pos h
 have l2:∀r,r<Hn.length→loc3 (H.length+r)=loc2 r:=fun r _=>by rw [hloc];show (if _ then _ else _)=_;rw [if_neg (by omega),show H.length+r-H.length=r by omega]
 have hlen:(H++hpN H.length Hn).length=H.length+Hn.length:=by rw [List.length_append];simp [hpN]
 have T:Tr F' loc H.length w' F' loc3 (H++hpN H.length Hn).length w':=Tr.old (fun _ _=>rfl) (fun _ h=>h) (by omega) l1
 have hcase:∀(r:Nat) p,(H++hpN H.length Hn)[r]?=some (some p)→(r<H.length∧H[r]?=some (some p))∨∃i o,r=H.length+i∧Hn[i]?=some o∧p=⟨o.e,o.sz,o.es.map (AV.ren (H.length+·))⟩:=fun r p h=>by
  rcases Nat.lt_or_ge r H.length with h'|h'
  ·rw [List.getElem?_append_left h'] at h;exact .inl ⟨h',h⟩
  ·rw [List.getElem?_append_right h'] at h
   obtain ⟨o,h1,h2⟩:=hpN_get h
   exact .inr ⟨r-H.length,o,by omega,h1,h2⟩
 have lt:∀{i:Nat} {o:AO},Hn[i]?=some o→i<Hn.length:=fun h=>(List.getElem?_eq_some_iff.1 h).1
 have hold:∀(r:Nat) p,H[r]?=some (some p)→(loc r).1<w.heap.size:=fun r p h=>by
  obtain ⟨_,vs,h1,_⟩:=R.obj r p h
  exact (Array.getElem?_eq_some_iff.1 h1).1
 refine ⟨y,F',loc3,_,_,⟨rfl,rfl⟩,rfl,⟨R1.hF,R1.hG,R1.hN,R1.below,R1.defers,R1.len,fun j x h=>(R1.tmps j x h).tr T,fun r p h=>?_,fun r p h=>?_,fun r p h=>?_,fun r r' p p' h h' e=>?_⟩,?_⟩
 ·rcases hcase r p h with ⟨hr',h⟩|⟨i,o,rfl,ho,rfl⟩
  ·exact (R1.obj r p h).tr T hr' rfl
  ·obtain ⟨⟨hu,vs,hv1,hv2,hc⟩,_,_⟩:=hobj i o ho
   have hs:=hsim o (List.mem_of_getElem? ho)
   refine ⟨fun e he=>?_,vs,by rw [l2 i (lt ho)];exact hv1,by rw [l2 i (lt ho)];exact hv2,fun j c hj=>?_⟩
   ·obtain ⟨x,hx,rfl⟩:=List.mem_map.1 he
    have:=hu x hx
    rw [ren_cells (hs x hx).2,List.length_map,ren_st]
    exact this
   ·rw [show flat (List.map (AV.ren (H.length+·)) o.es)=_ from ren_flat fun e he=>(hs e he).2,List.getElem?_map] at hj
    cases hcj:(flat o.es)[j]? with
    | none=>rw [hcj] at hj;cases hj
    | some d =>
     rw [hcj] at hj
     cases hj
     obtain ⟨u,h1,h2⟩:=hc j d hcj
     obtain ⟨x,hx,hdx⟩:=List.mem_flatMap.1 (List.mem_of_getElem? hcj)
     exact ⟨u,h1,h2.shift (sim_cells (hs x hx).1 d hdx) (by show _≤(H++hpN H.length Hn).length;omega) l2⟩
 ·rcases hcase r p h with ⟨hr',h⟩|⟨i,o,rfl,ho,rfl⟩
  ·rw [l1 r hr'];exact R1.new r p h
  ·rw [l2 i (lt ho)];exact .inl (Nat.le_trans R.below.size (hobj i o ho).2.1)
 ·rcases hcase r p h with ⟨hr',h⟩|⟨i,o,rfl,ho,rfl⟩
  ·rw [l1 r hr'];exact R1.nF r p h
  ·rw [l2 i (lt ho)];exact (hobj i o ho).2.2
 ·rcases hcase r p h with ⟨hr1,h1⟩|⟨i,o,rfl,ho,rfl⟩<;>rcases hcase r' p' h' with ⟨hr2,h2⟩|⟨i',o',rfl,ho',rfl⟩
  ·rw [l1 r hr1,l1 r' hr2] at e;exact R1.inj r r' p p' h1 h2 e
  ·rw [l1 r hr1,l2 i' (lt ho')] at e
   have:=hold r p h1;have:=(hobj i' o' ho').2.1;omega
  ·rw [l2 i (lt ho),l1 r' hr2] at e
   have:=hold r' p' h2;have:=(hobj i o ho).2.1;omega
  ·rw [l2 i (lt ho),l2 i' (lt ho')] at e
   rw [hinj i i' o o' ho ho' e]
 ·exact hr.shift hv (by omega) l2
end
end Go.Proofs.YtfjgijkhmhhkdaaGreatDoor
set_option linter.unusedVariables false
set_option linter.unusedSimpArgs false
namespace Go.Proofs.YtfjgijkhmhhkdaaGreatDoor
open Go Go.RowKit
theorem call_ff {P:Program} {s:AS} {K:AS→Prop} {f:FuncId} {d:Option Tmp} {vs zs:List FV} {r:FV} (hg:Good P f zs r) (hz:FrzL s.H (vs.map .f) zs) (hK:K (s.put d (.f r))):acall P f (vs.map .f) s d K :=
 .inl ⟨zs,r,hz,hg,.inl fun x hx=>by obtain ⟨y,_,rfl⟩:=List.mem_map.1 hx;exact ⟨y,rfl⟩,hK⟩
def AV.no1 (q:Nat→Bool):AV→Bool
 | .own r ..=>!q r
 | .agg _|.tup _|.fn ..=>false
 | _=>true
def AV.noOwn (q:Nat→Bool):AV→Bool
 | .agg cs|.tup cs=>cs.all (AV.no1 q)
 | .fn _ a b=>a.all (AV.no1 q)&&b.all (AV.no1 q)
 | x=>x.no1 q
section
variable {w : World} {F : Nat → Prop} {loc loc' : Nat → Nat × Nat} {N N' M : Nat} {x : AV} {y : Value} {q : Nat → Bool}
theorem Rep.noOwn1 (h:Rep w F loc N x y) (hq:x.no1 q=true) (h1:∀r,r<N→(loc' r).1=(loc r).1) (h2:∀r,r<N→q r=false→loc' r=loc r) (hN:N≤N'):Rep w F loc' N' x y:=by
 cases h with
 | any y=>exact .any y
 | one y h=>exact .one y h
 | f x y h=>exact .f x y h
 | agg=>cases hq
 | tup=>cases hq
 | fn=>cases hq
 | own r sz off k cap hr hk hm hs =>
  have hq':q r=false:=by simpa [AV.no1] using hq
  have e:=h2 r hr hq'
  have:=Rep.own (w:=w) (F:=F) (loc:=loc') (N:=N') r sz off k cap (by omega) hk hm (by rw [e];exact hs)
  rwa [e] at this
 | ptr r sz i j hr =>
  have:=Rep.ptr (w:=w) (F:=F) (loc:=loc') (N:=N') r sz i j (by omega)
  rwa [h1 r hr] at this
theorem Rep.noOwn (h:Rep w F loc N x y) (hq:x.noOwn q=true) (h1:∀r,r<N→(loc' r).1=(loc r).1) (h2:∀r,r<N→q r=false→loc' r=loc r) (hN:N≤N'):Rep w F loc' N' x y:=by
 have all:∀{cs:List AV},cs.all (AV.no1 q)=true→∀(j:Nat) c,cs[j]?=some c→c.no1 q=true:=fun h j c hj=>List.all_eq_true.1 h c (List.mem_of_getElem? hj)
 cases h with
 | agg cs vs hl hc=>exact .agg cs vs hl fun j c hj=>(hc j c hj).noOwn1 (all hq j c hj) h1 h2 hN
 | tup cs vs hl hc=>exact .tup cs vs hl fun j c hj=>(hc j c hj).noOwn1 (all hq j c hj) h1 h2 hN
 | fn f p c vs us hl hc hl' hc' =>
  obtain ⟨qa,qb⟩:=Bool.and_eq_true_iff.1 (show (p.all (AV.no1 q)&&c.all (AV.no1 q))=true from hq)
  exact .fn f p c vs us hl (fun j d hj=>(hc j d hj).noOwn1 (all qa j d hj) h1 h2 hN) hl' fun j d hj=>(hc' j d hj).noOwn1 (all qb j d hj) h1 h2 hN
 | any y=>exact .any y
 | one y h=>exact .one y h
 | f x y h=>exact .f x y h
 | own r sz off k cap hr hk hm hs=>exact (Rep.own r sz off k cap hr hk hm hs).noOwn1 hq h1 h2 hN
 | ptr r sz i j hr=>exact (Rep.ptr r sz i j hr).noOwn1 hq h1 h2 hN
theorem Rep.to1 {ρ:Nat→Nat} (h:Rep w F loc M x y) (hx:x.lt1 M=true) (hl:∀r,r<M→loc' (ρ r)=loc r) (hN:∀r,r<M→ρ r<N'):Rep w F loc' N' (x.ren1 ρ) y:=by
 cases h with
 | any y=>exact .any y
 | one y h=>exact .one y h
 | f x y h=>exact .f x y h
 | agg=>cases hx
 | tup=>cases hx
 | fn=>cases hx
 | own r sz off k cap hr hk hm hs =>
  have:=Rep.own (w:=w) (F:=F) (loc:=loc') (N:=N') (ρ r) sz off k cap (hN r hr) hk hm (by rw [hl r hr];exact hs)
  rwa [hl r hr] at this
 | ptr r sz i j hr =>
  have:=Rep.ptr (w:=w) (F:=F) (loc:=loc') (N:=N') (ρ r) sz i j (hN r hr)
  rwa [hl r hr] at this
theorem Rep.to {ρ:Nat→Nat} (h:Rep w F loc M x y) (hx:x.lt0 M=true) (hl:∀r,r<M→loc' (ρ r)=loc r) (hN:∀r,r<M→ρ r<N'):Rep w F loc' N' (x.ren ρ) y:=by
 have all:∀{cs:List AV},cs.all (AV.lt1 M)=true→∀(j:Nat) c,cs[j]?=some c→c.lt1 M=true:=fun h j c hj=>List.all_eq_true.1 h c (List.mem_of_getElem? hj)
 have key:∀{cs:List AV} {vs:Array Value},cs.all (AV.lt1 M)=true→cs.length=vs.size→(∀(j:Nat) c,cs[j]?=some c→Rep w F loc M c (vs.getD j undef))→(cs.map (AV.ren1 ρ)).length=vs.size∧∀(j:Nat) c,(cs.map (AV.ren1 ρ))[j]?=some c→Rep w F loc' N' c (vs.getD j undef):=fun {cs vs} ha hl1 hc=>⟨by rw [List.length_map];exact hl1,fun j c hj=>by
  rw [List.getElem?_map] at hj
  cases hcj:cs[j]? with
  | none=>rw [hcj] at hj;cases hj
  | some d=>rw [hcj] at hj;cases hj;exact (hc j d hcj).to1 (all ha j d hcj) hl hN⟩
 cases h with
 | agg cs vs h1 hc=>obtain ⟨k1,k2⟩:=key hx h1 hc;exact .agg _ vs k1 k2
 | tup cs vs h1 hc=>obtain ⟨k1,k2⟩:=key hx h1 hc;exact .tup _ vs k1 k2
 | fn f p c vs us h1 hc h2 hc' =>
  obtain ⟨qa,qb⟩:=Bool.and_eq_true_iff.1 (show (p.all (AV.lt1 M)&&c.all (AV.lt1 M))=true from hx)
  obtain ⟨k1,k2⟩:=key qa h1 hc
  obtain ⟨k3,k4⟩:=key qb h2 hc'
  exact .fn f _ _ vs us k1 k2 k3 k4
 | any y=>exact .any y
 | one y h=>exact .one y h
 | f x y h=>exact .f x y h
 | own r sz off k cap hr hk hm hs=>exact (Rep.own r sz off k cap hr hk hm hs).to1 hx hl hN
 | ptr r sz i j hr=>exact (Rep.ptr r sz i j hr).to1 hx hl hN
end
def rvG (e:TypeId) (sz:Nat) (l:List FV):RV:=if l=[] then .f (.v (.slice none 0 0)) else .own e sz l
theorem rvG_rep {w0 w:World} {e:TypeId} {sz:Nat} {l:List FV} {v:Value} (hr:RepR w0 w (rvG e sz l) v):RepF w (fun b=>w0.heap.size≤b∧b<w.heap.size) (.fz sz l) v:=by
 unfold rvG at hr
 split at hr
 ·rename_i hl
  subst hl
  cases hr with
  | f _ _ hf h=>cases h;exact .fz0 _ _ _ (by unfold maxLen;omega)
 ·cases hr with
  | own _ _ _ g cap hbg hk hm hf hu vs hv hs hc =>
   have hg:=(Array.getElem?_eq_some_iff.1 (show w.heap[g]?=some _ from hv)).1
   refine .fz sz l g 0 cap ⟨hbg,hg⟩ hk hm hu (fun j=>vs.getD j undef) (fun j c hj=>?_) (fun j c hj=>?_)
   ·obtain ⟨u,h1,_⟩:=hc j c hj
    show w.cell? ⟨g,0+j,none⟩=some (vs.getD j undef)
    rw [Nat.zero_add]
    unfold World.cell?
    rw [show w.heap[(⟨g,j,none⟩:Addr).block]?=_ from hv]
    simp only [Option.isSome_none,Bool.false_eq_true,if_false]
    rw [h1,Array.getD_eq_getD_getElem?,h1];rfl
   ·obtain ⟨u,h1,h2⟩:=hc j c hj
    show RepF w _ c (vs.getD j undef)
    rw [Array.getD_eq_getD_getElem?,h1]
    exact h2.mono (fun _ h=>h.elim) (fun _ _ _ h=>h.elim)
theorem freshO {P:Program} {f:FuncId} {xs:List FV} {e:TypeId} {sz:Nat} {l:List FV} (h:GoodO P f xs (rvG e sz l)):Fresh P f xs (.fz sz l):=fun w G ys h1 h2 h3 =>
 (h.2 w G ys h1 h2 h3).mono fun e w' ⟨v,he,hb,hr⟩=>⟨v,he,hb,rvG_rep hr⟩
theorem Fresh.good {P:Program} {f:FuncId} {xs:List FV} {r:FV} (h:Fresh P f xs r) (hok:enterOk P f=true):Good P f xs r:=⟨hok,fun w G ys h1 h2 h3 =>
 (h w G ys h1 h2 h3).mono fun e w' ⟨v,he,hb,hr⟩=>⟨v,he,hb,hr.mono (fun _ h=>.inr h) fun _ _ _ _ h=>h⟩⟩
theorem rvG_end {H:AH} {r:Nat} {e:TypeId} {sz:Nat} {l:List FV} (h:H[r]?=some (ob e sz l)) (hf:∀x∈l,FlatF x):ownR H (sl r sz l) (rvG e sz l):=by
 unfold rvG
 by_cases e0:l=[]
 ·rw [if_pos e0,e0];exact ⟨rfl,.v _⟩
 ·rw [if_neg e0]
  rw [ob_pos e0] at h
  exact ⟨r,sl_pos e0,h,hf⟩
def retV:List FV→AV
 | [r]=>.f r
 | _=>.f (.v (.tuple #[]))
def aendP (P:Program) (rvs:List ResultVar) (ps:List Nat) (sz:Nat→Nat) (rs:List FV) (Hn:AH):Exit→AS→Prop
 | .normal,s|.ret,s=>aresults P rvs s fun vs=>vs=rs.map .f∧Weak ⟨ps.map fun p=>s.t.getD p .any,s.H⟩ ⟨(List.range ps.length).map fun i=>.ptr i (sz i) 0 0,Hn⟩
 | _,_=>False
section
variable {P : Program}
theorem callT_P {f:FuncId} {fn:Func} {c:Code} (hf:P.funcs[f]?=some fn) (hb:fn.body=some c) (hok:enterOk P f=true) {zs:List AV} {H0:List AO} {ps:List Nat} {sz:Nat→Nat} {rs:List FV} {Hn:AH}
  (hkc:okC (fun j=>ps.contains j) c=true) (hfl:∀x∈rs,FlatF x) (hr1:rs.length≤1) (hps:∀(i p:Nat),ps[i]?=some p→zs[p]?=some (.ptr i (sz i) 0 0)) (hpl:ps.length≤H0.length)
  (h:∀X:Cx,X.rd=none→J X P c (aendP P fn.results.toList ps sz rs Hn) (ast0M zs H0 fn.ntmps))
  {s:AS} {g:Nat→Nat} (hinj:∀i i',i<H0.length→i'<H0.length→g i=g i'→i=i')
  (hobj:∀(i:Nat) o,H0[i]?=some o→s.H[g i]?=some (some ⟨o.e,o.sz,o.es.map (AV.ren g)⟩)∧∀e∈o.es,e.lt0 H0.length=true)
  {xs:List AV} (hxz:xs.length=zs.length) (hz:∀(j:Nat) x z,xs[j]?=some x→zs[j]?=some z→z.ren g=x∧z.lt0 H0.length=true)
  {q:Nat→Bool} (hq:∀i,i<ps.length→q (g i)=true) (hqn:∀r,q r=true→∃i,i<ps.length∧g i=r)
  (not:∀x∈s.t,x.noOwn q=true) (noh:∀(r:Nat) o,s.H[r]?=some (some o)→(∀i,i<H0.length→g i≠r)→∀e∈flat o.es,e.noOwn q=true)
  (hHn:∀(i:Nat) o,Hn[i]?=some (some o)→∀e∈o.es,e.lt0 Hn.length=true) {ρ:Nat→Nat} (hρ:∀i,ρ i=if i<ps.length then g i else s.H.length+(i-ps.length)) (hpn:ps.length≤Hn.length)
  {G:AH} (hGl:G.length=s.H.length+(Hn.length-ps.length))
  (hG:∀(r:Nat) p,G[r]?=some (some p)→(s.H[r]?=some (some p)∧∀i,i<H0.length→g i≠r)∨∃i o,Hn[i]?=some (some o)∧r=ρ i∧p=⟨o.e,o.sz,o.es.map (AV.ren ρ)⟩) :
  CallT P f xs s (fun v s'=>v=retV rs∧s'=⟨s.t,G⟩):=by
 refine ⟨hok,fun X w F loc a ys R hys=>?_⟩
 have hlt0:∀{i:Nat} {o:AO},H0[i]?=some o→i<H0.length:=fun h=>(List.getElem?_eq_some_iff.1 h).1
 have hgl:∀i,i<H0.length→g i<s.H.length:=fun i hi=>glt (hobj i _ (List.getElem?_eq_getElem hi)).1
 have hblk:∀(r:Nat) p,s.H[r]?=some (some p)→(loc r).1<w.heap.size:=fun r p h=>by
  obtain ⟨_,vs,h1,_⟩:=R.obj r p h
  exact (Array.getElem?_eq_some_iff.1 h1).1
 -- the callee's view
 have hrep:zs.length=ys.size∧∀(j:Nat) z,zs[j]?=some z→Rep w F (fun r=>loc (g r)) H0.length z (ys.getD j undef):=by
  refine ⟨by rw [←hxz];exact hys.1,fun j z hj=>?_⟩
  have hjl:=glt hj
  have hxj:=List.getElem?_eq_getElem (l:=xs) (i:=j) (by omega)
  have hr:=hys.2 j _ hxj
  obtain ⟨h1,h2⟩:=hz j _ z hxj hj
  rw [←h1] at hr
  exact hr.ren0 h2
 have hobj2:∀(i:Nat) o,H0[i]?=some o→ObjAt w F (fun r=>loc (g r)) H0.length i o∧¬F (loc (g i)).1:=fun i o hi=>by
  obtain ⟨h1,h2⟩:=hobj i o hi
  refine ⟨?_,R.nF _ _ h1⟩
  obtain ⟨hu,vs,hv,hvs,hc⟩:=R.obj _ _ h1
  refine ⟨fun e he=>?_,vs,hv,hvs,fun j d hj=>?_⟩
  ·have:=hu (e.ren g) (List.mem_map.2 ⟨e,he,rfl⟩)
   rw [ren_cells (h2 e he),List.length_map,ren_st] at this
   exact this
  ·obtain ⟨u,h3,h4⟩:=hc j (d.ren g) (by
    show (flat (o.es.map (AV.ren g)))[j]?=_
    rw [ren_flat fun e he=>h2 e he,List.getElem?_map,hj];rfl)
   obtain ⟨e,he,hde⟩:=List.mem_flatMap.1 (List.mem_of_getElem? hj)
   exact ⟨u,h3,h4.ren0 (lt0_cells (h2 e he) _ hde)⟩
 have hinj2:∀(i i':Nat) o o',H0[i]?=some o→H0[i']?=some o'→((fun r=>loc (g r)) i).1=((fun r=>loc (g r)) i').1→i=i':=fun i i' o o' hi hi' e =>
  hinj i i' (hlt0 hi) (hlt0 hi') (R.inj (g i) (g i') _ _ (hobj i o hi).1 (hobj i' o' hi').1 e)
 have hTab:TabW w∧∀t'∈tabs,∀(i:Nat) o,H0[i]?=some o→((fun r=>loc (g r)) i).1≠t'.1:=⟨R.tabW,fun t' ht i o hi=>R.tabO t' ht (g i) _ (hobj i o hi).1⟩
 obtain ⟨O,hO⟩:∃O:Nat→Prop,O=fun b=>∃(i:Nat) (o:AO),H0[i]?=some o∧((fun r=>loc (g r)) i).1=b:=⟨_,rfl⟩
 obtain ⟨tm,htm⟩:∃tm:Array Value,tm=ys++Array.replicate (fn.ntmps-ys.size) undef:=⟨_,rfl⟩
 have hrel:Rel ⟨w,F,O,none,fun j=>ps.contains j,tm,fun _=>none⟩ (ast0M zs H0 fn.ntmps) { tmps:=tm,defers:=[] } w:=by
  obtain ⟨F1,loc1,R1⟩:=rel0M (n:=fn.ntmps) hTab R.hF hrep hobj2 hinj2
  rw [hO,htm]
  exact ⟨F1,loc1,R1.hF,R1.hG,R1.hN,R1.below,⟨R1.defers.1,fun j _=>rfl,R1.defers.2.2⟩,R1.len,R1.tmps,R1.obj,R1.new,R1.nF,R1.inj⟩
 refine calls_of_J (X:=⟨w,F,O,none,fun j=>ps.contains j,tm,fun _=>none⟩) rfl hf hb (by rw [←htm];exact h ⟨w,F,O,none,fun j=>ps.contains j,tm,fun _=>none⟩ rfl hkc _ w hrel) ?_
 rintro ex a' w' s2 F' loc' hend R'
 have fin:(aresults P fn.results.toList s2 fun vs=>vs=rs.map .f∧Weak ⟨ps.map fun p=>s2.t.getD p .any,s2.H⟩ ⟨(List.range ps.length).map fun i=>.ptr i (sz i) 0 0,Hn⟩)→∃v,(results fn a'.tmps).run P w'=.ok v w'∧∃y F2 loc2 u s',(u=retV rs∧s'=⟨s.t,G⟩)∧Ending.returned v=.returned y∧RelF X F2 loc2 s' a w'∧Rep w' F2 loc2 s'.H.length u y:=by
  intro hend
  obtain ⟨vs,us,⟨rfl,hw⟩,hl,hrs,hrun,hlen⟩:=aresults_sound R' _ hend
  -- the pointers are those of before
  have R2:RelF ⟨w,F,O,none,fun j=>ps.contains j,tm,fun _=>none⟩ F' loc' s2 a' w':=R'
  have hlps:(ps.map fun p=>s2.t.getD p .any).length=(ps.map fun p=>a'.tmps.getD p undef).toArray.size:=by simp
  have R3:RelF ⟨w,F,O,none,fun _=>false,#[],fun _=>none⟩ F' loc' ⟨ps.map fun p=>s2.t.getD p .any,s2.H⟩ { a' with tmps:=(ps.map fun p=>a'.tmps.getD p undef).toArray } w' :=
   ⟨R'.hF,R'.hG,R'.hN,R'.below,⟨R'.defers.1,fun j h=>(by cases h),R'.defers.2.2⟩,hlps,fun j x hj=>by
    have hj:(ps.map fun p=>s2.t.getD p .any)[j]?=some x:=hj
    rw [List.getElem?_map] at hj
    cases hp:ps[j]? with
    | none=>rw [hp] at hj;cases hj
    | some p =>
     rw [hp] at hj
     cases hj
     have e:(ps.map fun p=>a'.tmps.getD p undef).toArray.getD j undef=a'.tmps.getD p undef:=by
      rw [Array.getD_eq_getD_getElem?]
      simp [hp]
     show Rep w' F' loc' s2.H.length (s2.t.getD p .any) ((ps.map fun p=>a'.tmps.getD p undef).toArray.getD j undef)
     rw [e,List.getD_eq_getElem?_getD]
     cases hsp:s2.t[p]? with
     | none=>exact .any _
     | some z=>exact R'.tmps p z hsp,R'.obj,R'.new,R'.nF,R'.inj⟩
  obtain ⟨loc2,R4⟩:=R3.weak hw
  have hsame:∀i,i<ps.length→(loc2 i).1=(loc (g i)).1:=fun i hi=>by
   have hpi:=List.getElem?_eq_getElem (l:=ps) (i:=i) hi
   obtain ⟨p,hp⟩:∃p,ps[i]?=some p:=⟨_,hpi⟩
   have h1:=R4.tmps i (.ptr i (sz i) 0 0) (by
    show ((List.range ps.length).map fun i=>AV.ptr i (sz i) 0 0)[i]?=_
    rw [List.getElem?_map,List.getElem?_range hi];rfl)
   have e:(ps.map fun p=>a'.tmps.getD p undef).toArray.getD i undef=a'.tmps.getD p undef:=by
    rw [Array.getD_eq_getD_getElem?]
    simp [hp]
   replace h1:Rep w' F' loc2 Hn.length (.ptr i (sz i) 0 0) ((ps.map fun p=>a'.tmps.getD p undef).toArray.getD i undef):=h1
   have hk:a'.tmps.getD p undef=tm.getD p undef:=R'.defers.2.1 p (by show ps.contains p=true;exact List.elem_eq_true_of_mem (List.mem_of_getElem? hp))
   have hzp:=hps i p hp
   have h2:=hrep.2 p _ hzp
   have hpy:p<ys.size:=by rw [←hrep.1];exact glt hzp
   have hty:tm.getD p undef=ys.getD p undef:=by
    rw [htm,Array.getD_eq_getD_getElem?,Array.getElem?_append,if_pos hpy,←Array.getD_eq_getD_getElem?]
   rw [e,hk,hty] at h1
   generalize ys.getD p undef=yv at h1 h2
   cases h1 with
   | ptr _ _ _ _ _ =>
    generalize hyv:Value.pointer (some ⟨(loc2 i).1,0*sz i+0,none⟩)=yv2 at h2
    cases h2 with
    | ptr _ _ _ _ _ =>
     have e1:=Value.pointer.inj hyv
     have e2:=Option.some.inj e1
     exact congrArg Addr.block e2
  -- the caller's rest
  obtain ⟨hd,hhd⟩:∃hd:Nat→Bool,hd=fun r=>(List.range H0.length).any fun i=>decide (g i=r):=⟨_,rfl⟩
  have hdt:∀{r:Nat},hd r=true↔∃i,i<H0.length∧g i=r:=fun {r}=>by
   rw [hhd];simp
  obtain ⟨D,hD⟩:∃D:AH,D=(List.range s.H.length).map fun r=>if hd r=true then none else s.H.getD r none:=⟨_,rfl⟩
  have hDl:D.length=s.H.length:=by rw [hD];simp
  have hDg:∀(r:Nat) p,D[r]?=some (some p)→s.H[r]?=some (some p)∧∀i,i<H0.length→g i≠r:=fun r p hr=>by
   have hrl:r<s.H.length:=by have:=glt hr;omega
   rw [hD,List.getElem?_map,List.getElem?_range hrl] at hr
   simp only [Option.map_some,Option.some.injEq] at hr
   split at hr
   ·cases hr
   ·rename_i hn
    refine ⟨?_,fun i hi e=>hn (hdt.2 ⟨i,hi,e⟩)⟩
    rw [List.getD_eq_getElem?_getD,List.getElem?_eq_getElem hrl] at hr
    rw [List.getElem?_eq_getElem hrl]
    exact congrArg some hr
  have hDof:∀(r:Nat) p,s.H[r]?=some (some p)→(∀i,i<H0.length→g i≠r)→D[r]?=some (some p):=fun r p hr hn=>by
   have hrl:=glt hr
   rw [hD,List.getElem?_map,List.getElem?_range hrl]
   have:¬hd r=true:=fun h=>by obtain ⟨i,hi,e⟩:=hdt.1 h;exact hn i hi e
   simp only [Option.map_some,Option.some.injEq]
   rw [if_neg this,List.getD_eq_getElem?_getD,hr];rfl
  have R5:RelF X F loc ⟨s.t,D⟩ a w:=R.drop hDl fun r p h=>(hDg r p h).1
  have hOl:∀b,O b→∃i,i<H0.length∧∃o,s.H[g i]?=some (some o)∧(loc (g i)).1=b:=fun b hb=>by
   rw [hO] at hb
   obtain ⟨i,o,hi,e⟩:=hb
   exact ⟨i,hlt0 hi,_,(hobj i o hi).1,e⟩
  have hb:Beyond O w w':=R'.below
  have R6:RelF X F' loc ⟨s.t,D⟩ a w':=R5.stepO (O:=O) (fun b hb=>by
    obtain ⟨i,hi,o,ho,e⟩:=hOl b hb
    rw [←e];exact (R.new (g i) o ho).symm)
   (fun b hf hb=>by
    obtain ⟨i,hi,o,ho,e⟩:=hOl b hb
    exact R.nF (g i) o ho (e▸hf))
   (fun r p hr hb=>by
    obtain ⟨i,hi,o,ho,e⟩:=hOl _ hb
    obtain ⟨h1,h2⟩:=hDg r p hr
    exact h2 i hi (R.inj (g i) r _ _ ho h1 e)) hb R'.hG R'.hF (fun b h=>R'.hN b h)
  -- where all lies now
  obtain ⟨m,hm⟩:∃m,m=ps.length:=⟨_,rfl⟩
  obtain ⟨loc3,hloc⟩:∃loc3:Nat→Nat × Nat,loc3=fun r=>if q r=true then loc2 ((List.range m).findIdx fun i=>decide (g i=r)) else if r<s.H.length then loc r else loc2 (r-s.H.length+m):=⟨_,rfl⟩
  have hqg:∀i,i<m→(List.range m).findIdx (fun i'=>decide (g i'=g i))=i:=fun i hi=>by
   have hex:∃x∈List.range m,decide (g x=g i)=true:=⟨i,List.mem_range.2 hi,decide_eq_true rfl⟩
   have h1:=List.findIdx_lt_length_of_exists hex
   have h2:=List.findIdx_getElem (w:=h1)
   rw [List.length_range] at h1
   simp only [List.getElem_range,decide_eq_true_eq] at h2
   exact hinj _ _ (by omega) (by omega) h2
  have hqs:∀r,q r=true→r<s.H.length:=fun r h=>by obtain ⟨i,hi,e⟩:=hqn r h;rw [←e];exact hgl i (by omega)
  have l1:∀r,r<s.H.length→q r=false→loc3 r=loc r:=fun r hr hq'=>by rw [hloc];show (if _ then _ else _)=_;rw [if_neg (by rw [hq'];decide),if_pos hr]
  have l2:∀i,i<Hn.length→loc3 (ρ i)=loc2 i:=fun i hi=>by
   rw [hρ i]
   by_cases him:i<ps.length
   ·rw [if_pos him,hloc]
    show (if _ then _ else _)=_
    rw [if_pos (hq i him),hqg i (by omega)]
   ·rw [if_neg him,hloc]
    show (if _ then _ else _)=_
    rw [if_neg (fun h=>by have:=hqs _ h;omega),if_neg (by omega),show s.H.length+(i-ps.length)-s.H.length+m=i by omega]
  have l3:∀r,r<s.H.length→(loc3 r).1=(loc r).1:=fun r hr=>by
   cases hqr:q r with
   | false=>rw [l1 r hr hqr]
   | true =>
    obtain ⟨i,hi,e⟩:=hqn r hqr
    have:=l2 i (by omega)
    rw [hρ i,if_pos hi,e] at this
    rw [this,hsame i hi,e]
  have hρN:∀i,i<Hn.length→ρ i<G.length:=fun i hi=>by
   rw [hρ i];split
   ·rename_i h;have:=hgl i (by omega);omega
   ·omega
  have hnewb:∀(i:Nat) o,Hn[i]?=some (some o)→(∃j,j<H0.length∧∃o',s.H[g j]?=some (some o')∧(loc2 i).1=(loc (g j)).1)∨w.heap.size≤(loc2 i).1:=fun i o hi=>by
   rcases R4.new i o hi with h|h
   ·exact .inr h
   ·obtain ⟨j,hj,o',ho',e⟩:=hOl _ h
    exact .inl ⟨j,hj,o',ho',e.symm⟩
  have hsepar:∀(r:Nat) p (i:Nat) o,s.H[r]?=some (some p)→(∀i,i<H0.length→g i≠r)→Hn[i]?=some (some o)→(loc r).1≠(loc2 i).1:=fun r p i o hr hn hi e=>by
   rcases hnewb i o hi with ⟨j,hj,o',ho',e'⟩|h
   ·exact hn j hj (R.inj (g j) r _ _ ho' hr (by rw [←e',←e]))
   ·have:=hblk r p hr;omega
  have hnq:∀r,(∀i,i<H0.length→g i≠r)→q r=false:=fun r hn=>by
   cases h:q r with
   | false=>rfl
   | true=>obtain ⟨i,hi,e⟩:=hqn r h;exact absurd e (hn i (by omega))
  refine ⟨_,results_run fn a'.tmps us hrun,_,F',loc3,_,_,⟨rfl,rfl⟩,rfl,⟨R6.hF,R6.hG,R6.hN,R6.below,R6.defers,R6.len,fun j x hj=>?_,fun r p hr=>?_,fun r p hr=>?_,fun r p hr=>?_,fun r r' p p' hr hr' e=>?_⟩,?_⟩
  ·have h1:=R6.tmps j x hj
   have h2:Rep w' F' loc s.H.length x (a.tmps.getD j undef):=by rw [←hDl];exact h1
   exact h2.noOwn (not x (List.mem_of_getElem? hj)) l3 l1 (by show _≤G.length;omega)
  ·rcases hG r p hr with ⟨h1,h2⟩|⟨i,o,hi,rfl,rfl⟩
   ·obtain ⟨hu,vs',hv,hvs,hc⟩:=R6.obj r p (hDof r p h1 h2)
    have hrl:=glt h1
    have hq':=hnq r h2
    refine ⟨hu,vs',by rw [l1 r hrl hq'];exact hv,by rw [l1 r hrl hq'];exact hvs,fun j d hj=>?_⟩
    obtain ⟨u,h3,h4⟩:=hc j d hj
    have h4:Rep w' F' loc s.H.length d u:=by rw [←hDl];exact h4
    exact ⟨u,h3,h4.noOwn (noh r p h1 h2 d (List.mem_of_getElem? hj)) l3 l1 (by show _≤G.length;omega)⟩
   ·obtain ⟨hu,vs',hv,hvs,hc⟩:=R4.obj i o hi
    have hil:=glt hi
    have hlo:=hHn i o hi
    refine ⟨fun e he=>?_,vs',by rw [l2 i hil];exact hv,by rw [l2 i hil];exact hvs,fun j d hj=>?_⟩
    ·obtain ⟨x,hx,rfl⟩:=List.mem_map.1 he
     have:=hu x hx
     rw [ren_cells (hlo x hx),List.length_map,ren_st]
     exact this
    ·rw [show flat (List.map (AV.ren ρ) o.es)=_ from ren_flat fun e he=>hlo e he,List.getElem?_map] at hj
     cases hcj:(flat o.es)[j]? with
     | none=>rw [hcj] at hj;cases hj
     | some d' =>
      rw [hcj] at hj
      cases hj
      obtain ⟨u,h3,h4⟩:=hc j d' hcj
      obtain ⟨x,hx,hdx⟩:=List.mem_flatMap.1 (List.mem_of_getElem? hcj)
      exact ⟨u,h3,Rep.to h4 (lt0_cells (hlo x hx) _ hdx) l2 hρN⟩
  ·rcases hG r p hr with ⟨h1,h2⟩|⟨i,o,hi,rfl,rfl⟩
   ·rw [l3 r (glt h1)];exact R.new r p h1
   ·rw [l2 i (glt hi)]
    rcases hnewb i o hi with ⟨j,hj,o',ho',e'⟩|h
    ·rw [e'];exact R.new (g j) o' ho'
    ·exact .inl (Nat.le_trans R.below.size h)
  ·rcases hG r p hr with ⟨h1,h2⟩|⟨i,o,hi,rfl,rfl⟩
   ·rw [l3 r (glt h1)];exact R6.nF r p (hDof r p h1 h2)
   ·rw [l2 i (glt hi)];exact R4.nF i o hi
  ·rcases hG r p hr with ⟨h1,h2⟩|⟨i,o,hi,rfl,rfl⟩<;>rcases hG r' p' hr' with ⟨h3,h4⟩|⟨i',o',hi',rfl,rfl⟩
   ·rw [l3 r (glt h1),l3 r' (glt h3)] at e;exact R.inj r r' p p' h1 h3 e
   ·rw [l3 r (glt h1),l2 i' (glt hi')] at e;exact absurd e (hsepar r p i' o' h1 h2 hi')
   ·rw [l2 i (glt hi),l3 r' (glt h3)] at e;exact absurd e.symm (hsepar r' p' i o h3 h4 hi)
   ·rw [l2 i (glt hi),l2 i' (glt hi')] at e
    rw [R4.inj i i' o o' hi hi' e]
  ·have hul:us.length≤1:=by rw [←hl,List.length_map];exact hr1
   match rs,us,hl,hrs,hfl,hul with
   | [],[],_,_,_,_=>exact .f _ _ (.v _)
   | [r],[u],_,hrs,hfl,_ =>
    have:=hrs 0 (.f r) u rfl rfl
    cases this with|f _ _ h=>exact .f _ _ ((hfl r (by simp)).rep h)
 cases ex with
 | normal=>exact fin hend
 | ret=>exact fin hend
 | _=>exact hend.elim
end
end Go.Proofs.YtfjgijkhmhhkdaaGreatDoor
set_option linter.unusedVariables false
set_option linter.unusedSimpArgs false
namespace Go.Proofs.YtfjgijkhmhhkdaaGreatDoor
open Go Go.RowKit
def nmd (c:UInt8) (k:Nat):ByteArray:=(⟨#[c]⟩:ByteArray)++dgt k
def vls (n:Nat):List FV:=(List.range n).map fun k=>St (nmd 118 k)
section
variable {n : Nat}
theorem vls_len:(vls n).length=n:=by simp [vls]
theorem vls_next:vls n++[St (nmd 118 n)]=vls (n+1):=by simp [vls,List.range_succ]
end
set_option maxRecDepth 100000 in
theorem called_w {n:Nat} (hn:n≤4):Good Tryz.prog 57 [I (n:Int)] (.fz 1 (vls n)):=by
 refine good_of Tryz.func57 rfl (by kernel_rfl) fun X hO hrd=>?_;rw [Tryz.ntmps57,Tryz.results57];simp only [ast0,List.map_cons,List.map_nil,List.length_cons,List.length_nil,Nat.reduceAdd,Nat.reduceSub,List.replicate_succ,List.replicate_zero,List.cons_append,List.nil_append]
 (repeat (with_reducible first|refine W_seq fun K hK=>?_|((fail_if_success refine J_region (id:=2) ?_);refine J_region ?_) |(refine Kont.go (by assumption) ?_)|(simp (config:={ maxSteps:=3000000 }) (disch:=omega) only [go_sem])))
 refine J_reserve ?_
 have h0:AV.f (.v (.slice none 0 0))=sl 0 1 (vls 0):=rfl
 (repeat (with_reducible first|refine J_block ?_|refine J_region ?_ |(refine Kont.go (by assumption) ?_)|(simp (config:={ maxSteps:=3000000 }) (disch:=omega) only [go_sem])))
 refine W_loop [3,4,5,6,7,8,9,10,11,12,13,14,15,16,17,18] (fun x:Nat=>[(3,sl 0 1 (vls x)),(4,.f (I x))]) (fun x:Nat=>[ob 9 1 (vls x)]) (fun x:Nat=>x≤n) (fun x:Nat=>n-x) (0) (Nat.zero_le _) (by refine weak_of ?_ ?_<;>simp (disch:=omega) only [go_sem]<;>first|rfl|exact ⟨rfl,rfl⟩|exact Or.inl rfl|exact ⟨Or.inl rfl,Or.inl rfl⟩|trivial|assumption|omega|(symm;assumption)|((repeat' apply And.intro)<;>first|rfl|omega|trivial|exact .inl rfl|exact .inr ⟨rfl,rfl⟩|exact .inr rfl|(right;symm;assumption)|(symm;assumption)|assumption)) ?_
 rintro x hx
 simp only [go_sem]
 (repeat (with_reducible first|refine W_seq fun K hK=>?_|refine J_region ?_ |refine J_c ?_|(refine Kont.go (by assumption) ?_)|(simp (config:={ maxSteps:=3000000 }) (disch:=omega) only [go_sem])))
 refine Jc_if (fun hxn=>?_) (fun hxn=>?_)<;>try simp only [decide_eq_true_eq,decide_eq_false_iff_not] at hxn
 ·have hof:=rof_good (n:=(x:Int)) (by omega) (by omega)
  have htx:=rtext_w (k:=x) (by omega)
  rw [Int.toNat_natCast] at hof
  have hnx:=vls_next (n:=x)
  have hl:=vls_len (n:=x)
  (repeat (with_reducible first|refine W_seq fun K hK=>?_|refine J_block ?_|refine J_skip ?_|refine J_region ?_ |(refine Kont.go (by assumption) ?_)|(simp (config:={ maxSteps:=3000000 }) (disch:=omega) only [go_sem])))
  (first|refine call_f (hof) rfl ?_|refine callQ_f (hof) rfl ?_|refine callHK_f (hof) rfl ?_|refine callH_f (hof) rfl ?_)
  (repeat (with_reducible first|(simp (config:={ maxSteps:=3000000 }) (disch:=omega) only [go_sem])))
  (first|refine call_f (htx) rfl ?_|refine callQ_f (htx) rfl ?_|refine callHK_f (htx) rfl ?_|refine callH_f (htx) rfl ?_)
  have hd:(dgt x).size=1:=rfl
  have hb:(x+1)*16≤140737488355328:=by omega
  have hnx:vls x++[FV.v (.string (⟨#[118]⟩++dgt x))]=vls (x+1):=vls_next
  (repeat (first|(with_reducible first|refine J_region ?_ |refine aApp_sl ?_|(refine Kont.go (by assumption) ?_)|(simp (config:={ maxSteps:=3000000 }) (disch:=omega) only [go_sem,Nat.reduceEqDiff,↓reduceIte,Nat.reduceAdd,Nat.reduceLeDiff,hd,hl,hb,hnx]))|refine And.intro (by omega) ?_))
  refine ⟨x+1,by omega,by omega,weak_of ?_ ?_⟩<;>(try simp (disch:=omega) only [go_sem])<;>(try first|done|omega|rfl|exact ⟨rfl,rfl⟩|trivial)
 ·have he:x=n:=by omega
  subst he
  (repeat (with_reducible first|refine W_seq fun K hK=>?_|refine J_exit ?_|refine J_ret ?_|refine J_region ?_ |(refine Kont.go (by assumption) ?_)|(simp (config:={ maxSteps:=3000000 }) (disch:=omega) only [go_sem,↓reduceIte])))
  exact .sl rfl
def fl1 (l:List (List Rat)) (i j:Nat):List FV:=((l.take i).flatten++(l.getD i []).take j).map fr
def flF (l:List (List Rat)):List FV:=l.flatten.map fr
section
variable {l : List (List Rat)} {i j : Nat}
theorem fl1_zero:fl1 l 0 0=[]:=by unfold fl1;simp
theorem fl1_row (h:i<l.length):fl1 l i (l.getD i []).length=fl1 l (i+1) 0:=by
 unfold fl1
 rw [List.take_length,List.take_add_one,List.getElem?_eq_getElem h,List.flatten_append,lget_lt l [] h]
 simp only [Option.toList_some,List.flatten_cons,List.flatten_nil,List.append_nil,List.take_zero]
theorem fl1_next (h:j<(l.getD i []).length):fl1 l i j++[fr (l.getD i [])[j]]=fl1 l i (j+1):=by
 unfold fl1
 rw [List.take_add_one,List.getElem?_eq_getElem h]
 simp only [List.map_append,Option.toList_some,List.map_cons,List.map_nil,List.append_assoc]
theorem fl1_end:fl1 l l.length 0=flF l:=by unfold fl1 flF;rw [List.take_length];simp
theorem fl1_len (hr:∀r∈l,r.length≤4) (hi:i≤l.length):(fl1 l i j).length≤4*i+j:=by
 unfold fl1
 rw [List.length_map,List.length_append,List.length_take]
 have:(l.take i).flatten.length≤4*i:=by
  clear hi
  induction i with
  | zero=>simp
  | succ i ih =>
   rw [List.take_add_one,List.flatten_append,List.length_append]
   cases h:l[i]? with
   | none=>simp only [Option.toList_none,List.flatten_nil,List.length_nil];omega
   | some r=>have:=hr r (List.mem_of_getElem? h);simp only [Option.toList_some,List.flatten_cons,List.flatten_nil,List.length_append,List.length_nil];omega
 omega
end
set_option maxRecDepth 100000 in
set_option maxHeartbeats 4000000 in
theorem flatO_w {k:Nat} {ms:List FV} {l:List (List Rat)} (h:FrM k ms l) (h1:1≤k) (hk:k≤1000) (hl:l.length≤4) (hr:∀r∈l,r.length≤4):GoodO Tryz.prog 58 [.fz 1 ms] (rvG 30 3 (flF l)):=by
 obtain ⟨R,hR⟩:∃R,R=rvG 30 3 (flF l):=⟨_,rfl⟩
 have hend:∀{H:AH} {r:Nat},H[r]?=some (ob 30 3 (flF l))→ownR H (sl r 3 (flF l)) R:=fun h=>by rw [hR];exact rvG_end h fun x hx=>by obtain ⟨q,_,rfl⟩:=List.mem_map.1 hx;exact flatF_fr q
 rw [←hR]
 have hml:ms.length=l.length:=h.len
 refine goodO_of Tryz.func58 rfl (by kernel_rfl) fun X hO hrd=>?_;rw [Tryz.ntmps58,Tryz.results58];simp only [ast0,List.map_cons,List.map_nil,List.length_cons,List.length_nil,Nat.reduceAdd,Nat.reduceSub,List.replicate_succ,List.replicate_zero,List.cons_append,List.nil_append]
 (repeat (with_reducible first|refine W_seq fun K hK=>?_|((fail_if_success refine J_region (id:=2) ?_);refine J_region ?_) |(refine Kont.go (by assumption) ?_)|(simp (config:={ maxSteps:=3000000 }) (disch:=omega) only [go_sem])))
 refine J_reserve ?_
 have h0:AV.f (.v (.slice none 0 0))=sl 0 3 (fl1 l 0 0):=by rw [fl1_zero];rfl
 have h00:ob 30 3 (fl1 l 0 0)=none:=by rw [fl1_zero];rfl
 (repeat (with_reducible first|refine J_block ?_|refine J_region ?_ |(refine Kont.go (by assumption) ?_)|(simp (config:={ maxSteps:=3000000 }) (disch:=omega) only [go_sem])))
 rw [h0]
 refine W_loop [3,4,5,6,7,8,9,10,11,12,13,14,15,16,17,18,19,20,21,22,23,24,25,26,27,28,29,30,31,32,33] (fun i:Nat=>[(3,sl 0 3 (fl1 l i 0)),(4,.f (I i))]) (fun i:Nat=>[ob 30 3 (fl1 l i 0)]) (fun i:Nat=>i≤l.length) (fun i:Nat=>l.length-i) (0) (Nat.zero_le _) (by refine weak_of ?_ ?_<;>simp (disch:=omega) only [go_sem]<;>first|rfl|exact ⟨rfl,rfl⟩|exact Or.inl rfl|exact ⟨Or.inl rfl,Or.inl rfl⟩|trivial|assumption|omega|(symm;assumption)|((repeat' apply And.intro)<;>first|rfl|omega|trivial|exact .inl rfl|exact .inr ⟨rfl,rfl⟩|exact .inr rfl|(right;symm;assumption)|(symm;assumption)|assumption)) ?_
 rintro i hi
 simp only [go_sem]
 (repeat (with_reducible first|refine W_seq fun K hK=>?_|refine J_region ?_ |refine J_c ?_|(refine Kont.go (by assumption) ?_)|(simp (config:={ maxSteps:=3000000 }) (disch:=omega) only [go_sem,hml])))
 refine Jc_if (fun hil=>?_) (fun hil=>?_)<;>try simp only [decide_eq_true_eq,decide_eq_false_iff_not] at hil
 ·obtain ⟨xs,x1,x2⟩:=h.at hil
  have g3:l.getD i []=l[i]:=lget_lt l [] hil
  have hri:=hr _ (List.getElem_mem hil)
  have hxl:xs.length=l[i].length:=x2.len
  (repeat (with_reducible first|refine W_seq fun K hK=>?_|refine J_block ?_|refine J_skip ?_|refine J_region ?_ |(refine Kont.go (by assumption) ?_)|(simp (config:={ maxSteps:=3000000 }) (disch:=omega) only [go_sem])))
  refine W_loop [3,5,6,13,14,15,16,17,18,19,20,21,22,23,24,25,26,27,28,29,30,31,32,33] (fun j:Nat=>[(3,sl 0 3 (fl1 l i j)),(5,.f (I j))]) (fun j:Nat=>[ob 30 3 (fl1 l i j)]) (fun j:Nat=>j≤l[i].length) (fun j:Nat=>l[i].length-j) (0) (Nat.zero_le _) (by refine weak_of ?_ ?_<;>simp (disch:=omega) only [go_sem]<;>first|rfl|exact ⟨rfl,rfl⟩|exact Or.inl rfl|exact ⟨Or.inl rfl,Or.inl rfl⟩|trivial|assumption|omega|(symm;assumption)|((repeat' apply And.intro)<;>first|rfl|omega|trivial|exact .inl rfl|exact .inr ⟨rfl,rfl⟩|exact .inr rfl|(right;symm;assumption)|(symm;assumption)|assumption)) ?_
  rintro j hj
  simp only [go_sem]
  (repeat (with_reducible first|refine W_seq fun K hK=>?_|refine J_region ?_ |refine J_c ?_|(refine Kont.go (by assumption) ?_)|(simp (config:={ maxSteps:=3000000 }) (disch:=omega) only [go_sem,↓reduceIte,x1,hxl])))
  refine Jc_if (fun hjl=>?_) (fun hjl=>?_)<;>try simp only [decide_eq_true_eq,decide_eq_false_iff_not] at hjl
  ·obtain ⟨g,n,d,y1,y2⟩:=x2.at3 hjl
   have hnx:=fl1_next (l:=l) (i:=i) (j:=j) (by rw [g3];exact hjl)
   have hll:=fl1_len (i:=i) (j:=j) hr hi
   have hap:((fl1 l i j).length+1)*40≤140737488355328:=by omega
   have e4:(l.getD i [])[j]'(by rw [g3];exact hjl)=l[i][j]:=by simp only [g3]
   rw [e4] at hnx
   (repeat (first|(with_reducible first|refine W_seq fun K hK=>?_|refine J_block ?_|refine J_skip ?_|refine J_region ?_ |refine aApp_sl ?_|(refine Kont.go (by assumption) ?_)|(simp (config:={ maxSteps:=3000000 }) (disch:=omega) only [go_sem,Nat.reduceEqDiff,↓reduceIte,Nat.reduceAdd,Nat.reduceLeDiff,x1,y1,hap,hnx]))|refine call_f (rcanon_w (by assumption) (by omega)) rfl ?_|refine And.intro (by omega) ?_))
   refine ⟨j+1,by omega,by omega,weak_of ?_ ?_⟩<;>(try simp (disch:=omega) only [go_sem])<;>(try first|done|omega|rfl|exact ⟨rfl,rfl⟩|trivial)
  ·have he:j=l[i].length:=by omega
   have hnx:=fl1_row hil
   rw [g3,←he] at hnx
   (repeat (with_reducible first|refine J_exit ?_|refine J_region ?_ |(refine Kont.go (by assumption) ?_)|(simp (config:={ maxSteps:=3000000 }) (disch:=omega) only [go_sem,↓reduceIte,hnx])))
   refine ⟨i+1,by omega,by omega,weak_of ?_ ?_⟩<;>(try simp (disch:=omega) only [go_sem])<;>(try first|done|omega|rfl|exact ⟨rfl,rfl⟩|trivial)
 ·have he:i=l.length:=by omega
  subst he
  rw [fl1_end]
  (repeat (with_reducible first|refine W_seq fun K hK=>?_|refine J_exit ?_|refine J_ret ?_|refine J_region ?_ |(refine Kont.go (by assumption) ?_)|(simp (config:={ maxSteps:=3000000 }) (disch:=omega) only [go_sem,↓reduceIte])))
  exact hend rfl
theorem flat_fresh {k:Nat} {ms:List FV} {l:List (List Rat)} (h:FrM k ms l) (h1:1≤k) (hk:k≤1000) (hl:l.length≤4) (hr:∀r∈l,r.length≤4):Fresh Tryz.prog 58 [.fz 1 ms] (.fz 3 (flF l)):=freshO (flatO_w h h1 hk hl hr)
theorem flat_w {k:Nat} {ms:List FV} {l:List (List Rat)} (h:FrM k ms l) (h1:1≤k) (hk:k≤1000) (hl:l.length≤4) (hr:∀r∈l,r.length≤4):Good Tryz.prog 58 [.fz 1 ms] (.fz 3 (flF l)):=(flat_fresh h h1 hk hl hr).good (by kernel_rfl)
end Go.Proofs.YtfjgijkhmhhkdaaGreatDoor
