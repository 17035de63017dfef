/- Linear equations by elimination: walked. Conditions: at most six, of numbers of 10^5 bytes each. -/
import Derived.Test.YtcgagiimlkjcpaaGreatDoorZReaW
set_option linter.unusedVariables false
set_option linter.unusedSimpArgs false
namespace Go.Proofs.YtcgagiimlkjcpaaGreatDoor
open Go Go.RowKit
set_option maxRecDepth 100000 in
theorem clone_w (q:Rat) (l:List Rat) (hl:l.length≤1000):GoodO Tryz.prog 203 [frs (q::l)] (.own 44 3 ((q::l).map fr)):=by
 have hfrs:frs (q::l)=.fz 3 (fr q::l.map fr):=rfl
 refine goodO_of Tryz.func203 rfl (by kernel_rfl) fun X hO hrd=>?_;rw [Tryz.ntmps203,Tryz.results203];simp only [ast0,List.map_cons,List.map_nil,List.length_cons,List.length_nil,Nat.reduceAdd,Nat.reduceSub,List.replicate_succ,List.replicate_zero,List.cons_append,List.nil_append]
 repeat (first|(with_reducible first|refine W_seq fun K hK=>?_|refine J_skip ?_|refine J_ret ?_|refine J_region ?_ |refine aApp_old ?_|refine J_c ?_|refine Jc_false ?_|(refine Kont.go (by assumption) ?_)|(simp (config:={ maxSteps:=3000000 }) (disch:=omega) only [go_sem,Nat.reduceAdd,hfrs]))|refine And.intro (by omega) ?_)
 refine ⟨1,by simp,rfl,fun x hx=>?_⟩
 rcases List.mem_cons.1 hx with rfl|hx
 ·exact flatF_fr _
 ·obtain ⟨y,_,rfl⟩:=List.mem_map.1 hx
  exact flatF_fr _
def firstI (p:Nat→Bool) (n:Nat):Int:=match (List.range n).find? p with|some i=>(i:Int)|none=>-1
theorem firstI_some {p:Nat→Bool} {n i:Nat} (hi:i<n) (h:p i=true) (hp:∀j,j<i→p j=false):firstI p n=i:=by
 unfold firstI
 have:(List.range n).find? p=some i:=by rw [List.find?_range_eq_some];exact ⟨h,by simpa using hi,fun j hj=>by simpa using hp j hj⟩
 rw [this]
theorem firstI_none {p:Nat→Bool} {n:Nat} (hp:∀j,j<n→p j=false):firstI p n=-1:=by
 unfold firstI
 have:(List.range n).find? p=none:=by
  rw [List.find?_eq_none]
  intro x hx
  rw [hp x (List.mem_range.1 hx)];decide
 rw [this]
set_option maxRecDepth 100000 in
theorem indexFunc_w {ls:List FV} {g:FuncId} {a b:List FV} {p:Nat→Bool} (hl:ls.length≤1000) (hs:∀(i:Nat) x,ls[i]?=some x→∃sz es,x=.fz sz es) (hg:∀i x,ls[i]?=some x→Good Tryz.prog g (a++[x]++b) (Bo (p i))) :
  Good Tryz.prog 204 [.fz 1 ls,.fn g a b] (I (firstI p ls.length)):=by
 refine good_of Tryz.func204 rfl (by kernel_rfl) fun X hO hrd=>?_;rw [Tryz.ntmps204,Tryz.results204];simp only [ast0,List.map_cons,List.map_nil,List.length_cons,List.length_nil,Nat.reduceAdd,Nat.reduceSub,List.replicate_succ,List.replicate_zero,List.cons_append,List.nil_append]
 repeat (with_reducible first|refine W_seq fun K hK=>?_|refine J_block ?_|refine J_region ?_ |(refine Kont.go (by assumption) ?_)|(simp (config:={ maxSteps:=3000000 }) (disch:=omega) only [go_sem]))
 refine W_loop [4,5,8,9,10,11,12,13,14,15,16,17,18] (fun x:Nat=>[(8,.f (I x))]) (fun x:Nat=>[]) (fun x:Nat=>x≤ls.length∧∀j,j<x→p j=false) (fun x:Nat=>ls.length-x) (0) (⟨Nat.zero_le _,fun j h=>by omega⟩) (by refine weak_of ?_ ?_<;>simp (disch:=omega) only [go_sem]<;>first|rfl|exact ⟨rfl,rfl⟩|exact Or.inl rfl|exact ⟨Or.inl rfl,Or.inl rfl⟩|trivial|assumption|omega|(symm;assumption)|((repeat' apply And.intro)<;>first|rfl|omega|trivial|exact .inr ⟨rfl,rfl⟩|exact .inr rfl|(right;symm;assumption)|(symm;assumption)|assumption)) ?_
 rintro i ⟨hi,hp⟩
 simp only [go_sem]
 repeat (with_reducible first|refine W_seq fun K hK=>?_|refine J_region ?_ |refine J_c ?_|(refine Kont.go (by assumption) ?_)|(simp (config:={ maxSteps:=3000000 }) (disch:=omega) only [go_sem]))
 refine Jc_if (fun hlt=>?_) (fun hlt=>?_)<;>try simp only [decide_eq_true_eq,decide_eq_false_iff_not] at hlt
 ·have hx:=List.getElem?_eq_getElem hlt
  obtain ⟨sz,es,e⟩:=hs i _ hx
  rw [e] at hx
  have hc:=hg i _ hx
  repeat (with_reducible first|refine W_seq fun K hK=>?_|refine J_block ?_|refine J_skip ?_|refine J_region ?_ |(refine Kont.go (by assumption) ?_)|(simp (config:={ maxSteps:=3000000 }) (disch:=omega) only [go_sem,↓reduceIte,hx]))
  refine call_f hc (by simp) ?_
  repeat (with_reducible first|refine J_c ?_|(refine Kont.go (by assumption) ?_)|(simp (config:={ maxSteps:=3000000 }) (disch:=omega) only [go_sem]))
  refine Jc_if (fun hpi=>?_) (fun hpi=>?_)<;>try simp only [decide_eq_true_eq,decide_eq_false_iff_not,Bool.not_eq_true',Bool.not_eq_false',Bool.not_true,Bool.not_false,Int.ofNat_lt,Int.ofNat_le,Int.natCast_inj,Classical.not_not] at hpi
  ·have e:firstI p ls.length=i:=firstI_some hlt hpi hp
   repeat (with_reducible first|refine W_seq fun K hK=>?_|refine J_ret ?_|refine J_region ?_ |(refine Kont.go (by assumption) ?_)|(simp (config:={ maxSteps:=3000000 }) (disch:=omega) only [go_sem]))
   rw [e]
   exact Frz.f _
  ·have hpf:p i=false:=by simpa using hpi
   repeat (with_reducible first|refine J_skip ?_|refine J_region ?_ |(refine Kont.go (by assumption) ?_)|(simp (config:={ maxSteps:=3000000 }) (disch:=omega) only [go_sem]))
   refine ⟨i+1,⟨by omega,upto_next (p:=fun j=>p j=false) hp hpf⟩,by omega,weak_of ?_ ?_⟩<;>(try simp (disch:=omega) only [go_sem])<;>(try first|done|omega|rfl|exact ⟨rfl,rfl⟩|trivial)
 ·have he:i=ls.length:=by omega
  subst he
  have e:firstI p ls.length=-1:=firstI_none hp
  repeat (with_reducible first|refine W_seq fun K hK=>?_|refine J_exit ?_|refine J_ret ?_|refine J_region ?_ |(refine Kont.go (by assumption) ?_)|(simp (config:={ maxSteps:=3000000 }) (disch:=omega) only [go_sem,↓reduceIte,Int.reduceNeg]))
  rw [e]
  exact Frz.f _
def rowQ (n:Nat) (M:Mx) (i:Nat):List FV:=(List.range n).map fun k=>fr (M i k)
def rowsQ (n c:Nat) (M:Mx) (x:Nat):List (List FV):=(List.range x).map (rowQ c M)
def oeG (n c x:Nat) (d:Nat→FV):List AV:=(List.range n).map fun j=>if j<x then .own (1+j) 3 0 c else .f (d j)
section
variable {n c x i j k N : Nat} {M : Mx} {d : Nat → FV}
theorem rowQ_len:(rowQ n M i).length=n:=by simp [rowQ]
theorem rowsQ_len:(rowsQ n c M x).length=x:=by simp [rowsQ]
theorem oeG_len:(oeG n c x d).length=n:=by simp [oeG]
theorem rowQ_get (h:j<n):((rowQ n M i).map AV.f)[j]?=some (.f (fr (M i j))):=by simp [rowQ,h]
theorem rowsQ_get (h:i<x):(rowsQ n c M x)[i]?=some (rowQ c M i):=by simp [rowsQ,h]
theorem rowsQ_next:rowsQ n c M x++[rowQ c M x]=rowsQ n c M (x+1):=by simp [rowsQ,List.range_succ]
theorem oeG_zero:(List.range n).map (fun j=>AV.f (d j))=oeG n c 0 d:=by
 unfold oeG
 exact List.map_congr_left fun j _=>by rw [if_neg (by omega)]
theorem oeG_get (h:i<x) (hn:i<n):(oeG n c x d)[i]?=some (.own (1+i) 3 0 c):=by simp [oeG,h,hn]
theorem oeG_old (h:x≤i) (hn:i<n):(oeG n c x d)[i]?=some (.f (d i)):=by
 have:¬i<x:=by omega
 simp [oeG,this,hn]
theorem oeG_set (h:x<n):(oeG n c x d).set x (.own (1+x) 3 0 c)=oeG n c (x+1) d:=by
 apply List.ext_getElem?
 intro j
 by_cases e:j=x
 ·subst e;rw [List.getElem?_set_self (by rw [oeG_len];exact h)];simp [oeG,h]
 ·rw [List.getElem?_set_ne (Ne.symm e)]
  by_cases hj:j<n
  ·have:(j<x+1)=(j<x):=propext ⟨fun h=>by omega,fun h=>by omega⟩
   simp [oeG,hj,this]
  ·rw [List.getElem?_eq_none (by rw [oeG_len];omega),List.getElem?_eq_none (by rw [oeG_len];omega)]
theorem oeG_ren {a b:Nat} (h:x≤a-1) (ha:1≤a):(oeG n c x d).map (AV.ren (gCur a b))=oeG n c x d:=by
 unfold oeG
 rw [List.map_map]
 refine List.map_congr_left fun j _=>?_
 show AV.ren _ (if j<x then _ else _)=_
 split
 ·show AV.own (gCur a b (1+j)) 3 0 c=_
  rw [gCur_ne (by omega)]
 ·rfl
theorem objLt_oeG {e:TypeId} (h:x<N):objLt N ⟨e,1,oeG n c x d⟩=True:=propext ⟨fun _=>trivial,fun _ y hy=>by
 obtain ⟨j,_,rfl⟩:=List.mem_map.1 (show y∈oeG n c x d from hy)
 split
 ·exact decide_eq_true (show 1+j<N by omega)
 ·rfl⟩
theorem objLt_oeGo {e:TypeId} {r z o k:Nat} (h:x<N) (hr:r<N):objLt N ⟨e,1,(oeG n c x d).set i (.own r z o k)⟩=True:=propext ⟨fun _=>trivial,fun _ y hy=>by
 rcases List.mem_or_eq_of_mem_set (show y∈(oeG n c x d).set i (.own r z o k) from hy) with hy|rfl
 ·obtain ⟨j,_,rfl⟩:=List.mem_map.1 (show y∈oeG n c x d from hy)
  split
  ·exact decide_eq_true (show 1+j<N by omega)
  ·rfl
 ·exact decide_eq_true hr⟩
theorem rowsQ_congr {V:Mx} (h:∀a b,a<n→b<c→M a b=V a b):rowsQ n c M n=rowsQ n c V n :=
 List.map_congr_left fun i hi=>List.map_congr_left fun k hk=>by rw [h i k (List.mem_range.1 hi) (List.mem_range.1 hk)]
def updM (M:Mx) (i k:Nat) (q:Rat):Mx:=fun a b=>if a=i∧b=k then q else M a b
theorem rowsQ_set {q:Rat} (hi:i<n) (hk:k<c):(rowsQ n c M n).set i ((rowQ c M i).set k (fr q))=rowsQ n c (updM M i k q) n:=by
 apply List.ext_getElem?
 intro a
 by_cases e:a=i
 ·subst e
  rw [List.getElem?_set_self (by rw [rowsQ_len];exact hi),rowsQ_get hi]
  congr 1
  apply List.ext_getElem?
  intro b
  by_cases e2:b=k
  ·subst e2
   rw [List.getElem?_set_self (by rw [rowQ_len];exact hk)]
   simp [rowQ,hk,updM]
  ·rw [List.getElem?_set_ne (Ne.symm e2)]
   by_cases hb:b<c
   ·simp [rowQ,hb,updM,e2]
   ·rw [List.getElem?_eq_none (by rw [rowQ_len];omega),List.getElem?_eq_none (by rw [rowQ_len];omega)]
 ·rw [List.getElem?_set_ne (Ne.symm e)]
  by_cases ha:a<n
  ·rw [rowsQ_get ha,rowsQ_get ha]
   congr 1
   refine List.map_congr_left fun b _=>?_
   simp [updM,e]
  ·rw [List.getElem?_eq_none (by rw [rowsQ_len];omega),List.getElem?_eq_none (by rw [rowsQ_len];omega)]
def gSw (a b:Nat) (r:Nat):Nat:=if r=a then b else if r=b then a else r
theorem gSw_ne {a b r:Nat} (h:r≠a) (h':r≠b):gSw a b r=r:=by unfold gSw;rw [if_neg h,if_neg h']
theorem oeG_sw {p:Nat} (hc:c<n) (hp:p<n):(oeG n k n d).map (AV.ren (gSw (1+c) (1+p)))=((oeG n k n d).set c (.own (1+p) 3 0 k)).set p (.own (1+c) 3 0 k):=by
 apply List.ext_getElem?
 intro j
 rw [List.getElem?_map]
 by_cases hj:j<n
 ·rw [oeG_get hj hj]
  show some (AV.own (gSw (1+c) (1+p) (1+j)) 3 0 k)=_
  by_cases e:j=p
  ·subst e
   rw [List.getElem?_set_self (by rw [List.length_set,oeG_len];exact hj)]
   unfold gSw
   by_cases e2:1+j=1+c
   ·rw [if_pos e2,e2]
   ·rw [if_neg e2,if_pos rfl]
  ·rw [List.getElem?_set_ne (Ne.symm e)]
   by_cases e2:j=c
   ·subst e2
    rw [List.getElem?_set_self (by rw [oeG_len];exact hj)]
    unfold gSw
    rw [if_pos rfl]
   ·rw [List.getElem?_set_ne (Ne.symm e2),oeG_get hj hj,gSw_ne (by omega) (by omega)]
 ·rw [List.getElem?_eq_none (by rw [oeG_len];omega),List.getElem?_eq_none (by rw [List.length_set,List.length_set,oeG_len];omega)]
  rfl
theorem weak_swap {t t':List AV} {e1 e:TypeId} {B:AH} {p:Nat} (hc:c<n) (hp:p<n) (hB:∀o,some o∈B→∀x∈o.es,∃y,x=.f y) (ht:WeakLr (gSw (1+c) (1+p)) (1+(n+B.length)) t t') :
  Weak ⟨t,dy [some ⟨e1,1,((oeG n k n d).set c (.own (1+p) 3 0 k)).set p (.own (1+c) 3 0 k)⟩] e 3 (rowsQ n k M n) B⟩
   ⟨t',dy [some ⟨e1,1,oeG n k n d⟩] e 3 (rowsQ n k (swapM M c p) n) B⟩:=by
 have hN:(dy [some (AO.mk e1 1 (oeG n k n d))] e 3 (rowsQ n k (swapM M c p) n) B).length=1+(n+B.length):=by rw [dy_len,rowsQ_len,List.length_singleton]
 refine ⟨gSw (1+c) (1+p),(weakLr ht).1,fun i x hi=>?_,fun r o hr=>?_,fun r r' hr hr' h=>?_⟩
 ·rw [show (AS.mk t' (dy [some (AO.mk e1 1 (oeG n k n d))] e 3 (rowsQ n k (swapM M c p) n) B)).H.length=1+(n+B.length) from hN];exact (weakLr ht).2 i x hi
 ·rw [show (AS.mk t' (dy [some (AO.mk e1 1 (oeG n k n d))] e 3 (rowsQ n k (swapM M c p) n) B)).H.length=1+(n+B.length) from hN]
  replace hr:(dy [some (AO.mk e1 1 (oeG n k n d))] e 3 (rowsQ n k (swapM M c p) n) B)[r]?=some (some o):=hr
  show (dy _ _ _ _ _)[_]?=_∧_
  rcases Nat.lt_or_ge r 1 with h1|h1
  ·obtain rfl:r=0:=by omega
   rw [gSw_ne (by omega) (by omega),dy_g0]
   rw [dy_g0] at hr
   cases hr
   refine ⟨by show _=some (some (AO.mk e1 1 ((oeG n k n d).map _)));rw [oeG_sw hc hp],fun y hy=>?_⟩
   obtain ⟨j,hj,rfl⟩:=List.mem_map.1 (show y∈oeG n k n d from hy)
   have:=List.mem_range.1 hj
   rw [if_pos this]
   exact decide_eq_true (show 1+j<1+(n+B.length) by omega)
  ·obtain ⟨q,rfl⟩:∃q,r=1+q:=⟨r-1,by omega⟩
   rcases Nat.lt_or_ge q n with h2|h2
   ·rw [dy_getR (a:=1) rfl (rowsQ_get h2)] at hr
    cases hr
    obtain ⟨z,hz,hzn,hrow⟩:∃z,gSw (1+c) (1+p) (1+q)=1+z∧z<n∧rowQ k (swapM M c p) q=rowQ k M z:=by
     unfold gSw
     by_cases e:q=c
     ·subst e;exact ⟨p,if_pos rfl,hp,List.map_congr_left fun b _=>by show fr (swapM M q p q b)=_;unfold swapM;rw [if_pos rfl]⟩
     ·rw [if_neg (by omega)]
      by_cases e2:q=p
      ·subst e2;exact ⟨c,if_pos rfl,hc,List.map_congr_left fun b _=>by show fr (swapM M c q q b)=_;unfold swapM;rw [if_neg e,if_pos rfl]⟩
      ·exact ⟨q,if_neg (by omega),h2,List.map_congr_left fun b _=>by show fr (swapM M c p q b)=_;unfold swapM;rw [if_neg e,if_neg e2]⟩
    rw [hz,dy_getR (a:=1) rfl (rowsQ_get hzn)]
    refine ⟨?_,fun x hx=>by obtain ⟨y,_,rfl⟩:=List.mem_map.1 (show x∈(rowQ k (swapM M c p) q).map AV.f from hx);rfl⟩
    show _=some (some (AO.mk e 3 (((rowQ k (swapM M c p) q).map AV.f).map _)))
    rw [map_ren_f,hrow]
   ·obtain ⟨j,rfl⟩:∃j,q=n+j:=⟨q-n,by omega⟩
    rw [dy_getB (a:=1) rfl rowsQ_len] at hr
    rw [gSw_ne (by omega) (by omega),dy_getB (a:=1) rfl rowsQ_len,hr]
    have ho:=hB o (List.mem_of_getElem? hr)
    refine ⟨?_,fun x hx=>by obtain ⟨y,rfl⟩:=ho x hx;rfl⟩
    have:o.es.map (AV.ren (gSw (1+c) (1+p)))=o.es:=by
     conv=>rhs;rw [←List.map_id o.es]
     exact List.map_congr_left fun x hx=>by obtain ⟨y,rfl⟩:=ho x hx;rfl
    rw [this]
 ·unfold gSw at h
  split at h<;>split at h<;>(try split at h)<;>(try split at h)<;>omega
theorem weak_swap_m {t:List AV} {e1 e:TypeId} {B:AH} {p:Nat} (ws:List Nat) (hc:c<n) (hp:p<n) (hB:∀o,some o∈B→∀x∈o.es,∃y,x=.f y) (ht:WeakLr (gSw (1+c) (1+p)) (1+(n+B.length)) t (msk ws t)) :
  Weak ⟨t,dy [some ⟨e1,1,((oeG n k n d).set c (.own (1+p) 3 0 k)).set p (.own (1+c) 3 0 k)⟩] e 3 (rowsQ n k M n) B⟩
   ⟨msk ws t,dy [some ⟨e1,1,oeG n k n d⟩] e 3 (rowsQ n k (swapM M c p) n) B⟩:=weak_swap hc hp hB ht
def dvK (M:Mx) (c k:Nat) (q:Rat):Mx:=fun a b=>if a=c∧b<k then M c b/q else M a b
def elK (M:Mx) (c r:Nat):Mx:=fun a b=>if a<r∧a≠c then M a b-M a c*M c b else M a b
def ilK (M:Mx) (c r k:Nat) (f:Rat):Mx:=fun a b=>if a=r∧b<k then M a b-f*M c b else M a b
theorem dvK_zero {q:Rat}:dvK M c 0 q=M:=by funext a b;simp [dvK]
theorem elK_zero:elK M c 0=M:=by funext a b;simp [elK]
theorem ilK_zero {f:Rat} {r:Nat}:ilK M c r 0 f=M:=by funext a b;simp [ilK]
theorem dvK_at {q:Rat}:dvK M c k q c k=M c k:=by simp [dvK]
theorem dvK_upd {q:Rat}:updM (dvK M c k q) c k (M c k/q)=dvK M c (k+1) q:=by
 funext a b
 unfold updM dvK
 by_cases e:a=c∧b=k
 ·rw [if_pos e,if_pos ⟨e.1,by omega⟩,e.2]
 ·rw [if_neg e]
  by_cases e2:a=c∧b<k
  ·rw [if_pos e2,if_pos ⟨e2.1,by omega⟩]
  ·rw [if_neg e2,if_neg (fun h=>e2 ⟨h.1,by have:b≠k:=fun h'=>e ⟨h.1,h'⟩;omega⟩)]
theorem ilK_upd {f:Rat} {r:Nat}:updM (ilK M c r k f) r k (M r k-f*M c k)=ilK M c r (k+1) f:=by
 funext a b
 unfold updM ilK
 by_cases e:a=r∧b=k
 ·rw [if_pos e,if_pos ⟨e.1,by omega⟩,e.2,e.1]
 ·rw [if_neg e]
  by_cases e2:a=r∧b<k
  ·rw [if_pos e2,if_pos ⟨e2.1,by omega⟩]
  ·rw [if_neg e2,if_neg (fun h=>e2 ⟨h.1,by have:b≠k:=fun h'=>e ⟨h.1,h'⟩;omega⟩)]
end
theorem map_kill_f {r:Nat} {l:List FV}:(l.map AV.f).map (AV.kill1 r)=l.map .f:=by
 rw [List.map_map];rfl
theorem dy_kill {A B:AH} {e:TypeId} {sz r:Nat} {R:List (List FV)}:(dy A e sz R B).map (killO r)=dy (A.map (killO r)) e sz R (B.map (killO r)):=by
 unfold dy
 rw [List.map_append,List.map_append]
 congr 2
 unfold rowsO
 rw [List.map_map]
 refine List.map_congr_left fun l _=>?_
 show some (AO.mk e sz ((l.map AV.f).map (AV.kill1 r)))=_
 rw [map_kill_f]
theorem oeG_kill {n c x r:Nat} {d:Nat→FV} (h:1+x≤r):(oeG n c x d).map (AV.kill1 r)=oeG n c x d:=by
 unfold oeG
 rw [List.map_map]
 refine List.map_congr_left fun j _=>?_
 show AV.kill1 r (if j<x then _ else _)=_
 split
 ·show AV.killc r (AV.own (1+j) 3 0 c)=_
  unfold AV.killc
  rw [if_neg]
  show ¬decide _=true
  simp;omega
 ·rfl
def colL (M:Mx) (c x:Nat):List FV:=(List.range x).map fun r=>fr (M r c)
theorem colL_len {M:Mx} {c x:Nat}:(colL M c x).length=x:=by simp [colL]
theorem colL_next {M:Mx} {c x:Nat}:colL M c x++[fr (M x c)]=colL M c (x+1):=by simp [colL,List.range_succ]
theorem colL_frs {M:Mx} {c x:Nat}:frs ((List.range x).map fun r=>M r c)=.fz 3 (colL M c x):=by
 show FV.fz 3 _=_
 rw [List.map_map];rfl
attribute [go_sem] rowsQ_len objLt_oeG objLt_oeGo
set_option maxRecDepth 100000 in
theorem lead_w {l:List Rat} {c s:Nat} (hl:Row s l) (hs:s≤1000000000) (hc:c<l.length) (hn:l.length≤1000):Good Tryz.prog 205 [frs l,.fp (I c) 0] (Bo (decide (l.getD c 0≠0))):=by
 have z1:(l.map fr)[c]?=some (fr (l.getD c 0)):=by rw [map_get fr l hc,lget_lt l 0 hc]
 have c1:=IsFr.c (hl.getD hc)
 have h0f:IsFr (fr ((0:Int):Rat)) ((0:Int):Rat) 8:=IsFr.int (by omega) (by omega)
 have e:(!decide (cmpR (l.getD c 0) ((0:Int):Rat)=0))=decide (l.getD c 0≠0):=by
  rw [show decide (cmpR (l.getD c 0) ((0:Int):Rat)=0)=decide (l.getD c 0=0) by congr 1;exact propext (cmpR_zero _ _)]
  simp
 refine good_of Tryz.func205 rfl (by kernel_rfl) fun X hO hrd=>?_;rw [Tryz.ntmps205,Tryz.results205];simp only [ast0,List.map_cons,List.map_nil,List.length_cons,List.length_nil,Nat.reduceAdd,Nat.reduceSub,List.replicate_succ,List.replicate_zero,List.cons_append,List.nil_append]
 repeat (first|(with_reducible first|refine W_seq fun K hK=>?_|refine J_ret ?_|refine J_region ?_ |refine J_drawn mixed (by kernel_rfl) ?_|(refine Kont.go (by assumption) ?_)|(simp (config:={ maxSteps:=3000000 }) (disch:=omega) only [go_sem,↓reduceIte,Nat.reduceAdd,z1]))|refine callQ_f (of_good (by omega) (by omega)) rfl ?_|refine callQ_f (cmp_w (by assumption) (by assumption) (by omega) (by omega)) rfl ?_)
 rw [e]
 exact Frz.f _
theorem firstI_piv {M:Mx} {c n:Nat}:firstI (fun p=>decide (M (c+p) c≠0)) (n-c)=match piv M c n with|some p=>(p:Int)|none=>-1:=rfl
theorem gs_none_up {n:Nat} {M:Mx} {c:Nat} (h:gs n M c=none):∀m,gs n M (c+m)=none:=by
 intro m
 induction m with
 | zero=>exact h
 | succ m ih=>show (match gs n M (c+m) with|none=>none|some M'=>_)=none;rw [ih]
def augM (A:List (List Rat)) (b:List Rat):Mx:=fun i k=>if k=A.length then b.getD i 0 else at2 A i k
def szG (s:Nat):Nat→Nat
 | 0=>s
 | c+1=>4*szG s c+2
def solR (A:List (List Rat)) (b:List Rat):List Rat:=match gs A.length (augM A b) A.length with
 | some M=>(List.range A.length).map fun i=>M i A.length
 | none=>[]
set_option maxRecDepth 100000 in
set_option maxHeartbeats 16000000 in
theorem solve_w {A:List (List Rat)} {b:List Rat} {s:Nat} (hn1:1≤A.length) (hn6:A.length≤6) (hsq:∀r∈A,r.length=A.length) (hb:b.length=A.length) (hA:∀r∈A,Row s r) (hbs:Row s b) (hs1:1≤s) (hs:s≤100000) :
  GoodM Tryz.prog 112 [.own 0 1 0 A.length,.f (frs b)] [⟨23,1,(A.map frs).map .f⟩] (frs (solR A b)):=by
 obtain ⟨n,hn⟩:∃n,n=A.length:=⟨_,rfl⟩
 rw [←hn]
 obtain ⟨M0,hM0⟩:∃M0,M0=augM A b:=⟨_,rfl⟩
 have hA0:(A.map frs).map AV.f=oeG n (n+1) 0 (fun j=>frs ((List.range n).map (M0 j))):=by
  rw [←oeG_zero]
  have:=mxL_of hsq
  rw [←hn] at this
  rw [this]
  unfold mxL
  rw [List.map_map,List.map_map]
  refine List.map_congr_left fun i hi=>?_
  show AV.f (frs _)=AV.f (frs _)
  congr 2
  refine List.map_congr_left fun k hk=>?_
  have:=List.mem_range.1 hk
  rw [hM0,augM,if_neg (by omega)]
 rw [hA0]
 obtain ⟨D,hD⟩:∃D:Nat→FV,D=fun j=>frs ((List.range n).map (M0 j)):=⟨_,rfl⟩
 rw [←hD]
 have hbn:b.length=n:=by omega
 refine goodM_of Tryz.func112 rfl (by kernel_rfl) fun X hrd=>?_;rw [Tryz.ntmps112,Tryz.results112];simp only [ast0M,List.map_cons,List.map_nil,List.length_cons,List.length_nil,Nat.reduceAdd,Nat.reduceSub,List.replicate_succ,List.replicate_zero,List.cons_append,List.nil_append]
 repeat (with_reducible first|refine W_seq fun K hK=>?_|refine J_block ?_|refine J_region ?_|(refine Kont.go (by assumption) ?_)|(simp (config:={ maxSteps:=3000000 }) (disch:=omega) only [go_sem]))
 have hH:[some (AO.mk 23 1 (oeG n (n+1) 0 D))]=dy [some (AO.mk 23 1 (oeG n (n+1) 0 D))] 44 3 (rowsQ n (n+1) M0 0) []:=rfl
 rw [hH]
 refine W_loop [6,21,22,23,24,25,26,27,28,29,30,31,32,33,34,35,36,37,38] (fun x:Nat=>[(21,.f (I x))]) (fun x:Nat=>dy [some ⟨23,1,oeG n (n+1) x D⟩] 44 3 (rowsQ n (n+1) M0 x) []) (fun x:Nat=>x≤n) (fun x:Nat=>n-x) (0) (Nat.zero_le _) (by refine weak_of ?_ ?_<;>simp (disch:=omega) only [go_sem]<;>first|rfl|exact ⟨rfl,rfl⟩|exact Or.inl rfl|exact ⟨Or.inl rfl,Or.inl rfl⟩|trivial|assumption|omega|(symm;assumption)|((repeat' apply And.intro)<;>first|rfl|omega|trivial|exact .inr ⟨rfl,rfl⟩|exact .inr rfl|(right;symm;assumption)|(symm;assumption)|assumption)) ?_
 rintro i hi
 simp only [go_sem]
 repeat (with_reducible first|refine W_seq fun K hK=>?_|refine J_region ?_|refine J_c ?_|(refine Kont.go (by assumption) ?_)|(simp (config:={ maxSteps:=3000000 }) (disch:=omega) only [go_sem]))
 refine Jc_if (fun hil=>?_) (fun hil=>?_)<;>try simp only [decide_eq_true_eq,decide_eq_false_iff_not] at hil
 ·have hold:=oeG_old (n:=n) (c:=n+1) (x:=i) (i:=i) (d:=D) (Nat.le_refl _) hil
  have hRl:(rowsQ n (n+1) M0 i).length=i:=rowsQ_len
  have hDi:D i=.fz 3 (((List.range n).map (M0 i)).map fr):=by rw [hD]
  have hcl:GoodO Tryz.prog 203 [.fz 3 (((List.range n).map (M0 i)).map fr)] (.own 44 3 (((List.range n).map (M0 i)).map fr)):=by
   obtain ⟨q,l,e⟩:=List.exists_cons_of_ne_nil (l:=(List.range n).map (M0 i)) (fun e=>by have:=congrArg List.length e;simp at this;omega)
   have hl:l.length+1=n:=by have:=congrArg List.length e;simpa using this.symm
   rw [e]
   exact clone_w q l (by omega)
  have hbi:(b.map fr)[i]?=some (fr (b.getD i 0)):=by rw [map_get fr b (by omega),lget_lt b 0 (by omega)]
  have hll:(((List.range n).map (M0 i)).map fr).length=n:=by simp
  have hgB:∀(A:Option AO) (B:AH) (j:Nat),(dy [A] 44 3 (rowsQ n (n+1) M0 i) B)[1+(i+j)]?=B[j]?:=fun A B j=>dy_getB rfl hRl
  have hgB0:∀(A:Option AO) (B:AH),(dy [A] 44 3 (rowsQ n (n+1) M0 i) B)[1+i]?=B[0]?:=fun A B=>dy_getB0 rfl hRl
  have hsB:∀(A:Option AO) (B:AH) (j:Nat) (o:Option AO),(dy [A] 44 3 (rowsQ n (n+1) M0 i) B).set (1+(i+j)) o=dy [A] 44 3 (rowsQ n (n+1) M0 i) (B.set j o):=fun A B j o=>dy_setB rfl hRl
  have hsB0:∀(A:Option AO) (B:AH) (o:Option AO),(dy [A] 44 3 (rowsQ n (n+1) M0 i) B).set (1+i) o=dy [A] 44 3 (rowsQ n (n+1) M0 i) (B.set 0 o):=fun A B o=>dy_setB0 rfl hRl
  repeat (first|(with_reducible first|refine W_seq fun K hK=>?_|refine J_block ?_|refine J_skip ?_|refine J_region ?_|refine J_orders (id:=5) [6,12] (.one 0 (.one 1 (.one 2 (.one 3 (.one 4 (.one 5 (.one 7 (.one 8 (.one 9 (.br (.alt 6 (.one 10 (.one 11 (.one 12 (.one 13 (.one 14 .leaf))))) (.alt 10 (.br (.alt 6 (.one 11 (.one 12 (.one 13 (.one 14 .leaf)))) (.alt 11 (.one 6 (.one 12 (.one 13 (.one 14 .leaf)))) .fin))) .fin)))))))))))) mixed (by kernel_rfl) ?_|(refine Kont.go (by assumption) ?_)|(simp (config:={ maxSteps:=3000000 }) (disch:=omega) only [go_sem,Nat.reduceEqDiff,↓reduceIte,Nat.reduceAdd,hold,hDi,hbi]))|refine And.intro (by omega) ?_)
  have hqn:M0 i n=b.getD i 0:=by rw [hM0,augM,if_pos hn]
  have hrow:((List.range n).map (M0 i)).map fr++[fr (b.getD i 0)]=rowQ (n+1) M0 i:=by
   unfold rowQ
   rw [List.range_succ,List.map_append,List.map_map,←hqn];rfl
  have htk:((((List.range n).map (M0 i)).map fr).map AV.f).take n++[AV.f (fr (b.getD i 0))]=(rowQ (n+1) M0 i).map AV.f:=by
   rw [List.take_of_length_le (by simp),←hrow,List.map_append];rfl
  have hclose:dy [some (AO.mk 23 1 (oeG n (n+1) (i+1) D))] 44 3 (rowsQ n (n+1) M0 (i+1)) []=dy [some (AO.mk 23 1 ((oeG n (n+1) i D).set i (.own (1+i) 3 0 (n+1))))] 44 3 (rowsQ n (n+1) M0 i) [ob 44 3 (rowQ (n+1) M0 i)]:=by
   rw [ob_pos (fun e=>by have:=congrArg List.length e;rw [rowQ_len] at this;simp at this),dy_close,oeG_set hil,rowsQ_next]
  have hob1:ob 44 3 (rowQ (n+1) M0 i)=some ⟨44,3,(rowQ (n+1) M0 i).map .f⟩:=ob_pos (fun e=>by have:=congrArg List.length e;rw [rowQ_len] at this;simp at this)
  have hres:=oeG_ren (n:=n) (c:=n+1) (x:=i) (d:=D) (a:=1+i) (b:=1+(i+2)) (by omega) (by omega)
  have hg0:gCur (1+i) (1+(i+2)) 0=0:=gCur_ne (by omega)
  have hg1:gCur (1+i) (1+(i+2)) (1+i)=1+(i+2):=gCur_self
  have hlt3:n≤n:=Nat.le_refl n
  refine And.intro ?_ (And.intro ?_ (And.intro (by decide) ?_))
  ·refine callHK_o hcl (FrzL.fs [_]) ?_
   repeat (first|(with_reducible first|refine J_region ?_|(refine Kont.go (by assumption) ?_)|(simp (config:={ maxSteps:=3000000 }) (disch:=omega) only [go_sem,Nat.reduceEqDiff,↓reduceIte,Nat.reduceAdd,Nat.reduceLeDiff,hold,hDi,hgB,hgB0,hsB0,hRl,hll,htk,Nat.reduceMul,Nat.le_refl,true_and,and_self]))|refine And.intro (by omega) ?_)
   refine ⟨i+1,by omega,by omega,?_⟩
   rw [hclose]
   refine weak_cur (j:=2) rfl rfl hRl rfl hob1.symm ?_ ?_<;>(try simp (disch:=omega) only [go_sem,hg0,hg1,hres])<;>(try first|done|omega|rfl|exact ⟨rfl,rfl⟩|trivial)
   done
  ·refine callHK_o hcl (FrzL.fs [_]) ?_
   repeat (first|(with_reducible first|refine J_region ?_|(refine Kont.go (by assumption) ?_)|(simp (config:={ maxSteps:=3000000 }) (disch:=omega) only [go_sem,Nat.reduceEqDiff,↓reduceIte,Nat.reduceAdd,Nat.reduceLeDiff,hold,hDi,hgB,hgB0,hsB0,hRl,hll,htk,Nat.reduceMul,Nat.le_refl,true_and,and_self]))|refine And.intro (by omega) ?_)
   refine ⟨i+1,by omega,by omega,?_⟩
   rw [hclose]
   refine weak_cur (j:=2) rfl rfl hRl rfl hob1.symm ?_ ?_<;>(try simp (disch:=omega) only [go_sem,hg0,hg1,hres])<;>(try first|done|omega|rfl|exact ⟨rfl,rfl⟩|trivial)
   done
  ·refine callHK_o hcl (FrzL.fs [_]) ?_
   repeat (first|(with_reducible first|refine J_region ?_|(refine Kont.go (by assumption) ?_)|(simp (config:={ maxSteps:=3000000 }) (disch:=omega) only [go_sem,Nat.reduceEqDiff,↓reduceIte,Nat.reduceAdd,hold,hDi,hgB,hsB,hgB0,hRl,hll,htk,Nat.le_refl,true_and,and_self]))|refine And.intro (by omega) ?_)
   refine ⟨i+1,by omega,by omega,?_⟩
   rw [hclose]
   refine weak_cur (j:=2) rfl rfl hRl rfl hob1.symm ?_ ?_<;>(try simp (disch:=omega) only [go_sem,hg0,hg1,hres])<;>(try first|done|omega|rfl|exact ⟨rfl,rfl⟩|trivial)
   done
 ·have he:i=n:=by omega
  subst he
  have hR0:∀M:Mx,(rowsQ i (i+1) M i).length=i:=fun M=>rowsQ_len
  have hgB:∀(M:Mx) (A:Option AO) (B:AH) (j:Nat),(dy [A] 44 3 (rowsQ i (i+1) M i) B)[1+(i+j)]?=B[j]?:=fun M A B j=>dy_getB rfl (hR0 M)
  have hgB0:∀(M:Mx) (A:Option AO) (B:AH),(dy [A] 44 3 (rowsQ i (i+1) M i) B)[1+i]?=B[0]?:=fun M A B=>dy_getB0 rfl (hR0 M)
  have hsB:∀(M:Mx) (A:Option AO) (B:AH) (j:Nat) (o:Option AO),(dy [A] 44 3 (rowsQ i (i+1) M i) B).set (1+(i+j)) o=dy [A] 44 3 (rowsQ i (i+1) M i) (B.set j o):=fun M A B j o=>dy_setB rfl (hR0 M)
  have hsB0:∀(M:Mx) (A:Option AO) (B:AH) (o:Option AO),(dy [A] 44 3 (rowsQ i (i+1) M i) B).set (1+i) o=dy [A] 44 3 (rowsQ i (i+1) M i) (B.set 0 o):=fun M A B o=>dy_setB0 rfl (hR0 M)
  have hgR:∀(M:Mx) (A:Option AO) (B:AH) (q:Nat),q<i→(dy [A] 44 3 (rowsQ i (i+1) M i) B)[1+q]?=some (some ⟨44,3,(rowQ (i+1) M q).map .f⟩):=fun M A B q hq=>dy_getR rfl (rowsQ_get hq)
  have hog:∀q,q<i→(oeG i (i+1) i D)[q]?=some (.own (1+q) 3 0 (i+1)):=fun q hq=>oeG_get hq hq
  have hfz0:∀r k,r<i→k≤i→Fz (M0 r k) s:=fun r k hr hk=>by
   rw [hM0,augM]
   split
   ·exact hbs.getD (by omega)
   ·have hrl:r<A.length:=by omega
    have hkl:k<A[r].length:=by rw [hsq _ (List.getElem_mem hrl)];omega
    unfold at2
    rw [lget_lt A [] hrl,lget_lt _ 0 hkl]
    exact hA _ (List.getElem_mem hrl) _ (List.getElem_mem hkl)
  repeat (with_reducible first|refine W_seq fun K hK=>?_|refine J_block ?_|refine J_exit ?_|refine J_region ?_|(refine Kont.go (by assumption) ?_)|(simp (config:={ maxSteps:=3000000 }) (disch:=omega) only [go_sem,↓reduceIte]))
  refine W_loop [4,7,8,9,10,11,12,13,40,41,42,43,44,45,46,47,48,49,50,51,52,53,54,55,56,57,58,59,60,61,62,63,64,65,66,67,68,69,70,71,72,73,74,75,76,77,78,79,80,81,82,83,84,85,86,87,88,89,90,91,92,93,94,95,96,97,98,99,100,101,102,103,104,105,106,107,108,109,110,111,112,113,114,115,116,117,118,119,120,121,122,123,124,125,126,127,128,129,130,131,132,133,134,135,136,137,138,139,140,141,142,143,144,145,146,147,148,149,150,151,152,153,154,155] (fun x:Nat × Mx=>[(40,.f (I x.1))]) (fun x:Nat × Mx=>dy [some ⟨23,1,oeG i (i+1) i D⟩] 44 3 (rowsQ i (i+1) x.2 i) []) (fun x:Nat × Mx=>x.1≤i∧gs i M0 x.1=some x.2∧∀r k,r<i→k≤i→Fz (x.2 r k) (szG s x.1)) (fun x:Nat × Mx=>i-x.1) ((0,M0)) (⟨Nat.zero_le _,rfl,hfz0⟩) (by refine weak_of ?_ ?_<;>simp (disch:=omega) only [go_sem]<;>first|rfl|exact ⟨rfl,rfl⟩|exact Or.inl rfl|exact ⟨Or.inl rfl,Or.inl rfl⟩|trivial|assumption|omega|(symm;assumption)|((repeat' apply And.intro)<;>first|rfl|omega|trivial|exact .inr ⟨rfl,rfl⟩|exact .inr rfl|(right;symm;assumption)|(symm;assumption)|assumption)) ?_
  rintro ⟨c,M⟩ ⟨hc,hgs,hfz⟩
  simp only at hc hgs hfz
  simp only [go_sem]
  repeat (with_reducible first|refine W_seq fun K hK=>?_|refine J_region ?_|refine J_c ?_|(refine Kont.go (by assumption) ?_)|(simp (config:={ maxSteps:=3000000 }) (disch:=omega) only [go_sem]))
  refine Jc_if (fun hcl=>?_) (fun hcl=>?_)<;>try simp only [decide_eq_true_eq,decide_eq_false_iff_not] at hcl
  ·have hor:(c=0∨c<i)=True:=eq_true (.inr hcl)
   have hin:((i:Int)-(c:Int)).toNat=i-c:=by omega
   have sz:szG s c≤500000000:=by
    have h5:∀c,c≤6→szG 100000 c≤500000000:=by decide
    have mono:∀c,szG s c≤szG 100000 c:=by
     intro c
     induction c with
     | zero=>exact hs
     | succ c ih=>show 4*szG s c+2≤4*szG 100000 c+2;omega
    exact Nat.le_trans (mono c) (h5 c (by omega))
   have hrq:∀q,frs ((List.range (i+1)).map (M q))=.fz 3 (rowQ (i+1) M q):=fun q=>by
    show FV.fz 3 (((List.range (i+1)).map (M q)).map fr)=_
    rw [List.map_map];rfl
   obtain ⟨Ls,hLs⟩:∃Ls,Ls=(List.range (i-c)).map fun p=>FV.fz 3 (rowQ (i+1) M (c+p)):=⟨_,rfl⟩
   have hLl:Ls.length=i-c:=by rw [hLs];simp
   have hLg:∀(q:Nat) x,Ls[q]?=some x→q<i-c∧x=FV.fz 3 (rowQ (i+1) M (c+q)):=fun q x hx=>by
    have hq:q<i-c:=by rw [←hLl];exact glt hx
    rw [hLs] at hx
    simp [hq] at hx
    exact ⟨hq,hx.symm⟩
   have hidx:=indexFunc_w (ls:=Ls) (g:=205) (a:=[]) (b:=[.fp (I c) 0]) (p:=fun q=>decide (M (c+q) c≠0)) (by omega) (fun q x hx=>⟨_,_,(hLg q x hx).2⟩) fun q x hx=>by
    obtain ⟨hq,rfl⟩:=hLg q x hx
    rw [←hrq]
    have hl:=lead_w (l:=(List.range (i+1)).map (M (c+q))) (c:=c) (s:=szG s c) (fun z hz=>by
     obtain ⟨k,hk,rfl⟩:=List.mem_map.1 hz
     exact hfz _ _ (by omega) (by have:=List.mem_range.1 hk;omega)) (by omega) (by simp;omega) (by simp;omega)
    have e:((List.range (i+1)).map (M (c+q))).getD c 0=M (c+q) c:=by
     have:c<i+1:=by omega
     simp [List.getD,this]
    rw [e] at hl
    exact hl
   rw [hLl,firstI_piv] at hidx
   have hFz:FrzL (dy [some (AO.mk 23 1 (oeG i (i+1) i D))] 44 3 (rowsQ i (i+1) M i) [some (AO.mk 3 1 [.f (I c)])]) [.own 0 1 c (i-c),.fn 205 [] [.ptr (1+i) 1 0 0]] [.fz 1 Ls,.fn 205 [] [.fp (I c) 0]]:=by
    refine FrzL.cons (Frz.own 0 1 c (i-c) _ Ls rfl rfl (by show c+(i-c)≤(oeG i (i+1) i D).length;rw [oeG_len];omega) hLl fun j e d he hd=>?_) (FrzL.cons (Frz.fn _ _ _ _ _ rfl (fun j c d h=>by simp at h) rfl fun j cc d h h'=>?_) (FrzL.nil _))
    ·obtain ⟨hj,rfl⟩:=hLg j d hd
     rw [show (AO.mk 23 1 (oeG i (i+1) i D)).es=oeG i (i+1) i D from rfl,hog (c+j) (by omega)] at he
     cases he
     exact Frz.own0 (hgR M _ _ (c+j) (by omega)) rowQ_len.symm
    ·cases j with
     | zero =>
      cases h;cases h'
      exact Frz.ptr0 (hgB0 M _ _) rfl
     | succ j=>simp at h
   repeat (first|(with_reducible first|refine W_seq fun K hK=>?_|refine J_block ?_|refine J_skip ?_|refine J_region ?_|(refine Kont.go (by assumption) ?_)|(simp (config:={ maxSteps:=3000000 }) (disch:=omega) only [go_sem,↓reduceIte,hgB0,hsB0,hR0,hor,hin]))|refine And.intro (by omega) ?_)
   refine call_fl hidx (.v _) hFz ?_
   have hsol:i=A.length:=hn
   cases hp:piv M c i with
   | none =>
    have e:solR A b=[]:=by
     unfold solR
     have h1:gs i M0 (c+1)=none:=by show (match gs i M0 c with|none=>none|some M'=>_)=none;rw [hgs];simp only [hp]
     have h2:=gs_none_up h1 (i-(c+1))
     rw [show c+1+(i-(c+1))=i by omega] at h2
     rw [←hn,←hM0,h2]
    repeat (with_reducible first|refine W_seq fun K hK=>?_|refine J_ret ?_|refine J_region ?_|refine J_c ?_|refine Jc_true ?_|(refine Kont.go (by assumption) ?_)|(simp (config:={ maxSteps:=3000000 }) (disch:=omega) only [go_sem,Int.reduceLT,Int.reduceNeg]))
    rw [e]
    exact Frz.nil 3
   | some p =>
    obtain ⟨hp1,hp2⟩:=piv_some hp
    have hpn:¬(p:Int)<0:=by omega
    have hcp:(c:Int)+(p:Int)=((c+p:Nat):Int):=by omega
    have hcpn:c+p<i:=hp1
    have hsc:((oeG i (i+1) i D).set c (.own (1+(c+p)) 3 0 (i+1)))[c+p]?=some (.own (1+(c+p)) 3 0 (i+1)):=by
     by_cases e:c+p=c
     ·rw [e,List.getElem?_set_self (by rw [oeG_len];omega)]
     ·rw [List.getElem?_set_ne (by omega),oeG_get hcpn hcpn]
    have hsg:(((oeG i (i+1) i D).set c (.own (1+(c+p)) 3 0 (i+1))).set (c+p) (.own (1+c) 3 0 (i+1)))[c]?=some (.own (1+(c+p)) 3 0 (i+1)):=by
     by_cases e:c+p=c
     ·rw [e,List.getElem?_set_self (by rw [List.length_set,oeG_len];omega)]
     ·rw [List.getElem?_set_ne e,List.getElem?_set_self (by rw [oeG_len];omega)]
    have hrg:((rowQ (i+1) M (c+p)).map AV.f)[c]?=some (.f (fr (M (c+p) c))):=rowQ_get (by omega)
    have hrl:(rowQ (i+1) M (c+p)).length=i+1:=rowQ_len
    have hsl:((oeG i (i+1) i D).set c (.own (1+(c+p)) 3 0 (i+1))).length=i:=by rw [List.length_set,oeG_len]
    repeat (first|(with_reducible first|refine W_seq fun K hK=>?_|refine J_skip ?_|((fail_if_success refine J_region (id:=15) ?_);refine J_region ?_)|refine J_orders (id:=13) [] (.one 0 (.one 1 (.one 2 (.one 4 (.one 6 (.one 7 (.one 8 (.one 9 (.one 10 (.one 11 (.one 12 (.one 13 (.one 14 (.one 15 (.one 16 (.br (.alt 3 (.one 5 (.one 17 (.one 18 (.one 19 .leaf)))) (.alt 17 (.one 3 (.one 5 (.one 18 (.one 19 .leaf)))) .fin)))))))))))))))))) mixed (by kernel_rfl) ?_ |refine J_drawn mixed (by kernel_rfl) ?_|refine J_c ?_|refine Jc_false ?_|(refine Kont.go (by assumption) ?_)|(simp (config:={ maxSteps:=3000000 }) (disch:=omega) only [go_sem,↓reduceIte,Nat.reduceAdd,hpn,hgB,hsB,hgB0,hR0,hog,hgR,hcp,hsc,hsg,hrg,true_and,and_true,and_self]))|refine And.intro (by omega) ?_)
    have w0:gSw (1+c) (1+(c+p)) 0=0:=gSw_ne (by omega) (by omega)
    have w1:gSw (1+c) (1+(c+p)) (1+i)=1+i:=gSw_ne (by omega) (by omega)
    have w2:gSw (1+c) (1+(c+p)) (1+(i+1))=1+(i+1):=gSw_ne (by omega) (by omega)
    refine J_weak (weak_swap_m [42,43,44,45,46,47,48,49,50,51,52,53,54,55,56,57,58,59,60,61,62,63,64,65,66,67,68,69,70,71,72,73,74,8] hcl hcpn (fun o ho x hx=>by
     rcases List.mem_cons.1 ho with ho|ho
     ·cases ho;cases List.mem_singleton.1 hx;exact ⟨_,rfl⟩
     ·cases List.mem_singleton.1 ho;cases List.mem_singleton.1 hx;exact ⟨_,rfl⟩) (by simp (disch:=omega) only [go_sem,Nat.reduceAdd,w0,w1,w2]<;>(repeat' apply And.intro)<;>omega)) ?_
    obtain ⟨M1,hM1⟩:∃M1,M1=swapM M c (c+p):=⟨_,rfl⟩
    have hq0:M (c+p) c=M1 c c:=by rw [hM1];unfold swapM;rw [if_pos rfl]
    have hq1:M1 c c≠0:=hq0▸hp2
    have f1:∀r k,r<i→k≤i→Fz (M1 r k) (szG s c):=fun r k hr hk=>by
     rw [hM1];unfold swapM
     split
     ·exact hfz _ _ hcpn hk
     ·split
      ·exact hfz _ _ hcl hk
      ·exact hfz _ _ hr hk
    have e0:rowsQ i (i+1) M1 i=rowsQ i (i+1) (dvK M1 c 0 (M1 c c)) i:=by rw [dvK_zero]
    rw [←hM1,hq0,e0]
    simp only [go_sem]
    have hset:∀(M:Mx) (A:Option AO) (B:AH) (q k:Nat) (v:Rat),q<i→k<i+1→(dy [A] 44 3 (rowsQ i (i+1) M i) B).set (1+q) (some ⟨44,3,((rowQ (i+1) M q).map .f).set k (.f (fr v))⟩)=dy [A] 44 3 (rowsQ i (i+1) (updM M q k v) i) B:=fun M A B q k v hq hk=>by
     have:((rowQ (i+1) M q).map AV.f).set k (.f (fr v))=((rowQ (i+1) M q).set k (fr v)).map .f:=by rw [List.map_set]
     rw [this,dy_setR (a:=1) rfl (by rw [rowsQ_len];exact hq),rowsQ_set hq hk]
    have hrl:∀M q,(rowQ (i+1) M q).length=i+1:=fun M q=>rowQ_len
    have hrgt:∀(M:Mx) q k,k<i+1→((rowQ (i+1) M q).map AV.f)[k]?=some (.f (fr (M q k))):=fun M q k hk=>rowQ_get hk
    repeat (first|(with_reducible first|refine J_block ?_|refine J_region ?_|(refine Kont.go (by assumption) ?_)|(simp (config:={ maxSteps:=3000000 }) (disch:=omega) only [go_sem,↓reduceIte,hgB0,hog,true_and]))|refine And.intro (by omega) ?_)
    refine W_loop [10,80,81,82,83,84,85,86,87,88,89,90,91,92,93,94,95,96,97,98,99,100,101] (fun x:Nat=>[(80,.f (I x))]) (fun x:Nat=>dy [some ⟨23,1,oeG i (i+1) i D⟩] 44 3 (rowsQ i (i+1) (dvK M1 c x (M1 c c)) i) [some ⟨3,1,[.f (I c)]⟩,some ⟨44,3,[.f (fr (M1 c c))]⟩]) (fun x:Nat=>x≤i+1) (fun x:Nat=>i+1-x) (0) (Nat.zero_le _) (by refine weak_of ?_ ?_<;>simp (disch:=omega) only [go_sem,Nat.reduceAdd]<;>first|rfl|exact ⟨rfl,rfl⟩|exact Or.inl rfl|exact ⟨Or.inl rfl,Or.inl rfl⟩|trivial|assumption|omega|(symm;assumption)|((repeat' apply And.intro)<;>first|rfl|omega|trivial|exact .inr ⟨rfl,rfl⟩|exact .inr rfl|(right;symm;assumption)|(symm;assumption)|assumption)) ?_
    rintro k hk
    simp only [go_sem]
    repeat (with_reducible first|refine W_seq fun K hK=>?_|refine J_region ?_|refine J_c ?_|(refine Kont.go (by assumption) ?_)|(simp (config:={ maxSteps:=3000000 }) (disch:=omega) only [go_sem]))
    refine Jc_if (fun hkl=>?_) (fun hkl=>?_)<;>try simp only [decide_eq_true_eq,decide_eq_false_iff_not] at hkl
    ·have r1:=IsFr.c (f1 c k hcl (by omega))
     have r2:=IsFr.c (f1 c c hcl (by omega))
     have hrk:((rowQ (i+1) (dvK M1 c k (M1 c c)) c).map AV.f)[k]?=some (.f (fr (M1 c k))):=by rw [rowQ_get hkl,dvK_at]
     repeat (first|(with_reducible first|refine W_seq fun K hK=>?_|refine J_block ?_|refine J_skip ?_|refine J_region ?_|refine J_drawn mixed (by kernel_rfl) ?_|(refine Kont.go (by assumption) ?_)|(simp (config:={ maxSteps:=3000000 }) (disch:=omega) only [go_sem,↓reduceIte,Nat.reduceAdd,hgB,hgB0,hog,hgR,hrk,hset,dvK_upd,true_and,and_self]))|refine callQ_f (div_w (by assumption) (by assumption) (by omega) (by omega) (by assumption)) rfl ?_|refine And.intro (by omega) ?_)
     refine ⟨k+1,by omega,by omega,weak_of ?_ ?_⟩<;>(try simp (disch:=omega) only [go_sem,Nat.reduceAdd])<;>(try first|done|omega|rfl|exact ⟨rfl,rfl⟩|trivial)
    ·have he:k=i+1:=by omega
     subst he
     obtain ⟨V,hV⟩:∃V,V=divM M1 c:=⟨_,rfl⟩
     have e1:rowsQ i (i+1) (dvK M1 c (i+1) (M1 c c)) i=rowsQ i (i+1) (elK V c 0) i:=by
      rw [elK_zero]
      refine rowsQ_congr fun a b ha hb=>?_
      rw [hV];unfold dvK divM
      by_cases e:a=c
      ·rw [if_pos ⟨e,hb⟩,if_pos e]
      ·rw [if_neg (fun h=>e h.1),if_neg e]
     rw [e1]
     have fc:∀k,k≤i→Fz (V c k) (szG s c+szG s c):=fun k hk=>by
      rw [hV];unfold divM;rw [if_pos rfl];exact (f1 c k hcl hk).div (f1 c c hcl hc)
     have fn:∀r k,r≠c→r<i→k≤i→Fz (V r k) (szG s c):=fun r k hr hri hk=>by
      rw [hV];unfold divM;rw [if_neg hr];exact f1 r k hri hk
     repeat (with_reducible first|refine W_seq fun K hK=>?_|refine J_block ?_|refine J_exit ?_|refine J_region ?_|(refine Kont.go (by assumption) ?_)|(simp (config:={ maxSteps:=3000000 }) (disch:=omega) only [go_sem,↓reduceIte,true_and]))
     refine W_loop [11,12,13,104,105,106,107,108,109,110,111,112,113,114,115,116,117,118,119,120,121,122,123,124,125,126,127,128,129,130,131,132,133,134,135,136,137,138,139,140,141,142,143,144,145,146,147,148,149,150,151,152,153,154] (fun x:Nat=>[(104,.f (I x))]) (fun x:Nat=>dy [some ⟨23,1,oeG i (i+1) i D⟩] 44 3 (rowsQ i (i+1) (elK V c x) i) [some ⟨3,1,[.f (I c)]⟩,some ⟨44,3,[.f (fr (M1 c c))]⟩]) (fun x:Nat=>x≤i) (fun x:Nat=>i-x) (0) (Nat.zero_le _) (by refine weak_of ?_ ?_<;>simp (disch:=omega) only [go_sem,Nat.reduceAdd]<;>first|rfl|exact ⟨rfl,rfl⟩|exact Or.inl rfl|exact ⟨Or.inl rfl,Or.inl rfl⟩|trivial|assumption|omega|(symm;assumption)|((repeat' apply And.intro)<;>first|rfl|omega|trivial|exact .inr ⟨rfl,rfl⟩|exact .inr rfl|(right;symm;assumption)|(symm;assumption)|assumption)) ?_
     rintro r hr
     simp only [go_sem]
     repeat (with_reducible first|refine W_seq fun K hK=>?_|refine J_region ?_|refine J_c ?_|(refine Kont.go (by assumption) ?_)|(simp (config:={ maxSteps:=3000000 }) (disch:=omega) only [go_sem]))
     refine Jc_if (fun hri=>?_) (fun hri=>?_)<;>try simp only [decide_eq_true_eq,decide_eq_false_iff_not] at hri
     ·have hef:elK V c r r c=V r c:=by unfold elK;rw [if_neg (by omega)]
      have hrk:((rowQ (i+1) (elK V c r) r).map AV.f)[c]?=some (.f (fr (V r c))):=by rw [rowQ_get (by omega),hef]
      by_cases hrc:r=c
      ·have e2:rowsQ i (i+1) (elK V c r) i=rowsQ i (i+1) (elK V c (r+1)) i:=rowsQ_congr fun a b ha hb=>by
        unfold elK
        by_cases e:a≠c
        ·by_cases e3:a<r
         ·rw [if_pos ⟨e3,e⟩,if_pos ⟨by omega,e⟩]
         ·rw [if_neg (fun h=>e3 h.1),if_neg (fun h=>by have:=h.1;omega)]
        ·rw [if_neg (fun h=>e h.2),if_neg (fun h=>e h.2)]
       rw [hrc] at hrk e2
       repeat (first|(with_reducible first|refine W_seq fun K hK=>?_|refine J_block ?_|refine J_skip ?_|refine J_region ?_|refine J_drawn mixed (by kernel_rfl) ?_|refine J_c ?_|refine Jc_false ?_|(refine Kont.go (by assumption) ?_)|(simp (config:={ maxSteps:=3000000 }) (disch:=omega) only [go_sem,↓reduceIte,Nat.reduceAdd,hgB,hsB,hgB0,hR0,hog,hgR,hrk,hrc,true_and,and_self]))|refine And.intro (by omega) ?_)
       rw [e2]
       refine ⟨c+1,by omega,by omega,weak_of ?_ ?_⟩<;>(try simp (disch:=omega) only [go_sem,Nat.reduceAdd])<;>(try first|done|omega|rfl|exact ⟨rfl,rfl⟩|trivial)
      ·by_cases hf0:V r c=0
       ·have e2:rowsQ i (i+1) (elK V c r) i=rowsQ i (i+1) (elK V c (r+1)) i:=rowsQ_congr fun a b ha hb=>by
         unfold elK
         by_cases e:a=r
         ·rw [if_neg (fun h=>by have:=h.1;omega),if_pos ⟨by omega,by rw [e];exact hrc⟩,e,hf0];grind
         ·by_cases e3:a<r∧a≠c
          ·rw [if_pos e3,if_pos ⟨by omega,e3.2⟩]
          ·rw [if_neg e3,if_neg (fun h=>e3 ⟨by have:=h.1;omega,h.2⟩)]
        repeat (first|(with_reducible first|refine W_seq fun K hK=>?_|refine J_block ?_|refine J_skip ?_|refine J_region ?_|refine J_drawn mixed (by kernel_rfl) ?_|refine J_c ?_|refine Jc_false ?_|(refine Kont.go (by assumption) ?_)|(simp (config:={ maxSteps:=3000000 }) (disch:=omega) only [go_sem,↓reduceIte,Nat.reduceAdd,hgB,hsB,hgB0,hR0,hog,hgR,hrk,hrc,hf0,num_zero_iff,Int.natCast_inj,true_and,and_self]))|refine And.intro (by omega) ?_)
        rw [e2]
        refine ⟨r+1,by omega,by omega,weak_of ?_ ?_⟩<;>(try simp (disch:=omega) only [go_sem,Nat.reduceAdd])<;>(try first|done|omega|rfl|exact ⟨rfl,rfl⟩|trivial)
       ·repeat (first|(with_reducible first|refine W_seq fun K hK=>?_|refine J_block ?_|refine J_skip ?_|refine J_region ?_|refine J_drawn mixed (by kernel_rfl) ?_|refine J_c ?_|refine Jc_true ?_|(refine Kont.go (by assumption) ?_)|(simp (config:={ maxSteps:=3000000 }) (disch:=omega) only [go_sem,↓reduceIte,Nat.reduceAdd,hgB,hsB,hgB0,hR0,hog,hgR,hrk,hrc,hf0,num_zero_iff,Int.natCast_inj,true_and,and_self]))|refine And.intro (by omega) ?_)
        obtain ⟨E,hE⟩:∃E,E=elK V c r:=⟨_,rfl⟩
        have hEr:∀k,E r k=V r k:=fun k=>by rw [hE];unfold elK;rw [if_neg (by omega)]
        have hEc:∀k,E c k=V c k:=fun k=>by rw [hE];unfold elK;rw [if_neg (fun h=>h.2 rfl)]
        have e3:rowsQ i (i+1) E i=rowsQ i (i+1) (ilK E c r 0 (V r c)) i:=by rw [ilK_zero]
        rw [←hE,e3]
        refine W_loop [13,127,128,129,130,131,132,133,134,135,136,137,138,139,140,141,142,143,144,145,146,147,148,149,150,151,152,153] (fun x:Nat=>[(127,.f (I x))]) (fun x:Nat=>dy [some ⟨23,1,oeG i (i+1) i D⟩] 44 3 (rowsQ i (i+1) (ilK E c r x (V r c)) i) [some ⟨3,1,[.f (I c)]⟩,some ⟨44,3,[.f (fr (M1 c c))]⟩,some ⟨44,3,[.f (fr (V r c))]⟩]) (fun x:Nat=>x≤i+1) (fun x:Nat=>i+1-x) (0) (Nat.zero_le _) (by refine weak_of ?_ ?_<;>simp (disch:=omega) only [go_sem,Nat.reduceAdd]<;>first|rfl|exact ⟨rfl,rfl⟩|exact Or.inl rfl|exact ⟨Or.inl rfl,Or.inl rfl⟩|trivial|assumption|omega|(symm;assumption)|((repeat' apply And.intro)<;>first|rfl|omega|trivial|exact .inr ⟨rfl,rfl⟩|exact .inr rfl|(right;symm;assumption)|(symm;assumption)|assumption)) ?_
        rintro k hk
        simp only [go_sem]
        repeat (with_reducible first|refine W_seq fun K hK=>?_|refine J_region ?_|refine J_c ?_|(refine Kont.go (by assumption) ?_)|(simp (config:={ maxSteps:=3000000 }) (disch:=omega) only [go_sem]))
        refine Jc_if (fun hkl=>?_) (fun hkl=>?_)<;>try simp only [decide_eq_true_eq,decide_eq_false_iff_not] at hkl
        ·have r1:=IsFr.c (hEr k▸fn r k hrc hri (by omega))
         have r2:=IsFr.c (fn r c hrc hri (by omega))
         have r3:=IsFr.c (hEc k▸fc k (by omega))
         have r4:=IsFr.c ((fn r c hrc hri (by omega)).mul (hEc k▸fc k (by omega)))
         have hrk1:((rowQ (i+1) (ilK E c r k (V r c)) r).map AV.f)[k]?=some (.f (fr (E r k))):=by
          rw [rowQ_get hkl];unfold ilK;rw [if_neg (fun h=>by have:=h.2;omega)]
         have hrk2:((rowQ (i+1) (ilK E c r k (V r c)) c).map AV.f)[k]?=some (.f (fr (E c k))):=by
          rw [rowQ_get hkl];unfold ilK;rw [if_neg (fun h=>hrc h.1.symm)]
         repeat (first|(with_reducible first|refine W_seq fun K hK=>?_|refine J_block ?_|refine J_skip ?_|refine J_region ?_|refine J_drawn mixed (by kernel_rfl) ?_|(refine Kont.go (by assumption) ?_)|(simp (config:={ maxSteps:=3000000 }) (disch:=omega) only [go_sem,↓reduceIte,Nat.reduceAdd,hgB,hgB0,hog,hgR,hrk1,hrk2,hset,ilK_upd,true_and,and_self]))|refine callQ_f (sub_w (by assumption) (by assumption) (by omega) (by omega)) rfl ?_|refine callQ_f (mul_w (by assumption) (by assumption) (by omega) (by omega)) rfl ?_|refine And.intro (by omega) ?_)
         refine ⟨k+1,by omega,by omega,weak_of ?_ ?_⟩<;>(try simp (disch:=omega) only [go_sem,Nat.reduceAdd])<;>(try first|done|omega|rfl|exact ⟨rfl,rfl⟩|trivial)
        ·have he:k=i+1:=by omega
         subst he
         have e4:rowsQ i (i+1) (ilK E c r (i+1) (V r c)) i=rowsQ i (i+1) (elK V c (r+1)) i:=rowsQ_congr fun a b ha hb=>by
          unfold ilK
          by_cases e:a=r
          ·rw [if_pos ⟨e,hb⟩,hEc,e,hEr]
           unfold elK;rw [if_pos ⟨by omega,hrc⟩]
          ·rw [if_neg (fun h=>e h.1),hE]
           unfold elK
           by_cases e5:a<r∧a≠c
           ·rw [if_pos e5,if_pos ⟨by omega,e5.2⟩]
           ·rw [if_neg e5,if_neg (fun h=>e5 ⟨by have:=h.1;omega,h.2⟩)]
         rw [e4]
         repeat (with_reducible first|refine J_exit ?_|refine J_region ?_|(refine Kont.go (by assumption) ?_)|(simp (config:={ maxSteps:=3000000 }) (disch:=omega) only [go_sem,↓reduceIte]))
         refine ⟨r+1,by omega,by omega,weak_of ?_ ?_⟩<;>(try simp (disch:=omega) only [go_sem,Nat.reduceAdd])<;>(try first|done|omega|rfl|exact ⟨rfl,rfl⟩|trivial)
     ·have he:r=i:=by omega
      subst he
      have e5:rowsQ r (r+1) (elK V c r) r=rowsQ r (r+1) (stepM M c (c+p)) r:=rowsQ_congr fun a b ha hb=>by
       unfold stepM
       rw [←hM1,←hV]
       unfold elK elimM
       by_cases e:a=c
       ·rw [if_neg (fun h=>h.2 e),if_pos e,e]
       ·rw [if_pos ⟨ha,e⟩,if_neg e]
      have hgs':gs r M0 (c+1)=some (stepM M c (c+p)):=by
       show (match gs r M0 c with|none=>none|some M'=>_)=_
       rw [hgs];simp only [hp]
      have hfz':∀a b,a<r→b≤r→Fz (stepM M c (c+p) a b) (szG s (c+1)):=fun a b ha hb=>by
       unfold stepM
       rw [←hM1,←hV]
       unfold elimM
       show Fz _ (4*szG s c+2)
       split
       ·exact (fc b hb).up (by omega)
       ·rename_i e
        exact ((fn a b e ha hb).sub ((fn a c e ha hc).mul (fc b hb))).up (by omega)
      rw [e5]
      repeat (with_reducible first|refine J_exit ?_|refine J_region ?_|(refine Kont.go (by assumption) ?_)|(simp (config:={ maxSteps:=3000000 }) (disch:=omega) only [go_sem,↓reduceIte]))
      refine ⟨(c+1,stepM M c (c+p)),⟨hcl,hgs',hfz'⟩,by omega,weak_of ?_ ?_⟩<;>(try simp (disch:=omega) only [go_sem])<;>(try first|done|omega|rfl|exact ⟨rfl,rfl⟩|trivial)
  ·have he:c=i:=by omega
   subst he
   have hsol:solR A b=(List.range c).map fun r=>M r c:=by
    unfold solR
    rw [←hn,←hM0,hgs]
   repeat (with_reducible first|refine W_seq fun K hK=>?_|refine J_block ?_|refine J_exit ?_|refine J_region ?_|(refine Kont.go (by assumption) ?_)|(simp (config:={ maxSteps:=3000000 }) (disch:=omega) only [go_sem,↓reduceIte]))
   refine J_reserve ?_
   refine W_loop [14,16,158,159,160,161,162,163,164,165,166,167,168,169] (fun x:Nat=>[(14,sl (1+c) 3 (colL M c x)),(158,.f (I x))]) (fun x:Nat=>dy [some ⟨23,1,oeG c (c+1) c D⟩] 44 3 (rowsQ c (c+1) M c) [ob 44 3 (colL M c x)]) (fun x:Nat=>x≤c) (fun x:Nat=>c-x) (0) (Nat.zero_le _) (by refine weak_of ?_ ?_<;>simp (disch:=omega) only [go_sem]<;>first|rfl|exact ⟨rfl,rfl⟩|exact Or.inl rfl|exact ⟨Or.inl rfl,Or.inl rfl⟩|trivial|assumption|omega|(symm;assumption)|((repeat' apply And.intro)<;>first|rfl|omega|trivial|exact .inr ⟨rfl,rfl⟩|exact .inr rfl|(right;symm;assumption)|(symm;assumption)|assumption)) ?_
   rintro r hr
   simp only [go_sem]
   repeat (with_reducible first|refine W_seq fun K hK=>?_|refine J_region ?_|refine J_c ?_|(refine Kont.go (by assumption) ?_)|(simp (config:={ maxSteps:=3000000 }) (disch:=omega) only [go_sem]))
   refine Jc_if (fun hri=>?_) (fun hri=>?_)<;>try simp only [decide_eq_true_eq,decide_eq_false_iff_not] at hri
   ·have hrk:((rowQ (c+1) M r).map AV.f)[c]?=some (.f (fr (M r c))):=rowQ_get (by omega)
    have hrl:(rowQ (c+1) M r).length=c+1:=rowQ_len
    have hll:=colL_len (M:=M) (c:=c) (x:=r)
    have hnx:=colL_next (M:=M) (c:=c) (x:=r)
    have h01:(0=1+c)=False:=eq_false (by omega)
    have hki:=oeG_kill (n:=c) (c:=c+1) (x:=c) (r:=1+c) (d:=D) (Nat.le_refl _)
    repeat (first|(with_reducible first|refine W_seq fun K hK=>?_|refine J_block ?_|refine J_skip ?_|refine J_region ?_|refine aApp_sl ?_|(refine Kont.go (by assumption) ?_)|(simp (config:={ maxSteps:=3000000 }) (disch:=omega) only [go_sem,↓reduceIte,Nat.reduceAdd,Nat.reduceLeDiff,hgB,hgB0,hsB0,hR0,hog,hgR,hrk,hll,hnx,h01,dy_kill,Nat.reduceMul,Nat.le_refl,true_and,and_self]))|refine And.intro (by omega) ?_)
    refine ⟨r+1,by omega,by omega,weak_of ?_ ?_⟩
    ·simp (disch:=omega) only [go_sem]
     (repeat' apply And.intro)<;>first|rfl|omega|trivial
    ·simp (disch:=omega) only [go_sem,hki]
     done
   ·have he:r=c:=by omega
    subst he
    repeat (with_reducible first|refine W_seq fun K hK=>?_|refine J_exit ?_|refine J_ret ?_|refine J_region ?_|(refine Kont.go (by assumption) ?_)|(simp (config:={ maxSteps:=3000000 }) (disch:=omega) only [go_sem,↓reduceIte]))
    rw [hsol,colL_frs]
    exact Frz.sl ((hgB0 M _ _).trans rfl)
end Go.Proofs.YtcgagiimlkjcpaaGreatDoor
