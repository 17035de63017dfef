/- chain.Still: walked. Conditions: numbers of 10^4 bytes each. -/
import Derived.Test.YtcgagiimlkjcpaaGreatDoorZB18
import Derived.Test.YtcgagiimlkjcpaaGreatDoorZB08
set_option linter.unusedVariables false
set_option linter.unusedSimpArgs false
namespace Go.Proofs.YtcgagiimlkjcpaaGreatDoor
open Go Go.RowKit
set_option maxRecDepth 100000 in
theorem still_err_w {b:Nat} {ys:List FV} {m:List (List Rat)} (hm:FrM b ys m) (h1:1≤b) (hb:b≤10000) (hmx:m.length≤140737488355328) (h0:chkM m≠0) :
  Good Tryz.prog 24 [.fz 1 ys] (.tup [frs [],I (chkM m)]):=by
 have hc:=check_w hm h1 (by omega) hmx
 refine good_of Tryz.func24 rfl (by kernel_rfl) fun X hO hrd=>?_;rw [Tryz.ntmps24,Tryz.results24];simp only [ast0,List.map_cons,List.map_nil,List.length_cons,List.length_nil,Nat.reduceAdd,Nat.reduceSub,List.replicate_succ,List.replicate_zero,List.cons_append,List.nil_append]
 repeat (with_reducible first|refine W_seq fun K hK=>?_|refine J_region ?_ |(refine Kont.go (by assumption) ?_)|(simp (config:={ maxSteps:=3000000 }) (disch:=omega) only [go_sem]))
 refine call_f hc rfl ?_
 repeat (with_reducible first|refine W_seq fun K hK=>?_|refine J_ret ?_|refine J_region ?_ |refine J_c ?_|refine Jc_true ?_|(refine Kont.go (by assumption) ?_)|(simp (config:={ maxSteps:=3000000 }) (disch:=omega) only [go_sem,h0]))
 exact ⟨_,rfl,FrzL.cons (.nil _) (FrzL.cons (.f _) (FrzL.nil _))⟩
set_option maxRecDepth 100000 in
theorem still_many_w {b:Nat} {ys:List FV} {m:List (List Rat)} {lv:FV} (hm:FrM b ys m) (h1:1≤b) (hb:b≤10000) (hmx:m.length≤140737488355328) (h0:chkM m=0)
  (hl:Good Tryz.prog 102 [.fz 1 ys] (.tup [lv,Bo false])) :
  Good Tryz.prog 24 [.fz 1 ys] (.tup [frs [],I 13]):=by
 have hc:=check_w hm h1 (by omega) hmx
 rw [h0] at hc
 refine good_of Tryz.func24 rfl (by kernel_rfl) fun X hO hrd=>?_;rw [Tryz.ntmps24,Tryz.results24];simp only [ast0,List.map_cons,List.map_nil,List.length_cons,List.length_nil,Nat.reduceAdd,Nat.reduceSub,List.replicate_succ,List.replicate_zero,List.cons_append,List.nil_append]
 repeat (with_reducible first|refine W_seq fun K hK=>?_|refine J_region ?_ |(refine Kont.go (by assumption) ?_)|(simp (config:={ maxSteps:=3000000 }) (disch:=omega) only [go_sem]))
 refine call_f hc rfl ?_
 repeat (with_reducible first|refine W_seq fun K hK=>?_|refine J_skip ?_|refine J_region ?_ |refine J_c ?_|refine Jc_false ?_|(refine Kont.go (by assumption) ?_)|(simp (config:={ maxSteps:=3000000 }) (disch:=omega) only [go_sem]))
 refine call_f hl rfl ?_
 repeat (with_reducible first|refine W_seq fun K hK=>?_|refine J_ret ?_|refine J_region ?_ |refine J_c ?_|refine Jc_true ?_|(refine Kont.go (by assumption) ?_)|(simp (config:={ maxSteps:=3000000 }) (disch:=omega) only [go_sem]))
 exact ⟨_,rfl,FrzL.cons (.nil _) (FrzL.cons (.f _) (FrzL.nil _))⟩
def stF (l:List Nat) (sol:List Rat):Nat→Nat→Rat
 | 0,_=>0
 | x+1,k=>if k=l.getD x 0 then sol.getD x 0 else stF l sol x k
def stL (n:Nat) (l:List Nat) (sol:List Rat) (x:Nat):List FV:=(List.range n).map fun k=>fr (stF l sol x k)
section
variable {n x : Nat} {l : List Nat} {sol : List Rat}
theorem stL_len:(stL n l sol x).length=n:=by simp [stL]
theorem stL_get {k:Nat} (h:k<n):((stL n l sol x).map AV.f)[k]?=some (.f (fr (stF l sol x k))):=by simp [stL,h]
theorem stL_set (h:l.getD x 0<n):((stL n l sol x).map AV.f).set (l.getD x 0) (.f (fr (sol.getD x 0)))=(stL n l sol (x+1)).map .f:=by
 unfold stL
 rw [←List.map_set,range_set h]
 congr 1
 refine List.map_congr_left fun k _=>?_
 show (if k=l.getD x 0 then _ else _)=fr (if k=l.getD x 0 then _ else _)
 split<;>rfl
end
set_option maxRecDepth 100000 in
set_option maxHeartbeats 8000000 in
theorem still_one_w {b:Nat} {ys:List FV} {m:List (List Rat)} {l:List Nat} (hm:FrM b ys m) (h1:1≤b) (hb:b≤10000) (hmx:m.length≤140737488355328) (h0:chkM m=0)
  (hl:Good Tryz.prog 102 [.fz 1 ys] (.tup [.fz 1 (Ns l),Bo true])) (hl1:1≤l.length) (hl6:l.length≤6) (hlm:∀s∈l,s<m.length) (hsl:(wSol m l).length≤l.length) :
  Good Tryz.prog 24 [.fz 1 ys] (.tup [.fz 3 (stL m.length l (wSol m l) (wSol m l).length),I 0]):=by
 have hc:=check_w hm h1 (by omega) hmx
 rw [h0] at hc
 obtain ⟨hsq,hn1,hch⟩:=chk_sq hm h0
 have hn6:=hsq.le
 have hw:=within_w hsq h1 hb hl1 hl6 hlm
 obtain ⟨n,hn⟩:∃n,n=m.length:=⟨_,rfl⟩
 obtain ⟨sol,hsol⟩:∃sol,sol=wSol m l:=⟨_,rfl⟩
 rw [←hsol] at hw hsl ⊢
 rw [←hn] at hn1 hn6 hlm ⊢
 have hyl:ys.length=n:=hm.len.trans hn.symm
 have hz:∀z,List.replicate n (AV.f z)=(fillL n 0 (fun _=>fr ((0:Int):Rat)) z).map .f:=fun z=>by rw [fill_zero,List.map_replicate]
 refine good_of Tryz.func24 rfl (by kernel_rfl) fun X hO hrd=>?_;rw [Tryz.ntmps24,Tryz.results24];simp only [ast0,List.map_cons,List.map_nil,List.length_cons,List.length_nil,Nat.reduceAdd,Nat.reduceSub,List.replicate_succ,List.replicate_zero,List.cons_append,List.nil_append]
 repeat (with_reducible first|refine W_seq fun K hK=>?_|refine J_region ?_ |(refine Kont.go (by assumption) ?_)|(simp (config:={ maxSteps:=3000000 }) (disch:=omega) only [go_sem]))
 refine call_f hc rfl ?_
 repeat (with_reducible first|refine W_seq fun K hK=>?_|refine J_skip ?_|refine J_region ?_ |refine J_c ?_|refine Jc_false ?_|(refine Kont.go (by assumption) ?_)|(simp (config:={ maxSteps:=3000000 }) (disch:=omega) only [go_sem]))
 refine call_f hl rfl ?_
 repeat (first|(with_reducible first|refine W_seq fun K hK=>?_|refine J_block ?_|refine J_skip ?_|refine J_region ?_ |refine J_c ?_|refine Jc_false ?_|(refine Kont.go (by assumption) ?_)|(simp (config:={ maxSteps:=3000000 }) (disch:=omega) only [go_sem,Nat.reduceAdd,hyl,hz]))|refine And.intro (by omega) ?_)
 obtain ⟨zf,hzf⟩:∃zf:FV,zf=.agg [.v (.bool false),.v (.string ⟨#[]⟩),.v (.string ⟨#[]⟩)]:=⟨_,rfl⟩
 rw [←hzf]
 refine W_loop [8,28,29,30,31,32,33,34,35] (fun x:Nat=>[(28,.f (I x))]) (fun x:Nat=>[some ⟨44,3,(fillL n x (fun _=>fr ((0:Int):Rat)) zf).map .f⟩]) (fun x:Nat=>x≤n) (fun x:Nat=>n-x) (0) (Nat.zero_le _) (by refine weak_of ?_ ?_<;>simp (disch:=omega) only [go_sem]<;>first|rfl|exact ⟨rfl,rfl⟩|exact Or.inl rfl|exact ⟨Or.inl rfl,Or.inl rfl⟩|trivial|assumption|omega|(symm;assumption)|((repeat' apply And.intro)<;>first|rfl|omega|trivial|exact .inr ⟨rfl,rfl⟩|exact .inr rfl|(right;symm;assumption)|(symm;assumption)|assumption)) ?_
 rintro i hi
 simp only [go_sem]
 repeat (with_reducible first|refine W_seq fun K hK=>?_|refine J_region ?_ |refine J_c ?_|(refine Kont.go (by assumption) ?_)|(simp (config:={ maxSteps:=3000000 }) (disch:=omega) only [go_sem]))
 refine Jc_if (fun hil=>?_) (fun hil=>?_)<;>try simp only [decide_eq_true_eq,decide_eq_false_iff_not] at hil
 ·have hfs:=fillA_set (n:=n) (k:=i) (f:=fun _=>fr ((0:Int):Rat)) (z:=zf) hil rfl
  have hfg:((fillL n i (fun _=>fr ((0:Int):Rat)) zf).map AV.f)[i]?=some (.f zf):=by rw [fillA_get hil,if_neg (by omega)]
  have hfl:(fillL n i (fun _=>fr ((0:Int):Rat)) zf).length=n:=fill_len
  repeat (first|(with_reducible first|refine W_seq fun K hK=>?_|refine J_block ?_|refine J_skip ?_|refine J_region ?_ |(refine Kont.go (by assumption) ?_)|(simp (config:={ maxSteps:=3000000 }) (disch:=omega) only [go_sem,↓reduceIte,Nat.reduceAdd,hfs,hfg]))|refine call_f (of_good (by omega) (by omega)) rfl ?_|refine And.intro (by omega) ?_)
  refine ⟨i+1,by omega,by omega,weak_of ?_ ?_⟩<;>(try simp (disch:=omega) only [go_sem])<;>(try first|done|omega|rfl|exact ⟨rfl,rfl⟩|trivial)
 ·have he:i=n:=by omega
  subst he
  have hA:fillL i i (fun _=>fr ((0:Int):Rat)) zf=stL i l sol 0:=by rw [fill_all];rfl
  rw [hA]
  repeat (with_reducible first|refine W_seq fun K hK=>?_|refine J_exit ?_|refine J_region ?_ |(refine Kont.go (by assumption) ?_)|(simp (config:={ maxSteps:=3000000 }) (disch:=omega) only [go_sem,↓reduceIte]))
  refine call_f hw rfl ?_
  repeat (with_reducible first|refine J_block ?_|(refine Kont.go (by assumption) ?_)|(simp (config:={ maxSteps:=3000000 }) (disch:=omega) only [go_sem,List.length_map]))
  refine W_loop [9,10,40,41,42,43,44,45,46,47,48,49,50,51,52] (fun x:Nat=>[(40,.f (I x))]) (fun x:Nat=>[some ⟨44,3,(stL i l sol x).map .f⟩]) (fun x:Nat=>x≤sol.length) (fun x:Nat=>sol.length-x) (0) (Nat.zero_le _) (by refine weak_of ?_ ?_<;>simp (disch:=omega) only [go_sem]<;>first|rfl|exact ⟨rfl,rfl⟩|exact Or.inl rfl|exact ⟨Or.inl rfl,Or.inl rfl⟩|trivial|assumption|omega|(symm;assumption)|((repeat' apply And.intro)<;>first|rfl|omega|trivial|exact .inr ⟨rfl,rfl⟩|exact .inr rfl|(right;symm;assumption)|(symm;assumption)|assumption)) ?_
  rintro x hx
  simp only [go_sem]
  repeat (with_reducible first|refine W_seq fun K hK=>?_|refine J_region ?_ |refine J_c ?_|(refine Kont.go (by assumption) ?_)|(simp (config:={ maxSteps:=3000000 }) (disch:=omega) only [go_sem]))
  refine Jc_if (fun hxl=>?_) (fun hxl=>?_)<;>try simp only [decide_eq_true_eq,decide_eq_false_iff_not] at hxl
  ·have g1:(Ns l)[x]?=some (I (l.getD x 0:Nat)):=by unfold Ns;rw [map_get (fun k:Nat=>I (k:Int)) l (by omega),lget_lt l 0 (by omega)]
   have g2:l.getD x 0<i:=by rw [lget_lt l 0 (by omega)];exact hlm _ (List.getElem_mem _)
   have g3:(sol.map fr)[x]?=some (fr (sol.getD x 0)):=by rw [map_get fr sol hxl,lget_lt sol 0 hxl]
   have g4:=stL_get (sol:=sol) (l:=l) (x:=x) g2
   have g5:=stL_set (sol:=sol) (l:=l) (x:=x) g2
   have g6:=stL_len (n:=i) (sol:=sol) (l:=l) (x:=x)
   have g7:(Ns l).length=l.length:=by unfold Ns;rw [List.length_map]
   repeat (with_reducible first|refine W_seq fun K hK=>?_|refine J_block ?_|refine J_skip ?_|refine J_region ?_ |refine J_drawn mixed (by kernel_rfl) ?_|(refine Kont.go (by assumption) ?_)|(simp (config:={ maxSteps:=3000000 }) (disch:=omega) only [go_sem,↓reduceIte,Nat.reduceAdd,g1,g2,g3,g4,g5,List.length_map,true_and,and_self]))
   refine ⟨x+1,by omega,by omega,weak_of ?_ ?_⟩<;>(try simp (disch:=omega) only [go_sem])<;>(try first|done|omega|rfl|exact ⟨rfl,rfl⟩|trivial)
  ·have he:x=sol.length:=by omega
   subst he
   repeat (with_reducible first|refine W_seq fun K hK=>?_|refine J_exit ?_|refine J_ret ?_|refine J_region ?_ |(refine Kont.go (by assumption) ?_)|(simp (config:={ maxSteps:=3000000 }) (disch:=omega) only [go_sem,↓reduceIte]))
   exact ⟨_,rfl,FrzL.cons (Frz.own0 rfl stL_len.symm) (FrzL.cons (.f _) (FrzL.nil _))⟩
end Go.Proofs.YtcgagiimlkjcpaaGreatDoor
set_option linter.unusedVariables false
set_option linter.unusedSimpArgs false
namespace Go.Proofs.YtcgagiimlkjcpaaGreatDoor
open Go Go.RowKit
theorem nodup_inj {l:List Nat} (hd:l.Nodup) {i j:Nat} (hi:i<l.length) (hj:j<l.length) (h:l[i]=l[j]):i=j:=by
 rcases Nat.lt_trichotomy i j with hlt|rfl|hlt
 ·exact absurd h (List.pairwise_iff_getElem.1 hd i j hi hj hlt)
 ·rfl
 ·exact absurd h.symm (List.pairwise_iff_getElem.1 hd j i hj hi hlt)
def inQ (m:List (List Rat)) (l:List Nat):Mx:=fun a c=>at2 m (l.getD a 0) (l.getD c 0)
section
variable {m : List (List Rat)} {l : List Nat} {L : Nat}
theorem augS (hL:L=l.length) (hd:l.Nodup) {i k:Nat} (hi:i<L) (hk:k≤L):augM ((List.range l.length).map (wR m l)) ((List.range l.length).map wB) i k=stM L (inQ m l) i k:=by
 have hlen:((List.range l.length).map (wR m l)).length=L:=by simp [hL]
 unfold augM stM
 rw [hlen]
 by_cases e:k=L
 ·rw [if_pos e,if_pos e]
  have:((List.range l.length).map wB)[i]?=some (wB i):=by simp [←hL,hi]
  rw [List.getD_eq_getElem?_getD,this];rfl
 ·rw [if_neg e,if_neg e]
  have hk':k<L:=by omega
  have e1:((List.range l.length).map (wR m l))[i]?=some (wR m l i):=by simp [←hL,hi]
  have e2:(wR m l i)[k]?=some (wM m l i k):=by simp [wR,←hL,hk']
  unfold at2
  rw [List.getD_eq_getElem?_getD (l:=(List.range l.length).map (wR m l)),e1]
  show (wR m l i).getD k 0=_
  rw [List.getD_eq_getElem?_getD,e2]
  show wM m l i k=_
  unfold wM
  by_cases e0:i=0
  ·rw [if_pos e0,if_pos e0]
  ·rw [if_neg e0,if_neg e0]
   unfold inQ
   have:(l.getD k 0=l.getD i 0)=(k=i):=propext ⟨fun h=>by
    rw [lget_lt l 0 (by omega),lget_lt l 0 (by omega)] at h
    exact nodup_inj hd (by omega) (by omega) h,fun h=>by rw [h]⟩
   simp only [this]
theorem wSol_spec (h:Irr L (inQ m l)) (hL:L=l.length) (hL0:0<L) (hd:l.Nodup):∃x:Nat→Rat,wSol m l=(List.range L).map x∧Stat L (inQ m l) x∧sumF x L=1:=by
 obtain ⟨M,hM⟩:∃M,M=augM ((List.range l.length).map (wR m l)) ((List.range l.length).map wB):=⟨_,rfl⟩
 have ent:∀i k,i<L→k≤L→M i k=stM L (inQ m l) i k:=fun i k hi hk=>hM▸augS hL hd hi hk
 have hom:∀y,Hom L M y→Hom L (stM L (inQ m l)) y:=fun y hy i hi=>by
  rw [←hy i hi];exact sumF_congr fun k hk=>by rw [ent i k hi (by omega)]
 obtain ⟨M',hM'⟩:=gs_some (M:=M) fun y hy=>st_hom h hL0 (hom y hy)
 have hs:Sol L (stM L (inQ m l)) (fun i=>M' i L):=fun i hi=>by
  have:=(gs_sol (x:=fun i=>M' i L) hM').2 (fun i _=>rfl) i hi
  rw [←ent i L hi (Nat.le_refl _),←this]
  exact sumF_congr fun k hk=>by rw [ent i k hi (by omega)]
 obtain ⟨h1,h2⟩:=st_sol h hL0 hs
 refine ⟨fun i=>M' i L,?_,h1,h2⟩
 unfold wSol solR
 have hlen:((List.range l.length).map (wR m l)).length=L:=by simp [hL]
 rw [hlen,←hM,hM']
end
theorem getD_app_lt {l l':List Nat} {c:Nat} (h:c<l.length):(l++l').getD c 0=l.getD c 0:=by
 rw [List.getD_eq_getElem?_getD,List.getD_eq_getElem?_getD,List.getElem?_append_left h]
theorem sumF_filter (P:Nat→Bool) (f:Nat→Rat):∀n,sumF (fun c=>f (((List.range n).filter P).getD c 0)) ((List.range n).filter P).length=sumF (fun k=>if P k=true then f k else 0) n:=by
 intro n
 induction n with
 | zero=>rfl
 | succ n ih =>
  show _=sumF (fun k=>if P k=true then f k else 0) n+(if P n=true then f n else 0)
  rw [←ih,List.range_succ,List.filter_append]
  by_cases h:P n=true
  ·have e:List.filter P [n]=[n]:=by simp [h]
   rw [if_pos h,e,List.length_append]
   show sumF _ ((List.filter P (List.range n)).length)+_=_
   congr 1
   ·exact sumF_congr fun c hc=>by rw [getD_app_lt hc]
   ·congr 1
    show f ((List.filter P (List.range n)++[n]).getD (List.filter P (List.range n)).length 0)=f n
    rw [List.getD_eq_getElem?_getD,List.getElem?_append_right (Nat.le_refl _),Nat.sub_self];rfl
  ·have e:List.filter P [n]=[]:=by simp [h]
   rw [if_neg h,e,List.append_nil,Rat.add_zero]
theorem sumTo_F (l:List Rat):∀i,sumTo l i=sumF (fun k=>l.getD k 0) i:=by
 intro i
 induction i with
 | zero=>rfl
 | succ i ih=>show sumTo l i+_=sumF _ i+_;rw [ih]
theorem sto_of {m:List (List Rat)} {n:Nat} (hn:n=m.length) (hsq:∀r∈m,r.length=n) (hc:∀r∈m,chancesB r=true):Sto n (at2 m) where
 nonneg i k hi hk:=by
  have hr:=List.getElem_mem (l:=m) (n:=i) (by omega)
  have h:=(of_decide_eq_true (hc _ hr)).1
  unfold at2
  rw [lget_lt m [] (by omega),lget_lt _ 0 (by rw [hsq _ hr];exact hk)]
  exact h _ (List.getElem_mem _)
 sum i hi:=by
  have hr:=List.getElem_mem (l:=m) (n:=i) (by omega)
  have h:=(of_decide_eq_true (hc _ hr)).2
  rw [←h]
  unfold sumR
  rw [sumTo_F,hsq _ hr]
  exact sumF_congr fun k _=>by unfold at2;rw [lget_lt m [] (by omega)]
theorem getD_mem {l:List Nat} {c:Nat} (h:c<l.length):l.getD c 0∈l:=by rw [lget_lt l 0 h];exact List.getElem_mem _
theorem irr_cls {m:List (List Rat)} {n r:Nat} (hs:Sto n (at2 m)) (hr:r<n) (hc:clo n (wsh (edg m) n) r=true):Irr (cls n (wsh (edg m) n) r).length (inQ m (cls n (wsh (edg m) n) r)):=by
 obtain ⟨R,hR⟩:∃R,R=wsh (edg m) n:=⟨_,rfl⟩
 have hpre:Pre n R:=by rw [hR];exact wsh_pre
 have hst:∀i j,i<n→j<n→(R i j=true↔Star n (edg m) i j):=fun i j hi hj=>by rw [hR];exact wsh_iff hi hj
 rw [←hR] at hc ⊢
 obtain ⟨l,hl⟩:∃l,l=cls n R r:=⟨_,rfl⟩
 rw [←hl]
 have hlt:∀c,l.getD c 0<n:=fun c=>by
  by_cases h:c<l.length
  ·have:=getD_mem h
   rw [hl] at this ⊢
   exact (cls_mem.1 this).1
  ·rw [List.getD_eq_getElem?_getD,List.getElem?_eq_none (by omega)];show 0<n;omega
 have step:∀a k,a∈l→k<n→edg m a k=true→k∈l:=fun a k ha hk he=>by
  rw [hl] at ha ⊢
  obtain ⟨h1,h2,h3⟩:=cls_mem.1 ha
  have e1:R a k=true:=(hst a k h1 hk).2 (.step .refl hk he)
  have e2:=hpre.trans r a k h1 h2 e1
  exact cls_mem.2 ⟨hk,e2,clo_iff.1 hc k hk e2⟩
 refine ⟨fun i k=>hs.nonneg _ _ (hlt i) (hlt k),fun i hi=>?_,fun i k hi hk=>?_⟩
 ·have ha:=getD_mem hi
  rw [←hs.sum _ (hlt i)]
  have:=sumF_filter (fun k=>R r k&&R k r) (at2 m (l.getD i 0)) n
  have hll:(List.range n).filter (fun k=>R r k&&R k r)=l:=hl.symm
  rw [hll] at this
  refine this.trans (sumF_congr fun k hk=>?_)
  split
  ·rfl
  ·rename_i hne
   have h0:=hs.nonneg _ k (hlt i) hk
   refine Rat.le_antisymm h0 (Rat.not_lt.1 fun hlt0=>hne ?_)
   have:=step _ k ha hk (decide_eq_true hlt0)
   rw [hl] at this
   obtain ⟨_,h2,h3⟩:=cls_mem.1 this
   rw [h2,h3];rfl
 ·have ha:=getD_mem hi
  have hb:=getD_mem hk
  rw [hl] at ha hb
  obtain ⟨a1,a2,a3⟩:=cls_mem.1 ha
  obtain ⟨b1,b2,b3⟩:=cls_mem.1 hb
  rw [←hl] at ha hb a1 a2 a3 b1 b2 b3
  have hstar:=(hst _ _ a1 b1).1 (hpre.trans _ r _ hr a3 b2)
  have key:∀j,Star n (edg m) (l.getD i 0) j→∃c,c<l.length∧l.getD c 0=j∧Star l.length (posE (inQ m l)) i c:=fun j h=>by
   induction h with
   | refl=>exact ⟨i,hi,rfl,.refl⟩
   | step h hk he ih =>
    rename_i j k
    obtain ⟨c,hc1,hc2,hc3⟩:=ih
    have hm:k∈l:=step j k (hc2▸getD_mem hc1) hk he
    obtain ⟨d,hd1,hd2⟩:=List.getElem_of_mem hm
    refine ⟨d,hd1,by rw [lget_lt l 0 hd1];exact hd2,.step hc3 hd1 ?_⟩
    show decide (0<at2 m (l.getD c 0) (l.getD d 0))=true
    rw [hc2,lget_lt l 0 hd1,hd2]
    exact he
  obtain ⟨c,h1,h2,h3⟩:=key _ hstar
  have:c=k:=nodup_inj (by rw [hl];exact cls_nodup) h1 hk (by rw [lget_lt l 0 h1,lget_lt l 0 hk] at h2;exact h2)
  rw [←this];exact h3
theorem stF_at {l:List Nat} {sol:List Rat} (hd:l.Nodup) {c:Nat}:∀{x:Nat},x≤l.length→c<x→stF l sol x (l.getD c 0)=sol.getD c 0:=by
 intro x
 induction x with
 | zero=>intro _ h;omega
 | succ x ih =>
  intro hx hc
  show (if l.getD c 0=l.getD x 0 then sol.getD x 0 else stF l sol x (l.getD c 0))=_
  split
  ·rename_i e
   rw [lget_lt l 0 (by omega),lget_lt l 0 (by omega)] at e
   rw [nodup_inj hd (by omega) (by omega) e]
  ·rename_i e
   have:c≠x:=fun h=>e (by rw [h])
   exact ih (by omega) (by omega)
theorem stF_out {l:List Nat} {sol:List Rat} {k:Nat} (hk:k∉l):∀{x:Nat},x≤l.length→stF l sol x k=0:=by
 intro x
 induction x with
 | zero=>intro _;rfl
 | succ x ih =>
  intro hx
  show (if k=l.getD x 0 then sol.getD x 0 else stF l sol x k)=0
  rw [if_neg (fun e:k=l.getD x 0=>hk (by rw [e];exact getD_mem (by omega)))]
  exact ih (by omega)
theorem cls_step {m:List (List Rat)} {n r a k:Nat} (hr:r<n) (hc:clo n (wsh (edg m) n) r=true) (ha:a∈cls n (wsh (edg m) n) r) (hk:k<n) (he:edg m a k=true):k∈cls n (wsh (edg m) n) r:=by
 obtain ⟨h1,h2,h3⟩:=cls_mem.1 ha
 have hpre:Pre n (wsh (edg m) n):=wsh_pre
 have e1:wsh (edg m) n a k=true:=(wsh_iff h1 hk).2 (.step .refl hk he)
 have e2:=hpre.trans r a k h1 h2 e1
 exact cls_mem.2 ⟨hk,e2,clo_iff.1 hc k hk e2⟩
theorem stF_stat {m:List (List Rat)} {n r:Nat} {x:Nat→Rat} {sol:List Rat} {l:List Nat} (hs:Sto n (at2 m)) (hr:r<n) (hc:clo n (wsh (edg m) n) r=true) (hl:l=cls n (wsh (edg m) n) r)
  (hx:Stat l.length (inQ m l) x) (hsol:∀c,c<l.length→sol.getD c 0=x c):∀k,k<n→sumF (fun i=>stF l sol l.length i*at2 m i k) n=stF l sol l.length k:=fun k hk=>by
 have hd:l.Nodup:=by rw [hl];exact cls_nodup
 have hf:=sumF_filter (fun k=>wsh (edg m) n r k&&wsh (edg m) n k r) (fun i=>stF l sol l.length i*at2 m i k) n
 have hll:(List.range n).filter (fun k=>wsh (edg m) n r k&&wsh (edg m) n k r)=l:=hl.symm
 rw [hll] at hf
 have e1:sumF (fun i=>stF l sol l.length i*at2 m i k) n=sumF (fun c=>x c*at2 m (l.getD c 0) k) l.length:=by
  refine Eq.trans (sumF_congr fun i hi=>?_) (hf.symm.trans (sumF_congr fun c hc=>by rw [stF_at hd (Nat.le_refl _) hc,hsol c hc]))
  split
  ·rfl
  ·rename_i hne
   rw [stF_out (l:=l) (fun hm=>hne ?_) (Nat.le_refl _),Rat.zero_mul]
   rw [hl] at hm
   obtain ⟨_,h2,h3⟩:=cls_mem.1 hm
   rw [h2,h3];rfl
 rw [e1]
 by_cases hkm:k∈l
 ·obtain ⟨d,hd1,hd2⟩:=List.getElem_of_mem hkm
  have hd3:l.getD d 0=k:=by rw [lget_lt l 0 hd1];exact hd2
  rw [←hd3,stF_at hd (Nat.le_refl _) hd1,hsol d hd1]
  exact hx d hd1
 ·rw [stF_out hkm (Nat.le_refl _)]
  have:∀c,c<l.length→x c*at2 m (l.getD c 0) k=0:=fun c hc'=>by
   have hm:=getD_mem hc'
   have hlt:l.getD c 0<n:=by have:=hm;rw [hl] at this;rw [hl];exact (cls_mem.1 this).1
   have h0:at2 m (l.getD c 0) k=0:=Rat.le_antisymm (Rat.not_lt.1 fun h=>hkm (by rw [hl];exact cls_step hr hc (by rw [hl] at hm;rw [←hl] at hm ⊢;exact hm) hk (decide_eq_true h))) (hs.nonneg _ k hlt hk)
   rw [h0,Rat.mul_zero]
  rw [sumF_congr this]
  clear hf hx e1 this hll hsol
  induction l.length with
  | zero=>rfl
  | succ j ih=>show sumF _ j+0=0;rw [ih];grind
theorem last_ex {n:Nat} {R:Bx} (p:Pre n R) (hn:0<n):∃q r,r<n∧clo n R r=true∧q<(shutL n R n).length∧(shutL n R n).getD q false=true∧(∀j,j<q→(shutL n R n).getD j false=false)∧(repL n R n).getD q []=cls n R r:=by
 obtain ⟨i,hi,hc⟩:=clo_ex p hn
 obtain ⟨r,hr,hrep,hm⟩:=rep_ex p hi
 have hcr:=clo_class p hi hm hc
 have hin:true∈shutL n R n:=List.mem_map.2 ⟨r,List.mem_filter.2 ⟨List.mem_range.2 hr,hrep⟩,hcr⟩
 have hq:(shutL n R n).findIdx id<(shutL n R n).length:=List.findIdx_lt_length_of_exists ⟨true,hin,rfl⟩
 obtain ⟨q,eq⟩:∃q,q=(shutL n R n).findIdx id:=⟨_,rfl⟩
 have hqt:(shutL n R n)[(shutL n R n).findIdx id]=true:=List.findIdx_getElem (p:=id) (w:=hq)
 have hlen:((List.range n).filter (isRep n R)).length=(shutL n R n).length:=by unfold shutL;rw [List.length_map]
 have hqr:(shutL n R n).findIdx id<((List.range n).filter (isRep n R)).length:=by omega
 refine ⟨(shutL n R n).findIdx id,((List.range n).filter (isRep n R))[(shutL n R n).findIdx id],?_,?_,hq,?_,fun j hj=>?_,?_⟩
 ·exact List.mem_range.1 (List.mem_filter.1 (List.getElem_mem hqr)).1
 ·rw [←hqt];simp [shutL]
 ·rw [lget_lt _ false hq];exact hqt
 ·have:=List.not_of_lt_findIdx hj
  rw [lget_lt _ false (by omega)]
  simpa using this
 ·have hr2:(shutL n R n).findIdx id<(repL n R n).length:=by unfold repL;rw [List.length_map];exact hqr
  rw [lget_lt _ [] hr2];simp [repL]
theorem stF_sum {n:Nat} {R:Bx} {r:Nat} {x:Nat→Rat} {sol:List Rat} {l:List Nat} (hl:l=cls n R r) (hsol:∀c,c<l.length→sol.getD c 0=x c):sumF (stF l sol l.length) n=sumF x l.length:=by
 have hd:l.Nodup:=by rw [hl];exact cls_nodup
 have hf:=sumF_filter (fun k=>R r k&&R k r) (stF l sol l.length) n
 have hll:(List.range n).filter (fun k=>R r k&&R k r)=l:=hl.symm
 rw [hll] at hf
 refine Eq.trans (sumF_congr fun i hi=>?_) (hf.symm.trans (sumF_congr fun c hc=>by rw [stF_at hd (Nat.le_refl _) hc,hsol c hc]))
 split
 ·rfl
 ·rename_i hne
  refine stF_out (l:=l) (fun hm=>hne ?_) (Nat.le_refl _)
  rw [hl] at hm
  obtain ⟨_,h2,h3⟩:=cls_mem.1 hm
  rw [h2,h3];rfl
end Go.Proofs.YtcgagiimlkjcpaaGreatDoor
set_option linter.unusedVariables false
set_option linter.unusedSimpArgs false
namespace Go.Proofs.YtcgagiimlkjcpaaGreatDoor
open Go Go.RowKit
def szQ (s:Nat):Nat→Nat
 | 0=>8
 | k+1=>8+6*(szQ s k+s+1)
theorem pow_fz {n s:Nat} {A:Mx} (hn:n≤6) (h:∀i k,i<n→k<n→Fz (A i k) s):∀d i k,i<n→k<n→Fz (powM n A d i k) (szQ s d):=by
 intro d
 induction d with
 | zero =>
  intro i k _ _
  show Fz (if i=k then (1:Rat) else 0) 8
  split
  ·exact Fz.int (n:=1) (by decide)
  ·exact Fz.int (n:=0) (by decide)
 | succ d ih =>
  intro i k hi hk
  have:=sumF_fz (n:=n) (f:=fun j=>powM n A d i j*A j k) (s:=szQ s d+s) fun j hj=>(ih i j hi hj).mul (h j k hj hk)
  refine Fz.up this ?_
  show 8+n*(szQ s d+s+1)≤8+6*(szQ s d+s+1)
  have:=Nat.mul_le_mul_right (szQ s d+s+1) hn
  omega
theorem gs_fz {n s:Nat} {M:Mx} (h:∀i k,i<n→k≤n→Fz (M i k) s):∀{c:Nat} {M':Mx},c≤n→gs n M c=some M'→∀i k,i<n→k≤n→Fz (M' i k) (szG s c):=by
 intro c
 induction c with
 | zero =>
  intro M' _ hg
  cases hg
  exact h
 | succ c ih =>
  intro M' hc hg i k hi hk
  replace hg:(match gs n M c with|none=>none|some M'=>match piv M' c n with|none=>none|some p=>some (stepM M' c (c+p)))=some M':=hg
  cases h1:gs n M c with
  | none=>rw [h1] at hg;cases hg
  | some M1 =>
   rw [h1] at hg
   replace hg:(match piv M1 c n with|none=>none|some p=>some (stepM M1 c (c+p)))=some M':=hg
   cases h2:piv M1 c n with
   | none=>rw [h2] at hg;cases hg
   | some p =>
    rw [h2] at hg
    cases hg
    have hp:=(piv_some h2).1
    have f1:=ih (by omega) h1
    have fs:∀i k,i<n→k≤n→Fz (swapM M1 c (c+p) i k) (szG s c):=fun i k hi hk=>by
     unfold swapM
     split
     ·exact f1 _ _ hp hk
     ·split
      ·exact f1 _ _ (by omega) hk
      ·exact f1 _ _ hi hk
    have fd:∀k,k≤n→Fz (divM (swapM M1 c (c+p)) c c k) (szG s c+szG s c):=fun k hk=>by
     unfold divM
     rw [if_pos rfl]
     exact (fs c k (by omega) hk).div (fs c c (by omega) (by omega))
    show Fz (elimM (divM (swapM M1 c (c+p)) c) c i k) (4*szG s c+2)
    unfold elimM
    split
    ·exact (fd k hk).up (by omega)
    ·rename_i hne
     have e:∀k,divM (swapM M1 c (c+p)) c i k=swapM M1 c (c+p) i k:=fun k=>by unfold divM;rw [if_neg hne]
     rw [e,e]
     exact ((fs i k hi hk).sub ((fs i c hi (by omega)).mul (fd k hk))).up (by omega)
theorem solR_fz {A:List (List Rat)} {b:List Rat} {s:Nat} (hs:1≤s) (hsq:∀r∈A,r.length=A.length) (hb:b.length=A.length) (hA:∀r∈A,Row s r) (hbs:Row s b):Row (szG s A.length) (solR A b):=by
 unfold solR
 cases hg:gs A.length (augM A b) A.length with
 | none=>exact fun z hz=>by cases hz
 | some M' =>
  intro z hz
  obtain ⟨r,hr,rfl⟩:=List.mem_map.1 hz
  refine gs_fz (n:=A.length) (s:=s) (fun i k hi hk=>?_) (Nat.le_refl _) hg r A.length (List.mem_range.1 hr) (Nat.le_refl _)
  unfold augM
  split
  ·exact hbs.getD (by omega)
  ·have hr2:=List.getElem_mem hi
   unfold at2
   rw [lget_lt A [] hi]
   exact (hA _ hr2).getD (by rw [hsq _ hr2];omega)
theorem wSol_fz {b:Nat} {ys:List FV} {m:List (List Rat)} {l:List Nat} (hm:SqM b ys m) (h1:1≤b) (hlm:∀s∈l,s<m.length):Row (szG (b+9) l.length) (wSol m l):=by
 have hgl:∀q,q<l.length→l.getD q 0<m.length:=fun q hq=>by rw [lget_lt l 0 hq];exact hlm _ (List.getElem_mem _)
 have hone:Fz (1:Rat) (b+9):=(Fz.int (n:=1) (by decide)).up (by omega)
 have hzero:Fz (0:Rat) (b+9):=(Fz.int (n:=0) (by decide)).up (by omega)
 have hW:∀a k,a<l.length→k<l.length→Fz (wM m l a k) (b+9):=fun a k ha hk=>by
  unfold wM
  split
  ·exact hone
  ·refine ((hm.f2 h1 (hgl k (by omega)) (hgl a (by omega))).sub (k:=8) ?_)
   split
   ·exact Fz.int (n:=1) (by decide)
   ·exact Fz.int (n:=0) (by decide)
 have hAl:((List.range l.length).map (wR m l)).length=l.length:=by simp
 have:=solR_fz (A:=(List.range l.length).map (wR m l)) (b:=(List.range l.length).map wB) (s:=b+9) (by omega) (fun r hr=>by
  obtain ⟨a,_,rfl⟩:=List.mem_map.1 hr
  simp [wR]) (by simp) (fun r hr=>by
  obtain ⟨a,ha,rfl⟩:=List.mem_map.1 hr
  intro z hz
  obtain ⟨k,hk,rfl⟩:=List.mem_map.1 hz
  exact hW a k (List.mem_range.1 ha) (List.mem_range.1 hk)) (fun z hz=>by
  obtain ⟨a,_,rfl⟩:=List.mem_map.1 hz
  unfold wB
  split
  ·exact hone
  ·exact hzero)
 rwa [hAl] at this
theorem stF_fz {l:List Nat} {sol:List Rat} {s:Nat} (hs:Row s sol) (h8:8≤s) {k:Nat}:∀{x:Nat},x≤sol.length→Fz (stF l sol x k) s:=by
 intro x
 induction x with
 | zero=>intro _;exact (Fz.int (n:=0) (by decide)).up h8
 | succ x ih =>
  intro hx
  show Fz (if k=l.getD x 0 then sol.getD x 0 else stF l sol x k) s
  split
  ·exact hs.getD (by omega)
  ·exact ih (by omega)
theorem szG_ge {s:Nat}:∀c,s≤szG s c:=by
 intro c
 induction c with
 | zero=>exact Nat.le_refl _
 | succ c ih=>show s≤4*szG s c+2;omega
end Go.Proofs.YtcgagiimlkjcpaaGreatDoor
