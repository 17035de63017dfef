/- Tables: the document's Product: walked. Conditions: what may be; numbers of at most 100000 bytes. -/
import Derived.Test.YtmcgeppgfjlclaaGreatDoorYB19
import Derived.Test.YtmcgeppgfjlclaaGreatDoorYB16
import Derived.Test.YtmcgeppgfjlclaaGreatDoorYB09
import Derived.Test.YtmcgeppgfjlclaaGreatDoorYB10
import Derived.ChangeSame
import Derived.ProofKit
import Derived.OpenShut
import Derived.Deep.DeepHandedRow
import Derived.Lib.LaidTab
import GoSem.PinnedTables
set_option linter.unusedVariables false
set_option linter.unusedSimpArgs false
namespace Go.Proofs.YtmcgeppgfjlclaaGreatDoor
open Go Go.RowKit
def vaA (r:Nat) (P:List FV):AV:=if P=[] then .f (.agg [.v (.slice none 0 0),.v (.slice none 0 0)]) else .agg [.own r 1 0 P.length,.f (.v (.slice none 0 0))]
theorem vaA_nil {r:Nat}:vaA r []=.f (.agg [.v (.slice none 0 0),.v (.slice none 0 0)]):=rfl
theorem vaA_pos {r:Nat} {P:List FV} (h:P≠[]):vaA r P=.agg [.own r 1 0 P.length,.f (.v (.slice none 0 0))]:=if_neg h
theorem vaA_lt {r N:Nat} {P:List FV} (h:r<N):AV.lt0 N (vaA r P)=true:=by
 unfold vaA
 split
 ·rfl
 ·show (decide (r<N)&&true)=true;rw [decide_eq_true h];rfl
theorem flat_frR (g:Bool) (n d:ByteArray):FlatF (frR g n d):=.agg _ fun j c h=>by
 match j with
 | 0=>cases h;exact .v _
 | 1=>cases h;exact .v _
 | 2=>cases h;exact .v _
 | j+3=>simp at h
theorem uniT_next {x:Nat} {la lb:List Nat}:uniT (x+1) la lb=uniT x la lb++if x∈la∨x∈lb then [x] else []:=by
 unfold uniT
 rw [List.range_succ,List.filter_append]
 by_cases h:x∈la∨x∈lb
 ·rw [if_pos h];simp [h]
 ·rw [if_neg h];congr 1;simp only [List.filter_cons,decide_eq_false h];rfl
theorem uniT_len {x:Nat} {la lb:List Nat}:(uniT x la lb).length≤x:=by
 unfold uniT;exact Nat.le_trans (List.length_filter_le _ _) (by rw [List.length_range];exact Nat.le_refl _)
set_option maxRecDepth 100000 in
set_option maxHeartbeats 8000000 in
theorem rproduct_w {k:Nat} {Z la lb:List Nat} {xs ys:List FV} {qa qb:List Rat} (ha:TbOk k Z la xs qa) (hb:TbOk k Z lb ys qb) (h1:1≤k) (hk:k≤100000) :
  Good Tryz.prog 25 [.fz 1 (Ns Z),tabV la xs,tabV lb ys] (.tup [tabV (uniT Z.length la lb) ((proT Z la lb qa qb).map fr),I 0]):=by
 have hla8:=ha.ok.len
 have hlb8:=hb.ok.len
 have hz8:=ha.ok.z8
 have hca:=rtcheck_w ha
 have hcb:=rtcheck_w hb
 have hu:=ha.ok.uni (lb:=lb)
 have hpg:=fun x hx=>proT_get (Z:=Z) (la:=la) (lb:=lb) (qa:=qa) (qb:=qb) (x:=x) hx
 have hpl:=proT_len (Z:=Z) (la:=la) (lb:=lb) (qa:=qa) (qb:=qb)
 obtain ⟨u,hue⟩:∃u,u=uniT Z.length la lb:=⟨_,rfl⟩
 have hau:∀v∈la,v∈u:=fun v hv=>by rw [hue];exact mem_uniT.2 ⟨ha.ok.lt v hv,.inl hv⟩
 have hbu:∀v∈lb,v∈u:=fun v hv=>by rw [hue];exact mem_uniT.2 ⟨hb.ok.lt v hv,.inr hv⟩
 rw [←hue] at hu hpg hpl ⊢
 have hul:=hu.len
 have huc:=hu.cnt
 have huc1:=hu.cnt1
 have hcn:=rcountT_w hu
 obtain ⟨p,hpe⟩:∃p,p=proT Z la lb qa qb:=⟨_,rfl⟩
 rw [←hpe] at hpg hpl ⊢
 obtain ⟨N,hN⟩:∃N,N=cntS (szT Z) u:=⟨_,rfl⟩
 rw [←hN] at hpl huc huc1 hcn hpg
 obtain ⟨m,hm⟩:∃m,m=Z.length:=⟨_,rfl⟩
 refine good_of Tryz.func25 rfl (by kernel_rfl) fun X hO hrd=>?_;rw [Tryz.ntmps25,Tryz.results25];simp only [ast0,List.map_cons,List.map_nil,List.length_cons,List.length_nil,Nat.reduceAdd,Nat.reduceSub,List.replicate_succ,List.replicate_zero,List.cons_append,List.nil_append]
 (repeat (with_reducible first|refine W_seq fun K hK=>?_|refine J_region ?_ |(refine Kont.go (by assumption) ?_)|(simp (config:={ maxSteps:=3000000 }) (disch:=omega) only [go_sem,↓reduceIte,Nat.reduceAdd])))
 (first|refine call_f (hca) rfl ?_|refine callQ_f (hca) rfl ?_|refine callHK_f (hca) rfl ?_|refine callH_f (hca) rfl ?_)
 (repeat (with_reducible first|refine W_seq fun K hK=>?_|refine J_region ?_ |(refine Kont.go (by assumption) ?_)|(simp (config:={ maxSteps:=3000000 }) (disch:=omega) only [go_sem,↓reduceIte,Nat.reduceAdd])))
 (first|refine call_f (hcb) rfl ?_|refine callQ_f (hcb) rfl ?_|refine callHK_f (hcb) rfl ?_|refine callH_f (hcb) rfl ?_)
 (repeat (with_reducible first|refine W_seq fun K hK=>?_|refine J_skip ?_|((fail_if_success refine J_region (id:=8) ?_);refine J_region ?_) |refine J_c ?_|refine Jc_false ?_|(refine Kont.go (by assumption) ?_)|(simp (config:={ maxSteps:=3000000 }) (disch:=omega) only [go_sem,↓reduceIte,Nat.reduceAdd])))
 refine J_reserve ?_
 simp only [go_sem]
 have h00:AV.f (.agg [.v (.slice none 0 0),.v (.slice none 0 0)])=vaA 4 (Ns (uniT 0 la lb)):=rfl
 have hNl:(Ns Z).length=m:=by rw [Ns_len,hm]
 (repeat (with_reducible first|refine J_block ?_|refine J_region ?_ |(refine Kont.go (by assumption) ?_)|(simp (config:={ maxSteps:=3000000 }) (disch:=omega) only [go_sem])))
 refine J_mask [36] (by refine weak_of ?_ ?_<;>simp (disch:=omega) only [go_sem,Nat.reduceAdd]<;>first|rfl|exact ⟨rfl,rfl⟩|exact Or.inl rfl|exact ⟨Or.inl rfl,Or.inl rfl⟩|trivial|assumption|omega|(symm;assumption)|((repeat' apply And.intro)<;>first|rfl|omega|trivial|exact .inr ⟨rfl,rfl⟩|exact .inr rfl|(right;symm;assumption)|(symm;assumption)|assumption)) ?_;simp only [go_sem]
 have hH:([some ⟨27,2,[AV.f (tabV la xs)]⟩]:AH)=[oT (tabV la xs)]:=rfl
 refine W_loop [11,12,13,37,38,39,40,41,42,43,44,45,46,47,48,49,50,51,52,53,54,55,56,57,58,59,60] (fun x:Nat=>[(11,.f (I x))]) (fun x:Nat=>[oT (tabV la xs),oT (tabV lb ys),oT tab0,some ⟨27,2,[vaA 4 (Ns (uniT x la lb))]⟩,ob 3 1 (Ns (uniT x la lb))]) (fun x:Nat=>x≤m) (fun x:Nat=>m-x) (0) (Nat.zero_le _) (by refine weak_of ?_ ?_<;>simp (disch:=omega) only [go_sem,Nat.reduceAdd]<;>first|rfl|exact ⟨rfl,rfl⟩|exact Or.inl rfl|exact ⟨Or.inl rfl,Or.inl rfl⟩|trivial|assumption|omega|(symm;assumption)|((repeat' apply And.intro)<;>first|rfl|omega|trivial|exact .inl rfl|exact .inr ⟨rfl,rfl⟩|exact .inr rfl|(right;symm;assumption)|(symm;assumption)|assumption)) ?_
 ·rintro x hx
  simp only [go_sem]
  (repeat (with_reducible first|refine W_seq fun K hK=>?_|refine J_region ?_ |refine J_c ?_|(refine Kont.go (by assumption) ?_)|(simp (config:={ maxSteps:=3000000 }) (disch:=omega) only [go_sem,hNl])))
  refine Jc_if (fun hxm=>?_) (fun hxm=>?_)<;>try simp only [decide_eq_true_eq,decide_eq_false_iff_not] at hxm
  ·have c1:=rinN_w x la (by omega) (by omega)
   have c2:=rinN_w x lb (by omega) (by omega)
   have hnx:=uniT_next (x:=x) (la:=la) (lb:=lb)
   have hull:=uniT_len (x:=x) (la:=la) (lb:=lb)
   have hno:∀(h:¬(x∈la∨x∈lb)),uniT (x+1) la lb=uniT x la lb:=fun h=>by rw [hnx,if_neg h,List.append_nil]
   have hyes:∀(h:x∈la∨x∈lb),Ns (uniT x la lb)++[I (x:Int)]=Ns (uniT (x+1) la lb):=fun h=>by rw [hnx,if_pos h,Ns_snoc]
   (repeat (with_reducible first|refine W_seq fun K hK=>?_|refine J_block ?_|refine J_skip ?_|refine J_region ?_ |(refine Kont.go (by assumption) ?_)|(simp (config:={ maxSteps:=3000000 }) (disch:=omega) only [go_sem,↓reduceIte])))
   (first|refine call_f (c1) rfl ?_|refine callQ_f (c1) rfl ?_|refine callHK_f (c1) rfl ?_|refine callH_f (c1) rfl ?_)
   (repeat (with_reducible first|refine W_seq fun K hK=>?_|refine J_region ?_ |(refine Kont.go (by assumption) ?_)|(simp (config:={ maxSteps:=3000000 }) (disch:=omega) only [go_sem,↓reduceIte])))
   (first|refine call_f (c2) rfl ?_|refine callQ_f (c2) rfl ?_|refine callHK_f (c2) rfl ?_|refine callH_f (c2) rfl ?_)
   by_cases hx0:x∈la∨x∈lb
   ·have htk:=hyes hx0
    have hor:∀(b:Bool),b=(decide (x∈la)||decide (x∈lb))→b=true:=fun b e=>by rw [e];rcases hx0 with h|h<;>simp [h]
    have hl1:(Ns (uniT x la lb)).length≤x:=by rw [Ns_len];exact hull
    obtain ⟨T,hT⟩:∃T,T=Ns (uniT x la lb):=⟨_,rfl⟩
    rw [←hT] at htk hl1 ⊢
    obtain ⟨T',hT'⟩:∃T',T'=Ns (uniT (x+1) la lb):=⟨_,rfl⟩
    rw [←hT'] at htk
    by_cases hT0:T=[]
    ·subst hT0
     have e1:ob 3 1 ([]:List FV)=none:=rfl
     have e2:Ns (uniT (x+1) la lb)=[I (x:Int)]:=by rw [←hT'];exact htk.symm
     have e3:ob 3 1 [I (x:Int)]=some ⟨3,1,[.f (I (x:Int))]⟩:=rfl
     have e4:vaA 4 [I (x:Int)]=.agg [.own 4 1 0 1,.f (.v (.slice none 0 0))]:=rfl
     rw [vaA_nil,e1]
     by_cases ha0:x∈la
     ·rw [decide_eq_true ha0]
      (repeat (first|(with_reducible first|refine W_seq fun K hK=>?_|refine J_region ?_ |refine aApp_old ?_|refine J_c ?_|refine Jc_true ?_|(refine Kont.go (by assumption) ?_)|(simp (config:={ maxSteps:=3000000 }) (disch:=omega) only [go_sem,Nat.reduceEqDiff,↓reduceIte,Nat.reduceAdd,Nat.reduceLeDiff]))|refine And.intro (by omega) ?_))
      refine ⟨x+1,by omega,by omega,weak_ren [0,1,2,3,6] ⟨by decide,by first|decide|(simp;done)⟩ ?_ ?_⟩<;>(try simp (disch:=omega) only [go_sem,Nat.reduceAdd,e2,e3,e4,List.map_cons,List.map_nil])<;>(try first|done|omega|rfl|exact ⟨rfl,rfl⟩|trivial)
     ·rw [decide_eq_false ha0,decide_eq_true (hx0.resolve_left ha0)]
      (repeat (first|(with_reducible first|refine W_seq fun K hK=>?_|refine J_region ?_ |refine aApp_old ?_|refine J_c ?_|refine Jc_true ?_|(refine Kont.go (by assumption) ?_)|(simp (config:={ maxSteps:=3000000 }) (disch:=omega) only [go_sem,Nat.reduceEqDiff,↓reduceIte,Nat.reduceAdd,Nat.reduceLeDiff]))|refine And.intro (by omega) ?_))
      refine ⟨x+1,by omega,by omega,weak_ren [0,1,2,3,6] ⟨by decide,by first|decide|(simp;done)⟩ ?_ ?_⟩<;>(try simp (disch:=omega) only [go_sem,Nat.reduceAdd,e2,e3,e4,List.map_cons,List.map_nil])<;>(try first|done|omega|rfl|exact ⟨rfl,rfl⟩|trivial)
    ·have hne1:T'≠[]:=by rw [←htk];simp
     have hln1:T'.length=T.length+1:=by rw [←htk,List.length_append];rfl
     have e1:ob 3 1 T=some ⟨3,1,T.map .f⟩:=ob_pos hT0
     have e2:vaA 4 T=.agg [.own 4 1 0 T.length,.f (.v (.slice none 0 0))]:=vaA_pos hT0
     have e3:ob 3 1 (Ns (uniT (x+1) la lb))=some ⟨3,1,T.map .f++[.f (I (x:Int))]⟩:=by rw [←hT',ob_pos hne1,←htk,List.map_append];rfl
     have e4:vaA 4 (Ns (uniT (x+1) la lb))=.agg [.own 4 1 0 (T.length+1),.f (.v (.slice none 0 0))]:=by rw [←hT',vaA_pos hne1,hln1]
     have e5:(T.map AV.f).take T.length=T.map .f:=List.take_of_length_le (by rw [List.length_map];omega)
     have e6:(T.length+1)*8≤140737488355328:=by omega
     rw [e1,e2]
     by_cases ha0:x∈la
     ·rw [decide_eq_true ha0]
      (repeat (first|(with_reducible first|refine W_seq fun K hK=>?_|refine J_region ?_ |refine aApp_old ?_|refine J_c ?_|refine Jc_true ?_|(refine Kont.go (by assumption) ?_)|(simp (config:={ maxSteps:=3000000 }) (disch:=omega) only [go_sem,Nat.reduceEqDiff,↓reduceIte,Nat.reduceAdd,Nat.reduceLeDiff,e5,e6,List.length_map]))|refine And.intro (by omega) ?_))
      refine ⟨x+1,by omega,by omega,weak_ren [0,1,2,3,6] ⟨by decide,by first|decide|(simp;done)⟩ ?_ ?_⟩<;>(try simp (disch:=omega) only [go_sem,Nat.reduceAdd,e3,e4,map_ren_f,List.map_append,List.map_cons,List.map_nil])<;>(try first|done|omega|rfl|exact ⟨rfl,rfl⟩|trivial)
     ·rw [decide_eq_false ha0,decide_eq_true (hx0.resolve_left ha0)]
      (repeat (first|(with_reducible first|refine W_seq fun K hK=>?_|refine J_region ?_ |refine aApp_old ?_|refine J_c ?_|refine Jc_true ?_|(refine Kont.go (by assumption) ?_)|(simp (config:={ maxSteps:=3000000 }) (disch:=omega) only [go_sem,Nat.reduceEqDiff,↓reduceIte,Nat.reduceAdd,Nat.reduceLeDiff,e5,e6,List.length_map]))|refine And.intro (by omega) ?_))
      refine ⟨x+1,by omega,by omega,weak_ren [0,1,2,3,6] ⟨by decide,by first|decide|(simp;done)⟩ ?_ ?_⟩<;>(try simp (disch:=omega) only [go_sem,Nat.reduceAdd,e3,e4,map_ren_f,List.map_append,List.map_cons,List.map_nil])<;>(try first|done|omega|rfl|exact ⟨rfl,rfl⟩|trivial)
   ·have hn:=hno hx0
    rw [decide_eq_false fun h=>hx0 (.inl h),decide_eq_false fun h=>hx0 (.inr h),←hn]
    (repeat (with_reducible first|refine W_seq fun K hK=>?_|refine J_skip ?_|refine J_region ?_ |refine J_c ?_|refine Jc_false ?_|(refine Kont.go (by assumption) ?_)|(simp (config:={ maxSteps:=3000000 }) (disch:=omega) only [go_sem])))
    refine ⟨x+1,by omega,by omega,weak_of ?_ ?_⟩<;>(try simp (disch:=omega) only [go_sem,Nat.reduceAdd,vaA_lt (show 4<5 by decide)])<;>(try first|done|omega|rfl|exact ⟨rfl,rfl⟩|trivial)
  ·have he:x=m:=by omega
   rw [he,hm,←hue]
   by_cases hu0:Ns u=[]
   ·have e1:ob 3 1 ([]:List FV)=none:=rfl
    have e2:FV.fz 1 ([]:List FV)=.fz 1 (Ns u):=by rw [hu0]
    rw [hu0,vaA_nil,e1]
    refine J_nil1 3 (sz:=1) rfl ⟨rfl,rfl⟩ ?_
    simp only [go_sem]
    rw [e2]
    refine J_reserve ?_
    simp only [go_sem]
    have h05:AV.f (.agg [.fz 1 (Ns u),.v (.slice none 0 0)])=tbA 5 (Ns u) ((p.take 0).map fr):=rfl
    (repeat (with_reducible first|refine W_seq fun K hK=>?_|refine J_exit ?_|refine J_region ?_ |(refine Kont.go (by assumption) ?_)|(simp (config:={ maxSteps:=3000000 }) (disch:=omega) only [go_sem,↓reduceIte])))
    (first|refine call_f (hcn) rfl ?_|refine callQ_f (hcn) rfl ?_|refine callHK_f (hcn) rfl ?_|refine callH_f (hcn) rfl ?_)
    (repeat (with_reducible first|refine W_seq fun K hK=>?_|refine J_block ?_|refine J_region ?_ |(refine Kont.go (by assumption) ?_)|(simp (config:={ maxSteps:=3000000 }) (disch:=omega) only [go_sem])))
    rw [h05]
    refine W_loop [16,17,18,19,20,21,68,69,70,71,72,73,74,75,76,77,78,79,80,81,82,83,84,85,86,87,88,89,90,91,92,93,94,95,96,97,98,99,100,101,102] (fun x:Nat=>[(16,.f (I x))]) (fun x:Nat=>[oT (tabV la xs),oT (tabV lb ys),oT tab0,some ⟨27,2,[tbA 5 (Ns u) ((p.take x).map fr)]⟩,none,ob 50 3 ((p.take x).map fr)]) (fun x:Nat=>x≤N) (fun x:Nat=>N-x) (0) (Nat.zero_le _) (by refine weak_of ?_ ?_<;>simp (disch:=omega) only [go_sem,Nat.reduceAdd]<;>first|rfl|exact ⟨rfl,rfl⟩|exact Or.inl rfl|exact ⟨Or.inl rfl,Or.inl rfl⟩|trivial|assumption|omega|(symm;assumption)|((repeat' apply And.intro)<;>first|rfl|omega|trivial|exact .inl rfl|exact .inr ⟨rfl,rfl⟩|exact .inr rfl|(right;symm;assumption)|(symm;assumption)|assumption)) ?_
    rintro x hx
    simp only [go_sem]
    (repeat (with_reducible first|refine W_seq fun K hK=>?_|refine J_region ?_ |refine J_c ?_|(refine Kont.go (by assumption) ?_)|(simp (config:={ maxSteps:=3000000 }) (disch:=omega) only [go_sem])))
    refine Jc_if (fun hxN=>?_) (fun hxN=>?_)<;>try simp only [decide_eq_true_eq,decide_eq_false_iff_not] at hxN
    ·have hxu:x<cntS (szT Z) u:=by omega
     have va:=fun v hv=>asgS_lt (S:=szT Z) (k:=x) (v:=v) hu.nd hu.pos hxu (hau v hv)
     have vb:=fun v hv=>asgS_lt (S:=szT Z) (k:=x) (v:=v) hu.nd hu.pos hxu (hbu v hv)
     have ia:=idxS_lt (S:=szT Z) (a:=asgS (szT Z) u x) (l:=la) va
     have ib:=idxS_lt (S:=szT Z) (a:=asgS (szT Z) u x) (l:=lb) vb
     have hpx:=hpg x hxN
     obtain ⟨i,hi⟩:∃i,i=idxS (szT Z) (asgS (szT Z) u x) la:=⟨_,rfl⟩
     obtain ⟨j,hj⟩:∃j,j=idxS (szT Z) (asgS (szT Z) u x) lb:=⟨_,rfl⟩
     have hw:=rwhere_w hu hxu
     have hsp:=rspread_w (k:=x) hu
     rw [←hi] at ia hpx
     rw [←hj] at ib hpx
     rw [←ha.len] at ia
     rw [←hb.len] at ib
     obtain ⟨g,n,d,x1,f1⟩:=ha.fr.at3 ia
     obtain ⟨g2,n2,d2,x2,f2⟩:=hb.fr.at3 ib
     rw [lget_lt qa 0 ia,lget_lt qb 0 ib] at hpx
     have c1:=rcell_w ha va (by rw [←hi];exact x1)
     have c2:=rcell_w hb vb (by rw [←hj];exact x2)
     have esp:(List.range Z.length).map (asgS (szT Z) u x)=spL Z u x:=rfl
     rw [esp] at c1 c2
     have htk:=take_frs hpx
     obtain ⟨q,hq⟩:∃q,q=qa[i]*qb[j]:=⟨_,rfl⟩
     have hqx:fr (qa[i]*qb[j])=fr q:=by rw [hq]
     rw [←hq] at htk
     have hPl:((p.take x).map fr).length=x:=by rw [List.length_map,List.length_take];omega
     by_cases x0:x=0
     ·subst x0
      have e1:ob 50 3 ((p.take 0).map fr)=none:=rfl
      have e2:(p.take (0+1)).map fr=[fr q]:=htk.symm
      have e3:ob 50 3 [fr q]=some ⟨50,3,[.f (fr q)]⟩:=rfl
      have e4:tbA 5 (Ns u) [fr q]=.agg [.f (.fz 1 (Ns u)),.own 5 3 0 1]:=rfl
      rw [←h05,e1]
      (repeat (with_reducible first|refine W_seq fun K hK=>?_|refine J_block ?_|refine J_skip ?_|refine J_region ?_ |(refine Kont.go (by assumption) ?_)|(simp (config:={ maxSteps:=3000000 }) (disch:=omega) only [go_sem,↓reduceIte])))
      (first|refine call_f (hw) rfl ?_|refine callQ_f (hw) rfl ?_|refine callHK_f (hw) rfl ?_|refine callH_f (hw) rfl ?_)
      (repeat (with_reducible first|refine W_seq fun K hK=>?_|refine J_region ?_ |(refine Kont.go (by assumption) ?_)|(simp (config:={ maxSteps:=3000000 }) (disch:=omega) only [go_sem,↓reduceIte])))
      refine call_o hsp (FrzL.fs [_,_,_]) ?_
      (repeat (with_reducible first|refine W_seq fun K hK=>?_|refine J_region ?_ |(refine Kont.go (by assumption) ?_)|(simp (config:={ maxSteps:=3000000 }) (disch:=omega) only [go_sem,↓reduceIte,Nat.reduceAdd,Ns_len])))
      refine call_fl c1 (flat_frR _ _ _) (FrzL.cons (.f _) (FrzL.cons (.f _) (FrzL.cons (Frz.own0 rfl Ns_len.symm) (FrzL.nil _)))) ?_
      (repeat (with_reducible first|refine W_seq fun K hK=>?_|refine J_region ?_ |(refine Kont.go (by assumption) ?_)|(simp (config:={ maxSteps:=3000000 }) (disch:=omega) only [go_sem,↓reduceIte,Nat.reduceAdd])))
      refine call_fl c2 (flat_frR _ _ _) (FrzL.cons (.f _) (FrzL.cons (.f _) (FrzL.cons (Frz.own0 rfl Ns_len.symm) (FrzL.nil _)))) ?_
      (repeat (first|(with_reducible first|refine W_seq fun K hK=>?_|refine J_region ?_ |refine aApp_old ?_|(refine Kont.go (by assumption) ?_)|(simp (config:={ maxSteps:=3000000 }) (disch:=omega) only [go_sem,Nat.reduceEqDiff,↓reduceIte,Nat.reduceAdd,Nat.reduceLeDiff,Int.reduceAdd,hqx]))|refine call_f (rmul_w (by assumption) (by assumption) (by omega) (by omega)) rfl ?_|refine And.intro (by omega) ?_))
      refine ⟨0+1,by omega,by omega,weak_ren [0,1,2,3,4,11] ⟨by decide,by first|decide|(simp;done)⟩ ?_ ?_⟩<;>(try simp (disch:=omega) only [go_sem,Nat.reduceAdd,e2,e3,e4,List.map_cons,List.map_nil])<;>(try first|done|omega|rfl|exact ⟨rfl,rfl⟩|trivial)
     ·have hne:(p.take x).map fr≠[]:=fun h=>by have:=hPl;rw [h,List.length_nil] at this;omega
      have hne1:(p.take (x+1)).map fr≠[]:=by rw [←htk];simp
      have hln1:((p.take (x+1)).map fr).length=x+1:=by rw [←htk,List.length_append,hPl];rfl
      obtain ⟨T,hT⟩:∃T,T=(p.take x).map fr:=⟨_,rfl⟩
      rw [←hT] at hne hPl htk ⊢
      have e1:ob 50 3 T=some ⟨50,3,T.map .f⟩:=ob_pos hne
      have e2:tbA 5 (Ns u) T=.agg [.f (.fz 1 (Ns u)),.own 5 3 0 x]:=by rw [tbA_pos hne,hPl]
      have e3:ob 50 3 ((p.take (x+1)).map fr)=some ⟨50,3,T.map .f++[.f (fr q)]⟩:=by rw [ob_pos hne1,←htk,List.map_append];rfl
      have e4:tbA 5 (Ns u) ((p.take (x+1)).map fr)=.agg [.f (.fz 1 (Ns u)),.own 5 3 0 (x+1)]:=by rw [tbA_pos hne1,hln1]
      have e5:(T.map AV.f).take x=T.map .f:=List.take_of_length_le (by rw [List.length_map];omega)
      have e6:(x+1)*40≤140737488355328:=by omega
      rw [e1,e2]
      (repeat (with_reducible first|refine W_seq fun K hK=>?_|refine J_block ?_|refine J_skip ?_|refine J_region ?_ |(refine Kont.go (by assumption) ?_)|(simp (config:={ maxSteps:=3000000 }) (disch:=omega) only [go_sem,↓reduceIte])))
      (first|refine call_f (hw) rfl ?_|refine callQ_f (hw) rfl ?_|refine callHK_f (hw) rfl ?_|refine callH_f (hw) rfl ?_)
      (repeat (with_reducible first|refine W_seq fun K hK=>?_|refine J_region ?_ |(refine Kont.go (by assumption) ?_)|(simp (config:={ maxSteps:=3000000 }) (disch:=omega) only [go_sem,↓reduceIte])))
      refine call_o hsp (FrzL.fs [_,_,_]) ?_
      (repeat (with_reducible first|refine W_seq fun K hK=>?_|refine J_region ?_ |(refine Kont.go (by assumption) ?_)|(simp (config:={ maxSteps:=3000000 }) (disch:=omega) only [go_sem,↓reduceIte,Nat.reduceAdd,Ns_len])))
      refine call_fl c1 (flat_frR _ _ _) (FrzL.cons (.f _) (FrzL.cons (.f _) (FrzL.cons (Frz.own0 rfl Ns_len.symm) (FrzL.nil _)))) ?_
      (repeat (with_reducible first|refine W_seq fun K hK=>?_|refine J_region ?_ |(refine Kont.go (by assumption) ?_)|(simp (config:={ maxSteps:=3000000 }) (disch:=omega) only [go_sem,↓reduceIte,Nat.reduceAdd])))
      refine call_fl c2 (flat_frR _ _ _) (FrzL.cons (.f _) (FrzL.cons (.f _) (FrzL.cons (Frz.own0 rfl Ns_len.symm) (FrzL.nil _)))) ?_
      (repeat (first|(with_reducible first|refine W_seq fun K hK=>?_|refine J_region ?_ |refine aApp_old ?_|(refine Kont.go (by assumption) ?_)|(simp (config:={ maxSteps:=3000000 }) (disch:=omega) only [go_sem,Nat.reduceEqDiff,↓reduceIte,Nat.reduceAdd,Nat.reduceLeDiff,hqx,hPl,e5,e6,List.length_map]))|refine call_f (rmul_w (by assumption) (by assumption) (by omega) (by omega)) rfl ?_|refine And.intro (by omega) ?_))
      refine ⟨x+1,by omega,by omega,weak_ren [0,1,2,3,4,11] ⟨by decide,by first|decide|(simp;done)⟩ ?_ ?_⟩<;>(try simp (disch:=omega) only [go_sem,Nat.reduceAdd,e3,e4,map_ren_f,List.map_append,List.map_cons,List.map_nil])<;>(try first|done|omega|rfl|exact ⟨rfl,rfl⟩|trivial)
    ·have he:x=N:=by omega
     subst he
     have hne:p.map fr≠[]:=fun h=>by have:=congrArg List.length h;rw [List.length_map,List.length_nil] at this;omega
     rw [List.take_of_length_le (by omega)]
     have e1:ob 50 3 (p.map fr)=some ⟨50,3,(p.map fr).map .f⟩:=ob_pos hne
     have e2:tbA 5 (Ns u) (p.map fr)=.agg [.f (.fz 1 (Ns u)),.own 5 3 0 (p.map fr).length]:=tbA_pos hne
     rw [e1,e2]
     (repeat (with_reducible first|refine W_seq fun K hK=>?_|refine J_exit ?_|refine J_ret ?_|refine J_region ?_ |(refine Kont.go (by assumption) ?_)|(simp (config:={ maxSteps:=3000000 }) (disch:=omega) only [go_sem,↓reduceIte,Nat.reduceAdd])))
     exact ⟨_,rfl,FrzL.cons (Frz.aggL (FrzL.cons (.f _) (FrzL.cons (Frz.own0 rfl (by rw [List.length_map])) (FrzL.nil _)))) (FrzL.cons (.f _) (FrzL.nil _))⟩
   ·have e1:ob 3 1 (Ns u)=some ⟨3,1,(Ns u).map .f⟩:=ob_pos hu0
    rw [e1,vaA_pos hu0]
    refine J_freezeA (r:=4) (sz:=1) (e:=3) (l:=Ns u) (by rfl) ?_
    simp only [go_sem,Nat.reduceEqDiff]
    refine J_agg2 3 rfl ⟨rfl,rfl⟩ rfl ?_
    simp only [go_sem]
    refine J_reserve ?_
    simp only [go_sem]
    have h05:AV.f (.agg [.fz 1 (Ns u),.v (.slice none 0 0)])=tbA 5 (Ns u) ((p.take 0).map fr):=rfl
    (repeat (with_reducible first|refine W_seq fun K hK=>?_|refine J_exit ?_|refine J_region ?_ |(refine Kont.go (by assumption) ?_)|(simp (config:={ maxSteps:=3000000 }) (disch:=omega) only [go_sem,↓reduceIte])))
    (first|refine call_f (hcn) rfl ?_|refine callQ_f (hcn) rfl ?_|refine callHK_f (hcn) rfl ?_|refine callH_f (hcn) rfl ?_)
    (repeat (with_reducible first|refine W_seq fun K hK=>?_|refine J_block ?_|refine J_region ?_ |(refine Kont.go (by assumption) ?_)|(simp (config:={ maxSteps:=3000000 }) (disch:=omega) only [go_sem])))
    rw [h05]
    refine W_loop [16,17,18,19,20,21,68,69,70,71,72,73,74,75,76,77,78,79,80,81,82,83,84,85,86,87,88,89,90,91,92,93,94,95,96,97,98,99,100,101,102] (fun x:Nat=>[(16,.f (I x))]) (fun x:Nat=>[oT (tabV la xs),oT (tabV lb ys),oT tab0,some ⟨27,2,[tbA 5 (Ns u) ((p.take x).map fr)]⟩,none,ob 50 3 ((p.take x).map fr)]) (fun x:Nat=>x≤N) (fun x:Nat=>N-x) (0) (Nat.zero_le _) (by refine weak_of ?_ ?_<;>simp (disch:=omega) only [go_sem,Nat.reduceAdd]<;>first|rfl|exact ⟨rfl,rfl⟩|exact Or.inl rfl|exact ⟨Or.inl rfl,Or.inl rfl⟩|trivial|assumption|omega|(symm;assumption)|((repeat' apply And.intro)<;>first|rfl|omega|trivial|exact .inl rfl|exact .inr ⟨rfl,rfl⟩|exact .inr rfl|(right;symm;assumption)|(symm;assumption)|assumption)) ?_
    rintro x hx
    simp only [go_sem]
    (repeat (with_reducible first|refine W_seq fun K hK=>?_|refine J_region ?_ |refine J_c ?_|(refine Kont.go (by assumption) ?_)|(simp (config:={ maxSteps:=3000000 }) (disch:=omega) only [go_sem])))
    refine Jc_if (fun hxN=>?_) (fun hxN=>?_)<;>try simp only [decide_eq_true_eq,decide_eq_false_iff_not] at hxN
    ·have hxu:x<cntS (szT Z) u:=by omega
     have va:=fun v hv=>asgS_lt (S:=szT Z) (k:=x) (v:=v) hu.nd hu.pos hxu (hau v hv)
     have vb:=fun v hv=>asgS_lt (S:=szT Z) (k:=x) (v:=v) hu.nd hu.pos hxu (hbu v hv)
     have ia:=idxS_lt (S:=szT Z) (a:=asgS (szT Z) u x) (l:=la) va
     have ib:=idxS_lt (S:=szT Z) (a:=asgS (szT Z) u x) (l:=lb) vb
     have hpx:=hpg x hxN
     obtain ⟨i,hi⟩:∃i,i=idxS (szT Z) (asgS (szT Z) u x) la:=⟨_,rfl⟩
     obtain ⟨j,hj⟩:∃j,j=idxS (szT Z) (asgS (szT Z) u x) lb:=⟨_,rfl⟩
     have hw:=rwhere_w hu hxu
     have hsp:=rspread_w (k:=x) hu
     rw [←hi] at ia hpx
     rw [←hj] at ib hpx
     rw [←ha.len] at ia
     rw [←hb.len] at ib
     obtain ⟨g,n,d,x1,f1⟩:=ha.fr.at3 ia
     obtain ⟨g2,n2,d2,x2,f2⟩:=hb.fr.at3 ib
     rw [lget_lt qa 0 ia,lget_lt qb 0 ib] at hpx
     have c1:=rcell_w ha va (by rw [←hi];exact x1)
     have c2:=rcell_w hb vb (by rw [←hj];exact x2)
     have esp:(List.range Z.length).map (asgS (szT Z) u x)=spL Z u x:=rfl
     rw [esp] at c1 c2
     have htk:=take_frs hpx
     obtain ⟨q,hq⟩:∃q,q=qa[i]*qb[j]:=⟨_,rfl⟩
     have hqx:fr (qa[i]*qb[j])=fr q:=by rw [hq]
     rw [←hq] at htk
     have hPl:((p.take x).map fr).length=x:=by rw [List.length_map,List.length_take];omega
     by_cases x0:x=0
     ·subst x0
      have e1:ob 50 3 ((p.take 0).map fr)=none:=rfl
      have e2:(p.take (0+1)).map fr=[fr q]:=htk.symm
      have e3:ob 50 3 [fr q]=some ⟨50,3,[.f (fr q)]⟩:=rfl
      have e4:tbA 5 (Ns u) [fr q]=.agg [.f (.fz 1 (Ns u)),.own 5 3 0 1]:=rfl
      rw [←h05,e1]
      (repeat (with_reducible first|refine W_seq fun K hK=>?_|refine J_block ?_|refine J_skip ?_|refine J_region ?_ |(refine Kont.go (by assumption) ?_)|(simp (config:={ maxSteps:=3000000 }) (disch:=omega) only [go_sem,↓reduceIte])))
      (first|refine call_f (hw) rfl ?_|refine callQ_f (hw) rfl ?_|refine callHK_f (hw) rfl ?_|refine callH_f (hw) rfl ?_)
      (repeat (with_reducible first|refine W_seq fun K hK=>?_|refine J_region ?_ |(refine Kont.go (by assumption) ?_)|(simp (config:={ maxSteps:=3000000 }) (disch:=omega) only [go_sem,↓reduceIte])))
      refine call_o hsp (FrzL.fs [_,_,_]) ?_
      (repeat (with_reducible first|refine W_seq fun K hK=>?_|refine J_region ?_ |(refine Kont.go (by assumption) ?_)|(simp (config:={ maxSteps:=3000000 }) (disch:=omega) only [go_sem,↓reduceIte,Nat.reduceAdd,Ns_len])))
      refine call_fl c1 (flat_frR _ _ _) (FrzL.cons (.f _) (FrzL.cons (.f _) (FrzL.cons (Frz.own0 rfl Ns_len.symm) (FrzL.nil _)))) ?_
      (repeat (with_reducible first|refine W_seq fun K hK=>?_|refine J_region ?_ |(refine Kont.go (by assumption) ?_)|(simp (config:={ maxSteps:=3000000 }) (disch:=omega) only [go_sem,↓reduceIte,Nat.reduceAdd])))
      refine call_fl c2 (flat_frR _ _ _) (FrzL.cons (.f _) (FrzL.cons (.f _) (FrzL.cons (Frz.own0 rfl Ns_len.symm) (FrzL.nil _)))) ?_
      (repeat (first|(with_reducible first|refine W_seq fun K hK=>?_|refine J_region ?_ |refine aApp_old ?_|(refine Kont.go (by assumption) ?_)|(simp (config:={ maxSteps:=3000000 }) (disch:=omega) only [go_sem,Nat.reduceEqDiff,↓reduceIte,Nat.reduceAdd,Nat.reduceLeDiff,Int.reduceAdd,hqx]))|refine call_f (rmul_w (by assumption) (by assumption) (by omega) (by omega)) rfl ?_|refine And.intro (by omega) ?_))
      refine ⟨0+1,by omega,by omega,weak_ren [0,1,2,3,4,11] ⟨by decide,by first|decide|(simp;done)⟩ ?_ ?_⟩<;>(try simp (disch:=omega) only [go_sem,Nat.reduceAdd,e2,e3,e4,List.map_cons,List.map_nil])<;>(try first|done|omega|rfl|exact ⟨rfl,rfl⟩|trivial)
     ·have hne:(p.take x).map fr≠[]:=fun h=>by have:=hPl;rw [h,List.length_nil] at this;omega
      have hne1:(p.take (x+1)).map fr≠[]:=by rw [←htk];simp
      have hln1:((p.take (x+1)).map fr).length=x+1:=by rw [←htk,List.length_append,hPl];rfl
      obtain ⟨T,hT⟩:∃T,T=(p.take x).map fr:=⟨_,rfl⟩
      rw [←hT] at hne hPl htk ⊢
      have e1:ob 50 3 T=some ⟨50,3,T.map .f⟩:=ob_pos hne
      have e2:tbA 5 (Ns u) T=.agg [.f (.fz 1 (Ns u)),.own 5 3 0 x]:=by rw [tbA_pos hne,hPl]
      have e3:ob 50 3 ((p.take (x+1)).map fr)=some ⟨50,3,T.map .f++[.f (fr q)]⟩:=by rw [ob_pos hne1,←htk,List.map_append];rfl
      have e4:tbA 5 (Ns u) ((p.take (x+1)).map fr)=.agg [.f (.fz 1 (Ns u)),.own 5 3 0 (x+1)]:=by rw [tbA_pos hne1,hln1]
      have e5:(T.map AV.f).take x=T.map .f:=List.take_of_length_le (by rw [List.length_map];omega)
      have e6:(x+1)*40≤140737488355328:=by omega
      rw [e1,e2]
      (repeat (with_reducible first|refine W_seq fun K hK=>?_|refine J_block ?_|refine J_skip ?_|refine J_region ?_ |(refine Kont.go (by assumption) ?_)|(simp (config:={ maxSteps:=3000000 }) (disch:=omega) only [go_sem,↓reduceIte])))
      (first|refine call_f (hw) rfl ?_|refine callQ_f (hw) rfl ?_|refine callHK_f (hw) rfl ?_|refine callH_f (hw) rfl ?_)
      (repeat (with_reducible first|refine W_seq fun K hK=>?_|refine J_region ?_ |(refine Kont.go (by assumption) ?_)|(simp (config:={ maxSteps:=3000000 }) (disch:=omega) only [go_sem,↓reduceIte])))
      refine call_o hsp (FrzL.fs [_,_,_]) ?_
      (repeat (with_reducible first|refine W_seq fun K hK=>?_|refine J_region ?_ |(refine Kont.go (by assumption) ?_)|(simp (config:={ maxSteps:=3000000 }) (disch:=omega) only [go_sem,↓reduceIte,Nat.reduceAdd,Ns_len])))
      refine call_fl c1 (flat_frR _ _ _) (FrzL.cons (.f _) (FrzL.cons (.f _) (FrzL.cons (Frz.own0 rfl Ns_len.symm) (FrzL.nil _)))) ?_
      (repeat (with_reducible first|refine W_seq fun K hK=>?_|refine J_region ?_ |(refine Kont.go (by assumption) ?_)|(simp (config:={ maxSteps:=3000000 }) (disch:=omega) only [go_sem,↓reduceIte,Nat.reduceAdd])))
      refine call_fl c2 (flat_frR _ _ _) (FrzL.cons (.f _) (FrzL.cons (.f _) (FrzL.cons (Frz.own0 rfl Ns_len.symm) (FrzL.nil _)))) ?_
      (repeat (first|(with_reducible first|refine W_seq fun K hK=>?_|refine J_region ?_ |refine aApp_old ?_|(refine Kont.go (by assumption) ?_)|(simp (config:={ maxSteps:=3000000 }) (disch:=omega) only [go_sem,Nat.reduceEqDiff,↓reduceIte,Nat.reduceAdd,Nat.reduceLeDiff,hqx,hPl,e5,e6,List.length_map]))|refine call_f (rmul_w (by assumption) (by assumption) (by omega) (by omega)) rfl ?_|refine And.intro (by omega) ?_))
      refine ⟨x+1,by omega,by omega,weak_ren [0,1,2,3,4,11] ⟨by decide,by first|decide|(simp;done)⟩ ?_ ?_⟩<;>(try simp (disch:=omega) only [go_sem,Nat.reduceAdd,e3,e4,map_ren_f,List.map_append,List.map_cons,List.map_nil])<;>(try first|done|omega|rfl|exact ⟨rfl,rfl⟩|trivial)
    ·have he:x=N:=by omega
     subst he
     have hne:p.map fr≠[]:=fun h=>by have:=congrArg List.length h;rw [List.length_map,List.length_nil] at this;omega
     rw [List.take_of_length_le (by omega)]
     have e1:ob 50 3 (p.map fr)=some ⟨50,3,(p.map fr).map .f⟩:=ob_pos hne
     have e2:tbA 5 (Ns u) (p.map fr)=.agg [.f (.fz 1 (Ns u)),.own 5 3 0 (p.map fr).length]:=tbA_pos hne
     rw [e1,e2]
     (repeat (with_reducible first|refine W_seq fun K hK=>?_|refine J_exit ?_|refine J_ret ?_|refine J_region ?_ |(refine Kont.go (by assumption) ?_)|(simp (config:={ maxSteps:=3000000 }) (disch:=omega) only [go_sem,↓reduceIte,Nat.reduceAdd])))
     exact ⟨_,rfl,FrzL.cons (Frz.aggL (FrzL.cons (.f _) (FrzL.cons (Frz.own0 rfl (by rw [List.length_map])) (FrzL.nil _)))) (FrzL.cons (.f _) (FrzL.nil _))⟩
end Go.Proofs.YtmcgeppgfjlclaaGreatDoor
set_option linter.unusedVariables false
set_option linter.unusedSimpArgs false
namespace Go.Proofs.YtmcgeppgfjlclaaGreatDoor
open Go Go.RowKit
abbrev oF (x:FV):Option AO:=some ⟨50,3,[.f x]⟩
end Go.Proofs.YtmcgeppgfjlclaaGreatDoor
set_option linter.unusedVariables false
set_option linter.unusedSimpArgs false
namespace Go.Proofs.YtmcgeppgfjlclaaGreatDoor
open Go Go.RowKit
set_option maxRecDepth 100000 in
theorem sameInts_w (l:List Int) (hn:l.length≤140737488355328):Good Tryz.prog 24 [ints l,ints l] (Bo true):=by
 refine good_of Tryz.func24 rfl (by kernel_rfl) fun X hO hrd=>?_;rw [Tryz.ntmps24,Tryz.results24];simp only [ast0,List.map_cons,List.map_nil,List.length_cons,List.length_nil,Nat.reduceAdd,Nat.reduceSub,List.replicate_succ,List.replicate_zero,List.cons_append,List.nil_append]
 (repeat (with_reducible first|refine W_seq fun K hK=>?_|refine J_block ?_|refine J_skip ?_|refine J_region ?_ |refine J_c ?_|refine Jc_false ?_|(refine Kont.go (by assumption) ?_)|(simp (config:={ maxSteps:=3000000 }) (disch:=omega) only [go_sem,List.length_map])))
 refine W_loop [4,5,11,12,13,14,15,16,17,18,19,20,21,22,23,24,25] (fun x:Nat=>[(5,.f (I x))]) (fun x:Nat=>[]) (fun x:Nat=>x≤l.length) (fun x:Nat=>l.length-x) (0) (Nat.zero_le _) (by refine weak_of ?_ ?_<;>simp (disch:=omega) only [go_sem]<;>first|rfl|exact ⟨rfl,rfl⟩|exact Or.inl rfl|exact ⟨Or.inl rfl,Or.inl rfl⟩|trivial|assumption|omega|(symm;assumption)|((repeat' apply And.intro)<;>first|rfl|omega|trivial|exact .inl rfl|exact .inr ⟨rfl,rfl⟩|exact .inr rfl|(right;symm;assumption)|(symm;assumption)|assumption)) ?_
 rintro i hi
 simp only [go_sem]
 (repeat (with_reducible first|refine W_seq fun K hK=>?_|refine J_region ?_ |refine J_c ?_|(refine Kont.go (by assumption) ?_)|(simp (config:={ maxSteps:=3000000 }) (disch:=omega) only [go_sem,List.length_map])))
 refine Jc_if (fun hlt=>?_) (fun hlt=>?_)<;>try simp only [decide_eq_true_eq,decide_eq_false_iff_not] at hlt
 ·(repeat (with_reducible first|refine W_seq fun K hK=>?_|refine J_block ?_|refine J_skip ?_|refine J_region ?_ |refine J_drawn mixed (by kernel_rfl) ?_|refine J_c ?_|refine Jc_false ?_|(refine Kont.go (by assumption) ?_)|(simp (config:={ maxSteps:=3000000 }) (disch:=omega) only [go_sem,↓reduceIte,map_get I l hlt,hlt])))
  refine ⟨i+1,by omega,by omega,weak_of ?_ ?_⟩<;>(try simp (disch:=omega) only [go_sem])<;>(try first|done|omega|rfl|exact ⟨rfl,rfl⟩|trivial)
 ·(repeat (with_reducible first|refine W_seq fun K hK=>?_|refine J_exit ?_|refine J_ret ?_|refine J_region ?_ |exact Frz.f _|(refine Kont.go (by assumption) ?_)|(simp (config:={ maxSteps:=3000000 }) (disch:=omega) only [go_sem,↓reduceIte])))
end Go.Proofs.YtmcgeppgfjlclaaGreatDoor
namespace Go.Proofs.YtmcgeppgfjlclaaGreatDoor
open Go Go.ChangeShapes Go.ChangeAt Go.RowKit
variable {H : Type} {enc : TypeId × Value → H} {P : Program}

def relay (cs:Array Value):Obj→Obj
 | .cells _ t frozen=>.cells cs t frozen
 | o=>o
def firstCells:Array Value:=(Go.Pinned.utf8FirstZ.map fun n:Nat=>Value.int .u8 (n:Int)).toArray
def acceptCells:Array Value:=#[.int .u8 128,.int .u8 191,.int .u8 160,.int .u8 191,.int .u8 128,.int .u8 159,.int .u8 144,.int .u8 191,.int .u8 128,.int .u8 143,.int .u8 0,.int .u8 0,.int .u8 0,.int .u8 0,.int .u8 0,.int .u8 0,.int .u8 0,.int .u8 0,.int .u8 0,.int .u8 0,.int .u8 0,.int .u8 0,.int .u8 0,.int .u8 0,.int .u8 0,.int .u8 0,.int .u8 0,.int .u8 0,.int .u8 0,.int .u8 0,.int .u8 0,.int .u8 0]
end Go.Proofs.YtmcgeppgfjlclaaGreatDoor
