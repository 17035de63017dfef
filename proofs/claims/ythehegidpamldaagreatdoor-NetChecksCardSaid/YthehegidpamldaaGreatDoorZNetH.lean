/- Nets: the document's Given: walked. Conditions: what may be; numbers of at most 10^7 bytes. -/
import Derived.Test.YthehegidpamldaaGreatDoorZB21
import Derived.Test.YthehegidpamldaaGreatDoorZB24
import Derived.Test.YthehegidpamldaaGreatDoorZB23
set_option linter.unusedVariables false
set_option linter.unusedSimpArgs false
namespace Go.Proofs.YthehegidpamldaaGreatDoor
open Go Go.RowKit
section
variable {k : Nat} {V : List VarD} {P : List (List Int)} {RR : List FV} {M : List (List Rat)}
set_option maxRecDepth 100000 in
theorem rgivenE_w (h:NetOk k V P RR M) (v:Int) (he:netE (ordE P) V P M≠0):Good Tryz.prog 10 [netV V (P.map ints) RR,I v] (.tup [tab0,I (netE (ordE P) V P M)]):=by
 have hc:=rnetCheck_w h
 refine good_of Tryz.func10 rfl (by kernel_rfl) fun X hO hrd=>?_;rw [Tryz.ntmps10,Tryz.results10];simp only [ast0,List.map_cons,List.map_nil,List.length_cons,List.length_nil,Nat.reduceAdd,Nat.reduceSub,List.replicate_succ,List.replicate_zero,List.cons_append,List.nil_append]
 (repeat (with_reducible first|refine W_seq fun K hK=>?_|refine J_region ?_ |(refine Kont.go (by assumption) ?_)|(simp (config:={ maxSteps:=3000000 }) (disch:=omega) only [go_sem,↓reduceIte,Nat.reduceAdd])))
 (first|refine call_f (hc) rfl ?_|refine callQ_f (hc) rfl ?_|refine callHK_f (hc) rfl ?_|refine callH_f (hc) rfl ?_)
 (repeat (with_reducible first|refine W_seq fun K hK=>?_|refine J_ret ?_|refine J_region ?_ |refine J_c ?_|refine Jc_true ?_|(refine Kont.go (by assumption) ?_)|(simp (config:={ maxSteps:=3000000 }) (disch:=omega) only [go_sem,↓reduceIte,Nat.reduceAdd,he])))
 exact ⟨_,rfl,FrzL.fs [_,_]⟩
set_option maxRecDepth 100000 in
theorem rgivenV_w (h:NetOk k V P RR M) (v:Int) (he:netE (ordE P) V P M=0) (hv:v<0∨(V.length:Int)≤v):Good Tryz.prog 10 [netV V (P.map ints) RR,I v] (.tup [tab0,I 11]):=by
 have hc:=rnetCheck_w h
 rw [he] at hc
 refine good_of Tryz.func10 rfl (by kernel_rfl) fun X hO hrd=>?_;rw [Tryz.ntmps10,Tryz.results10];simp only [ast0,List.map_cons,List.map_nil,List.length_cons,List.length_nil,Nat.reduceAdd,Nat.reduceSub,List.replicate_succ,List.replicate_zero,List.cons_append,List.nil_append]
 (repeat (with_reducible first|refine W_seq fun K hK=>?_|refine J_region ?_ |(refine Kont.go (by assumption) ?_)|(simp (config:={ maxSteps:=3000000 }) (disch:=omega) only [go_sem,↓reduceIte,Nat.reduceAdd])))
 (first|refine call_f (hc) rfl ?_|refine callQ_f (hc) rfl ?_|refine callHK_f (hc) rfl ?_|refine callH_f (hc) rfl ?_)
 by_cases h0:v<0
 ·(repeat (with_reducible first|refine W_seq fun K hK=>?_|refine J_skip ?_|refine J_ret ?_|refine J_region ?_ |refine J_c ?_|refine Jc_true ?_|refine Jc_false ?_|(refine Kont.go (by assumption) ?_)|(simp (config:={ maxSteps:=3000000 }) (disch:=omega) only [go_sem,↓reduceIte,Nat.reduceAdd,h0])))
  exact ⟨_,rfl,FrzL.fs [_,_]⟩
 ·have h1:(V.length:Int)≤v:=by omega
  (repeat (with_reducible first|refine W_seq fun K hK=>?_|refine J_skip ?_|refine J_ret ?_|refine J_region ?_ |refine J_c ?_|refine Jc_true ?_|refine Jc_false ?_|(refine Kont.go (by assumption) ?_)|(simp (config:={ maxSteps:=3000000 }) (disch:=omega) only [go_sem,↓reduceIte,Nat.reduceAdd,h0,h1,List.length_map])))
  exact ⟨_,rfl,FrzL.fs [_,_]⟩
theorem fam_next {pa:List Nat} {v x:Nat}:famT (x+1) pa v=famT x pa v++if x∈pa∨x=v then [x] else []:=by
 unfold famT
 rw [uniT_next]
 simp only [List.mem_singleton]
set_option maxRecDepth 100000 in
set_option maxHeartbeats 8000000 in
theorem rgiven_w (h:NetOk k V P RR M) {v:Nat} (he:netE (ordE P) V P M=0) (hv:v<V.length):Good Tryz.prog 10 [netV V (P.map ints) RR,I (v:Int)] (.tup [tabV (famT (szN V).length (paN P v) v) ((givQ (szN V) (paN P v) v (M.getD v [])).map fr),I 0]):=by
 have hc:=rnetCheck_w h
 rw [he] at hc
 have hG:=netG he hv
 have hV:=h.lV
 have hsz:=rsizes_w V (P.map ints) RR hV
 have hT:=hG.ok
 have hpg:=hG.get
 have hvZ:v<(szN V).length:=by rw [szN_len];exact hv
 have hsrt:=fam_sort hT hvZ hG.out
 have hu:=hT.fam (v:=v)
 obtain ⟨xs,hr,hq⟩:=h.hM.at hG.ml
 have hql:=hG.len
 rw [lget_lt M [] hG.ml] at hql ⊢
 generalize M[v]'hG.ml=qs at hq hql
 have hfm:=fun w=>mem_famT (n:=(szN V).length) (pa:=paN P v) (v:=v) (u:=w)
 have hplt:=hT.lt
 have hpl:(givQ (szN V) (paN P v) v qs).length=cntS (szT (szN V)) (famT (szN V).length (paN P v) v):=tblS_len
 have hgx:∀x,x<cntS (szT (szN V)) (famT (szN V).length (paN P v) v)→(givQ (szN V) (paN P v) v qs)[x]?=some (rowG (szN V) (paN P v) v qs (asgS (szT (szN V)) (famT (szN V).length (paN P v) v) x)):=fun x hx=>tblS_get hx
 generalize hp:givQ (szN V) (paN P v) v qs=p at hpl hgx ⊢
 generalize hpae:paN P v=pa at *
 obtain ⟨u,hfe⟩:∃u,u=famT (szN V).length pa v:=⟨_,rfl⟩
 rw [←hfe] at hu hfm hpl hgx ⊢
 have hsp:∀{A:List Nat} {a:Nat→Nat} {g:Bool} {n d:ByteArray},A.length=V.length→(∀u,u<V.length→A.getD u 0=a u)→(∀w∈u,a w<szT (szN V) w)→xs[idxS (szT (szN V)) a (pa++[v])]?=some (frR g n d)→Good Tryz.prog 43 [netV V (P.map ints) RR,I (v:Int),.fz 1 (Ns A)] (frR g n d) :=
  fun h1 h2 h3 h4=>rowAt_w hT hv hpg hr h1 h2 (fun w hw=>h3 w ((hfm w).2 ⟨hplt w hw,.inl hw⟩)) (h3 v ((hfm v).2 ⟨hvZ,.inr rfl⟩)) h4
 have hul:=hu.len
 have huc:=hu.cnt
 have huc1:=hu.cnt1
 have hcn:=rcountT_w hu
 have hk:=h.kk
 have hvl:v<8:=by have:=hT.z8;omega
 obtain ⟨N,hN⟩:∃N,N=cntS (szT (szN V)) u:=⟨_,rfl⟩
 rw [←hN] at hpl huc huc1 hcn
 have hm8:=hT.z8
 have hpal:=hT.len
 have hZl:(szN V).length=V.length:=szN_len
 obtain ⟨m,hm⟩:∃m,m=(szN V).length:=⟨_,rfl⟩
 have hNl:(Ns (szN V)).length=m:=by rw [Ns_len,hm]
 have n1:¬((v:Nat):Int)<0:=by omega
 have n2:¬(V.length:Int)≤(v:Int):=by omega
 refine good_of Tryz.func10 rfl (by kernel_rfl) fun X hO hrd=>?_;rw [Tryz.ntmps10,Tryz.results10];simp only [ast0,List.map_cons,List.map_nil,List.length_cons,List.length_nil,Nat.reduceAdd,Nat.reduceSub,List.replicate_succ,List.replicate_zero,List.cons_append,List.nil_append]
 (repeat (with_reducible first|refine W_seq fun K hK=>?_|refine J_region ?_ |(refine Kont.go (by assumption) ?_)|(simp (config:={ maxSteps:=3000000 }) (disch:=omega) only [go_sem,↓reduceIte,Nat.reduceAdd])))
 (first|refine call_f (hc) rfl ?_|refine callQ_f (hc) rfl ?_|refine callHK_f (hc) rfl ?_|refine callH_f (hc) rfl ?_)
 (repeat (with_reducible first|refine W_seq fun K hK=>?_|refine J_skip ?_|refine J_region ?_ |refine J_c ?_|refine Jc_false ?_|(refine Kont.go (by assumption) ?_)|(simp (config:={ maxSteps:=3000000 }) (disch:=omega) only [go_sem,↓reduceIte,Nat.reduceAdd,n1,n2,List.length_map])))
 (first|refine call_f (hsz) rfl ?_|refine callQ_f (hsz) rfl ?_|refine callHK_f (hsz) rfl ?_|refine callH_f (hsz) rfl ?_)
 (repeat (with_reducible first|refine W_seq fun K hK=>?_|((fail_if_success refine J_region (id:=8) ?_);refine J_region ?_) |(refine Kont.go (by assumption) ?_)|(simp (config:={ maxSteps:=3000000 }) (disch:=omega) only [go_sem,↓reduceIte,Nat.reduceAdd])))
 refine J_reserve ?_
 simp only [go_sem]
 have h00:AV.f (.agg [.v (.slice none 0 0),.v (.slice none 0 0)])=vaA 3 (Ns (famT 0 pa v)):=rfl
 (repeat (with_reducible first|refine J_block ?_|refine J_region ?_ |(refine Kont.go (by assumption) ?_)|(simp (config:={ maxSteps:=3000000 }) (disch:=omega) only [go_sem])))
 refine J_mask [35] (by refine weak_of ?_ ?_<;>simp (disch:=omega) only [go_sem,Nat.reduceAdd]<;>first|rfl|exact ⟨rfl,rfl⟩|exact Or.inl rfl|exact ⟨Or.inl rfl,Or.inl rfl⟩|trivial|assumption|omega|(symm;assumption)|((repeat' apply And.intro)<;>first|rfl|omega|trivial|exact .inr ⟨rfl,rfl⟩|exact .inr rfl|(right;symm;assumption)|(symm;assumption)|assumption)) ?_;simp only [go_sem]
 refine W_loop [9,10,36,37,38,39,40,41,42,43,44,45,46,47,48,49,50,51,52,53,54,55,56,57,58,59,60] (fun x:Nat=>[(9,.f (I x))]) (fun x:Nat=>[oNt (V.map varF) (P.map ints) RR,oT tab0,some ⟨34,2,[vaA 3 (Ns (famT x pa v))]⟩,ob 3 1 (Ns (famT x pa v))]) (fun x:Nat=>x≤m) (fun x:Nat=>m-x) (0) (Nat.zero_le _) (by refine weak_of ?_ ?_<;>simp (disch:=omega) only [go_sem,Nat.reduceAdd]<;>first|rfl|exact ⟨rfl,rfl⟩|exact Or.inl rfl|exact ⟨Or.inl rfl,Or.inl rfl⟩|trivial|assumption|omega|(symm;assumption)|((repeat' apply And.intro)<;>first|rfl|omega|trivial|exact .inl rfl|exact .inr ⟨rfl,rfl⟩|exact .inr rfl|(right;symm;assumption)|(symm;assumption)|assumption)) ?_
 ·rintro x hx
  simp only [go_sem]
  (repeat (with_reducible first|refine W_seq fun K hK=>?_|refine J_region ?_ |refine J_c ?_|(refine Kont.go (by assumption) ?_)|(simp (config:={ maxSteps:=3000000 }) (disch:=omega) only [go_sem,hNl])))
  refine Jc_if (fun hxm=>?_) (fun hxm=>?_)<;>try simp only [decide_eq_true_eq,decide_eq_false_iff_not] at hxm
  ·have c1:=rinN_w x pa (by omega) (by omega)
   have hnx:=fam_next (x:=x) (pa:=pa) (v:=v)
   have hull:(famT x pa v).length≤x:=uniT_len
   have hno:∀(h:¬(x∈pa∨x=v)),famT (x+1) pa v=famT x pa v:=fun h=>by rw [hnx,if_neg h,List.append_nil]
   have hyes:∀(h:x∈pa∨x=v),Ns (famT x pa v)++[I (x:Int)]=Ns (famT (x+1) pa v):=fun h=>by rw [hnx,if_pos h,Ns_snoc]
   (repeat (with_reducible first|refine W_seq fun K hK=>?_|refine J_block ?_|refine J_skip ?_|refine J_region ?_ |(refine Kont.go (by assumption) ?_)|(simp (config:={ maxSteps:=3000000 }) (disch:=omega) only [go_sem,↓reduceIte,hpg])))
   (first|refine call_f (c1) rfl ?_|refine callQ_f (c1) rfl ?_|refine callHK_f (c1) rfl ?_|refine callH_f (c1) rfl ?_)
   by_cases hx0:x∈pa∨x=v
   ·have htk:=hyes hx0
    have hl1:(Ns (famT x pa v)).length≤x:=by rw [Ns_len];exact hull
    obtain ⟨T,hT'⟩:∃T,T=Ns (famT x pa v):=⟨_,rfl⟩
    rw [←hT'] at htk hl1 ⊢
    obtain ⟨T',hT''⟩:∃T',T'=Ns (famT (x+1) pa v):=⟨_,rfl⟩
    rw [←hT''] at htk
    by_cases hT0:T=[]
    ·subst hT0
     have e1:ob 3 1 ([]:List FV)=none:=rfl
     have e2:Ns (famT (x+1) pa v)=[I (x:Int)]:=by rw [←hT''];exact htk.symm
     have e3:ob 3 1 [I (x:Int)]=some ⟨3,1,[.f (I (x:Int))]⟩:=rfl
     have e4:vaA 3 [I (x:Int)]=.agg [.own 3 1 0 1,.f (.v (.slice none 0 0))]:=rfl
     rw [vaA_nil,e1]
     by_cases ha0:x∈pa
     ·rw [decide_eq_true ha0]
      (repeat (first|(with_reducible first|refine W_seq fun K hK=>?_|refine J_region ?_ |refine aApp_old ?_|refine J_c ?_|refine Jc_true ?_|(refine Kont.go (by assumption) ?_)|(simp (config:={ maxSteps:=3000000 }) (disch:=omega) only [go_sem,Nat.reduceEqDiff,↓reduceIte,Nat.reduceAdd,Nat.reduceLeDiff]))|refine And.intro (by omega) ?_))
      refine ⟨x+1,by omega,by omega,weak_ren [0,1,2,5] ⟨by decide,by first|decide|(simp;done)⟩ ?_ ?_⟩<;>(try simp (disch:=omega) only [go_sem,Nat.reduceAdd,e2,e3,e4,List.map_cons,List.map_nil])<;>(try first|done|omega|rfl|exact ⟨rfl,rfl⟩|trivial)
     ·have hxv:decide ((x:Int)=(v:Int))=true:=decide_eq_true (by rw [hx0.resolve_left ha0])
      rw [decide_eq_false ha0]
      (repeat (first|(with_reducible first|refine W_seq fun K hK=>?_|refine J_region ?_ |refine aApp_old ?_|refine J_c ?_|refine Jc_true ?_|(refine Kont.go (by assumption) ?_)|(simp (config:={ maxSteps:=3000000 }) (disch:=omega) only [go_sem,Nat.reduceEqDiff,↓reduceIte,Nat.reduceAdd,Nat.reduceLeDiff,hxv]))|refine And.intro (by omega) ?_))
      refine ⟨x+1,by omega,by omega,weak_ren [0,1,2,5] ⟨by decide,by first|decide|(simp;done)⟩ ?_ ?_⟩<;>(try simp (disch:=omega) only [go_sem,Nat.reduceAdd,e2,e3,e4,List.map_cons,List.map_nil])<;>(try first|done|omega|rfl|exact ⟨rfl,rfl⟩|trivial)
    ·have hne1:T'≠[]:=by rw [←htk];simp
     have hln1:T'.length=T.length+1:=by rw [←htk,List.length_append];rfl
     have e1:ob 3 1 T=some ⟨3,1,T.map .f⟩:=ob_pos hT0
     have e2:vaA 3 T=.agg [.own 3 1 0 T.length,.f (.v (.slice none 0 0))]:=vaA_pos hT0
     have e3:ob 3 1 (Ns (famT (x+1) pa v))=some ⟨3,1,T.map .f++[.f (I (x:Int))]⟩:=by rw [←hT'',ob_pos hne1,←htk,List.map_append];rfl
     have e4:vaA 3 (Ns (famT (x+1) pa v))=.agg [.own 3 1 0 (T.length+1),.f (.v (.slice none 0 0))]:=by rw [←hT'',vaA_pos hne1,hln1]
     have e5:(T.map AV.f).take T.length=T.map .f:=List.take_of_length_le (by rw [List.length_map];omega)
     have e6:(T.length+1)*8≤140737488355328:=by omega
     rw [e1,e2]
     by_cases ha0:x∈pa
     ·rw [decide_eq_true ha0]
      (repeat (first|(with_reducible first|refine W_seq fun K hK=>?_|refine J_region ?_ |refine aApp_old ?_|refine J_c ?_|refine Jc_true ?_|(refine Kont.go (by assumption) ?_)|(simp (config:={ maxSteps:=3000000 }) (disch:=omega) only [go_sem,Nat.reduceEqDiff,↓reduceIte,Nat.reduceAdd,Nat.reduceLeDiff,e5,e6,List.length_map]))|refine And.intro (by omega) ?_))
      refine ⟨x+1,by omega,by omega,weak_ren [0,1,2,5] ⟨by decide,by first|decide|(simp;done)⟩ ?_ ?_⟩<;>(try simp (disch:=omega) only [go_sem,Nat.reduceAdd,e3,e4,map_ren_f,List.map_append,List.map_cons,List.map_nil])<;>(try first|done|omega|rfl|exact ⟨rfl,rfl⟩|trivial)
     ·have hxv:decide ((x:Int)=(v:Int))=true:=decide_eq_true (by rw [hx0.resolve_left ha0])
      rw [decide_eq_false ha0]
      (repeat (first|(with_reducible first|refine W_seq fun K hK=>?_|refine J_region ?_ |refine aApp_old ?_|refine J_c ?_|refine Jc_true ?_|(refine Kont.go (by assumption) ?_)|(simp (config:={ maxSteps:=3000000 }) (disch:=omega) only [go_sem,Nat.reduceEqDiff,↓reduceIte,Nat.reduceAdd,Nat.reduceLeDiff,hxv,e5,e6,List.length_map]))|refine And.intro (by omega) ?_))
      refine ⟨x+1,by omega,by omega,weak_ren [0,1,2,5] ⟨by decide,by first|decide|(simp;done)⟩ ?_ ?_⟩<;>(try simp (disch:=omega) only [go_sem,Nat.reduceAdd,e3,e4,map_ren_f,List.map_append,List.map_cons,List.map_nil])<;>(try first|done|omega|rfl|exact ⟨rfl,rfl⟩|trivial)
   ·have hn:=hno hx0
    have hxv:decide ((x:Int)=(v:Int))=false:=decide_eq_false fun e=>hx0 (.inr (by omega))
    rw [decide_eq_false fun h=>hx0 (.inl h),←hn]
    (repeat (with_reducible first|refine W_seq fun K hK=>?_|refine J_skip ?_|refine J_region ?_ |refine J_c ?_|refine Jc_false ?_|(refine Kont.go (by assumption) ?_)|(simp (config:={ maxSteps:=3000000 }) (disch:=omega) only [go_sem,hxv])))
    refine ⟨x+1,by omega,by omega,weak_of ?_ ?_⟩<;>(try simp (disch:=omega) only [go_sem,Nat.reduceAdd,vaA_lt (show 3<4 by decide)])<;>(try first|done|omega|rfl|exact ⟨rfl,rfl⟩|trivial)
  ·have he':x=m:=by omega
   rw [he',hm,←hfe]
   have hu0:Ns u≠[]:=fun h=>by
    have:=congrArg List.length h
    rw [Ns_len] at this
    have h2:=List.length_pos_of_mem ((hfm v).2 ⟨hvZ,.inr rfl⟩)
    rw [this] at h2;exact absurd h2 (by decide)
   have e1:ob 3 1 (Ns u)=some ⟨3,1,(Ns u).map .f⟩:=ob_pos hu0
   rw [e1,vaA_pos hu0]
   refine J_freezeA (r:=3) (sz:=1) (e:=3) (l:=Ns u) (by rfl) ?_
   simp only [go_sem,Nat.reduceEqDiff]
   refine J_agg2 2 rfl ⟨rfl,rfl⟩ rfl ?_
   simp only [go_sem]
   refine J_reserve ?_
   simp only [go_sem]
   have h05:AV.f (.agg [.fz 1 (Ns u),.v (.slice none 0 0)])=tbA 4 (Ns u) ((p.take 0).map fr):=rfl
   (repeat (with_reducible first|refine W_seq fun K hK=>?_|refine J_exit ?_|refine J_region ?_ |(refine Kont.go (by assumption) ?_)|(simp (config:={ maxSteps:=3000000 }) (disch:=omega) only [go_sem,↓reduceIte])))
   (first|refine call_f (hcn) rfl ?_|refine callQ_f (hcn) rfl ?_|refine callHK_f (hcn) rfl ?_|refine callH_f (hcn) rfl ?_)
   (repeat (with_reducible first|refine W_seq fun K hK=>?_|refine J_block ?_|refine J_region ?_ |(refine Kont.go (by assumption) ?_)|(simp (config:={ maxSteps:=3000000 }) (disch:=omega) only [go_sem])))
   rw [h05]
   refine W_loop [13,14,15,16,68,69,70,71,72,73,74,75,76,77,78,79,80,81,82,83,84,85,86,87,88,89,90,91,92,93,94,95,96,97] (fun x:Nat=>[(13,.f (I x))]) (fun x:Nat=>[oNt (V.map varF) (P.map ints) RR,oT tab0,some ⟨34,2,[tbA 4 (Ns u) ((p.take x).map fr)]⟩,none,ob 39 3 ((p.take x).map fr)]) (fun x:Nat=>x≤N) (fun x:Nat=>N-x) (0) (Nat.zero_le _) (by refine weak_of ?_ ?_<;>simp (disch:=omega) only [go_sem,Nat.reduceAdd]<;>first|rfl|exact ⟨rfl,rfl⟩|exact Or.inl rfl|exact ⟨Or.inl rfl,Or.inl rfl⟩|trivial|assumption|omega|(symm;assumption)|((repeat' apply And.intro)<;>first|rfl|omega|trivial|exact .inl rfl|exact .inr ⟨rfl,rfl⟩|exact .inr rfl|(right;symm;assumption)|(symm;assumption)|assumption)) ?_
   rintro x hx
   simp only [go_sem]
   (repeat (with_reducible first|refine W_seq fun K hK=>?_|refine J_region ?_ |refine J_c ?_|(refine Kont.go (by assumption) ?_)|(simp (config:={ maxSteps:=3000000 }) (disch:=omega) only [go_sem])))
   refine Jc_if (fun hxN=>?_) (fun hxN=>?_)<;>try simp only [decide_eq_true_eq,decide_eq_false_iff_not] at hxN
   ·have hxu:x<cntS (szT (szN V)) u:=by omega
    have hua:∀w∈u,asgS (szT (szN V)) u x w<szT (szN V) w:=fun w hw=>asgS_lt hu.nd hu.pos hxu hw
    have hw:=rwhere_w hu hxu
    have hspr:=rspread_w (k:=x) hu
    have hpx:=hgx x hxu
    have ia:idxS (szT (szN V)) (asgS (szT (szN V)) u x) (pa++[v])<qs.length:=by
     rw [hql]
     exact row_lt (fun w hw=>hua w ((hfm w).2 ⟨hplt w hw,.inl hw⟩)) (hua v ((hfm v).2 ⟨hvZ,.inr rfl⟩))
    unfold rowG at hpx
    rw [lget_lt qs 0 ia] at hpx
    obtain ⟨g,n,d,x1,f1⟩:=hq.at3 ia
    have hra:=hsp (A:=spL (szN V) u x) (a:=asgS (szT (szN V)) u x) (by rw [spL_len,szN_len]) (fun w hw=>by
     unfold spL
     rw [lget_lt _ 0 (by rw [List.length_map,List.length_range,szN_len];exact hw),List.getElem_map,List.getElem_range]) hua x1
    generalize idxS (szT (szN V)) (asgS (szT (szN V)) u x) (pa++[v])=i at ia hpx f1
    have htk:=take_frs hpx
    obtain ⟨q,hqe⟩:∃q,q=qs[i]:=⟨_,rfl⟩
    have hqx:fr qs[i]=fr q:=by rw [hqe]
    rw [←hqe] at htk
    have hPl:((p.take x).map fr).length=x:=by rw [List.length_map,List.length_take];omega
    by_cases x0:x=0
    ·subst x0
     have e1:ob 39 3 ((p.take 0).map fr)=none:=rfl
     have e2:(p.take (0+1)).map fr=[fr q]:=htk.symm
     have e3:ob 39 3 [fr q]=some ⟨39,3,[.f (fr q)]⟩:=rfl
     have e4:tbA 4 (Ns u) [fr q]=.agg [.f (.fz 1 (Ns u)),.own 4 3 0 1]:=rfl
     rw [←h05,e1]
     (repeat (with_reducible first|refine W_seq fun K hK=>?_|refine J_block ?_|refine J_skip ?_|refine J_region ?_ |(refine Kont.go (by assumption) ?_)|(simp (config:={ maxSteps:=3000000 }) (disch:=omega) only [go_sem,↓reduceIte])))
     (first|refine call_f (hw) rfl ?_|refine callQ_f (hw) rfl ?_|refine callHK_f (hw) rfl ?_|refine callH_f (hw) rfl ?_)
     (repeat (with_reducible first|refine W_seq fun K hK=>?_|refine J_region ?_ |(refine Kont.go (by assumption) ?_)|(simp (config:={ maxSteps:=3000000 }) (disch:=omega) only [go_sem,↓reduceIte])))
     refine call_o hspr (FrzL.fs [_,_,_]) ?_
     (repeat (with_reducible first|refine W_seq fun K hK=>?_|refine J_region ?_ |(refine Kont.go (by assumption) ?_)|(simp (config:={ maxSteps:=3000000 }) (disch:=omega) only [go_sem,↓reduceIte,Nat.reduceAdd,Ns_len])))
     refine call_fl hra (flat_frR _ _ _) (FrzL.cons (.f _) (FrzL.cons (.f _) (FrzL.cons (Frz.own0 rfl Ns_len.symm) (FrzL.nil _)))) ?_
     (repeat (first|(with_reducible first|refine W_seq fun K hK=>?_|refine J_region ?_ |refine aApp_old ?_|(refine Kont.go (by assumption) ?_)|(simp (config:={ maxSteps:=3000000 }) (disch:=omega) only [go_sem,Nat.reduceEqDiff,↓reduceIte,Nat.reduceAdd,Nat.reduceLeDiff,Int.reduceAdd,hqx]))|refine call_f (rcanon_w (by assumption) (by omega)) rfl ?_|refine And.intro (by omega) ?_))
     refine ⟨0+1,by omega,by omega,weak_ren [0,1,2,3,8] ⟨by decide,by first|decide|(simp;done)⟩ ?_ ?_⟩<;>(try simp (disch:=omega) only [go_sem,Nat.reduceAdd,e2,e3,e4,List.map_cons,List.map_nil])<;>(try first|done|omega|rfl|exact ⟨rfl,rfl⟩|trivial)
    ·have hne:(p.take x).map fr≠[]:=fun h=>by have:=hPl;rw [h,List.length_nil] at this;omega
     have hne1:(p.take (x+1)).map fr≠[]:=by rw [←htk];simp
     have hln1:((p.take (x+1)).map fr).length=x+1:=by rw [←htk,List.length_append,hPl];rfl
     obtain ⟨T,hT⟩:∃T,T=(p.take x).map fr:=⟨_,rfl⟩
     rw [←hT] at hne hPl htk ⊢
     have e1:ob 39 3 T=some ⟨39,3,T.map .f⟩:=ob_pos hne
     have e2:tbA 4 (Ns u) T=.agg [.f (.fz 1 (Ns u)),.own 4 3 0 x]:=by rw [tbA_pos hne,hPl]
     have e3:ob 39 3 ((p.take (x+1)).map fr)=some ⟨39,3,T.map .f++[.f (fr q)]⟩:=by rw [ob_pos hne1,←htk,List.map_append];rfl
     have e4:tbA 4 (Ns u) ((p.take (x+1)).map fr)=.agg [.f (.fz 1 (Ns u)),.own 4 3 0 (x+1)]:=by rw [tbA_pos hne1,hln1]
     have e5:(T.map AV.f).take x=T.map .f:=List.take_of_length_le (by rw [List.length_map];omega)
     have e6:(x+1)*40≤140737488355328:=by omega
     rw [e1,e2]
     (repeat (with_reducible first|refine W_seq fun K hK=>?_|refine J_block ?_|refine J_skip ?_|refine J_region ?_ |(refine Kont.go (by assumption) ?_)|(simp (config:={ maxSteps:=3000000 }) (disch:=omega) only [go_sem,↓reduceIte])))
     (first|refine call_f (hw) rfl ?_|refine callQ_f (hw) rfl ?_|refine callHK_f (hw) rfl ?_|refine callH_f (hw) rfl ?_)
     (repeat (with_reducible first|refine W_seq fun K hK=>?_|refine J_region ?_ |(refine Kont.go (by assumption) ?_)|(simp (config:={ maxSteps:=3000000 }) (disch:=omega) only [go_sem,↓reduceIte])))
     refine call_o hspr (FrzL.fs [_,_,_]) ?_
     (repeat (with_reducible first|refine W_seq fun K hK=>?_|refine J_region ?_ |(refine Kont.go (by assumption) ?_)|(simp (config:={ maxSteps:=3000000 }) (disch:=omega) only [go_sem,↓reduceIte,Nat.reduceAdd,Ns_len])))
     refine call_fl hra (flat_frR _ _ _) (FrzL.cons (.f _) (FrzL.cons (.f _) (FrzL.cons (Frz.own0 rfl Ns_len.symm) (FrzL.nil _)))) ?_
     (repeat (first|(with_reducible first|refine W_seq fun K hK=>?_|refine J_region ?_ |refine aApp_old ?_|(refine Kont.go (by assumption) ?_)|(simp (config:={ maxSteps:=3000000 }) (disch:=omega) only [go_sem,Nat.reduceEqDiff,↓reduceIte,Nat.reduceAdd,Nat.reduceLeDiff,hqx,hPl,e5,e6,List.length_map]))|refine call_f (rcanon_w (by assumption) (by omega)) rfl ?_|refine And.intro (by omega) ?_))
     refine ⟨x+1,by omega,by omega,weak_ren [0,1,2,3,8] ⟨by decide,by first|decide|(simp;done)⟩ ?_ ?_⟩<;>(try simp (disch:=omega) only [go_sem,Nat.reduceAdd,e3,e4,map_ren_f,List.map_append,List.map_cons,List.map_nil])<;>(try first|done|omega|rfl|exact ⟨rfl,rfl⟩|trivial)
   ·have he':x=N:=by omega
    subst he'
    have hne:p.map fr≠[]:=fun h=>by have:=congrArg List.length h;rw [List.length_map,List.length_nil] at this;omega
    rw [List.take_of_length_le (by omega)]
    have e1:ob 39 3 (p.map fr)=some ⟨39,3,(p.map fr).map .f⟩:=ob_pos hne
    have e2:tbA 4 (Ns u) (p.map fr)=.agg [.f (.fz 1 (Ns u)),.own 4 3 0 (p.map fr).length]:=tbA_pos hne
    rw [e1,e2]
    (repeat (with_reducible first|refine W_seq fun K hK=>?_|refine J_exit ?_|refine J_ret ?_|refine J_region ?_ |(refine Kont.go (by assumption) ?_)|(simp (config:={ maxSteps:=3000000 }) (disch:=omega) only [go_sem,↓reduceIte,Nat.reduceAdd])))
    exact ⟨_,rfl,FrzL.cons (Frz.aggL (FrzL.cons (.f _) (FrzL.cons (Frz.own0 rfl (by rw [List.length_map])) (FrzL.nil _)))) (FrzL.cons (.f _) (FrzL.nil _))⟩
end
end Go.Proofs.YthehegidpamldaaGreatDoor
