/- Nets: net.Given: the table of a variable and what it hangs on: walked. Conditions: what may be; numbers of at most 10^7 bytes. -/
import Derived.Test.YthehegidpamldaaGreatDoorZB21
import Derived.Test.YthehegidpamldaaGreatDoorZB23
import Derived.Test.YthehegidpamldaaGreatDoorZB20
set_option linter.unusedVariables false
set_option linter.unusedSimpArgs false
namespace Go.Proofs.YthehegidpamldaaGreatDoor
open Go Go.RowKit
section
variable {k : Nat} {V : List VarD} {P : List (List Int)} {RR : List FV} {M : List (List Rat)}
set_option maxRecDepth 100000 in
theorem givenE_w (h:NetOk k V P RR M) (v:Int) (he:netE (ordE P) V P M≠0):Good Tryz.prog 9 [netV V (P.map ints) RR,I v] (.tup [tab0,I (netE (ordE P) V P M)]):=by
 have hc:=netCheck_w h
 refine good_of Tryz.func9 rfl (by kernel_rfl) fun X hO hrd=>?_;rw [Tryz.ntmps9,Tryz.results9];simp only [ast0,List.map_cons,List.map_nil,List.length_cons,List.length_nil,Nat.reduceAdd,Nat.reduceSub,List.replicate_succ,List.replicate_zero,List.cons_append,List.nil_append]
 (repeat (with_reducible first|refine W_seq fun K hK=>?_|refine J_region ?_|(refine Kont.go (by assumption) ?_)|(simp (config:={ maxSteps:=3000000 }) (disch:=omega) only [go_sem,↓reduceIte,Nat.reduceAdd])))
 (first|refine call_f (hc) rfl ?_|refine callQ_f (hc) rfl ?_|refine callHK_f (hc) rfl ?_|refine callH_f (hc) rfl ?_)
 (repeat (with_reducible first|refine W_seq fun K hK=>?_|refine J_ret ?_|refine J_region ?_|refine J_c ?_|refine Jc_true ?_|(refine Kont.go (by assumption) ?_)|(simp (config:={ maxSteps:=3000000 }) (disch:=omega) only [go_sem,↓reduceIte,Nat.reduceAdd,he])))
 exact ⟨_,rfl,FrzL.fs [_,_]⟩
set_option maxRecDepth 100000 in
theorem givenV_w (h:NetOk k V P RR M) (v:Int) (he:netE (ordE P) V P M=0) (hv:v<0∨(V.length:Int)≤v):Good Tryz.prog 9 [netV V (P.map ints) RR,I v] (.tup [tab0,I 11]):=by
 have hc:=netCheck_w h
 rw [he] at hc
 refine good_of Tryz.func9 rfl (by kernel_rfl) fun X hO hrd=>?_;rw [Tryz.ntmps9,Tryz.results9];simp only [ast0,List.map_cons,List.map_nil,List.length_cons,List.length_nil,Nat.reduceAdd,Nat.reduceSub,List.replicate_succ,List.replicate_zero,List.cons_append,List.nil_append]
 (repeat (with_reducible first|refine W_seq fun K hK=>?_|refine J_region ?_|(refine Kont.go (by assumption) ?_)|(simp (config:={ maxSteps:=3000000 }) (disch:=omega) only [go_sem,↓reduceIte,Nat.reduceAdd])))
 (first|refine call_f (hc) rfl ?_|refine callQ_f (hc) rfl ?_|refine callHK_f (hc) rfl ?_|refine callH_f (hc) rfl ?_)
 by_cases h0:v<0
 ·(repeat (with_reducible first|refine W_seq fun K hK=>?_|refine J_skip ?_|refine J_ret ?_|refine J_region ?_|refine J_c ?_|refine Jc_true ?_|refine Jc_false ?_|(refine Kont.go (by assumption) ?_)|(simp (config:={ maxSteps:=3000000 }) (disch:=omega) only [go_sem,↓reduceIte,Nat.reduceAdd,h0])))
  exact ⟨_,rfl,FrzL.fs [_,_]⟩
 ·have h1:(V.length:Int)≤v:=by omega
  (repeat (with_reducible first|refine W_seq fun K hK=>?_|refine J_skip ?_|refine J_ret ?_|refine J_region ?_|refine J_c ?_|refine Jc_true ?_|refine Jc_false ?_|(refine Kont.go (by assumption) ?_)|(simp (config:={ maxSteps:=3000000 }) (disch:=omega) only [go_sem,↓reduceIte,Nat.reduceAdd,h0,h1,List.length_map])))
  exact ⟨_,rfl,FrzL.fs [_,_]⟩
set_option maxRecDepth 100000 in
set_option maxHeartbeats 8000000 in
theorem given_w (h:NetOk k V P RR M) {v:Nat} (he:netE (ordE P) V P M=0) (hv:v<V.length):Good Tryz.prog 9 [netV V (P.map ints) RR,I (v:Int)] (.tup [tabV (famT (szN V).length (paN P v) v) ((givQ (szN V) (paN P v) v (M.getD v [])).map fr),I 0]):=by
 have hc:=netCheck_w h
 rw [he] at hc
 have hG:=netG he hv
 have hV:=h.lV
 have hsz:=sizes_w V (P.map ints) RR hV
 have hT:=hG.ok
 have hpg:=hG.get
 have hvZ:v<(szN V).length:=by rw [szN_len];exact hv
 have hsrt:=fam_sort hT hvZ hG.out
 have hu:=hT.fam (v:=v)
 obtain ⟨xs,hr,hq⟩:=h.hM.at hG.ml
 have hql:=hG.len
 rw [lget_lt M [] hG.ml] at hql ⊢
 generalize M[v]'hG.ml=qs at hq hql
 have hfm:=fun w=>mem_famT (n:=(szN V).length) (pa:=paN P v) (v:=v) (u:=w)
 have hplt:=hT.lt
 have hpl:(givQ (szN V) (paN P v) v qs).length=cntS (szT (szN V)) (famT (szN V).length (paN P v) v):=tblS_len
 have hgx:∀x,x<cntS (szT (szN V)) (famT (szN V).length (paN P v) v)→(givQ (szN V) (paN P v) v qs)[x]?=some (rowG (szN V) (paN P v) v qs (asgS (szT (szN V)) (famT (szN V).length (paN P v) v) x)):=fun x hx=>tblS_get hx
 generalize hp:givQ (szN V) (paN P v) v qs=p at hpl hgx ⊢
 generalize hfe:famT (szN V).length (paN P v) v=u at *
 generalize hpae:paN P v=pa at *
 have hsp:∀{A:List Nat} {a:Nat→Nat},A.length=u.length→(∀i,i<u.length→A.getD i 0=a (u.getD i 0))→(∀w∈u,a w<szT (szN V) w)→Good Tryz.prog 40 [netV V (P.map ints) RR,I (v:Int),.fz 1 (Ns u),.fz 1 (Ns A)] (I ((idxS (szT (szN V)) a (pa++[v]):Nat):Int)) :=
  fun h1 h2 h3=>spot_w hV hT hu hv hpg ((hfm v).2 ⟨hvZ,.inr rfl⟩) (fun w hw=>(hfm w).2 ⟨hplt w hw,.inl hw⟩) h1 h2 h3
 have hul:=hu.len
 have huc:=hu.cnt
 have huc1:=hu.cnt1
 have hcn:=tcountT_w hu
 have hk:=h.kk
 have hvl:v<8:=by have:=hT.z8;omega
 obtain ⟨N,hN⟩:∃N,N=cntS (szT (szN V)) u:=⟨_,rfl⟩
 rw [←hN] at hpl huc huc1 hcn
 have hpal:=hT.len
 obtain ⟨F,hF⟩:∃F:List Int,F=pa.map Int.ofNat++[(v:Int)]:=⟨_,rfl⟩
 have hFl:F.length=pa.length+1:=by rw [hF,List.length_append,List.length_map];rfl
 have hFI:Ns pa++[I (v:Int)]=F.map I:=by rw [hF,List.map_append];unfold Ns;rw [List.map_map];rfl
 rw [←hF] at hsrt
 have n1:¬((v:Nat):Int)<0:=by omega
 have n2:¬(V.length:Int)≤(v:Int):=by omega
 refine good_of Tryz.func9 rfl (by kernel_rfl) fun X hO hrd=>?_;rw [Tryz.ntmps9,Tryz.results9];simp only [ast0,List.map_cons,List.map_nil,List.length_cons,List.length_nil,Nat.reduceAdd,Nat.reduceSub,List.replicate_succ,List.replicate_zero,List.cons_append,List.nil_append]
 (repeat (with_reducible first|refine W_seq fun K hK=>?_|refine J_region ?_|(refine Kont.go (by assumption) ?_)|(simp (config:={ maxSteps:=3000000 }) (disch:=omega) only [go_sem,↓reduceIte,Nat.reduceAdd])))
 (first|refine call_f (hc) rfl ?_|refine callQ_f (hc) rfl ?_|refine callHK_f (hc) rfl ?_|refine callH_f (hc) rfl ?_)
 (repeat (with_reducible first|refine W_seq fun K hK=>?_|refine J_skip ?_|refine J_region ?_|refine J_c ?_|refine Jc_false ?_|(refine Kont.go (by assumption) ?_)|(simp (config:={ maxSteps:=3000000 }) (disch:=omega) only [go_sem,↓reduceIte,Nat.reduceAdd,n1,n2,List.length_map])))
 (first|refine call_f (hsz) rfl ?_|refine callQ_f (hsz) rfl ?_|refine callHK_f (hsz) rfl ?_|refine callH_f (hsz) rfl ?_)
 (repeat (with_reducible first|refine W_seq fun K hK=>?_|(refine Kont.go (by assumption) ?_)|(simp (config:={ maxSteps:=3000000 }) (disch:=omega) only [go_sem])))
 refine J_cutZ (by assumption) [8,33,34,35,36,37,38,39,40,41] (fun _:Unit=>[(8,.own 2 1 0 F.length)]) (fun _=>[oNt (V.map varF) (P.map ints) RR,oT tab0,some ⟨3,1,(F.map I).map .f⟩]) (fun _=>True) ?_ ?_
 ·cases pa with
  | nil =>
   have eF:F.map I=[I (v:Int)]:=hFI.symm
   have eL:F.length=1:=hFl
   have e0:Ns []=([]:List FV):=rfl
   rw [e0] at hpg
   (repeat (with_reducible first|refine J_region ?_|(simp (config:={ maxSteps:=3000000 }) (disch:=omega) only [go_sem,↓reduceIte,hpg])))
   refine call_uo (clone_e _) ?_
   rintro z H' (⟨rfl,rfl⟩|⟨rfl,rfl⟩)
   ·(repeat (first|(with_reducible first|refine aApp_old ?_|(simp (config:={ maxSteps:=3000000 }) (disch:=omega) only [go_sem,↓reduceIte,Nat.reduceAdd,Nat.reduceLeDiff]))|refine And.intro (by omega) ?_))
    refine weak_ren [0,1,3] ⟨by decide,by first|decide|(simp;done)⟩ ?_ ?_<;>(try simp (disch:=omega) only [go_sem,Nat.reduceAdd,eF,eL,List.map_cons,List.map_nil])<;>(try first|done|omega|rfl|exact ⟨rfl,rfl⟩|trivial)
   ·(repeat (first|(with_reducible first|refine aApp_old ?_|(simp (config:={ maxSteps:=3000000 }) (disch:=omega) only [go_sem,↓reduceIte,Nat.reduceAdd,Nat.reduceLeDiff]))|refine And.intro (by omega) ?_))
    refine weak_ren [0,1,4] ⟨by decide,by first|decide|(simp;done)⟩ ?_ ?_<;>(try simp (disch:=omega) only [go_sem,Nat.reduceAdd,eF,eL,List.map_cons,List.map_nil])<;>(try first|done|omega|rfl|exact ⟨rfl,rfl⟩|trivial)
  | cons w pa =>
   have hcl:=cloneZ_w (w:Int) (pa.map Int.ofNat) (by rw [List.length_map];have:=hpal;rw [List.length_cons] at this;omega)
   have e1:ints ((w:Int)::pa.map Int.ofNat)=.fz 1 (Ns (w::pa)):=ints_Ns (w::pa)
   have e2:((w:Int)::pa.map Int.ofNat).map I=Ns (w::pa):=by unfold Ns;rw [List.map_cons,List.map_cons,List.map_map];rfl
   rw [e1,e2] at hcl
   have eF:F.map I=Ns (w::pa)++[I (v:Int)]:=hFI.symm
   have eL:F.length=(w::pa).length+1:=hFl
   have hNl:(Ns (w::pa)).length=(w::pa).length:=Ns_len
   have hb:((w::pa).length+1)*8≤140737488355328:=by have:=hpal;omega
   generalize hPA:Ns (w::pa)=PA at *
   generalize (w::pa).length=m at *
   have e5:(PA.map AV.f).take m=PA.map .f:=List.take_of_length_le (by rw [List.length_map];omega)
   (repeat (with_reducible first|refine J_region ?_|(simp (config:={ maxSteps:=3000000 }) (disch:=omega) only [go_sem,↓reduceIte,hpg])))
   refine call_o hcl (FrzL.fs [_]) ?_
   (repeat (first|(with_reducible first|refine aApp_old ?_|(simp (config:={ maxSteps:=3000000 }) (disch:=omega) only [go_sem,↓reduceIte,Nat.reduceAdd,Nat.reduceLeDiff,hNl,hb,e5,List.length_map]))|refine And.intro (by omega) ?_))
   refine weak_ren [0,1,4] ⟨by decide,by first|decide|(simp;done)⟩ ?_ ?_<;>(try simp (disch:=omega) only [go_sem,Nat.reduceAdd,eF,eL,map_ren_f,List.map_append,List.map_cons,List.map_nil])<;>(try first|done|omega|rfl|exact ⟨rfl,rfl⟩|trivial)
 ·rintro _ _
  have hNu:(u.map Int.ofNat).map I=Ns u:=by unfold Ns;rw [List.map_map];rfl
  have hFu:F.length=(Ns u).length:=by
   have h1:(srtT F).length=F.length:=List.length_mergeSort F
   rw [hsrt,List.length_map] at h1
   rw [Ns_len];exact h1.symm
  simp only [go_sem]
  (repeat (with_reducible first|refine W_seq fun K hK=>?_|refine J_region ?_|(simp (config:={ maxSteps:=3000000 }) (disch:=omega) only [go_sem])))
  refine call_u (sortT_u (S:=u.map Int.ofNat) hsrt.symm rfl (by omega)) ?_
  (repeat (with_reducible first|refine W_seq fun K hK=>?_|(refine Kont.go (by assumption) ?_)|(simp (config:={ maxSteps:=3000000 }) (disch:=omega) only [go_sem])))
  simp only [hNu,hFu]
  refine J_freezeO (j:=8) rfl (by first|rfl|(simp;done)|(simp [*];done)) rfl ?_
  (repeat (with_reducible first|refine J_region ?_|(simp (config:={ maxSteps:=3000000 }) (disch:=omega) only [go_sem,Nat.reduceEqDiff,↓reduceIte])))
  (first|refine call_f (hcn) rfl ?_|refine callQ_f (hcn) rfl ?_|refine callHK_f (hcn) rfl ?_|refine callH_f (hcn) rfl ?_)
  (repeat (with_reducible first|refine W_seq fun K hK=>?_|((fail_if_success refine J_region (id:=11) ?_);refine J_region ?_)|(refine Kont.go (by assumption) ?_)|(simp (config:={ maxSteps:=3000000 }) (disch:=omega) only [go_sem,Nat.reduceEqDiff,↓reduceIte,Nat.reduceAdd,Nat.reduceLeDiff])))
  refine J_reserve ?_
  simp only [go_sem]
  have h00:AV.f (.agg [.fz 1 (Ns u),.v (.slice none 0 0)])=tbA 4 (Ns u) ((p.take 0).map fr):=rfl
  (repeat (with_reducible first|refine J_block ?_|refine J_region ?_|(refine Kont.go (by assumption) ?_)|(simp (config:={ maxSteps:=3000000 }) (disch:=omega) only [go_sem])))
  refine J_mask [51] (by refine weak_of ?_ ?_<;>simp (disch:=omega) only [go_sem,Nat.reduceAdd]<;>first|rfl|exact ⟨rfl,rfl⟩|exact Or.inl rfl|exact ⟨Or.inl rfl,Or.inl rfl⟩|trivial|assumption|omega|(symm;assumption)|((repeat' apply And.intro)<;>first|rfl|omega|trivial|exact .inr ⟨rfl,rfl⟩|exact .inr rfl|(right;symm;assumption)|(symm;assumption)|assumption)) ?_;simp only [go_sem]
  rw [h00]
  refine W_loop [12,13,14,53,54,55,56,57,58,59,60,61,62,63,64,65,66,67,68,69,70,71,72,73,74,75,76,77,78,79,80,81] (fun x:Nat=>[(53,.f (I x))]) (fun x:Nat=>[oNt (V.map varF) (P.map ints) RR,oT tab0,none,some ⟨34,2,[tbA 4 (Ns u) ((p.take x).map fr)]⟩,ob 39 3 ((p.take x).map fr)]) (fun x:Nat=>x≤N) (fun x:Nat=>N-x) (0) (Nat.zero_le _) (by refine weak_of ?_ ?_<;>simp (disch:=omega) only [go_sem,Nat.reduceAdd]<;>first|rfl|exact ⟨rfl,rfl⟩|exact Or.inl rfl|exact ⟨Or.inl rfl,Or.inl rfl⟩|trivial|assumption|omega|(symm;assumption)|((repeat' apply And.intro)<;>first|rfl|omega|trivial|exact .inl rfl|exact .inr ⟨rfl,rfl⟩|exact .inr rfl|(right;symm;assumption)|(symm;assumption)|assumption)) ?_
  rintro x hx
  simp only [go_sem]
  (repeat (with_reducible first|refine W_seq fun K hK=>?_|refine J_region ?_|refine J_c ?_|(refine Kont.go (by assumption) ?_)|(simp (config:={ maxSteps:=3000000 }) (disch:=omega) only [go_sem])))
  refine Jc_if (fun hxN=>?_) (fun hxN=>?_)<;>try simp only [decide_eq_true_eq,decide_eq_false_iff_not] at hxN
  ·have hxu:x<cntS (szT (szN V)) u:=by omega
   have hua:∀w∈u,asgS (szT (szN V)) u x w<szT (szN V) w:=fun w hw=>asgS_lt hu.nd hu.pos hxu hw
   have hw:=whereT_w hu hxu
   have hspx:=hsp (A:=asgL (szN V) u x) (a:=asgS (szT (szN V)) u x) asgL_len (fun i hi=>asgL_get hi) hua
   have hpx:=hgx x hxu
   have ia:idxS (szT (szN V)) (asgS (szT (szN V)) u x) (pa++[v])<qs.length:=by
    rw [hql]
    exact row_lt (fun w hw=>hua w ((hfm w).2 ⟨hplt w hw,.inl hw⟩)) (hua v ((hfm v).2 ⟨hvZ,.inr rfl⟩))
   unfold rowG at hpx
   rw [lget_lt qs 0 ia] at hpx
   generalize idxS (szT (szN V)) (asgS (szT (szN V)) u x) (pa++[v])=i at ia hspx hpx
   obtain ⟨g,n,d,x1,f1⟩:=hq.at3 ia
   have hxl:=hq.len
   have htk:=take_frs hpx
   obtain ⟨q,hqe⟩:∃q,q=qs[i]:=⟨_,rfl⟩
   have hqx:fr qs[i]=fr q:=by rw [hqe]
   rw [←hqe] at htk
   have hPl:((p.take x).map fr).length=x:=by rw [List.length_map,List.length_take];omega
   by_cases x0:x=0
   ·subst x0
    have e1:ob 39 3 ((p.take 0).map fr)=none:=rfl
    have e2:(p.take (0+1)).map fr=[fr q]:=htk.symm
    have e3:ob 39 3 [fr q]=some ⟨39,3,[.f (fr q)]⟩:=rfl
    have e4:tbA 4 (Ns u) [fr q]=.agg [.f (.fz 1 (Ns u)),.own 4 3 0 1]:=rfl
    rw [←h00,e1]
    (repeat (with_reducible first|refine W_seq fun K hK=>?_|refine J_block ?_|refine J_skip ?_|refine J_region ?_|(refine Kont.go (by assumption) ?_)|(simp (config:={ maxSteps:=3000000 }) (disch:=omega) only [go_sem])))
    (first|refine call_f (hw) rfl ?_|refine callQ_f (hw) rfl ?_|refine callHK_f (hw) rfl ?_|refine callH_f (hw) rfl ?_)
    (repeat (with_reducible first|refine J_orders (id:=15) [16] (.one 0 (.one 1 (.one 2 (.one 3 (.one 4 (.one 5 (.one 6 (.one 7 (.one 8 (.one 9 (.one 10 (.one 11 (.one 12 (.one 13 (.one 14 (.one 15 (.one 16 (.one 17 (.one 18 .leaf))))))))))))))))))) mixed (by kernel_rfl) ?_ |(refine Kont.go (by assumption) ?_)|(simp (config:={ maxSteps:=3000000 }) (disch:=omega) only [go_sem,Nat.reduceEqDiff,↓reduceIte,Nat.reduceAdd,Nat.reduceLeDiff,hr])))
    (first|refine call_f (hspx) rfl ?_|refine callQ_f (hspx) rfl ?_|refine callHK_f (hspx) rfl ?_|refine callH_f (hspx) rfl ?_)
    (repeat (first|(with_reducible first|refine J_region ?_|(refine Kont.go (by assumption) ?_)|(simp (config:={ maxSteps:=3000000 }) (disch:=omega) only [go_sem,↓reduceIte,Nat.reduceAdd,Nat.reduceLeDiff,Int.reduceAdd,x1,hqx]))|refine callQ_f (canon_w (by assumption) (by omega)) rfl ?_|refine And.intro (by omega) ?_))
    refine ⟨0+1,by omega,by omega,weak_ren [0,1,2,3,6] ⟨by decide,by first|decide|(simp;done)⟩ ?_ ?_⟩<;>(try simp (disch:=omega) only [go_sem,Nat.reduceAdd,e2,e3,e4,List.map_cons,List.map_nil])<;>(try first|done|omega|rfl|exact ⟨rfl,rfl⟩|trivial)
   ·have hne:(p.take x).map fr≠[]:=fun h=>by have:=hPl;rw [h,List.length_nil] at this;omega
    have hne1:(p.take (x+1)).map fr≠[]:=by rw [←htk];simp
    have hln1:((p.take (x+1)).map fr).length=x+1:=by rw [←htk,List.length_append,hPl];rfl
    obtain ⟨T,hT⟩:∃T,T=(p.take x).map fr:=⟨_,rfl⟩
    rw [←hT] at hne hPl htk ⊢
    have e1:ob 39 3 T=some ⟨39,3,T.map .f⟩:=ob_pos hne
    have e2:tbA 4 (Ns u) T=.agg [.f (.fz 1 (Ns u)),.own 4 3 0 x]:=by rw [tbA_pos hne,hPl]
    have e3:ob 39 3 ((p.take (x+1)).map fr)=some ⟨39,3,T.map .f++[.f (fr q)]⟩:=by rw [ob_pos hne1,←htk,List.map_append];rfl
    have e4:tbA 4 (Ns u) ((p.take (x+1)).map fr)=.agg [.f (.fz 1 (Ns u)),.own 4 3 0 (x+1)]:=by rw [tbA_pos hne1,hln1]
    have e5:(T.map AV.f).take x=T.map .f:=List.take_of_length_le (by rw [List.length_map];omega)
    have e6:(x+1)*40≤140737488355328:=by omega
    rw [e1,e2]
    (repeat (with_reducible first|refine W_seq fun K hK=>?_|refine J_block ?_|refine J_skip ?_|refine J_region ?_|(refine Kont.go (by assumption) ?_)|(simp (config:={ maxSteps:=3000000 }) (disch:=omega) only [go_sem])))
    (first|refine call_f (hw) rfl ?_|refine callQ_f (hw) rfl ?_|refine callHK_f (hw) rfl ?_|refine callH_f (hw) rfl ?_)
    (repeat (with_reducible first|refine J_orders (id:=15) [16] (.one 0 (.one 1 (.one 2 (.one 3 (.one 4 (.one 5 (.one 6 (.one 7 (.one 8 (.one 9 (.one 10 (.one 11 (.one 12 (.one 13 (.one 14 (.one 15 (.one 16 (.one 17 (.one 18 .leaf))))))))))))))))))) mixed (by kernel_rfl) ?_ |(refine Kont.go (by assumption) ?_)|(simp (config:={ maxSteps:=3000000 }) (disch:=omega) only [go_sem,Nat.reduceEqDiff,↓reduceIte,Nat.reduceAdd,Nat.reduceLeDiff,hr])))
    (first|refine call_f (hspx) rfl ?_|refine callQ_f (hspx) rfl ?_|refine callHK_f (hspx) rfl ?_|refine callH_f (hspx) rfl ?_)
    (repeat (first|(with_reducible first|refine J_region ?_|(refine Kont.go (by assumption) ?_)|(simp (config:={ maxSteps:=3000000 }) (disch:=omega) only [go_sem,↓reduceIte,Nat.reduceAdd,Nat.reduceLeDiff,x1,hqx,hPl,e5,e6]))|refine callQ_f (canon_w (by assumption) (by omega)) rfl ?_|refine And.intro (by omega) ?_))
    refine ⟨x+1,by omega,by omega,weak_ren [0,1,2,3,6] ⟨by decide,by first|decide|(simp;done)⟩ ?_ ?_⟩<;>(try simp (disch:=omega) only [go_sem,Nat.reduceAdd,e3,e4,map_ren_f,List.map_append,List.map_cons,List.map_nil])<;>(try first|done|omega|rfl|exact ⟨rfl,rfl⟩|trivial)
  ·have he:x=N:=by omega
   subst he
   have hne:p.map fr≠[]:=fun h=>by have:=congrArg List.length h;rw [List.length_map,List.length_nil] at this;omega
   rw [List.take_of_length_le (by omega)]
   have e1:ob 39 3 (p.map fr)=some ⟨39,3,(p.map fr).map .f⟩:=ob_pos hne
   have e2:tbA 4 (Ns u) (p.map fr)=.agg [.f (.fz 1 (Ns u)),.own 4 3 0 (p.map fr).length]:=tbA_pos hne
   rw [e1,e2]
   (repeat (with_reducible first|refine W_seq fun K hK=>?_|refine J_exit ?_|refine J_ret ?_|refine J_region ?_|(refine Kont.go (by assumption) ?_)|(simp (config:={ maxSteps:=3000000 }) (disch:=omega) only [go_sem,↓reduceIte,Nat.reduceAdd])))
   exact ⟨_,rfl,FrzL.cons (Frz.aggL (FrzL.cons (.f _) (FrzL.cons (Frz.own0 rfl (by rw [List.length_map])) (FrzL.nil _)))) (FrzL.cons (.f _) (FrzL.nil _))⟩
end
end Go.Proofs.YthehegidpamldaaGreatDoor
set_option linter.unusedVariables false
set_option linter.unusedSimpArgs false
namespace Go.Proofs.YthehegidpamldaaGreatDoor
open Go Go.RowKit
variable {k : Nat} {V : List VarD} {P : List (List Int)} {RR : List FV} {M : List (List Rat)}
set_option maxRecDepth 100000 in
set_option maxHeartbeats 8000000 in
theorem rnetCheck_w (h:NetOk k V P RR M):Good Tryz.prog 14 [netV V (P.map ints) RR] (I (netE (ordE P) V P M)):=by
 have hlV:=h.lV
 have hRM:=h.hM.len
 by_cases hPV:P.length=V.length
 rotate_left
 ·have e:netE (ordE P) V P M=8:=by unfold netE;rw [if_neg fun hh=>hPV hh.1]
  have hd:decide ((P.length:Int)=(V.length:Int))=false:=decide_eq_false (by omega)
  refine good_of Tryz.func14 rfl (by kernel_rfl) fun X hO hrd=>?_;rw [Tryz.ntmps14,Tryz.results14];simp only [ast0,List.map_cons,List.map_nil,List.length_cons,List.length_nil,Nat.reduceAdd,Nat.reduceSub,List.replicate_succ,List.replicate_zero,List.cons_append,List.nil_append]
  (repeat (with_reducible first|refine W_seq fun K hK=>?_|refine J_ret ?_|refine J_region ?_ |refine J_c ?_|refine Jc_true ?_|(refine Kont.go (by assumption) ?_)|(simp (config:={ maxSteps:=3000000 }) (disch:=omega) only [go_sem,↓reduceIte,Nat.reduceAdd,List.length_map,hd])))
  rw [e];exact Frz.f _
 have hd:decide ((P.length:Int)=(V.length:Int))=true:=decide_eq_true (by omega)
 by_cases hMV:M.length=V.length
 rotate_left
 ·have e:netE (ordE P) V P M=8:=by unfold netE;rw [if_neg fun hh=>hMV hh.2]
  have hd2:decide ((RR.length:Int)=(V.length:Int))=false:=decide_eq_false (by omega)
  refine good_of Tryz.func14 rfl (by kernel_rfl) fun X hO hrd=>?_;rw [Tryz.ntmps14,Tryz.results14];simp only [ast0,List.map_cons,List.map_nil,List.length_cons,List.length_nil,Nat.reduceAdd,Nat.reduceSub,List.replicate_succ,List.replicate_zero,List.cons_append,List.nil_append]
  (repeat (with_reducible first|refine W_seq fun K hK=>?_|refine J_ret ?_|refine J_region ?_ |refine J_c ?_|refine Jc_true ?_|(refine Kont.go (by assumption) ?_)|(simp (config:={ maxSteps:=3000000 }) (disch:=omega) only [go_sem,↓reduceIte,Nat.reduceAdd,List.length_map,hd,hd2])))
  rw [e];exact Frz.f _
 have hd2:decide ((RR.length:Int)=(V.length:Int))=true:=decide_eq_true (by omega)
 have hgc:=rcheck_w2 P h.hP
 have e1:netE (ordE P) V P M=if ordE P=0 then (if namesE (V.map Prod.fst)=0 then (if fe (varsE V) V.length=0 then fe (rowsE V P M) V.length else fe (varsE V) V.length) else namesE (V.map Prod.fst)) else ordE P:=by unfold netE;rw [if_pos ⟨hPV,hMV⟩]
 by_cases hE:ordE P=0
 rotate_left
 ·rw [if_neg hE] at e1
  have hd3:decide (ordE P=0)=false:=decide_eq_false hE
  refine good_of Tryz.func14 rfl (by kernel_rfl) fun X hO hrd=>?_;rw [Tryz.ntmps14,Tryz.results14];simp only [ast0,List.map_cons,List.map_nil,List.length_cons,List.length_nil,Nat.reduceAdd,Nat.reduceSub,List.replicate_succ,List.replicate_zero,List.cons_append,List.nil_append]
  (repeat (with_reducible first|refine W_seq fun K hK=>?_|refine J_skip ?_|refine J_region ?_ |refine J_c ?_|refine Jc_false ?_|(refine Kont.go (by assumption) ?_)|(simp (config:={ maxSteps:=3000000 }) (disch:=omega) only [go_sem,↓reduceIte,Nat.reduceAdd,List.length_map,hd,hd2])))
  (first|refine call_f (hgc) rfl ?_|refine callQ_f (hgc) rfl ?_|refine callHK_f (hgc) rfl ?_|refine callH_f (hgc) rfl ?_)
  (repeat (with_reducible first|refine W_seq fun K hK=>?_|refine J_ret ?_|refine J_region ?_ |refine J_c ?_|refine Jc_true ?_|(refine Kont.go (by assumption) ?_)|(simp (config:={ maxSteps:=3000000 }) (disch:=omega) only [go_sem,hd3])))
  rw [e1];exact Frz.f _
 rw [if_pos hE] at e1
 have hd3:decide (ordE P=0)=true:=decide_eq_true hE
 refine good_of Tryz.func14 rfl (by kernel_rfl) fun X hO hrd=>?_;rw [Tryz.ntmps14,Tryz.results14];simp only [ast0,List.map_cons,List.map_nil,List.length_cons,List.length_nil,Nat.reduceAdd,Nat.reduceSub,List.replicate_succ,List.replicate_zero,List.cons_append,List.nil_append]
 (repeat (with_reducible first|refine W_seq fun K hK=>?_|refine J_skip ?_|refine J_region ?_ |refine J_c ?_|refine Jc_false ?_|(refine Kont.go (by assumption) ?_)|(simp (config:={ maxSteps:=3000000 }) (disch:=omega) only [go_sem,↓reduceIte,Nat.reduceAdd,List.length_map,hd,hd2])))
 (first|refine call_f (hgc) rfl ?_|refine callQ_f (hgc) rfl ?_|refine callHK_f (hgc) rfl ?_|refine callH_f (hgc) rfl ?_)
 (repeat (with_reducible first|refine W_seq fun K hK=>?_|refine J_block ?_|refine J_skip ?_|refine J_region ?_ |refine J_c ?_|refine Jc_false ?_|(refine Kont.go (by assumption) ?_)|(simp (config:={ maxSteps:=3000000 }) (disch:=omega) only [go_sem,hd3])))
 refine J_reserve ?_
 refine W_loop [4,5,36,37,38,39,40,41,42,43,44,45,46,47,48,49,50,51] (fun x:Nat=>[(4,sl 1 1 (((V.take x).map Prod.fst).map St)),(5,.f (I x))]) (fun x:Nat=>[oNt (V.map varF) (P.map ints) RR,ob 9 1 (((V.take x).map Prod.fst).map St)]) (fun x:Nat=>x≤V.length) (fun x:Nat=>V.length-x) (0) (Nat.zero_le _) (by refine weak_of ?_ ?_<;>simp (disch:=omega) only [go_sem,Nat.reduceAdd]<;>first|rfl|exact ⟨rfl,rfl⟩|exact Or.inl rfl|exact ⟨Or.inl rfl,Or.inl rfl⟩|trivial|assumption|omega|(symm;assumption)|((repeat' apply And.intro)<;>first|rfl|omega|trivial|exact .inl rfl|exact .inr ⟨rfl,rfl⟩|exact .inr rfl|(right;symm;assumption)|(symm;assumption)|assumption)) ?_
 ·rintro x hx
  simp only [go_sem]
  (repeat (with_reducible first|refine W_seq fun K hK=>?_|refine J_region ?_ |refine J_c ?_|(refine Kont.go (by assumption) ?_)|(simp (config:={ maxSteps:=3000000 }) (disch:=omega) only [go_sem,↓reduceIte])))
  refine Jc_if (fun hxl=>?_) (fun hxl=>?_)<;>try simp only [decide_eq_true_eq,decide_eq_false_iff_not] at hxl
  ·have gx:=map_get varF V hxl
   have hs:=nm_take hxl
   have hl:(((V.take x).map Prod.fst).map St).length=x:=by rw [List.length_map,List.length_map,List.length_take];omega
   have hb:((V.take x).length+1)*16≤140737488355328:=by rw [List.length_take];omega
   have hvf:varF V[x]=.agg [St V[x].1,.fz 1 (V[x].2.map St)]:=rfl
   rw [hvf] at gx
   (repeat (first|(with_reducible first|refine W_seq fun K hK=>?_|refine J_block ?_|refine J_skip ?_|refine J_region ?_ |refine aApp_sl ?_|(refine Kont.go (by assumption) ?_)|(simp (config:={ maxSteps:=3000000 }) (disch:=omega) only [go_sem,Nat.reduceEqDiff,↓reduceIte,Nat.reduceAdd,Nat.reduceLeDiff,gx,List.length_map,hs,hb]))|refine And.intro (by omega) ?_))
   refine ⟨x+1,by omega,by omega,weak_of ?_ ?_⟩<;>(try simp (disch:=omega) only [go_sem,Nat.reduceAdd])<;>(try first|done|omega|rfl|exact ⟨rfl,rfl⟩|trivial)
  ·have he:x=V.length:=by omega
   subst he
   rw [List.take_length]
   (repeat (with_reducible first|refine W_seq fun K hK=>?_|refine J_exit ?_|(refine Kont.go (by assumption) ?_)|(simp (config:={ maxSteps:=3000000 }) (disch:=omega) only [go_sem,↓reduceIte])))
   refine J_freeze (j:=4) rfl rfl ?_
   have hnm:=namesOK_w (V.map Prod.fst) (by rw [List.length_map];exact hlV) (fun s hs=>by
    obtain ⟨x,hx,rfl⟩:=List.mem_map.1 hs
    exact h.nm x hx)
   (repeat (with_reducible first|refine J_region ?_ |(simp (config:={ maxSteps:=3000000 }) (disch:=omega) only [go_sem,Nat.reduceEqDiff,↓reduceIte])))
   (first|refine call_f (hnm) rfl ?_|refine callQ_f (hnm) rfl ?_|refine callHK_f (hnm) rfl ?_|refine callH_f (hnm) rfl ?_)
   by_cases hN:namesE (V.map Prod.fst)=0
   rotate_left
   ·rw [if_neg hN] at e1
    have hd4:decide (namesE (V.map Prod.fst)=0)=false:=decide_eq_false hN
    (repeat (with_reducible first|refine W_seq fun K hK=>?_|refine J_ret ?_|refine J_region ?_ |refine J_c ?_|refine Jc_true ?_|(refine Kont.go (by assumption) ?_)|(simp (config:={ maxSteps:=3000000 }) (disch:=omega) only [go_sem,hd4])))
    rw [e1];exact Frz.f _
   rw [if_pos hN] at e1
   have hd4:decide (namesE (V.map Prod.fst)=0)=true:=decide_eq_true hN
   (repeat (with_reducible first|refine W_seq fun K hK=>?_|refine J_block ?_|refine J_skip ?_|refine J_region ?_ |refine J_c ?_|refine Jc_false ?_|(refine Kont.go (by assumption) ?_)|(simp (config:={ maxSteps:=3000000 }) (disch:=omega) only [go_sem,hd4])))
   refine W_loop [2,3,6,7,57,58,59,60,61,62,63,64,65,66,67,68,69,70,71,72,73,74,75,76,77,78,79,80,81,82,83,84,85,86] (fun x:Nat=>[(6,.f (I x))]) (fun x:Nat=>[oNt (V.map varF) (P.map ints) RR,none]) (fun x:Nat=>x≤V.length∧fe (varsE V) x=0) (fun x:Nat=>V.length-x) (0) (⟨Nat.zero_le _,rfl⟩) (by refine weak_of ?_ ?_<;>simp (disch:=omega) only [go_sem,Nat.reduceAdd]<;>first|rfl|exact ⟨rfl,rfl⟩|exact Or.inl rfl|exact ⟨Or.inl rfl,Or.inl rfl⟩|trivial|assumption|omega|(symm;assumption)|((repeat' apply And.intro)<;>first|rfl|omega|trivial|exact .inl rfl|exact .inr ⟨rfl,rfl⟩|exact .inr rfl|(right;symm;assumption)|(symm;assumption)|assumption)) ?_
   rintro x ⟨hx,hf⟩
   simp only [go_sem]
   (repeat (with_reducible first|refine W_seq fun K hK=>?_|refine J_region ?_ |refine J_c ?_|(refine Kont.go (by assumption) ?_)|(simp (config:={ maxSteps:=3000000 }) (disch:=omega) only [go_sem,↓reduceIte])))
   refine Jc_if (fun hxl=>?_) (fun hxl=>?_)<;>try simp only [decide_eq_true_eq,decide_eq_false_iff_not] at hxl
   ·have gx:=map_get varF V hxl
    have hvf:varF V[x]=.agg [St V[x].1,.fz 1 (V[x].2.map St)]:=rfl
    have hm:=List.getElem_mem hxl
    rw [hvf] at gx
    have hvn:=namesOK_w V[x].2 (h.vl _ hm) (h.vs _ hm)
    have gv:=vars_get hxl
    have bad:∀e:Int,varE V[x]=e→e≠0→netE (ordE P) V P M=e:=fun e h1 h2=>by
     have h3:fe (varsE V) V.length=e:=by rw [fe_at hf (by rw [gv,h1];exact h2) hxl,gv,h1]
     rw [e1,h3,if_neg h2]
    by_cases hb1:V[x].2.length<1
    ·have e:=bad 2 (by unfold varE;rw [if_neg (by omega)]) (by decide)
     have hb:((V[x].2.length:Nat):Int)<1:=by omega
     (repeat (with_reducible first|refine W_seq fun K hK=>?_|refine J_block ?_|refine J_skip ?_|refine J_ret ?_|refine J_region ?_ |refine J_c ?_|refine Jc_true ?_|(refine Kont.go (by assumption) ?_)|(simp (config:={ maxSteps:=3000000 }) (disch:=omega) only [go_sem,↓reduceIte,gx,List.length_map,hb])))
     rw [e];exact Frz.f _
    have hb1':¬((V[x].2.length:Nat):Int)<1:=by omega
    by_cases hb4:4<V[x].2.length
    ·have e:=bad 2 (by unfold varE;rw [if_neg (by omega)]) (by decide)
     have hb:4<((V[x].2.length:Nat):Int):=by omega
     (repeat (with_reducible first|refine W_seq fun K hK=>?_|refine J_block ?_|refine J_skip ?_|refine J_ret ?_|refine J_region ?_ |refine J_c ?_|refine Jc_true ?_|(refine Kont.go (by assumption) ?_)|(simp (config:={ maxSteps:=3000000 }) (disch:=omega) only [go_sem,↓reduceIte,gx,List.length_map,hb1',hb])))
     rw [e];exact Frz.f _
    have hb4':¬4<((V[x].2.length:Nat):Int):=by omega
    have ev:varE V[x]=namesE V[x].2:=by unfold varE;rw [if_pos (by omega)]
    (repeat (with_reducible first|refine W_seq fun K hK=>?_|refine J_block ?_|refine J_skip ?_|refine J_region ?_ |refine J_c ?_|refine Jc_false ?_|(refine Kont.go (by assumption) ?_)|(simp (config:={ maxSteps:=3000000 }) (disch:=omega) only [go_sem,↓reduceIte,gx,List.length_map,hb1',hb4'])))
    (first|refine call_f (hvn) rfl ?_|refine callQ_f (hvn) rfl ?_|refine callHK_f (hvn) rfl ?_|refine callH_f (hvn) rfl ?_)
    by_cases hN2:namesE V[x].2=0
    ·have hd5:decide (namesE V[x].2=0)=true:=decide_eq_true hN2
     (repeat (with_reducible first|refine W_seq fun K hK=>?_|refine J_skip ?_|refine J_region ?_ |refine J_c ?_|refine Jc_false ?_|(refine Kont.go (by assumption) ?_)|(simp (config:={ maxSteps:=3000000 }) (disch:=omega) only [go_sem,hd5])))
     refine ⟨x+1,⟨by omega,by rw [fe_next hf,gv,ev];exact hN2⟩,by omega,weak_of ?_ ?_⟩<;>(try simp (disch:=omega) only [go_sem,Nat.reduceAdd])<;>(try first|done|omega|rfl|exact ⟨rfl,rfl⟩|trivial)
    ·have hd5:decide (namesE V[x].2=0)=false:=decide_eq_false hN2
     have e:=bad _ ev hN2
     (repeat (with_reducible first|refine W_seq fun K hK=>?_|refine J_ret ?_|refine J_region ?_ |refine J_c ?_|refine Jc_true ?_|(refine Kont.go (by assumption) ?_)|(simp (config:={ maxSteps:=3000000 }) (disch:=omega) only [go_sem,hd5])))
     rw [e];exact Frz.f _
   ·have he:x=V.length:=by omega
    subst he
    rw [if_pos hf] at e1
    (repeat (with_reducible first|refine W_seq fun K hK=>?_|refine J_exit ?_|refine J_region ?_ |(refine Kont.go (by assumption) ?_)|(simp (config:={ maxSteps:=3000000 }) (disch:=omega) only [go_sem,↓reduceIte,Nat.reduceAdd])))
    (first|refine call_f (rsizes_w V (P.map ints) RR hlV) rfl ?_|refine callQ_f (rsizes_w V (P.map ints) RR hlV) rfl ?_|refine callHK_f (rsizes_w V (P.map ints) RR hlV) rfl ?_|refine callH_f (rsizes_w V (P.map ints) RR hlV) rfl ?_)
    (repeat (with_reducible first|refine W_seq fun K hK=>?_|refine J_block ?_|refine J_region ?_ |(refine Kont.go (by assumption) ?_)|(simp (config:={ maxSteps:=3000000 }) (disch:=omega) only [go_sem])))
    refine W_loop [2,9,10,11,12,13,89,90,91,92,93,94,95,96,97,98,99,100,101,102,103,104,105,106,107,108,109,110,111,112,113,114,115,116,117,118,119,120,121,122,123,124,125,126,127,128,129,130,131,132,133,134,135,136,137,138,139,140,141,142,143,144,145] (fun y:Nat=>[(9,.f (I y))]) (fun y:Nat=>[oNt (V.map varF) (P.map ints) RR,none]) (fun y:Nat=>y≤V.length∧fe (rowsE V P M) y=0) (fun y:Nat=>V.length-y) (0) (⟨Nat.zero_le _,rfl⟩) (by refine weak_of ?_ ?_<;>simp (disch:=omega) only [go_sem,Nat.reduceAdd]<;>first|rfl|exact ⟨rfl,rfl⟩|exact Or.inl rfl|exact ⟨Or.inl rfl,Or.inl rfl⟩|trivial|assumption|omega|(symm;assumption)|((repeat' apply And.intro)<;>first|rfl|omega|trivial|exact .inl rfl|exact .inr ⟨rfl,rfl⟩|exact .inr rfl|(right;symm;assumption)|(symm;assumption)|assumption)) ?_
    rintro y ⟨hy,hfy⟩
    simp only [go_sem]
    (repeat (with_reducible first|refine W_seq fun K hK=>?_|refine J_region ?_ |refine J_c ?_|(refine Kont.go (by assumption) ?_)|(simp (config:={ maxSteps:=3000000 }) (disch:=omega) only [go_sem,↓reduceIte,List.length_map])))
    refine Jc_if (fun hyl=>?_) (fun hyl=>?_)<;>try simp only [decide_eq_true_eq,decide_eq_false_iff_not] at hyl
    ·obtain ⟨hT,hp⟩:=net_okT hE hPV hf hyl
     obtain ⟨xs,hr,hq⟩:=h.hM.at (i:=y) (by omega)
     have er:rowsE V P M y=rowQ (szN V) (paN P y) (szT (szN V) y) M[y]:=by unfold rowsE;rw [lget_lt M _ (by omega)]
     have hct:=rcountT_w hT
     have hc:=hT.cnt
     have hlen:=hq.len
     have hvs:y<(szN V).length:=by rw [szN_len];exact hyl
     have hs4:=hT.sz4 hvs
     have hs1:=hT.szp hvs
     have hsg:(Ns (szN V))[y]?=some (I ((szT (szN V) y:Nat):Int)):=by unfold szT;exact Ns_get (by exact hvs)
     have hgen:∃e,e=rowsE V P M y:=⟨_,rfl⟩
     generalize hS:szT (szN V) y=S at *
     generalize hC:cntS (szT (szN V)) (paN P y)=C at *
     generalize hqs:M[y]=qs at *
     have hCS:C*S≤65536*4:=Nat.mul_le_mul hc hs4
     have hw:IntKind.i64.wrap ((C:Int)*(S:Int))=((C*S:Nat):Int):=by rw [IntKind.wrap_i64,←Int.natCast_mul];omega
     (repeat (with_reducible first|refine W_seq fun K hK=>?_|refine J_block ?_|refine J_skip ?_|refine J_region ?_ |(refine Kont.go (by assumption) ?_)|(simp (config:={ maxSteps:=3000000 }) (disch:=omega) only [go_sem,↓reduceIte,hp])))
     (first|refine call_f (hct) rfl ?_|refine callQ_f (hct) rfl ?_|refine callHK_f (hct) rfl ?_|refine callH_f (hct) rfl ?_)
     by_cases hl:qs.length=C*S
     rotate_left
     ·have hd:decide ((qs.length:Int)=((C*S:Nat):Int))=false:=decide_eq_false (by omega)
      have e8:rowsE V P M y=8:=by rw [er];unfold rowQ;rw [hC,if_neg hl]
      have e:netE (ordE P) V P M=8:=by rw [e1,fe_at hfy (by rw [e8];decide) hyl,e8]
      (repeat (with_reducible first|refine W_seq fun K hK=>?_|refine J_ret ?_|refine J_region ?_ |refine J_drawn mixed (by kernel_rfl) ?_|refine J_c ?_|refine Jc_true ?_|(refine Kont.go (by assumption) ?_)|(simp (config:={ maxSteps:=3000000 }) (disch:=omega) only [go_sem,↓reduceIte,hr,hsg,hlen,hw,hd])))
      rw [e];exact Frz.f _
     have hd:decide ((qs.length:Int)=((C*S:Nat):Int))=true:=decide_eq_true (by omega)
     have hx:xs.length=C*S:=by rw [hlen];exact hl
     (repeat (with_reducible first|refine W_seq fun K hK=>?_|refine J_block ?_|refine J_skip ?_|refine J_region ?_ |refine J_drawn mixed (by kernel_rfl) ?_|refine J_c ?_|refine Jc_false ?_|(refine Kont.go (by assumption) ?_)|(simp (config:={ maxSteps:=3000000 }) (disch:=omega) only [go_sem,↓reduceIte,hr,hsg,hlen,hw,hd])))
     refine W_loop [2,12,13,119,120,121,122,123,124,125,126,127,128,129,130,131,132,133,134,135,136,137,138,139,140,141,142,143,144,145] (fun i:Nat=>[(12,.f (I i))]) (fun i:Nat=>[oNt (V.map varF) (P.map ints) RR,none]) (fun i:Nat=>i≤C∧∀j,j<i→chancesB (rwQ qs S j)=true) (fun i:Nat=>C-i) (0) (⟨Nat.zero_le _,fun j h=>by omega⟩) (by refine weak_of ?_ ?_<;>simp (disch:=omega) only [go_sem,Nat.reduceAdd]<;>first|rfl|exact ⟨rfl,rfl⟩|exact Or.inl rfl|exact ⟨Or.inl rfl,Or.inl rfl⟩|trivial|assumption|omega|(symm;assumption)|((repeat' apply And.intro)<;>first|rfl|omega|trivial|exact .inl rfl|exact .inr ⟨rfl,rfl⟩|exact .inr rfl|(right;symm;assumption)|(symm;assumption)|assumption)) ?_
     rintro i ⟨hi,hI⟩
     simp only [go_sem]
     (repeat (with_reducible first|refine W_seq fun K hK=>?_|refine J_region ?_ |refine J_c ?_|(refine Kont.go (by assumption) ?_)|(simp (config:={ maxSteps:=3000000 }) (disch:=omega) only [go_sem])))
     refine Jc_if (fun hic=>?_) (fun hic=>?_)<;>try simp only [decide_eq_true_eq,decide_eq_false_iff_not] at hic
     ·have hch:=rchances_w (hq.piece (i*S) S) h.k1 (by rw [List.length_take];omega) h.kk
      have hiS:i*S+S≤C*S:=by have:=Nat.mul_le_mul_right S (show i+1≤C by omega);rw [Nat.add_mul,Nat.one_mul] at this;exact this
      have hw1:IntKind.i64.wrap ((i:Int)*(S:Int))=((i*S:Nat):Int):=by rw [IntKind.wrap_i64,←Int.natCast_mul];omega
      have hw2:IntKind.i64.wrap (((i:Int)+1)*(S:Int))=((i*S+S:Nat):Int):=by rw [IntKind.wrap_i64,Int.add_mul,Int.one_mul,←Int.natCast_mul,←Int.natCast_add];omega
      have hw3:(((i*S+S:Nat):Int)-((i*S:Nat):Int)).toNat=S:=by omega
      (repeat (first|(with_reducible first|refine W_seq fun K hK=>?_|refine J_block ?_|refine J_skip ?_|refine J_drawn mixed (by kernel_rfl) ?_|(refine Kont.go (by assumption) ?_)|(simp (config:={ maxSteps:=3000000 }) (disch:=omega) only [go_sem,↓reduceIte,hr,hsg,hlen,hw1,hw2,hw3]))|refine And.intro (by omega) ?_))
      (first|refine call_f (hch) rfl ?_|refine callQ_f (hch) rfl ?_|refine callHK_f (hch) rfl ?_|refine callH_f (hch) rfl ?_)
      cases hb:chancesB (rwQ qs S i) with
      | true =>
       have hb':chancesB ((qs.drop (i*S)).take S)=true:=hb
       (repeat (with_reducible first|refine W_seq fun K hK=>?_|refine J_skip ?_|refine J_region ?_ |refine J_c ?_|refine Jc_false ?_|(refine Kont.go (by assumption) ?_)|(simp (config:={ maxSteps:=3000000 }) (disch:=omega) only [go_sem,hb'])))
       refine ⟨i+1,⟨by omega,upto_next (p:=fun j=>chancesB (rwQ qs S j)=true) hI hb⟩,by omega,weak_of ?_ ?_⟩<;>(try simp (disch:=omega) only [go_sem,Nat.reduceAdd])<;>(try first|done|omega|rfl|exact ⟨rfl,rfl⟩|trivial)
      | false =>
       have hb':chancesB ((qs.drop (i*S)).take S)=false:=hb
       have e9:rowsE V P M y=9:=by
        rw [er];unfold rowQ;rw [hC,if_pos hl,if_neg]
        intro h
        have:=List.all_eq_true.1 h i (List.mem_range.2 hic)
        rw [hb] at this;cases this
       have e:netE (ordE P) V P M=9:=by rw [e1,fe_at hfy (by rw [e9];decide) hyl,e9]
       (repeat (with_reducible first|refine W_seq fun K hK=>?_|refine J_ret ?_|refine J_region ?_ |refine J_c ?_|refine Jc_true ?_|(refine Kont.go (by assumption) ?_)|(simp (config:={ maxSteps:=3000000 }) (disch:=omega) only [go_sem,hb'])))
       rw [e];exact Frz.f _
     ·have he:i=C:=by omega
      subst he
      have e0:rowsE V P M y=0:=by
       rw [er];unfold rowQ;rw [hC,if_pos hl,if_pos]
       exact List.all_eq_true.2 fun j hj=>hI j (List.mem_range.1 hj)
      (repeat (with_reducible first|refine J_exit ?_|refine J_region ?_ |(refine Kont.go (by assumption) ?_)|(simp (config:={ maxSteps:=3000000 }) (disch:=omega) only [go_sem,↓reduceIte])))
      refine ⟨y+1,⟨by omega,by rw [fe_next hfy];exact e0⟩,by omega,weak_of ?_ ?_⟩<;>(try simp (disch:=omega) only [go_sem,Nat.reduceAdd])<;>(try first|done|omega|rfl|exact ⟨rfl,rfl⟩|trivial)
    ·have he:y=V.length:=by omega
     subst he
     rw [hfy] at e1
     (repeat (with_reducible first|refine W_seq fun K hK=>?_|refine J_exit ?_|refine J_ret ?_|refine J_region ?_ |(refine Kont.go (by assumption) ?_)|(simp (config:={ maxSteps:=3000000 }) (disch:=omega) only [go_sem,↓reduceIte])))
     rw [e1];exact Frz.f _
end Go.Proofs.YthehegidpamldaaGreatDoor
set_option linter.unusedVariables false
set_option linter.unusedSimpArgs false
namespace Go.Proofs.YthehegidpamldaaGreatDoor
open Go Go.RowKit
def vaA (r:Nat) (P:List FV):AV:=if P=[] then .f (.agg [.v (.slice none 0 0),.v (.slice none 0 0)]) else .agg [.own r 1 0 P.length,.f (.v (.slice none 0 0))]
theorem vaA_nil {r:Nat}:vaA r []=.f (.agg [.v (.slice none 0 0),.v (.slice none 0 0)]):=rfl
theorem vaA_pos {r:Nat} {P:List FV} (h:P≠[]):vaA r P=.agg [.own r 1 0 P.length,.f (.v (.slice none 0 0))]:=if_neg h
theorem vaA_lt {r N:Nat} {P:List FV} (h:r<N):AV.lt0 N (vaA r P)=true:=by
 unfold vaA
 split
 ·rfl
 ·show (decide (r<N)&&true)=true;rw [decide_eq_true h];rfl
theorem flat_frR (g:Bool) (n d:ByteArray):FlatF (frR g n d):=.agg _ fun j c h=>by
 match j with
 | 0=>cases h;exact .v _
 | 1=>cases h;exact .v _
 | 2=>cases h;exact .v _
 | j+3=>simp at h
theorem uniT_next {x:Nat} {la lb:List Nat}:uniT (x+1) la lb=uniT x la lb++if x∈la∨x∈lb then [x] else []:=by
 unfold uniT
 rw [List.range_succ,List.filter_append]
 by_cases h:x∈la∨x∈lb
 ·rw [if_pos h];simp [h]
 ·rw [if_neg h];congr 1;simp only [List.filter_cons,decide_eq_false h];rfl
theorem uniT_len {x:Nat} {la lb:List Nat}:(uniT x la lb).length≤x:=by
 unfold uniT;exact Nat.le_trans (List.length_filter_le _ _) (by rw [List.length_range];exact Nat.le_refl _)
end Go.Proofs.YthehegidpamldaaGreatDoor
