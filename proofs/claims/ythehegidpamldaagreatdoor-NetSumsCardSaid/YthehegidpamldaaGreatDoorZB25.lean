/- Tables: the document's Out: walked. Conditions: what may be; numbers of at most 100000 bytes. -/
import Derived.Test.YthehegidpamldaaGreatDoorZB24
import Derived.Test.YthehegidpamldaaGreatDoorZB13
import Derived.Test.YthehegidpamldaaGreatDoorZMadW
import Derived.SevenTiedAt
set_option linter.unusedVariables false
set_option linter.unusedSimpArgs false
namespace Go.Proofs.YthehegidpamldaaGreatDoor
open Go Go.RowKit
theorem tbA_lt {r N:Nat} {l P:List FV} (h:r<N):AV.lt0 N (tbA r l P)=true:=by
 unfold tbA
 split
 ·rfl
 ·show (true&&(decide (r<N)&&true))=true;rw [decide_eq_true h];rfl
theorem tbA_c0 {r:Nat} {l P:List FV}:(tbA r l P).cells[0]?=some (.f (.fz 1 l)):=by
 unfold tbA
 split<;>rfl
theorem outT_get {op:Rat→Rat→Rat} {Z l:List Nat} {v i:Nat} {qs:List Rat} (hi:i<cntS (szT Z) (lessT l v)):(outT op Z l v qs)[i]?=some (outF op (szT Z v-1) v (tblG Z l qs) (asgS (szT Z) (lessT l v) i)):=tblS_get hi
theorem upd_set {a:Nat→Nat} {v x y n:Nat} (hv:v<n):((List.range n).map (updS a v x)).set v y=(List.range n).map (updS a v y):=by
 rw [range_set hv]
 refine List.map_congr_left fun w _=>?_
 by_cases e:w=v
 ·rw [if_pos e,e,updS_self]
 ·rw [if_neg e,updS_ne e,updS_ne e]
theorem upd_zero {a:Nat→Nat} {v:Nat} (h:a v=0):updS a v 0=a:=funext fun w=>by
 by_cases e:w=v
 ·rw [e,updS_self,h]
 ·rw [updS_ne e]
set_option maxRecDepth 100000 in
set_option maxHeartbeats 8000000 in
theorem rout_w {k:Nat} {Z l:List Nat} {xs:List FV} {qs:List Rat} (h:TbOk k Z l xs qs) (h1:8≤k) (hk:k≤100000) {v:Nat} (hv:v∈l) (most:Bool) :
  Good Tryz.prog 27 [.fz 1 (Ns Z),tabV l xs,I (v:Int),Bo most] (.tup [tabV (lessT l v) ((outT (opT most) Z l v qs).map fr),I 0]):=by
 have hl8:=h.ok.len
 have hz8:=h.ok.z8
 have hvl:=h.ok.lt v hv
 have hcx:=h.ok.cnt
 have hml:=h.ok.less (v:=v)
 have hck:=rtcheck_w h
 have hin:=rinN_w v l (by omega) (by omega)
 rw [decide_eq_true hv] at hin
 have hwo:=rwithout_w l v (by omega) (fun w hw=>by have:=h.ok.lt w hw;omega)
 have hrc:=rcountT_w hml
 have hpg:=fun x hx=>outT_get (op:=opT most) (Z:=Z) (l:=l) (v:=v) (i:=x) (qs:=qs) hx
 have hpl:=outT_len (op:=opT most) (Z:=Z) (l:=l) (v:=v) (qs:=qs)
 have huc:=hml.cnt
 have huc1:=hml.cnt1
 have hvm:v∉lessT l v:=fun h=>(mem_lessT.1 h).2 rfl
 have hrow:=h.fr.row (by omega)
 have hs1:=h.ok.szp hvl
 have hs4:=h.ok.sz4 hvl
 have gz:=Ns_get (l:=Z) hvl
 have hsz:Z.getD v 0=szT Z v:=rfl
 rw [hsz] at gz
 obtain ⟨sv,hsv⟩:∃sv,sv=szT Z v:=⟨_,rfl⟩
 rw [←hsv] at gz hs1 hs4 hpg
 obtain ⟨p,hpe⟩:∃p,p=outT (opT most) Z l v qs:=⟨_,rfl⟩
 rw [←hpe] at hpg hpl ⊢
 have hmm:=fun w=>mem_lessT (l:=l) (u:=w) (v:=v)
 have hupd:=fun (a:Nat→Nat) ha (x:Nat) hx=>upd_lt (Z:=Z) (l:=l) (v:=v) (a:=a) ha (x:=x) hx
 obtain ⟨m,hm⟩:∃m,m=lessT l v:=⟨_,rfl⟩
 rw [←hm] at hml hwo hrc huc huc1 hvm hpg hpl hmm hupd ⊢
 obtain ⟨N,hN⟩:∃N,N=cntS (szT Z) m:=⟨_,rfl⟩
 rw [←hN] at hrc huc huc1 hpg hpl
 refine good_of Tryz.func27 rfl (by kernel_rfl) fun X hO hrd=>?_;rw [Tryz.ntmps27,Tryz.results27];simp only [ast0,List.map_cons,List.map_nil,List.length_cons,List.length_nil,Nat.reduceAdd,Nat.reduceSub,List.replicate_succ,List.replicate_zero,List.cons_append,List.nil_append]
 (repeat (with_reducible first|refine W_seq fun K hK=>?_|refine J_region ?_ |(refine Kont.go (by assumption) ?_)|(simp (config:={ maxSteps:=3000000 }) (disch:=omega) only [go_sem,↓reduceIte,Nat.reduceAdd])))
 (first|refine call_f (hck) rfl ?_|refine callQ_f (hck) rfl ?_|refine callHK_f (hck) rfl ?_|refine callH_f (hck) rfl ?_)
 (repeat (with_reducible first|refine W_seq fun K hK=>?_|refine J_skip ?_|refine J_region ?_ |refine J_c ?_|refine Jc_false ?_|(refine Kont.go (by assumption) ?_)|(simp (config:={ maxSteps:=3000000 }) (disch:=omega) only [go_sem,↓reduceIte])))
 (first|refine call_f (hin) rfl ?_|refine callQ_f (hin) rfl ?_|refine callHK_f (hin) rfl ?_|refine callH_f (hin) rfl ?_)
 (repeat (with_reducible first|refine W_seq fun K hK=>?_|refine J_skip ?_|refine J_region ?_ |refine J_c ?_|refine Jc_false ?_|(refine Kont.go (by assumption) ?_)|(simp (config:={ maxSteps:=3000000 }) (disch:=omega) only [go_sem,↓reduceIte])))
 (first|refine call_f (hwo) rfl ?_|refine callQ_f (hwo) rfl ?_|refine callHK_f (hwo) rfl ?_|refine callH_f (hwo) rfl ?_)
 (repeat (with_reducible first|refine W_seq fun K hK=>?_|(refine Kont.go (by assumption) ?_)|(simp (config:={ maxSteps:=3000000 }) (disch:=omega) only [go_sem,Nat.reduceEqDiff,↓reduceIte,Nat.reduceAdd,Nat.reduceLeDiff])))
 refine J_reserve ?_
 simp only [go_sem]
 have h00:AV.f (.agg [.fz 1 (Ns m),.v (.slice none 0 0)])=tbA 3 (Ns m) ((p.take 0).map fr):=rfl
 (repeat (with_reducible first|refine J_region ?_ |(simp (config:={ maxSteps:=3000000 }) (disch:=omega) only [go_sem,↓reduceIte])))
 (first|refine call_f (hrc) rfl ?_|refine callQ_f (hrc) rfl ?_|refine callHK_f (hrc) rfl ?_|refine callH_f (hrc) rfl ?_)
 (repeat (with_reducible first|refine W_seq fun K hK=>?_|refine J_block ?_|refine J_region ?_ |(refine Kont.go (by assumption) ?_)|(simp (config:={ maxSteps:=3000000 }) (disch:=omega) only [go_sem])))
 refine J_mask [40] (by refine weak_of ?_ ?_<;>simp (disch:=omega) only [go_sem,Nat.reduceAdd]<;>first|rfl|exact ⟨rfl,rfl⟩|exact Or.inl rfl|exact ⟨Or.inl rfl,Or.inl rfl⟩|trivial|assumption|omega|(symm;assumption)|((repeat' apply And.intro)<;>first|rfl|omega|trivial|exact .inr ⟨rfl,rfl⟩|exact .inr rfl|(right;symm;assumption)|(symm;assumption)|assumption)) ?_;simp only [go_sem]
 rw [h00]
 refine W_loop [15,16,17,18,19,20,21,48,49,50,51,52,53,54,55,56,57,58,59,60,61,62,63,64,65,66,67,68,69,70,71,72,73,74,75,76,77,78,79,80,81,82,83,84,85,86,87,88,89,90,91,92,93,94,95,96,97,98,99,100,101,102,103,104,105,106,107,108] (fun x:Nat=>[(15,.f (I x))]) (fun x:Nat=>[oT (tabV l xs),oT tab0,some ⟨34,2,[tbA 3 (Ns m) ((p.take x).map fr)]⟩,ob 39 3 ((p.take x).map fr)]) (fun x:Nat=>x≤N) (fun x:Nat=>N-x) (0) (Nat.zero_le _) (by refine weak_of ?_ ?_<;>simp (disch:=omega) only [go_sem,Nat.reduceAdd]<;>first|rfl|exact ⟨rfl,rfl⟩|exact Or.inl rfl|exact ⟨Or.inl rfl,Or.inl rfl⟩|trivial|assumption|omega|(symm;assumption)|((repeat' apply And.intro)<;>first|rfl|omega|trivial|exact .inl rfl|exact .inr ⟨rfl,rfl⟩|exact .inr rfl|(right;symm;assumption)|(symm;assumption)|assumption)) ?_
 rintro x hx
 simp only [go_sem]
 (repeat (with_reducible first|refine W_seq fun K hK=>?_|refine J_region ?_ |refine J_c ?_|(refine Kont.go (by assumption) ?_)|(simp (config:={ maxSteps:=3000000 }) (disch:=omega) only [go_sem])))
 refine Jc_if (fun hxN=>?_) (fun hxN=>?_)<;>try simp only [decide_eq_true_eq,decide_eq_false_iff_not] at hxN
 ·have hxu:x<cntS (szT Z) m:=by omega
  have hpx:=hpg x hxN
  have hw:=rwhere_w hml hxu
  have hsp:=rspread_w (k:=x) hml
  have va:=fun w hw=>asgS_lt (S:=szT Z) (k:=x) (v:=w) hml.nd hml.pos hxu hw
  have ha0:asgS (szT Z) m x v=0:=asgS_out hvm
  obtain ⟨a,hae⟩:∃a,a=asgS (szT Z) m x:=⟨_,rfl⟩
  have hsl:spL Z m x=(List.range Z.length).map (updS a v 0):=by unfold spL;rw [hae,upd_zero ha0]
  rw [←hae] at va hpx
  obtain ⟨F,hF⟩:∃F:Nat→Rat,F=fun y=>tblG Z l qs (updS a v y):=⟨_,rfl⟩
  have hpx:p[x]?=some (f1S (opT most) F (sv-1)):=by rw [hpx,hF];rfl
  rw [hsl] at hsp
  have hPl:((p.take x).map fr).length=x:=by rw [List.length_map,List.length_take];omega
  have hlA:∀y,((List.range Z.length).map (updS a v y)).length=Z.length:=fun y=>by simp
  have hb0:=tbA_lt (r:=3) (N:=6) (l:=Ns m) (P:=(p.take x).map fr) (by decide)
  have hc0:=tbA_c0 (r:=3) (l:=Ns m) (P:=(p.take x).map fr)
  (repeat (with_reducible first|refine W_seq fun K hK=>?_|refine J_block ?_|refine J_skip ?_|refine J_region ?_ |(refine Kont.go (by assumption) ?_)|(simp (config:={ maxSteps:=3000000 }) (disch:=omega) only [go_sem,↓reduceIte,hc0])))
  (first|refine call_f (hw) rfl ?_|refine callQ_f (hw) rfl ?_|refine callHK_f (hw) rfl ?_|refine callH_f (hw) rfl ?_)
  (repeat (with_reducible first|refine W_seq fun K hK=>?_|refine J_region ?_ |(refine Kont.go (by assumption) ?_)|(simp (config:={ maxSteps:=3000000 }) (disch:=omega) only [go_sem,↓reduceIte,hc0])))
  refine call_o hsp (FrzL.fs [_,_,_]) ?_
  (repeat (with_reducible first|refine W_seq fun K hK=>?_|refine J_block ?_|refine J_region ?_ |(refine Kont.go (by assumption) ?_)|(simp (config:={ maxSteps:=3000000 }) (disch:=omega) only [go_sem,↓reduceIte,Nat.reduceAdd,Ns_len,hlA])))
  refine W_loop [19,20,21,67,68,69,70,71,72,73,74,75,76,77,78,79,80,81,82,83,84,85,86,87,88,89,90,91,92,93,94,95,96,97,98,99,100] (fun y:Nat × Bool × ByteArray × ByteArray=>[(19,.f (I y.1))]) (fun y:Nat × Bool × ByteArray × ByteArray=>[oT (tabV l xs),oT tab0,some ⟨34,2,[tbA 3 (Ns m) ((p.take x).map fr)]⟩,ob 39 3 ((p.take x).map fr),some ⟨3,1,(Ns ((List.range Z.length).map (updS a v (y.1-1)))).map .f⟩,some ⟨39,3,[.f (frR y.2.1 y.2.2.1 y.2.2.2)]⟩]) (fun y:Nat × Bool × ByteArray × ByteArray=>y.1≤sv∧(∃q0,IsFr (frR y.2.1 y.2.2.1 y.2.2.2) q0 (4*(k+1))∧(0<y.1→q0=f1S (opT most) F (y.1-1)))) (fun y:Nat × Bool × ByteArray × ByteArray=>sv-y.1) ((0,false,⟨#[]⟩,⟨#[]⟩)) (⟨Nat.zero_le _,_,IsFr.raw _ _ _ (Nat.zero_le _) (Nat.zero_le _),fun h=>absurd h (by decide)⟩) (by refine weak_of ?_ ?_<;>simp (disch:=omega) only [go_sem,Nat.reduceAdd]<;>first|rfl|exact ⟨rfl,rfl⟩|exact Or.inl rfl|exact ⟨Or.inl rfl,Or.inl rfl⟩|trivial|assumption|omega|(symm;assumption)|((repeat' apply And.intro)<;>first|rfl|omega|trivial|exact .inl rfl|exact .inr ⟨rfl,rfl⟩|exact .inr rfl|(right;symm;assumption)|(symm;assumption)|assumption)) ?_
  ·rintro ⟨y,g0,n0,d0⟩ ⟨hy,q0,hf0,hq0⟩
   replace hy:y≤sv:=hy
   replace hf0:IsFr (frR g0 n0 d0) q0 (4*(k+1)):=hf0
   replace hq0:0<y→q0=f1S (opT most) F (y-1):=hq0
   simp only [go_sem]
   (repeat (with_reducible first|refine W_seq fun K hK=>?_|refine J_region ?_ |refine J_c ?_|(refine Kont.go (by assumption) ?_)|(simp (config:={ maxSteps:=3000000 }) (disch:=omega) only [go_sem,↓reduceIte,gz])))
   refine Jc_if (fun hys=>?_) (fun hys=>?_)<;>try simp only [decide_eq_true_eq,decide_eq_false_iff_not] at hys
   ·have hub:=hupd a (fun w hw=>va w hw) y (by omega)
    have iy:=idxS_lt (S:=szT Z) hub
    obtain ⟨i,hi⟩:∃i,i=idxS (szT Z) (updS a v y) l:=⟨_,rfl⟩
    rw [←hi,←h.len] at iy
    obtain ⟨g,n,d,x1,f1⟩:=h.fr.at3 iy
    have c1:=rcell_w h hub (by rw [←hi];exact x1)
    have hFy:F y=qs[i]:=by rw [hF];show qs.getD (idxS (szT Z) (updS a v y) l) 0=_;rw [←hi,lget_lt qs 0 iy]
    have hst:((Ns ((List.range Z.length).map (updS a v (y-1)))).map AV.f).set v (.f (I (y:Int)))=(Ns ((List.range Z.length).map (updS a v y))).map AV.f:=by rw [←List.map_set,Ns_set,upd_set hvl]
    have hwl:((Ns ((List.range Z.length).map (updS a v (y-1)))).map AV.f).length=Z.length:=by rw [List.length_map,Ns_len,hlA]
    have hgw:((Ns ((List.range Z.length).map (updS a v (y-1)))).map AV.f)[v]?=some (.f (I ((((List.range Z.length).map (updS a v (y-1))).getD v 0:Nat):Int))):=by rw [List.getElem?_map,Ns_get (by rw [hlA];exact hvl)];rfl
    have hcm:=rcmp_w f1 hf0 (by omega) (by omega)
    have f1u:=f1.up (show k≤4*(k+1) by omega)
    have hFf:∀z,Fz (F z) k:=fun z=>by rw [hF];exact getD_fz hrow h1
    have hfz:=f1S_fz hFf (opT_fz most)
    have hy1:y+1-1=y:=by omega
    (repeat (with_reducible first|refine W_seq fun K hK=>?_|refine J_block ?_|refine J_skip ?_|refine J_region ?_ |(refine Kont.go (by assumption) ?_)|(simp (config:={ maxSteps:=3000000 }) (disch:=omega) only [go_sem,↓reduceIte,Nat.reduceAdd,hst,hgw,hvl])))
    refine call_fl c1 (flat_frR _ _ _) (FrzL.cons (.f _) (FrzL.cons (.f _) (FrzL.cons (Frz.own0 rfl (by rw [Ns_len,hlA])) (FrzL.nil _)))) ?_
    (repeat (first|(with_reducible first|refine W_seq fun K hK=>?_|refine J_region ?_ |(refine Kont.go (by assumption) ?_)|(simp (config:={ maxSteps:=3000000 }) (disch:=omega) only [go_sem,↓reduceIte,Nat.reduceAdd]))|refine call_f (rcmp_w (by assumption) (by assumption) (by omega) (by omega)) rfl ?_))
    by_cases y0:y=0
    ·subst y0
     (repeat (with_reducible first|refine J_region ?_ |refine J_c ?_|refine Jc_true ?_|(refine Kont.go (by assumption) ?_)|(simp (config:={ maxSteps:=3000000 }) (disch:=omega) only [go_sem,↓reduceIte,Nat.reduceAdd,Int.reduceAdd])))
     refine ⟨(0+1,g,n,d),⟨by show 1≤sv;omega,_,f1u,fun _=>by show qs[i]=F 0;exact hFy.symm⟩,by show sv-1<sv-0;omega,weak_of ?_ ?_⟩<;>(try simp (disch:=omega) only [go_sem,Nat.reduceAdd,hb0])<;>(try first|done|omega|rfl|exact ⟨rfl,rfl⟩|trivial)
    ·have y0':¬(y:Int)=0:=by omega
     have hq1:=hq0 (by omega)
     obtain ⟨y',rfl⟩:∃y',y=y'+1:=⟨y-1,by omega⟩
     have hq1:q0=f1S (opT most) F y':=hq1
     have hfn:f1S (opT most) F (y'+1)=opT most q0 qs[i]:=by rw [hq1,←hFy];rfl
     cases most with
     | true =>
      by_cases hc:0<cmpR qs[i] q0
      ·have hgt:=cmpR_gt.1 hc
       have hop:opT true q0 qs[i]=qs[i]:=by show gtrS q0 qs[i]=_;unfold gtrS;rw [if_pos hgt]
       (repeat (with_reducible first|refine J_region ?_ |refine J_c ?_|refine Jc_true ?_|(refine Kont.go (by assumption) ?_)|(simp (config:={ maxSteps:=3000000 }) (disch:=omega) only [go_sem,Nat.reduceEqDiff,↓reduceIte,Nat.reduceAdd,hc])))
       refine ⟨(y'+1+1,g,n,d),⟨by show y'+1+1≤sv;omega,_,f1u,fun _=>by show qs[i]=f1S (opT true) F (y'+1);rw [hfn,hop]⟩,by show sv-(y'+1+1)<sv-(y'+1);omega,weak_of ?_ ?_⟩<;>(try simp (disch:=omega) only [go_sem,Nat.reduceAdd,hb0])<;>(try first|done|omega|rfl|exact ⟨rfl,rfl⟩|trivial)
      ·have hgt:¬q0<qs[i]:=fun hh=>hc (cmpR_gt.2 hh)
       have hop:opT true q0 qs[i]=q0:=by show gtrS q0 qs[i]=_;unfold gtrS;rw [if_neg hgt]
       (repeat (with_reducible first|refine W_seq fun K hK=>?_|refine J_skip ?_|refine J_region ?_ |refine J_c ?_|refine Jc_false ?_|(refine Kont.go (by assumption) ?_)|(simp (config:={ maxSteps:=3000000 }) (disch:=omega) only [go_sem,Nat.reduceEqDiff,hc])))
       refine ⟨(y'+1+1,g0,n0,d0),⟨by show y'+1+1≤sv;omega,_,hf0,fun _=>by show q0=f1S (opT true) F (y'+1);rw [hfn,hop]⟩,by show sv-(y'+1+1)<sv-(y'+1);omega,weak_of ?_ ?_⟩<;>(try simp (disch:=omega) only [go_sem,Nat.reduceAdd,hb0])<;>(try first|done|omega|rfl|exact ⟨rfl,rfl⟩|trivial)
     | false =>
      have hop:opT false q0 qs[i]=q0+qs[i]:=rfl
      have had:=radd_w hf0 f1 (by omega) (by omega)
      have hfc:IsFr (fr (q0+qs[i])) (q0+qs[i]) (4*(k+1)):=by
       rw [←hop,←hfn]
       exact .c ((hfz (y'+1)).up (Nat.mul_le_mul_right _ (by omega)))
      (repeat (first|(with_reducible first|refine W_seq fun K hK=>?_|refine J_region ?_ |refine J_c ?_|refine Jc_true ?_|refine Jc_false ?_|(refine Kont.go (by assumption) ?_)|(simp (config:={ maxSteps:=3000000 }) (disch:=omega) only [go_sem,Nat.reduceEqDiff,↓reduceIte,Nat.reduceAdd]))|refine call_f (radd_w (by assumption) (by assumption) (by omega) (by omega)) rfl ?_))
      refine ⟨(y'+1+1,cg (q0+qs[i]),cn (q0+qs[i]),cd (q0+qs[i])),⟨by show y'+1+1≤sv;omega,_,hfc,fun _=>by show q0+qs[i]=f1S (opT false) F (y'+1);rw [hfn,hop]⟩,by show sv-(y'+1+1)<sv-(y'+1);omega,weak_of ?_ ?_⟩<;>(try simp (disch:=omega) only [go_sem,Nat.reduceAdd,hb0])<;>(try first|done|omega|rfl|exact ⟨rfl,rfl⟩|trivial)
   ·have he:y=sv:=by omega
    subst he
    have hq1:=hq0 (by omega)
    have htk:=take_frs hpx
    rw [←hq1] at htk
    have hca:=rcanon_w hf0 (by omega)
    obtain ⟨q,hq⟩:∃q,q=q0:=⟨_,rfl⟩
    have hqx:fr q0=fr q:=by rw [hq]
    rw [←hq] at htk
    by_cases x0:x=0
    ·subst x0
     have e1:ob 39 3 ((p.take 0).map fr)=none:=rfl
     have e2:(p.take (0+1)).map fr=[fr q]:=htk.symm
     have e3:ob 39 3 [fr q]=some ⟨39,3,[.f (fr q)]⟩:=rfl
     have e4:tbA 3 (Ns m) [fr q]=.agg [.f (.fz 1 (Ns m)),.own 3 3 0 1]:=rfl
     rw [←h00,e1]
     (repeat (first|(with_reducible first|refine W_seq fun K hK=>?_|refine J_exit ?_|refine J_region ?_ |refine aApp_old ?_|(refine Kont.go (by assumption) ?_)|(simp (config:={ maxSteps:=3000000 }) (disch:=omega) only [go_sem,Nat.reduceEqDiff,↓reduceIte,Nat.reduceAdd,Nat.reduceLeDiff,Int.reduceAdd,hqx]))|refine call_f (rcanon_w (by assumption) (by omega)) rfl ?_|refine And.intro (by omega) ?_))
     refine ⟨0+1,by omega,by omega,weak_ren [0,1,2,7] ⟨by decide,by first|decide|(simp;done)⟩ ?_ ?_⟩<;>(try simp (disch:=omega) only [go_sem,Nat.reduceAdd,e2,e3,e4,List.map_cons,List.map_nil])<;>(try first|done|omega|rfl|exact ⟨rfl,rfl⟩|trivial)
    ·have hne:(p.take x).map fr≠[]:=fun h=>by have:=hPl;rw [h,List.length_nil] at this;omega
     have hne1:(p.take (x+1)).map fr≠[]:=by rw [←htk];simp
     have hln1:((p.take (x+1)).map fr).length=x+1:=by rw [←htk,List.length_append,hPl];rfl
     obtain ⟨T,hT⟩:∃T,T=(p.take x).map fr:=⟨_,rfl⟩
     rw [←hT] at hne hPl htk ⊢
     have e1:ob 39 3 T=some ⟨39,3,T.map .f⟩:=ob_pos hne
     have e2:tbA 3 (Ns m) T=.agg [.f (.fz 1 (Ns m)),.own 3 3 0 x]:=by rw [tbA_pos hne,hPl]
     have e3:ob 39 3 ((p.take (x+1)).map fr)=some ⟨39,3,T.map .f++[.f (fr q)]⟩:=by rw [ob_pos hne1,←htk,List.map_append];rfl
     have e4:tbA 3 (Ns m) ((p.take (x+1)).map fr)=.agg [.f (.fz 1 (Ns m)),.own 3 3 0 (x+1)]:=by rw [tbA_pos hne1,hln1]
     have e5:(T.map AV.f).take x=T.map .f:=List.take_of_length_le (by rw [List.length_map];omega)
     have e6:(x+1)*40≤140737488355328:=by omega
     rw [e1,e2]
     (repeat (first|(with_reducible first|refine W_seq fun K hK=>?_|refine J_exit ?_|refine J_region ?_ |refine aApp_old ?_|(refine Kont.go (by assumption) ?_)|(simp (config:={ maxSteps:=3000000 }) (disch:=omega) only [go_sem,Nat.reduceEqDiff,↓reduceIte,Nat.reduceAdd,Nat.reduceLeDiff,hqx,hPl,e5,e6,List.length_map]))|refine call_f (rcanon_w (by assumption) (by omega)) rfl ?_|refine And.intro (by omega) ?_))
     refine ⟨x+1,by omega,by omega,weak_ren [0,1,2,7] ⟨by decide,by first|decide|(simp;done)⟩ ?_ ?_⟩<;>(try simp (disch:=omega) only [go_sem,Nat.reduceAdd,e3,e4,map_ren_f,List.map_append,List.map_cons,List.map_nil])<;>(try first|done|omega|rfl|exact ⟨rfl,rfl⟩|trivial)
 ·have he:x=N:=by omega
  subst he
  have hne:p.map fr≠[]:=fun h=>by have:=congrArg List.length h;rw [List.length_map,List.length_nil] at this;omega
  rw [List.take_of_length_le (by omega)]
  have e1:ob 39 3 (p.map fr)=some ⟨39,3,(p.map fr).map .f⟩:=ob_pos hne
  have e2:tbA 3 (Ns m) (p.map fr)=.agg [.f (.fz 1 (Ns m)),.own 3 3 0 (p.map fr).length]:=tbA_pos hne
  rw [e1,e2]
  (repeat (with_reducible first|refine W_seq fun K hK=>?_|refine J_exit ?_|refine J_ret ?_|refine J_region ?_ |(refine Kont.go (by assumption) ?_)|(simp (config:={ maxSteps:=3000000 }) (disch:=omega) only [go_sem,↓reduceIte,Nat.reduceAdd])))
  exact ⟨_,rfl,FrzL.cons (Frz.aggL (FrzL.cons (.f _) (FrzL.cons (Frz.own0 rfl (by rw [List.length_map])) (FrzL.nil _)))) (FrzL.cons (.f _) (FrzL.nil _))⟩
end Go.Proofs.YthehegidpamldaaGreatDoor
set_option linter.unusedVariables false
set_option linter.unusedSimpArgs false
namespace Go.Proofs.YthehegidpamldaaGreatDoor
open Go Go.RowKit
abbrev RawD:=List Int × List Int × List Int × Bool
def rawD (a:RawD):FV:=.agg [ints a.1,ints a.2.1,ints a.2.2.1,Bo a.2.2.2]
def OkRaw (a:RawD):Prop:=OkIs a.1∧OkIs a.2.1∧OkIs a.2.2.1∧True
theorem oRawD:Opens Tryz.prog 49 rawD OkRaw:=Opens.struct4 Tryz.underlying49 (by kernel_rfl) oIs oIs oIs oB ⟨rfl,rfl,rfl,rfl,rfl,rfl,rfl,rfl,by kernel_rfl,by kernel_rfl,by kernel_rfl,by kernel_rfl⟩ ⟨fun _=>rfl,fun _=>rfl,fun _=>rfl,fun _=>rfl⟩
end Go.Proofs.YthehegidpamldaaGreatDoor
-- NOOWN
set_option linter.unusedVariables false
set_option linter.unusedSimpArgs false
namespace Go.Proofs.YthehegidpamldaaGreatDoor
open Go Go.RowKit
theorem sumN_fz {F:Nat→Rat} {k:Nat} (hF:∀i,Fz (F i) k):∀n,Fz (sumN F n) (8+n*(k+1)):=by
 intro n
 induction n with
 | zero=>rw [Nat.zero_mul];exact (Fz.int (n:=0) (by decide)).up (by omega)
 | succ n ih =>
  show Fz (sumN F n+F n) _
  exact (ih.add (hF n)).up (by rw [Nat.add_mul];omega)
section
variable {k : Nat} {V : List VarD} {P : List (List Int)} {RR : List FV} {M : List (List Rat)}
theorem net_rowG (h:NetOk k V P RR M) (hk:8≤k) {v:Nat} {Z pa:List Nat} {a:Nat→Nat} (hv:v<M.length):Fz (rowG Z pa v (M.getD v []) a) k:=by
 rw [lget_lt M [] hv]
 obtain ⟨_,_,h2⟩:=h.hM.at hv
 exact getD_fz (h2.row h.k1) hk
theorem joint_at (h:NetOk k V P RR M) (he:netE (ordE P) V P M=0) {x:Nat} (hx:x<cntS (szT (szN V)) (List.range V.length)):Good Tryz.prog 11 [netV V (P.map ints) RR,.fz 1 (Ns (asgL (szN V) (List.range V.length) x))] (.tup [fr (jntF V P M (asgS (szT (szN V)) (List.range V.length) x) V.length),I 0]):=by
 have hR:=net_okR he
 rw [szN_len] at hR
 have hl:(asgL (szN V) (List.range V.length) x).length=V.length:=by rw [asgL_len,List.length_range]
 have hg:∀u,u<V.length→(asgL (szN V) (List.range V.length) x).getD u 0=asgS (szT (szN V)) (List.range V.length) x u:=fun u hu=>by
  rw [asgL_get (by rw [List.length_range];exact hu),lget_lt _ 0 (by rw [List.length_range];exact hu),List.getElem_range]
 have hj:jntE (szN V) ((asgL (szN V) (List.range V.length) x).map Int.ofNat)=0:=by
  unfold jntE
  rw [if_neg (by rw [List.length_map,hl,szN_len];simp),if_pos]
  refine atB_iff.2 fun i hi=>?_
  rw [List.length_range,szN_len] at hi
  rw [lget_lt _ 0 (by rw [List.length_map,hl];exact hi),List.getElem_map,←lget_lt (asgL (szN V) (List.range V.length) x) 0 (by rw [hl];exact hi),hg i hi,szN_len,lget_lt (List.range V.length) 0 (by rw [List.length_range];exact hi),List.getElem_range]
  have:=asgS_lt hR.nd hR.pos hx (List.mem_range.2 hi)
  exact ⟨by show (0:Int)≤(_:Nat);omega,by show ((_:Nat):Int)<_;omega⟩
 have h1:=joint_w h he hj
 rw [ints_Ns] at h1
 rw [jntF_congr (b:=asgS (szT (szN V)) (List.range V.length) x) (fun i hi=>netG he hi) (Nat.le_refl _) fun u hu=>by rw [jnt_get,hg u hu]] at h1
 exact h1
theorem giv_tb (h:NetOk k V P RR M) (he:netE (ordE P) V P M=0) (hk:8≤k) {v:Nat} (hv:v<V.length):TbOk k (szN V) (famT (szN V).length (paN P v) v) ((givQ (szN V) (paN P v) v (M.getD v [])).map fr) (givQ (szN V) (paN P v) v (M.getD v [])) :=
 have hG:=netG he hv
 tbOk_c hG.ok.fam (fun q hq=>by
  obtain ⟨i,_,rfl⟩:=List.mem_map.1 hq
  exact net_rowG h hk hG.ml) tblS_len
end
set_option maxRecDepth 100000 in
set_option maxHeartbeats 16000000 in
theorem netSums_w (a:RawD) (ha:OkRaw a):Good Tryz.prog 5 [rawD a] (Bo true):=by
 obtain ⟨sz,E,W,back⟩:=a
 obtain ⟨⟨hs,hsw⟩,⟨hE,hEw⟩,⟨hW,hWw⟩,_⟩:=ha
 have hm:=made_w sz E W back hs hE hW hsw hEw hWw
 have e0:rawD (sz,E,W,back)=rawO sz E W back:=rfl
 rw [e0]
 obtain ⟨n,hn⟩:∃n,n=mdN sz:=⟨_,rfl⟩
 have hnb:=mdN_le (sz:=sz)
 rw [←hn] at hnb hm
 obtain ⟨h1,h6⟩:=hnb
 have h:=md_ok (sz:=sz) (E:=E) (W:=W) (back:=back) h1 h6
 have he:=md_netE (sz:=sz) (E:=E) (W:=W) (back:=back) h1 h6
 have hd:(∀v,v<(mdV sz n).length→∀u∈paN (mdI E back n) v,u<v)∨(∀v,v<(mdV sz n).length→∀u∈paN (mdI E back n) v,v<u):=by
  cases back with
  | false=>exact .inl fun v hv u hu=>by rw [mdV_len] at hv;rw [paN_md hv] at hu;have:=(mdP_spec.1 u hu).2;rwa [if_neg (by decide)] at this
  | true=>exact .inr fun v hv u hu=>by rw [mdV_len] at hv;rw [paN_md hv] at hu;have:=(mdP_spec.1 u hu).2;rwa [if_pos rfl] at this
 have hVl:=mdV_len (sz:=sz) (n:=n)
 generalize mdV sz n=V at *
 generalize mdI E back n=P at *
 generalize mdM sz E W back n=M at *
 generalize M.map frs=RR at *
 have hsum:=net_sum he hd
 have hR:=net_okR he
 have hZl:=szN_len (V:=V)
 rw [hZl] at hR
 have hz8:=hR.z8
 have hcn:=hR.cnt
 have s1:=sizes_w V (P.map ints) RR h.lV
 have s2:=rall_w (Ns (szN V)) (by rw [Ns_len,hZl];omega)
 rw [Ns_len,hZl] at s2
 have s3:=rcountT_w hR
 have hwh:=fun x hx=>rwhere_w (k:=x) hR hx
 have hjt:=fun x hx=>joint_at (x:=x) h he hx
 have hjn:∀x,x<cntS (szT (szN V)) (List.range V.length)→0≤jntF V P M (asgS (szT (szN V)) (List.range V.length) x) V.length:=fun x hx=>jntF_nn (fun i hi=>netG he hi) (Nat.le_refl _) fun u hu=>asgS_lt hR.nd hR.pos hx (List.mem_range.2 hu)
 have hjf:∀x,Fz (jntF V P M (asgS (szT (szN V)) (List.range V.length) x) V.length) 72:=fun x=>(jntF_fz h (fun i hi=>net_rowG h (Nat.le_refl _) (netG he hi).ml) (Nat.le_refl _)).up (by omega)
 obtain ⟨F,hF⟩:∃F,F=fun x=>jntF V P M (asgS (szT (szN V)) (List.range V.length) x) V.length:=⟨_,rfl⟩
 have hFe:∀x,jntF V P M (asgS (szT (szN V)) (List.range V.length) x) V.length=F x:=fun x=>by rw [hF]
 simp only [hFe] at hsum hjt hjn hjf
 have hsf:=sumN_fz hjf
 obtain ⟨N,hN⟩:∃N,N=cntS (szT (szN V)) (List.range V.length):=⟨_,rfl⟩
 rw [←hN] at hsum s3 hcn hwh hjt hjn
 have hs0:fr ((0:Int):Rat)=fr (sumN F 0):=rfl
 have i0:IsFr (fr ((0:Int):Rat)) ((0:Int):Rat) 8:=IsFr.int (by decide) (by decide)
 have h1e:((1:Int):Rat)=1:=rfl
 have hNl:(Ns (szN V)).length=V.length:=by rw [Ns_len,hZl]
 refine good_of Tryz.func5 rfl (by kernel_rfl) fun X hO hrd=>?_;rw [Tryz.ntmps5,Tryz.results5];simp only [ast0,List.map_cons,List.map_nil,List.length_cons,List.length_nil,Nat.reduceAdd,Nat.reduceSub,List.replicate_succ,List.replicate_zero,List.cons_append,List.nil_append]
 (repeat (with_reducible first|refine W_seq fun K hK=>?_|refine J_region ?_ |(refine Kont.go (by assumption) ?_)|(simp (config:={ maxSteps:=3000000 }) (disch:=omega) only [go_sem,↓reduceIte,Nat.reduceAdd])))
 (first|refine call_f (hm) rfl ?_|refine callQ_f (hm) rfl ?_|refine callHK_f (hm) rfl ?_|refine callH_f (hm) rfl ?_)
 (repeat (with_reducible first|refine W_seq fun K hK=>?_|refine J_region ?_ |(refine Kont.go (by assumption) ?_)|(simp (config:={ maxSteps:=3000000 }) (disch:=omega) only [go_sem,↓reduceIte,Nat.reduceAdd])))
 (first|refine call_f (s1) rfl ?_|refine callQ_f (s1) rfl ?_|refine callHK_f (s1) rfl ?_|refine callH_f (s1) rfl ?_)
 (repeat (with_reducible first|refine W_seq fun K hK=>?_|refine J_region ?_ |(refine Kont.go (by assumption) ?_)|(simp (config:={ maxSteps:=3000000 }) (disch:=omega) only [go_sem])))
 (first|refine call_f (s2) rfl ?_|refine callQ_f (s2) rfl ?_|refine callHK_f (s2) rfl ?_|refine callH_f (s2) rfl ?_)
 (repeat (with_reducible first|(simp (config:={ maxSteps:=3000000 }) (disch:=omega) only [go_sem])))
 (first|refine call_f (s3) rfl ?_|refine callQ_f (s3) rfl ?_|refine callHK_f (s3) rfl ?_|refine callH_f (s3) rfl ?_)
 (repeat (first|(with_reducible first|refine W_seq fun K hK=>?_|refine J_block ?_|refine J_skip ?_|refine J_region ?_ |refine J_c ?_|refine Jc_false ?_|(refine Kont.go (by assumption) ?_)|(simp (config:={ maxSteps:=3000000 }) (disch:=omega) only [go_sem,↓reduceIte,Nat.reduceAdd]))|refine call_f (rof_frac (by omega) (by omega)) rfl ?_))
 refine W_loop [2,8,9,10,11,12,32,33,34,35,36,37,38,39,40,41,42,43,44,45,46,47,48,49,50,51,52,53,54,55,56,57,58,59,60,61] (fun x:Nat=>[(8,.f (I x))]) (fun x:Nat=>[some ⟨49,4,[.f (rawO sz E W back)]⟩,oNt (V.map varF) (P.map ints) RR,oF (fr (sumN F x))]) (fun x:Nat=>x≤N) (fun x:Nat=>N-x) (0) (Nat.zero_le _) (by refine weak_of ?_ ?_<;>simp (disch:=omega) only [go_sem,Nat.reduceAdd]<;>first|rfl|exact ⟨rfl,rfl⟩|exact Or.inl rfl|exact ⟨Or.inl rfl,Or.inl rfl⟩|trivial|assumption|omega|(symm;assumption)|((repeat' apply And.intro)<;>first|rfl|omega|trivial|exact .inl rfl|exact .inr ⟨rfl,rfl⟩|exact .inr rfl|(right;symm;assumption)|(symm;assumption)|assumption)) ?_
 ·rintro x hx
  simp only [go_sem]
  (repeat (with_reducible first|refine W_seq fun K hK=>?_|refine J_region ?_ |refine J_c ?_|(refine Kont.go (by assumption) ?_)|(simp (config:={ maxSteps:=3000000 }) (disch:=omega) only [go_sem])))
  refine Jc_if (fun hxN=>?_) (fun hxN=>?_)<;>try simp only [decide_eq_true_eq,decide_eq_false_iff_not] at hxN
  ·have w1:=hwh x hxN
   have j1:=hjt x hxN
   have n1:=hjn x hxN
   have f0:IsFr (fr (sumN F x)) _ _:=.c (hsf x)
   have f1:IsFr (fr (F x)) _ _:=.c (hjf x)
   have hcm:¬cmpR (F x) ((0:Int):Rat)<0:=fun hh=>Rat.not_lt.2 n1 (by simpa using cmpR_lt.1 hh)
   have hnx:sumN F x+F x=sumN F (x+1):=rfl
   (repeat (with_reducible first|refine W_seq fun K hK=>?_|refine J_block ?_|refine J_skip ?_|refine J_region ?_ |(refine Kont.go (by assumption) ?_)|(simp (config:={ maxSteps:=3000000 }) (disch:=omega) only [go_sem])))
   (first|refine call_f (s2) rfl ?_|refine callQ_f (s2) rfl ?_|refine callHK_f (s2) rfl ?_|refine callH_f (s2) rfl ?_)
   (repeat (with_reducible first|(simp (config:={ maxSteps:=3000000 }) (disch:=omega) only [go_sem])))
   (first|refine call_f (w1) rfl ?_|refine callQ_f (w1) rfl ?_|refine callHK_f (w1) rfl ?_|refine callH_f (w1) rfl ?_)
   (repeat (with_reducible first|refine W_seq fun K hK=>?_|refine J_region ?_ |(refine Kont.go (by assumption) ?_)|(simp (config:={ maxSteps:=3000000 }) (disch:=omega) only [go_sem,↓reduceIte,Nat.reduceAdd])))
   (first|refine call_f (j1) rfl ?_|refine callQ_f (j1) rfl ?_|refine callHK_f (j1) rfl ?_|refine callH_f (j1) rfl ?_)
   (repeat (first|(with_reducible first|refine W_seq fun K hK=>?_|refine J_skip ?_|refine J_region ?_ |refine J_drawn mixed (by kernel_rfl) ?_|refine J_c ?_|refine Jc_false ?_|(refine Kont.go (by assumption) ?_)|(simp (config:={ maxSteps:=3000000 }) (disch:=omega) only [go_sem,↓reduceIte,Nat.reduceAdd,hcm,hnx]))|refine callQ_f (rof_frac (by omega) (by omega)) rfl ?_|refine callQ_f (rcmp_w (by assumption) (by assumption) (by omega) (by omega)) rfl ?_|refine call_f (radd_w (by assumption) (by assumption) (by omega) (by omega)) rfl ?_))
   refine ⟨x+1,by omega,by omega,weak_of ?_ ?_⟩<;>(try simp (disch:=omega) only [go_sem,Nat.reduceAdd])<;>(try first|done|omega|rfl|exact ⟨rfl,rfl⟩|trivial)
  ·(repeat (with_reducible first|refine W_seq fun K hK=>?_|refine J_block ?_|refine J_exit ?_|refine J_region ?_ |(refine Kont.go (by assumption) ?_)|(simp (config:={ maxSteps:=3000000 }) (disch:=omega) only [go_sem,↓reduceIte])))
   refine W_loop [2,13,14,15,16,17,62,63,64,65,66,67,68,69,70,71,72,73,74,75,76,77,78,79,80,81,82,83,84,85,86,87,88,89,90,91,92,93,94,95,96,97,98] (fun v:Nat=>[(13,.f (I v))]) (fun v:Nat=>[some ⟨49,4,[.f (rawO sz E W back)]⟩,oNt (V.map varF) (P.map ints) RR,oF (fr (sumN F x))]) (fun v:Nat=>v≤V.length) (fun v:Nat=>V.length-v) (0) (Nat.zero_le _) (by refine weak_of ?_ ?_<;>simp (disch:=omega) only [go_sem,Nat.reduceAdd]<;>first|rfl|exact ⟨rfl,rfl⟩|exact Or.inl rfl|exact ⟨Or.inl rfl,Or.inl rfl⟩|trivial|assumption|omega|(symm;assumption)|((repeat' apply And.intro)<;>first|rfl|omega|trivial|exact .inl rfl|exact .inr ⟨rfl,rfl⟩|exact .inr rfl|(right;symm;assumption)|(symm;assumption)|assumption)) ?_
   rintro v hv
   simp only [go_sem]
   (repeat (with_reducible first|refine W_seq fun K hK=>?_|refine J_region ?_ |refine J_c ?_|(refine Kont.go (by assumption) ?_)|(simp (config:={ maxSteps:=3000000 }) (disch:=omega) only [go_sem,hNl])))
   refine Jc_if (fun hvn=>?_) (fun hvn=>?_)<;>try simp only [decide_eq_true_eq,decide_eq_false_iff_not] at hvn
   ·have g1:=given_w h he hvn
    have tb:=giv_tb h he (Nat.le_refl _) hvn
    have o1:=rout_w tb (Nat.le_refl _) (by decide) (v:=v) (mem_famT.2 ⟨by rw [hZl];exact hvn,.inr rfl⟩) false
    have hone:=giv_out (netG he hvn) hvn
    have hol:=outT_len (op:=opT false) (Z:=szN V) (l:=famT (szN V).length (paN P v) v) (v:=v) (qs:=givQ (szN V) (paN P v) v (M.getD v []))
    have hoc:=((netG he hvn).ok.fam (v:=v)).less (v:=v) |>.cnt
    generalize outT (opT false) (szN V) (famT (szN V).length (paN P v) v) v (givQ (szN V) (paN P v) v (M.getD v []))=p at o1 hone hol
    (repeat (with_reducible first|refine W_seq fun K hK=>?_|refine J_block ?_|refine J_skip ?_|refine J_region ?_ |(refine Kont.go (by assumption) ?_)|(simp (config:={ maxSteps:=3000000 }) (disch:=omega) only [go_sem,↓reduceIte,Nat.reduceAdd])))
    (first|refine call_f (g1) rfl ?_|refine callQ_f (g1) rfl ?_|refine callHK_f (g1) rfl ?_|refine callH_f (g1) rfl ?_)
    (repeat (with_reducible first|refine W_seq fun K hK=>?_|refine J_skip ?_|refine J_region ?_ |refine J_c ?_|refine Jc_false ?_|(refine Kont.go (by assumption) ?_)|(simp (config:={ maxSteps:=3000000 }) (disch:=omega) only [go_sem,↓reduceIte,Nat.reduceAdd])))
    (first|refine call_f (o1) rfl ?_|refine callQ_f (o1) rfl ?_|refine callHK_f (o1) rfl ?_|refine callH_f (o1) rfl ?_)
    (repeat (with_reducible first|refine W_seq fun K hK=>?_|refine J_block ?_|refine J_skip ?_|refine J_region ?_ |refine J_c ?_|refine Jc_false ?_|(refine Kont.go (by assumption) ?_)|(simp (config:={ maxSteps:=3000000 }) (disch:=omega) only [go_sem,↓reduceIte,Nat.reduceAdd])))
    refine W_loop [2,17,85,86,87,88,89,90,91,92,93,94,95,96,97,98] (fun i:Nat=>[(17,.f (I i))]) (fun i:Nat=>[some ⟨49,4,[.f (rawO sz E W back)]⟩,oNt (V.map varF) (P.map ints) RR,oF (fr (sumN F x)),none,oT (tabV (lessT (famT (szN V).length (paN P v) v) v) (p.map fr))]) (fun i:Nat=>i≤p.length) (fun i:Nat=>p.length-i) (0) (Nat.zero_le _) (by refine weak_of ?_ ?_<;>simp (disch:=omega) only [go_sem,Nat.reduceAdd]<;>first|rfl|exact ⟨rfl,rfl⟩|exact Or.inl rfl|exact ⟨Or.inl rfl,Or.inl rfl⟩|trivial|assumption|omega|(symm;assumption)|((repeat' apply And.intro)<;>first|rfl|omega|trivial|exact .inl rfl|exact .inr ⟨rfl,rfl⟩|exact .inr rfl|(right;symm;assumption)|(symm;assumption)|assumption)) ?_
    rintro i hi
    simp only [go_sem]
    (repeat (with_reducible first|refine W_seq fun K hK=>?_|refine J_region ?_ |refine J_c ?_|(refine Kont.go (by assumption) ?_)|(simp (config:={ maxSteps:=3000000 }) (disch:=omega) only [go_sem,↓reduceIte,List.length_map])))
    refine Jc_if (fun hip=>?_) (fun hip=>?_)<;>try simp only [decide_eq_true_eq,decide_eq_false_iff_not] at hip
    ·have gx:=map_get fr p hip
     have hpe:=hone _ (List.getElem_mem hip)
     rw [hpe,←h1e] at gx
     (repeat (first|(with_reducible first|refine W_seq fun K hK=>?_|refine J_block ?_|refine J_skip ?_|refine J_region ?_ |refine J_drawn mixed (by kernel_rfl) ?_|refine J_c ?_|refine Jc_false ?_|(refine Kont.go (by assumption) ?_)|(simp (config:={ maxSteps:=3000000 }) (disch:=omega) only [go_sem,↓reduceIte,Nat.reduceAdd,gx]))|refine callQ_f (rof_frac (by omega) (by omega)) rfl ?_))
     refine ⟨i+1,by omega,by omega,weak_of ?_ ?_⟩<;>(try simp (disch:=omega) only [go_sem,Nat.reduceAdd])<;>(try first|done|omega|rfl|exact ⟨rfl,rfl⟩|trivial)
    ·(repeat (with_reducible first|refine J_exit ?_|refine J_region ?_ |(refine Kont.go (by assumption) ?_)|(simp (config:={ maxSteps:=3000000 }) (disch:=omega) only [go_sem,↓reduceIte])))
     refine ⟨v+1,by omega,by omega,weak_of ?_ ?_⟩<;>(try simp (disch:=omega) only [go_sem,Nat.reduceAdd])<;>(try first|done|omega|rfl|exact ⟨rfl,rfl⟩|trivial)
   ·have hex:x=N:=by omega
    rw [hex,hsum,←h1e]
    (repeat (first|(with_reducible first|refine W_seq fun K hK=>?_|refine J_exit ?_|refine J_ret ?_|refine J_drawn mixed (by kernel_rfl) ?_|exact Frz.f _|(refine Kont.go (by assumption) ?_)|(simp (config:={ maxSteps:=3000000 }) (disch:=omega) only [go_sem,↓reduceIte,Nat.reduceAdd]))|refine callQ_f (rof_frac (by omega) (by omega)) rfl ?_))
end Go.Proofs.YthehegidpamldaaGreatDoor
set_option linter.unusedVariables false
set_option linter.unusedSimpArgs false
namespace Go.Proofs.YthehegidpamldaaGreatDoor
open Go
theorem goes_none {P:Program} (h:P.funcs.any Func.goes=false) (f:FuncId):P.goes f=false:=by
 have hx:∀g:FuncId,(P.funcs[g]?).any Func.goes=false:=fun g=>by
  cases hg:P.funcs[g]? with
  | none=>rfl
  | some fn =>
   show Func.goes fn=false
   cases hf:Func.goes fn with
   | false=>rfl
   | true =>
    have hm:fn∈P.funcs:=Array.mem_of_getElem? hg
    have:P.funcs.any Func.goes=true:=Array.any_eq_true'.2 ⟨fn,hm,hf⟩
    rw [h] at this;cases this
 unfold Program.goes
 rw [h,Bool.and_false,Bool.or_false,List.any_eq_false]
 intro g _
 rw [hx g]
 decide
theorem goesBy_none {P:Program} {c:OpenClaim} (h:P.funcs.any Func.goes=false) (hs:c.start=.entering):false=c.goesBy P:=by
 unfold OpenClaim.goesBy Program.goesAt Program.goesFrom
 rw [hs]
 cases P.funcNamed c.func with
 | none=>rfl
 | some f=>show false=(P.goes f||false);rw [goes_none h];rfl
end Go.Proofs.YthehegidpamldaaGreatDoor
