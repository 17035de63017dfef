/- Tables: the document's Out: walked. Conditions: what may be; numbers of at most 100000 bytes. -/
import Derived.Test.YtmcgeppgfjlclaaGreatDoorYB22
import Derived.Test.YtmcgeppgfjlclaaGreatDoorYB23
import Derived.Test.YtmcgeppgfjlclaaGreatDoorYB12
import Derived.Shelf.Slices.Delete
import Derived.Test.YtmcgeppgfjlclaaGreatDoorYB17
set_option linter.unusedVariables false
set_option linter.unusedSimpArgs false
namespace Go.Proofs.YtmcgeppgfjlclaaGreatDoor
open Go Go.RowKit
theorem tbA_lt {r N:Nat} {l P:List FV} (h:r<N):AV.lt0 N (tbA r l P)=true:=by
 unfold tbA
 split
 ·rfl
 ·show (true&&(decide (r<N)&&true))=true;rw [decide_eq_true h];rfl
theorem tbA_c0 {r:Nat} {l P:List FV}:(tbA r l P).cells[0]?=some (.f (.fz 1 l)):=by
 unfold tbA
 split<;>rfl
theorem outT_get {op:Rat→Rat→Rat} {Z l:List Nat} {v i:Nat} {qs:List Rat} (hi:i<cntS (szT Z) (lessT l v)):(outT op Z l v qs)[i]?=some (outF op (szT Z v-1) v (tblG Z l qs) (asgS (szT Z) (lessT l v) i)):=tblS_get hi
theorem upd_set {a:Nat→Nat} {v x y n:Nat} (hv:v<n):((List.range n).map (updS a v x)).set v y=(List.range n).map (updS a v y):=by
 rw [range_set hv]
 refine List.map_congr_left fun w _=>?_
 by_cases e:w=v
 ·rw [if_pos e,e,updS_self]
 ·rw [if_neg e,updS_ne e,updS_ne e]
theorem upd_zero {a:Nat→Nat} {v:Nat} (h:a v=0):updS a v 0=a:=funext fun w=>by
 by_cases e:w=v
 ·rw [e,updS_self,h]
 ·rw [updS_ne e]
set_option maxRecDepth 100000 in
set_option maxHeartbeats 8000000 in
theorem rout_w {k:Nat} {Z l:List Nat} {xs:List FV} {qs:List Rat} (h:TbOk k Z l xs qs) (h1:8≤k) (hk:k≤100000) {v:Nat} (hv:v∈l) (most:Bool) :
  Good Tryz.prog 26 [.fz 1 (Ns Z),tabV l xs,I (v:Int),Bo most] (.tup [tabV (lessT l v) ((outT (opT most) Z l v qs).map fr),I 0]):=by
 have hl8:=h.ok.len
 have hz8:=h.ok.z8
 have hvl:=h.ok.lt v hv
 have hcx:=h.ok.cnt
 have hml:=h.ok.less (v:=v)
 have hck:=rtcheck_w h
 have hin:=rinN_w v l (by omega) (by omega)
 rw [decide_eq_true hv] at hin
 have hwo:=rwithout_w l v (by omega) (fun w hw=>by have:=h.ok.lt w hw;omega)
 have hrc:=rcountT_w hml
 have hpg:=fun x hx=>outT_get (op:=opT most) (Z:=Z) (l:=l) (v:=v) (i:=x) (qs:=qs) hx
 have hpl:=outT_len (op:=opT most) (Z:=Z) (l:=l) (v:=v) (qs:=qs)
 have huc:=hml.cnt
 have huc1:=hml.cnt1
 have hvm:v∉lessT l v:=fun h=>(mem_lessT.1 h).2 rfl
 have hrow:=h.fr.row (by omega)
 have hs1:=h.ok.szp hvl
 have hs4:=h.ok.sz4 hvl
 have gz:=Ns_get (l:=Z) hvl
 have hsz:Z.getD v 0=szT Z v:=rfl
 rw [hsz] at gz
 obtain ⟨sv,hsv⟩:∃sv,sv=szT Z v:=⟨_,rfl⟩
 rw [←hsv] at gz hs1 hs4 hpg
 obtain ⟨p,hpe⟩:∃p,p=outT (opT most) Z l v qs:=⟨_,rfl⟩
 rw [←hpe] at hpg hpl ⊢
 have hmm:=fun w=>mem_lessT (l:=l) (u:=w) (v:=v)
 have hupd:=fun (a:Nat→Nat) ha (x:Nat) hx=>upd_lt (Z:=Z) (l:=l) (v:=v) (a:=a) ha (x:=x) hx
 obtain ⟨m,hm⟩:∃m,m=lessT l v:=⟨_,rfl⟩
 rw [←hm] at hml hwo hrc huc huc1 hvm hpg hpl hmm hupd ⊢
 obtain ⟨N,hN⟩:∃N,N=cntS (szT Z) m:=⟨_,rfl⟩
 rw [←hN] at hrc huc huc1 hpg hpl
 refine good_of Tryz.func26 rfl (by kernel_rfl) fun X hO hrd=>?_;rw [Tryz.ntmps26,Tryz.results26];simp only [ast0,List.map_cons,List.map_nil,List.length_cons,List.length_nil,Nat.reduceAdd,Nat.reduceSub,List.replicate_succ,List.replicate_zero,List.cons_append,List.nil_append]
 (repeat (with_reducible first|refine W_seq fun K hK=>?_|refine J_region ?_ |(refine Kont.go (by assumption) ?_)|(simp (config:={ maxSteps:=3000000 }) (disch:=omega) only [go_sem,↓reduceIte,Nat.reduceAdd])))
 (first|refine call_f (hck) rfl ?_|refine callQ_f (hck) rfl ?_|refine callHK_f (hck) rfl ?_|refine callH_f (hck) rfl ?_)
 (repeat (with_reducible first|refine W_seq fun K hK=>?_|refine J_skip ?_|refine J_region ?_ |refine J_c ?_|refine Jc_false ?_|(refine Kont.go (by assumption) ?_)|(simp (config:={ maxSteps:=3000000 }) (disch:=omega) only [go_sem,↓reduceIte])))
 (first|refine call_f (hin) rfl ?_|refine callQ_f (hin) rfl ?_|refine callHK_f (hin) rfl ?_|refine callH_f (hin) rfl ?_)
 (repeat (with_reducible first|refine W_seq fun K hK=>?_|refine J_skip ?_|refine J_region ?_ |refine J_c ?_|refine Jc_false ?_|(refine Kont.go (by assumption) ?_)|(simp (config:={ maxSteps:=3000000 }) (disch:=omega) only [go_sem,↓reduceIte])))
 (first|refine call_f (hwo) rfl ?_|refine callQ_f (hwo) rfl ?_|refine callHK_f (hwo) rfl ?_|refine callH_f (hwo) rfl ?_)
 (repeat (with_reducible first|refine W_seq fun K hK=>?_|(refine Kont.go (by assumption) ?_)|(simp (config:={ maxSteps:=3000000 }) (disch:=omega) only [go_sem,Nat.reduceEqDiff,↓reduceIte,Nat.reduceAdd,Nat.reduceLeDiff])))
 refine J_reserve ?_
 simp only [go_sem]
 have h00:AV.f (.agg [.fz 1 (Ns m),.v (.slice none 0 0)])=tbA 3 (Ns m) ((p.take 0).map fr):=rfl
 (repeat (with_reducible first|refine J_region ?_ |(simp (config:={ maxSteps:=3000000 }) (disch:=omega) only [go_sem,↓reduceIte])))
 (first|refine call_f (hrc) rfl ?_|refine callQ_f (hrc) rfl ?_|refine callHK_f (hrc) rfl ?_|refine callH_f (hrc) rfl ?_)
 (repeat (with_reducible first|refine W_seq fun K hK=>?_|refine J_block ?_|refine J_region ?_ |(refine Kont.go (by assumption) ?_)|(simp (config:={ maxSteps:=3000000 }) (disch:=omega) only [go_sem])))
 refine J_mask [40] (by refine weak_of ?_ ?_<;>simp (disch:=omega) only [go_sem,Nat.reduceAdd]<;>first|rfl|exact ⟨rfl,rfl⟩|exact Or.inl rfl|exact ⟨Or.inl rfl,Or.inl rfl⟩|trivial|assumption|omega|(symm;assumption)|((repeat' apply And.intro)<;>first|rfl|omega|trivial|exact .inr ⟨rfl,rfl⟩|exact .inr rfl|(right;symm;assumption)|(symm;assumption)|assumption)) ?_;simp only [go_sem]
 rw [h00]
 refine W_loop [15,16,17,18,19,20,21,48,49,50,51,52,53,54,55,56,57,58,59,60,61,62,63,64,65,66,67,68,69,70,71,72,73,74,75,76,77,78,79,80,81,82,83,84,85,86,87,88,89,90,91,92,93,94,95,96,97,98,99,100,101,102,103,104,105,106,107,108] (fun x:Nat=>[(15,.f (I x))]) (fun x:Nat=>[oT (tabV l xs),oT tab0,some ⟨27,2,[tbA 3 (Ns m) ((p.take x).map fr)]⟩,ob 50 3 ((p.take x).map fr)]) (fun x:Nat=>x≤N) (fun x:Nat=>N-x) (0) (Nat.zero_le _) (by refine weak_of ?_ ?_<;>simp (disch:=omega) only [go_sem,Nat.reduceAdd]<;>first|rfl|exact ⟨rfl,rfl⟩|exact Or.inl rfl|exact ⟨Or.inl rfl,Or.inl rfl⟩|trivial|assumption|omega|(symm;assumption)|((repeat' apply And.intro)<;>first|rfl|omega|trivial|exact .inl rfl|exact .inr ⟨rfl,rfl⟩|exact .inr rfl|(right;symm;assumption)|(symm;assumption)|assumption)) ?_
 rintro x hx
 simp only [go_sem]
 (repeat (with_reducible first|refine W_seq fun K hK=>?_|refine J_region ?_ |refine J_c ?_|(refine Kont.go (by assumption) ?_)|(simp (config:={ maxSteps:=3000000 }) (disch:=omega) only [go_sem])))
 refine Jc_if (fun hxN=>?_) (fun hxN=>?_)<;>try simp only [decide_eq_true_eq,decide_eq_false_iff_not] at hxN
 ·have hxu:x<cntS (szT Z) m:=by omega
  have hpx:=hpg x hxN
  have hw:=rwhere_w hml hxu
  have hsp:=rspread_w (k:=x) hml
  have va:=fun w hw=>asgS_lt (S:=szT Z) (k:=x) (v:=w) hml.nd hml.pos hxu hw
  have ha0:asgS (szT Z) m x v=0:=asgS_out hvm
  obtain ⟨a,hae⟩:∃a,a=asgS (szT Z) m x:=⟨_,rfl⟩
  have hsl:spL Z m x=(List.range Z.length).map (updS a v 0):=by unfold spL;rw [hae,upd_zero ha0]
  rw [←hae] at va hpx
  obtain ⟨F,hF⟩:∃F:Nat→Rat,F=fun y=>tblG Z l qs (updS a v y):=⟨_,rfl⟩
  have hpx:p[x]?=some (f1S (opT most) F (sv-1)):=by rw [hpx,hF];rfl
  rw [hsl] at hsp
  have hPl:((p.take x).map fr).length=x:=by rw [List.length_map,List.length_take];omega
  have hlA:∀y,((List.range Z.length).map (updS a v y)).length=Z.length:=fun y=>by simp
  have hb0:=tbA_lt (r:=3) (N:=6) (l:=Ns m) (P:=(p.take x).map fr) (by decide)
  have hc0:=tbA_c0 (r:=3) (l:=Ns m) (P:=(p.take x).map fr)
  (repeat (with_reducible first|refine W_seq fun K hK=>?_|refine J_block ?_|refine J_skip ?_|refine J_region ?_ |(refine Kont.go (by assumption) ?_)|(simp (config:={ maxSteps:=3000000 }) (disch:=omega) only [go_sem,↓reduceIte,hc0])))
  (first|refine call_f (hw) rfl ?_|refine callQ_f (hw) rfl ?_|refine callHK_f (hw) rfl ?_|refine callH_f (hw) rfl ?_)
  (repeat (with_reducible first|refine W_seq fun K hK=>?_|refine J_region ?_ |(refine Kont.go (by assumption) ?_)|(simp (config:={ maxSteps:=3000000 }) (disch:=omega) only [go_sem,↓reduceIte,hc0])))
  refine call_o hsp (FrzL.fs [_,_,_]) ?_
  (repeat (with_reducible first|refine W_seq fun K hK=>?_|refine J_block ?_|refine J_region ?_ |(refine Kont.go (by assumption) ?_)|(simp (config:={ maxSteps:=3000000 }) (disch:=omega) only [go_sem,↓reduceIte,Nat.reduceAdd,Ns_len,hlA])))
  refine W_loop [19,20,21,67,68,69,70,71,72,73,74,75,76,77,78,79,80,81,82,83,84,85,86,87,88,89,90,91,92,93,94,95,96,97,98,99,100] (fun y:Nat × Bool × ByteArray × ByteArray=>[(19,.f (I y.1))]) (fun y:Nat × Bool × ByteArray × ByteArray=>[oT (tabV l xs),oT tab0,some ⟨27,2,[tbA 3 (Ns m) ((p.take x).map fr)]⟩,ob 50 3 ((p.take x).map fr),some ⟨3,1,(Ns ((List.range Z.length).map (updS a v (y.1-1)))).map .f⟩,some ⟨50,3,[.f (frR y.2.1 y.2.2.1 y.2.2.2)]⟩]) (fun y:Nat × Bool × ByteArray × ByteArray=>y.1≤sv∧(∃q0,IsFr (frR y.2.1 y.2.2.1 y.2.2.2) q0 (4*(k+1))∧(0<y.1→q0=f1S (opT most) F (y.1-1)))) (fun y:Nat × Bool × ByteArray × ByteArray=>sv-y.1) ((0,false,⟨#[]⟩,⟨#[]⟩)) (⟨Nat.zero_le _,_,IsFr.raw _ _ _ (Nat.zero_le _) (Nat.zero_le _),fun h=>absurd h (by decide)⟩) (by refine weak_of ?_ ?_<;>simp (disch:=omega) only [go_sem,Nat.reduceAdd]<;>first|rfl|exact ⟨rfl,rfl⟩|exact Or.inl rfl|exact ⟨Or.inl rfl,Or.inl rfl⟩|trivial|assumption|omega|(symm;assumption)|((repeat' apply And.intro)<;>first|rfl|omega|trivial|exact .inl rfl|exact .inr ⟨rfl,rfl⟩|exact .inr rfl|(right;symm;assumption)|(symm;assumption)|assumption)) ?_
  ·rintro ⟨y,g0,n0,d0⟩ ⟨hy,q0,hf0,hq0⟩
   replace hy:y≤sv:=hy
   replace hf0:IsFr (frR g0 n0 d0) q0 (4*(k+1)):=hf0
   replace hq0:0<y→q0=f1S (opT most) F (y-1):=hq0
   simp only [go_sem]
   (repeat (with_reducible first|refine W_seq fun K hK=>?_|refine J_region ?_ |refine J_c ?_|(refine Kont.go (by assumption) ?_)|(simp (config:={ maxSteps:=3000000 }) (disch:=omega) only [go_sem,↓reduceIte,gz])))
   refine Jc_if (fun hys=>?_) (fun hys=>?_)<;>try simp only [decide_eq_true_eq,decide_eq_false_iff_not] at hys
   ·have hub:=hupd a (fun w hw=>va w hw) y (by omega)
    have iy:=idxS_lt (S:=szT Z) hub
    obtain ⟨i,hi⟩:∃i,i=idxS (szT Z) (updS a v y) l:=⟨_,rfl⟩
    rw [←hi,←h.len] at iy
    obtain ⟨g,n,d,x1,f1⟩:=h.fr.at3 iy
    have c1:=rcell_w h hub (by rw [←hi];exact x1)
    have hFy:F y=qs[i]:=by rw [hF];show qs.getD (idxS (szT Z) (updS a v y) l) 0=_;rw [←hi,lget_lt qs 0 iy]
    have hst:((Ns ((List.range Z.length).map (updS a v (y-1)))).map AV.f).set v (.f (I (y:Int)))=(Ns ((List.range Z.length).map (updS a v y))).map AV.f:=by rw [←List.map_set,Ns_set,upd_set hvl]
    have hwl:((Ns ((List.range Z.length).map (updS a v (y-1)))).map AV.f).length=Z.length:=by rw [List.length_map,Ns_len,hlA]
    have hgw:((Ns ((List.range Z.length).map (updS a v (y-1)))).map AV.f)[v]?=some (.f (I ((((List.range Z.length).map (updS a v (y-1))).getD v 0:Nat):Int))):=by rw [List.getElem?_map,Ns_get (by rw [hlA];exact hvl)];rfl
    have hcm:=rcmp_w f1 hf0 (by omega) (by omega)
    have f1u:=f1.up (show k≤4*(k+1) by omega)
    have hFf:∀z,Fz (F z) k:=fun z=>by rw [hF];exact getD_fz hrow h1
    have hfz:=f1S_fz hFf (opT_fz most)
    have hy1:y+1-1=y:=by omega
    (repeat (with_reducible first|refine W_seq fun K hK=>?_|refine J_block ?_|refine J_skip ?_|refine J_region ?_ |(refine Kont.go (by assumption) ?_)|(simp (config:={ maxSteps:=3000000 }) (disch:=omega) only [go_sem,↓reduceIte,Nat.reduceAdd,hst,hgw,hvl])))
    refine call_fl c1 (flat_frR _ _ _) (FrzL.cons (.f _) (FrzL.cons (.f _) (FrzL.cons (Frz.own0 rfl (by rw [Ns_len,hlA])) (FrzL.nil _)))) ?_
    (repeat (first|(with_reducible first|refine W_seq fun K hK=>?_|refine J_region ?_ |(refine Kont.go (by assumption) ?_)|(simp (config:={ maxSteps:=3000000 }) (disch:=omega) only [go_sem,↓reduceIte,Nat.reduceAdd]))|refine call_f (rcmp_w (by assumption) (by assumption) (by omega) (by omega)) rfl ?_))
    by_cases y0:y=0
    ·subst y0
     (repeat (with_reducible first|refine J_region ?_ |refine J_c ?_|refine Jc_true ?_|(refine Kont.go (by assumption) ?_)|(simp (config:={ maxSteps:=3000000 }) (disch:=omega) only [go_sem,↓reduceIte,Nat.reduceAdd,Int.reduceAdd])))
     refine ⟨(0+1,g,n,d),⟨by show 1≤sv;omega,_,f1u,fun _=>by show qs[i]=F 0;exact hFy.symm⟩,by show sv-1<sv-0;omega,weak_of ?_ ?_⟩<;>(try simp (disch:=omega) only [go_sem,Nat.reduceAdd,hb0])<;>(try first|done|omega|rfl|exact ⟨rfl,rfl⟩|trivial)
    ·have y0':¬(y:Int)=0:=by omega
     have hq1:=hq0 (by omega)
     obtain ⟨y',rfl⟩:∃y',y=y'+1:=⟨y-1,by omega⟩
     have hq1:q0=f1S (opT most) F y':=hq1
     have hfn:f1S (opT most) F (y'+1)=opT most q0 qs[i]:=by rw [hq1,←hFy];rfl
     cases most with
     | true =>
      by_cases hc:0<cmpR qs[i] q0
      ·have hgt:=cmpR_gt.1 hc
       have hop:opT true q0 qs[i]=qs[i]:=by show gtrS q0 qs[i]=_;unfold gtrS;rw [if_pos hgt]
       (repeat (with_reducible first|refine J_region ?_ |refine J_c ?_|refine Jc_true ?_|(refine Kont.go (by assumption) ?_)|(simp (config:={ maxSteps:=3000000 }) (disch:=omega) only [go_sem,Nat.reduceEqDiff,↓reduceIte,Nat.reduceAdd,hc])))
       refine ⟨(y'+1+1,g,n,d),⟨by show y'+1+1≤sv;omega,_,f1u,fun _=>by show qs[i]=f1S (opT true) F (y'+1);rw [hfn,hop]⟩,by show sv-(y'+1+1)<sv-(y'+1);omega,weak_of ?_ ?_⟩<;>(try simp (disch:=omega) only [go_sem,Nat.reduceAdd,hb0])<;>(try first|done|omega|rfl|exact ⟨rfl,rfl⟩|trivial)
      ·have hgt:¬q0<qs[i]:=fun hh=>hc (cmpR_gt.2 hh)
       have hop:opT true q0 qs[i]=q0:=by show gtrS q0 qs[i]=_;unfold gtrS;rw [if_neg hgt]
       (repeat (with_reducible first|refine W_seq fun K hK=>?_|refine J_skip ?_|refine J_region ?_ |refine J_c ?_|refine Jc_false ?_|(refine Kont.go (by assumption) ?_)|(simp (config:={ maxSteps:=3000000 }) (disch:=omega) only [go_sem,Nat.reduceEqDiff,hc])))
       refine ⟨(y'+1+1,g0,n0,d0),⟨by show y'+1+1≤sv;omega,_,hf0,fun _=>by show q0=f1S (opT true) F (y'+1);rw [hfn,hop]⟩,by show sv-(y'+1+1)<sv-(y'+1);omega,weak_of ?_ ?_⟩<;>(try simp (disch:=omega) only [go_sem,Nat.reduceAdd,hb0])<;>(try first|done|omega|rfl|exact ⟨rfl,rfl⟩|trivial)
     | false =>
      have hop:opT false q0 qs[i]=q0+qs[i]:=rfl
      have had:=radd_w hf0 f1 (by omega) (by omega)
      have hfc:IsFr (fr (q0+qs[i])) (q0+qs[i]) (4*(k+1)):=by
       rw [←hop,←hfn]
       exact .c ((hfz (y'+1)).up (Nat.mul_le_mul_right _ (by omega)))
      (repeat (first|(with_reducible first|refine W_seq fun K hK=>?_|refine J_region ?_ |refine J_c ?_|refine Jc_true ?_|refine Jc_false ?_|(refine Kont.go (by assumption) ?_)|(simp (config:={ maxSteps:=3000000 }) (disch:=omega) only [go_sem,Nat.reduceEqDiff,↓reduceIte,Nat.reduceAdd]))|refine call_f (radd_w (by assumption) (by assumption) (by omega) (by omega)) rfl ?_))
      refine ⟨(y'+1+1,cg (q0+qs[i]),cn (q0+qs[i]),cd (q0+qs[i])),⟨by show y'+1+1≤sv;omega,_,hfc,fun _=>by show q0+qs[i]=f1S (opT false) F (y'+1);rw [hfn,hop]⟩,by show sv-(y'+1+1)<sv-(y'+1);omega,weak_of ?_ ?_⟩<;>(try simp (disch:=omega) only [go_sem,Nat.reduceAdd,hb0])<;>(try first|done|omega|rfl|exact ⟨rfl,rfl⟩|trivial)
   ·have he:y=sv:=by omega
    subst he
    have hq1:=hq0 (by omega)
    have htk:=take_frs hpx
    rw [←hq1] at htk
    have hca:=rcanon_w hf0 (by omega)
    obtain ⟨q,hq⟩:∃q,q=q0:=⟨_,rfl⟩
    have hqx:fr q0=fr q:=by rw [hq]
    rw [←hq] at htk
    by_cases x0:x=0
    ·subst x0
     have e1:ob 50 3 ((p.take 0).map fr)=none:=rfl
     have e2:(p.take (0+1)).map fr=[fr q]:=htk.symm
     have e3:ob 50 3 [fr q]=some ⟨50,3,[.f (fr q)]⟩:=rfl
     have e4:tbA 3 (Ns m) [fr q]=.agg [.f (.fz 1 (Ns m)),.own 3 3 0 1]:=rfl
     rw [←h00,e1]
     (repeat (first|(with_reducible first|refine W_seq fun K hK=>?_|refine J_exit ?_|refine J_region ?_ |refine aApp_old ?_|(refine Kont.go (by assumption) ?_)|(simp (config:={ maxSteps:=3000000 }) (disch:=omega) only [go_sem,Nat.reduceEqDiff,↓reduceIte,Nat.reduceAdd,Nat.reduceLeDiff,Int.reduceAdd,hqx]))|refine call_f (rcanon_w (by assumption) (by omega)) rfl ?_|refine And.intro (by omega) ?_))
     refine ⟨0+1,by omega,by omega,weak_ren [0,1,2,7] ⟨by decide,by first|decide|(simp;done)⟩ ?_ ?_⟩<;>(try simp (disch:=omega) only [go_sem,Nat.reduceAdd,e2,e3,e4,List.map_cons,List.map_nil])<;>(try first|done|omega|rfl|exact ⟨rfl,rfl⟩|trivial)
    ·have hne:(p.take x).map fr≠[]:=fun h=>by have:=hPl;rw [h,List.length_nil] at this;omega
     have hne1:(p.take (x+1)).map fr≠[]:=by rw [←htk];simp
     have hln1:((p.take (x+1)).map fr).length=x+1:=by rw [←htk,List.length_append,hPl];rfl
     obtain ⟨T,hT⟩:∃T,T=(p.take x).map fr:=⟨_,rfl⟩
     rw [←hT] at hne hPl htk ⊢
     have e1:ob 50 3 T=some ⟨50,3,T.map .f⟩:=ob_pos hne
     have e2:tbA 3 (Ns m) T=.agg [.f (.fz 1 (Ns m)),.own 3 3 0 x]:=by rw [tbA_pos hne,hPl]
     have e3:ob 50 3 ((p.take (x+1)).map fr)=some ⟨50,3,T.map .f++[.f (fr q)]⟩:=by rw [ob_pos hne1,←htk,List.map_append];rfl
     have e4:tbA 3 (Ns m) ((p.take (x+1)).map fr)=.agg [.f (.fz 1 (Ns m)),.own 3 3 0 (x+1)]:=by rw [tbA_pos hne1,hln1]
     have e5:(T.map AV.f).take x=T.map .f:=List.take_of_length_le (by rw [List.length_map];omega)
     have e6:(x+1)*40≤140737488355328:=by omega
     rw [e1,e2]
     (repeat (first|(with_reducible first|refine W_seq fun K hK=>?_|refine J_exit ?_|refine J_region ?_ |refine aApp_old ?_|(refine Kont.go (by assumption) ?_)|(simp (config:={ maxSteps:=3000000 }) (disch:=omega) only [go_sem,Nat.reduceEqDiff,↓reduceIte,Nat.reduceAdd,Nat.reduceLeDiff,hqx,hPl,e5,e6,List.length_map]))|refine call_f (rcanon_w (by assumption) (by omega)) rfl ?_|refine And.intro (by omega) ?_))
     refine ⟨x+1,by omega,by omega,weak_ren [0,1,2,7] ⟨by decide,by first|decide|(simp;done)⟩ ?_ ?_⟩<;>(try simp (disch:=omega) only [go_sem,Nat.reduceAdd,e3,e4,map_ren_f,List.map_append,List.map_cons,List.map_nil])<;>(try first|done|omega|rfl|exact ⟨rfl,rfl⟩|trivial)
 ·have he:x=N:=by omega
  subst he
  have hne:p.map fr≠[]:=fun h=>by have:=congrArg List.length h;rw [List.length_map,List.length_nil] at this;omega
  rw [List.take_of_length_le (by omega)]
  have e1:ob 50 3 (p.map fr)=some ⟨50,3,(p.map fr).map .f⟩:=ob_pos hne
  have e2:tbA 3 (Ns m) (p.map fr)=.agg [.f (.fz 1 (Ns m)),.own 3 3 0 (p.map fr).length]:=tbA_pos hne
  rw [e1,e2]
  (repeat (with_reducible first|refine W_seq fun K hK=>?_|refine J_exit ?_|refine J_ret ?_|refine J_region ?_ |(refine Kont.go (by assumption) ?_)|(simp (config:={ maxSteps:=3000000 }) (disch:=omega) only [go_sem,↓reduceIte,Nat.reduceAdd])))
  exact ⟨_,rfl,FrzL.cons (Frz.aggL (FrzL.cons (.f _) (FrzL.cons (Frz.own0 rfl (by rw [List.length_map])) (FrzL.nil _)))) (FrzL.cons (.f _) (FrzL.nil _))⟩
end Go.Proofs.YtmcgeppgfjlclaaGreatDoor
set_option linter.unusedVariables false
set_option linter.unusedSimpArgs false
namespace Go.Proofs.YtmcgeppgfjlclaaGreatDoor
open Go Go.RowKit
section
variable {Z l : List Nat} {qs : List Rat} {v w i : Nat} {S a b : Nat → Nat}
theorem lessT_cons_eq {u:Nat} {l:List Nat} (h:u=v):lessT (u::l) v=lessT l v:=by
 unfold lessT;rw [List.filter_cons,if_neg (by simp [h])]
theorem lessT_cons_ne {u:Nat} {l:List Nat} (h:u≠v):lessT (u::l) v=u::lessT l v:=by
 unfold lessT;rw [List.filter_cons,if_pos (by simp [h])]
theorem lessT_out (h:v∉l):lessT l v=l:=by
 unfold lessT
 exact List.filter_eq_self.2 fun x hx=>decide_eq_true fun e=>h (by rw [←e];exact hx)
theorem idx_mono (hn:l.Nodup) (ha:∀u∈l,a u<S u) (hb:∀u∈l,b u<S u) (hv:v∈l) (hab:a v=b v) (h:idxS S a (lessT l v)<idxS S b (lessT l v)):idxS S a l<idxS S b l:=by
 induction l with
 | nil=>cases hv
 | cons u l ih =>
  obtain ⟨n1,n2⟩:=List.nodup_cons.1 hn
  have ha':∀w∈l,a w<S w:=fun w hw=>ha w (List.mem_cons_of_mem _ hw)
  have hb':∀w∈l,b w<S w:=fun w hw=>hb w (List.mem_cons_of_mem _ hw)
  have l1:=idxS_lt (S:=S) ha'
  have l2:=idxS_lt (S:=S) hb'
  show a u*cntS S l+idxS S a l<b u*cntS S l+idxS S b l
  by_cases e:u=v
  ·subst e
   rw [lessT_cons_eq rfl,lessT_out n1] at h
   rw [hab];omega
  ·rw [lessT_cons_ne e] at h
   have h:a u*cntS S (lessT l v)+idxS S a (lessT l v)<b u*cntS S (lessT l v)+idxS S b (lessT l v):=h
   have m1:=idxS_lt (S:=S) (a:=a) (l:=lessT l v) fun w hw=>ha' w (mem_lessT.1 hw).1
   have m2:=idxS_lt (S:=S) (a:=b) (l:=lessT l v) fun w hw=>hb' w (mem_lessT.1 hw).1
   have hvl:v∈l:=(List.mem_cons.1 hv).resolve_left (Ne.symm e)
   rcases Nat.lt_trichotomy (a u) (b u) with h1|h1|h1
   ·have:=Nat.mul_le_mul_right (cntS S l) (show a u+1≤b u by omega)
    rw [Nat.add_mul] at this;omega
   ·rw [h1] at h ⊢
    have:=ih n2 ha' hb' hvl (by omega)
    omega
   ·have:=Nat.mul_le_mul_right (cntS S (lessT l v)) (show b u+1≤a u by omega)
    rw [Nat.add_mul] at this;omega
def fixT (Z l:List Nat) (v w:Nat) (qs:List Rat):List Rat:=tblS (szT Z) (lessT l v) fun a=>tblG Z l qs (updS a v w)
theorem fixT_len:(fixT Z l v w qs).length=cntS (szT Z) (lessT l v):=tblS_len
theorem fix_places (h:OkT Z l) (hv:v∈l) (hw:w<szT Z v) :
  (List.range (cntS (szT Z) l)).filter (fun k=>asgS (szT Z) l k v==w)=(List.range (cntS (szT Z) (lessT l v))).map fun x=>idxS (szT Z) (updS (asgS (szT Z) (lessT l v) x) v w) l:=by
 have hm:=h.less (v:=v)
 have hvm:v∉lessT l v:=fun h=>(mem_lessT.1 h).2 rfl
 have hlt:∀x,x<cntS (szT Z) (lessT l v)→∀u∈l,updS (asgS (szT Z) (lessT l v) x) v w u<szT Z u:=fun x hx=>upd_lt (fun u hu=>asgS_lt hm.nd hm.pos hx hu) hw
 have hix:∀x,x<cntS (szT Z) (lessT l v)→idxS (szT Z) (updS (asgS (szT Z) (lessT l v) x) v w) (lessT l v)=x:=fun x hx=>by
  rw [idxS_congr (b:=asgS (szT Z) (lessT l v) x) fun u hu=>updS_ne (mem_lessT.1 hu).2]
  exact idxS_asg hm.nd hm.pos hx
 refine filt_map (fun x y hxy hy=>?_) (fun x hx=>⟨idxS_lt (hlt x hx),?_⟩) (fun k hk hp=>?_)
 ·refine idx_mono h.nd (hlt x (by omega)) (hlt y hy) hv (by rw [updS_self,updS_self]) ?_
  rw [hix x (by omega),hix y hy];exact hxy
 ·rw [beq_iff_eq,asgS_idx h.nd (hlt x hx) hv,updS_self]
 ·have hp:=beq_iff_eq.1 hp
  have ha:∀u∈lessT l v,asgS (szT Z) l k u<szT Z u:=fun u hu=>asgS_lt h.nd h.pos hk (mem_lessT.1 hu).1
  refine ⟨idxS (szT Z) (asgS (szT Z) l k) (lessT l v),idxS_lt ha,?_⟩
  rw [idxS_congr (b:=asgS (szT Z) l k) fun u hu=>?_]
  ·exact idxS_asg h.nd h.pos hk
  ·by_cases e:u=v
   ·rw [e,updS_self,hp]
   ·rw [updS_ne e,asgS_idx hm.nd ha (mem_lessT.2 ⟨hu,e⟩)]
theorem fix_filter (h:OkT Z l) (hv:v∈l) (hw:w<szT Z v):fixT Z l v w qs=((List.range (cntS (szT Z) l)).filter (fun k=>asgS (szT Z) l k v==w)).map fun k=>qs.getD k 0:=by
 rw [fix_places h hv hw,List.map_map];rfl
theorem fix_out (h:OkT Z l) (hv:v∉l) (hq:qs.length=cntS (szT Z) l):fixT Z l v w qs=qs:=by
 unfold fixT
 rw [lessT_out hv]
 have h1:=tblS_of (S:=szT Z) (L:=qs) (0:Rat) h.nd h.pos hq
 conv=>rhs;rw [h1]
 refine tblS_congr h fun a _=>?_
 unfold tblG
 rw [idxS_congr (b:=a) fun u hu=>updS_ne fun e=>hv (by rw [←e];exact hu)]
theorem ris_at (h:l.Pairwise (·< ·)) (hv:v∈l):∃i,i<l.length∧l.getD i 0=v∧(∀j,j<i→l.getD j 0≠v)∧l.take i++l.drop (i+1)=lessT l v:=by
 obtain ⟨i,hi,e⟩:=List.getElem_of_mem hv
 have hp:=List.pairwise_iff_getElem.1 h
 refine ⟨i,hi,by rw [lget_lt l 0 hi];exact e,fun j hj=>?_,?_⟩
 ·rw [lget_lt l 0 (by omega),←e]
  have:=hp j i (by omega) hi hj
  omega
 ·have hs:l=l.take i++(l[i]::l.drop (i+1)):=by rw [←List.drop_eq_getElem_cons hi,List.take_append_drop]
  have h1:lessT (l.take i) v=l.take i:=lessT_out fun hm=>by
   obtain ⟨j,hj,ej⟩:=List.getElem_of_mem hm
   rw [List.length_take] at hj
   rw [List.getElem_take] at ej
   have:=hp j i (by omega) hi (by omega)
   omega
  have h2:lessT (l.drop (i+1)) v=l.drop (i+1):=lessT_out fun hm=>by
   obtain ⟨j,hj,ej⟩:=List.getElem_of_mem hm
   rw [List.length_drop] at hj
   rw [List.getElem_drop] at ej
   have:=hp i (i+1+j) hi (by omega) (by omega)
   omega
  have h3:lessT l v=lessT (l.take i) v++lessT (l[i]::l.drop (i+1)) v:=by
   conv=>lhs;rw [hs]
   unfold lessT;rw [List.filter_append]
  rw [h3,h1,lessT_cons_eq e,h2]
end
theorem frs_at {l:List Nat} {v i:Nat} (hi:i<l.length) (h1:l.getD i 0=v) (h2:∀j,j<i→l.getD j 0≠v):frsI (fun j=>decide ((l.map Int.ofNat).getD j 0=(v:Int))) (l.map Int.ofNat).length=i:=by
 have hg:∀j,j<l.length→(l.map Int.ofNat).getD j 0=((l.getD j 0:Nat):Int):=fun j hj=>by
  rw [lget_lt _ 0 (by rw [List.length_map];exact hj),List.getElem_map,lget_lt l 0 hj];rfl
 refine frsI_some (by rw [List.length_map];exact hi) (decide_eq_true (by rw [hg i hi,h1])) fun j hj=>decide_eq_false ?_
 rw [hg j (by omega)]
 have:=h2 j hj
 omega
theorem frs_not {l:List Nat} {v:Nat} (h:v∉l):frsI (fun j=>decide ((l.map Int.ofNat).getD j 0=(v:Int))) (l.map Int.ofNat).length=-1:=by
 refine frsI_none fun j hj=>decide_eq_false fun e=>?_
 rw [List.length_map] at hj
 rw [lget_lt _ 0 (by rw [List.length_map];exact hj),List.getElem_map] at e
 have e:((l[j]:Nat):Int)=(v:Int):=e
 exact h (by rw [←show l[j]=v by omega];exact List.getElem_mem _)
end Go.Proofs.YtmcgeppgfjlclaaGreatDoor
set_option linter.unusedVariables false
set_option linter.unusedSimpArgs false
namespace Go.Proofs.YtmcgeppgfjlclaaGreatDoor
open Go Go.RowKit Go.Shelf
def delRen:Go.Shelf.Ren:=⟨fun|23=>65|n=>n,fun|22=>22|3=>3|4=>4|0=>0|n=>n,fun n=>n⟩
theorem delLays:Lays2.n23 Tryz.prog delRen where
 mixed:=by kernel_rfl
 f23:=Tryz.func65.trans (congrArg some (by kernel_rfl))
 t0:=Tryz.underlying0
 a0:=Tryz.isAgg0
 z0:=Tryz.sizeOf0
 v0:=Tryz.zeroValue0
 t3:=Tryz.underlying3
 a3:=Tryz.isAgg3
 z3:=Tryz.sizeOf3
 v3:=Tryz.zeroValue3
 t4:=Tryz.underlying4
 a4:=Tryz.isAgg4
 z4:=Tryz.sizeOf4
 v4:=Tryz.zeroValue4
 t22:=Tryz.underlying22
 a22:=Tryz.isAgg22
 z22:=Tryz.sizeOf22
 v22:=Tryz.zeroValue22
 i3:=by kernel_rfl
theorem delete_u {H:AH} {q i j:Nat} {zs:List Int} (hq:H[q]?=some (some ⟨3,1,(zs.map I).map .f⟩)) (hz:zs.length≤1000) (hij:i≤j) (hj:j≤zs.length) :
  CallU Tryz.prog 65 [.own q 1 0 zs.length,.f (I (i:Int)),.f (I (j:Int))] H (fun u G=>u=.own q 1 0 (zs.length-(j-i))∧G=H.set q (some ⟨3,1,((zs.take i++zs.drop j++List.replicate (j-i) 0).map I).map .f⟩)):=by
 refine ⟨by kernel_rfl,fun X w F loc t a ys R hys=>?_⟩
 obtain ⟨hyl,hyr⟩:=hys
 have h3:ys.size=3:=hyl.symm
 obtain ⟨y0,y1,y2,rfl⟩:∃y0 y1 y2,ys=#[y0,y1,y2]:=by
  match ys,h3 with
  | ⟨[a,b,c]⟩,_=>exact ⟨a,b,c,rfl⟩
 have r1:Rep w F loc H.length (.f (I (i:Int))) y1:=hyr 1 _ rfl
 have r2:Rep w F loc H.length (.f (I (j:Int))) y2:=hyr 2 _ rfl
 have e1:y1=.int .i64 i:=v_rep r1
 have e2:y2=.int .i64 j:=v_rep r2
 subst e1
 subst e2
 obtain ⟨cap,vs,hys0,hk,hm,hl2,hr,hv,hvs,hcell⟩:=own_cellsI (ys:=#[y0]) R hq ⟨rfl,fun n x hx=>by
  match n,hx with
  | 0,hx=>cases hx;exact hyr 0 _ rfl
  | n+1,hx=>simp at hx⟩
 obtain rfl:y0=.slice (some ⟨(loc q).1,0,none⟩) zs.length cap:=by
  have:=congrArg (fun a:Array Value=>a.getD 0 undef) hys0
  simpa using this
 have hlen:(zs.take i++zs.drop j++List.replicate (j-i) 0).length=zs.length:=by
  rw [List.length_append,List.length_append,List.length_replicate,List.length_take,List.length_drop];omega
 refine (Any.slices_Delete_int delLays (loc q).1 0 cap i j zs w (holds_own hv hcell) (by omega) hm hij hj).mono ?_
 rintro e w' ⟨rfl,n,rfl⟩
 have hR:=put_rel (n:=n) (os:=#[]) (ts:=zs.take i++zs.drop j++List.replicate (j-i) 0) R hq hr hv (by omega) (by omega)
 rw [Go.Sort.grow_empty] at hR
 refine ⟨_,F,loc,_,_,⟨rfl,rfl⟩,rfl,hR,?_⟩
 have:=Rep.own (w:=Go.Sort.putRow (Value.int .i64) (Go.Sort.ahead w n) (loc q).1 0 (zs.take i++zs.drop j++List.replicate (j-i) 0).toArray) (F:=F) (loc:=loc) (N:=(H.set q (some ⟨3,1,((zs.take i++zs.drop j++List.replicate (j-i) 0).map I).map AV.f⟩)).length) q 1 0 (zs.length-(j-i)) cap (by rw [List.length_set];exact hr) (by omega) hm (by omega)
 exact this
end Go.Proofs.YtmcgeppgfjlclaaGreatDoor
set_option linter.unusedVariables false
set_option linter.unusedSimpArgs false
namespace Go.Proofs.YtmcgeppgfjlclaaGreatDoor
open Go Go.RowKit
theorem J_asFz {X:Cx} {P:Program} {c:Code} {Q:Exit→AS→Prop} {t:List AV} {H:AH} {j sz cap:Nat} {a:Option Addr} (hj:t[j]?=some (.f (.v (.slice a 0 cap)))) (hm:cap≤maxLen) (h:J X P c Q ⟨t.set j (.f (.fz sz [])),H⟩):J X P c Q ⟨t,H⟩:=fun hk b w ⟨F,loc,R⟩=>h hk b w ⟨F,loc,by
 refine ⟨R.hF,R.hG,R.hN,R.below,R.defers,by show (t.set j _).length=_;rw [List.length_set];exact R.len,fun i x hi=>?_,R.obj,R.new,R.nF,R.inj⟩
 by_cases e:i=j
 ·subst e
  have hi:(t.set i (.f (.fz sz [])))[i]?=some x:=hi
  rw [List.getElem?_set_self (glt hj)] at hi
  cases hi
  have:=R.tmps i _ hj
  generalize b.tmps.getD i undef=u at this ⊢
  cases this with|f _ _ h=>cases h;exact .f _ _ (.fz0 _ _ _ hm)
 ·have hi:(t.set j (.f (.fz sz [])))[i]?=some x:=hi
  rw [List.getElem?_set_ne (Ne.symm e)] at hi
  exact R.tmps i x hi⟩
set_option maxRecDepth 100000 in
theorem cloneN_w (cap:Nat):GoodO Tryz.prog 42 [.v (.slice none 0 cap)] (.f (.v (.slice none 0 0))):=by
 refine goodO_of Tryz.func42 rfl (by kernel_rfl) fun X hO hrd=>?_;rw [Tryz.ntmps42,Tryz.results42];simp only [ast0,List.map_cons,List.map_nil,List.length_cons,List.length_nil,Nat.reduceAdd,Nat.reduceSub,List.replicate_succ,List.replicate_zero,List.cons_append,List.nil_append]
 (repeat (with_reducible first|refine W_seq fun K hK=>?_|refine J_region ?_ |(refine Kont.go (by assumption) ?_)|(simp (config:={ maxSteps:=3000000 }) (disch:=omega) only [go_sem])))
 refine ⟨.slice none 0 cap,.slice none 0 0,true,rfl,rfl,fun w=>by kernel_rfl,?_⟩
 (repeat (with_reducible first|refine W_seq fun K hK=>?_|refine J_ret ?_|refine J_region ?_ |refine J_c ?_|refine Jc_true ?_|(refine Kont.go (by assumption) ?_)|(simp (config:={ maxSteps:=3000000 }) (disch:=omega) only [go_sem])))
 exact ⟨rfl,.v _⟩
set_option maxRecDepth 100000 in
theorem cloneE_w (a:Addr) (cap:Nat) (hm:cap≤maxLen):GoodO Tryz.prog 42 [.v (.slice (some a) 0 cap)] (.own 3 1 []):=by
 refine goodO_of Tryz.func42 rfl (by kernel_rfl) fun X hO hrd=>?_;rw [Tryz.ntmps42,Tryz.results42];simp only [ast0,List.map_cons,List.map_nil,List.length_cons,List.length_nil,Nat.reduceAdd,Nat.reduceSub,List.replicate_succ,List.replicate_zero,List.cons_append,List.nil_append]
 (repeat (with_reducible first|refine W_seq fun K hK=>?_|refine J_region ?_ |(refine Kont.go (by assumption) ?_)|(simp (config:={ maxSteps:=3000000 }) (disch:=omega) only [go_sem])))
 refine ⟨.slice (some a) 0 cap,.slice none 0 0,false,rfl,rfl,fun w=>by kernel_rfl,?_⟩
 (repeat (with_reducible first|refine W_seq fun K hK=>?_|refine J_skip ?_|refine J_c ?_|refine Jc_false ?_|(refine Kont.go (by assumption) ?_)|(simp (config:={ maxSteps:=3000000 }) (disch:=omega) only [go_sem])))
 refine J_asFz (j:=0) (sz:=1) rfl hm ?_
 simp only [go_sem]
 (repeat (first|(with_reducible first|refine J_ret ?_|refine J_region ?_ |refine aApp_old ?_|(refine Kont.go (by assumption) ?_)|(simp (config:={ maxSteps:=3000000 }) (disch:=omega) only [go_sem]))|refine And.intro (by omega) ?_))
 exact ⟨1,rfl,rfl,fun x hx=>by cases hx⟩
theorem cloneF_w (l:List Int) (hl:l.length≤1000):Good Tryz.prog 42 [ints l] (ints l):=by
 cases l with
 | cons z l =>
  have h:=cloneZ_w z l (by simp only [List.length_cons] at hl;omega)
  have e:rvG 3 1 ((z::l).map I)=.own 3 1 ((z::l).map I):=if_neg (by simp)
  rw [←e] at h
  exact (freshO h).good h.1
 | nil =>
  refine ⟨(cloneN_w 0).1,fun w G ys hT hG hys=>?_⟩
  obtain ⟨hl,hr⟩:=hys
  have h1:ys.size=1:=hl.symm
  have h0:=hr 0 _ rfl
  obtain ⟨u,rfl⟩:=Array.size_eq_one_iff.1 h1
  replace h0:RepF w G (.fz 1 []) u:=h0
  obtain ⟨ad,cap,hm,rfl⟩:∃ad cap,cap≤maxLen∧u=.slice ad 0 cap:=by
   generalize he:([]:List FV)=es at h0
   cases h0 with
   | fz0 _ a cap hm=>exact ⟨a,cap,hm,rfl⟩
   | fz _ _ b off cap _ _ hm=>subst he;exact ⟨_,cap,hm,rfl⟩
  have hy:RepFL w G [.v (.slice ad 0 cap)] #[.slice ad 0 cap]:=⟨rfl,fun j x hj=>by
   match j,hj with
   | 0,hj=>cases hj;exact .v _
   | j+1,hj=>simp at hj⟩
  cases ad with
  | none =>
   refine ((cloneN_w cap).2 w G _ hT hG hy).mono ?_
   rintro e w' ⟨v,rfl,hb,hr⟩
   refine ⟨v,rfl,hb,?_⟩
   cases hr with
   | f _ _ hf h=>cases h;exact .fz0 _ _ _ (by unfold maxLen;omega)
  | some ad =>
   refine ((cloneE_w ad cap hm).2 w G _ hT hG hy).mono ?_
   rintro e w' ⟨v,rfl,hb,hr⟩
   refine ⟨v,rfl,hb,?_⟩
   cases hr with
   | own _ _ _ g cap hbg hk hm hf hu vs hv hs hc=>exact .fz0 _ _ _ hm
end Go.Proofs.YtmcgeppgfjlclaaGreatDoor
