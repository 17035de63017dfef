/- Tables: sums of many; Norm, the program's and the document's: walked. Conditions: what may be; numbers of at most 100000 bytes. -/
import Derived.Test.YtmcgeppgfjlclaaGreatDoorYB25
import Derived.Test.YtmcgeppgfjlclaaGreatDoorYB22
import Derived.Test.YtmcgeppgfjlclaaGreatDoorYB24
-- NOOWN
set_option linter.unusedVariables false
set_option linter.unusedSimpArgs false
namespace Go.Proofs.YtmcgeppgfjlclaaGreatDoor
open Go Go.RowKit
theorem sum_boundL {k i n:Nat} (hi:i≤n) (hn:n≤65536) (hk:k≤100000):8+i*(k+1)≤11000000000:=by
 have:=Nat.mul_le_mul (show i≤65536 by omega) (show k+1≤100001 by omega);omega
set_option maxRecDepth 100000 in
theorem sumL_w {xs:List FV} {l:List Rat} {k:Nat} (hl:Frs k xs l) (h1:1≤k) (hn:l.length≤65536) (hk:k≤100000):Good Tryz.prog 66 [.fz 3 xs] (fr (sumR l)):=by
 have hr:=hl.row h1
 refine good_of Tryz.func66 rfl (by kernel_rfl) fun X hO hrd=>?_;rw [Tryz.ntmps66,Tryz.results66];simp only [ast0,List.map_cons,List.map_nil,List.length_cons,List.length_nil,Nat.reduceAdd,Nat.reduceSub,List.replicate_succ,List.replicate_zero,List.cons_append,List.nil_append]
 (repeat (first|(with_reducible first|refine W_seq fun K hK=>?_|refine J_block ?_|refine J_region ?_ |(refine Kont.go (by assumption) ?_)|(simp (config:={ maxSteps:=3000000 }) (disch:=omega) only [go_sem,↓reduceIte,Nat.reduceAdd,hl.len]))|refine call_f (of_good (by omega) (by omega)) rfl ?_))
 refine W_loop [5,9,10,11,12,13,14,15,16] (fun x:Nat=>[(9,.f (I x))]) (fun x:Nat=>[oF frN,oF (fr (sumTo l x))]) (fun x:Nat=>x≤l.length) (fun x:Nat=>l.length-x) (0) (Nat.zero_le _) (by refine weak_of ?_ ?_<;>simp (disch:=omega) only [go_sem,Nat.reduceAdd]<;>first|rfl|exact ⟨rfl,rfl⟩|exact Or.inl rfl|exact ⟨Or.inl rfl,Or.inl rfl⟩|trivial|assumption|omega|(symm;assumption)|((repeat' apply And.intro)<;>first|rfl|omega|trivial|exact .inl rfl|exact .inr ⟨rfl,rfl⟩|exact .inr rfl|(right;symm;assumption)|(symm;assumption)|assumption)) ?_
 rintro i hi
 simp only [go_sem]
 (repeat (with_reducible first|refine W_seq fun K hK=>?_|refine J_region ?_ |refine J_c ?_|(refine Kont.go (by assumption) ?_)|(simp (config:={ maxSteps:=3000000 }) (disch:=omega) only [go_sem])))
 refine Jc_if (fun hlt=>?_) (fun hlt=>?_)<;>try simp only [decide_eq_true_eq,decide_eq_false_iff_not] at hlt
 ·have hsz:=sum_boundL hi hn hk
  have hd:=IsFr.c (sumTo_fz hr i hi)
  obtain ⟨g,n,d,hx,his⟩:=hl.at3 hlt
  (repeat (first|(with_reducible first|refine W_seq fun K hK=>?_|refine J_block ?_|refine J_skip ?_|refine J_region ?_ |(refine Kont.go (by assumption) ?_)|(simp (config:={ maxSteps:=3000000 }) (disch:=omega) only [go_sem,↓reduceIte,Nat.reduceAdd,hx,hlt,sumTo_next hlt]))|refine call_f (add_w (by assumption) (by assumption) (by omega) (by omega)) rfl ?_))
  refine ⟨i+1,by omega,by omega,weak_of ?_ ?_⟩<;>(try simp (disch:=omega) only [go_sem,Nat.reduceAdd])<;>(try first|done|omega|rfl|exact ⟨rfl,rfl⟩|trivial)
 ·have he:i=l.length:=by omega
  subst he
  (repeat (with_reducible first|refine W_seq fun K hK=>?_|refine J_exit ?_|refine J_ret ?_|refine J_region ?_ |(refine Kont.go (by assumption) ?_)|(simp (config:={ maxSteps:=3000000 }) (disch:=omega) only [go_sem,↓reduceIte,Nat.reduceAdd])))
  exact Frz.f _
set_option maxRecDepth 100000 in
theorem rsumL_w {xs:List FV} {l:List Rat} {k:Nat} (hl:Frs k xs l) (h1:1≤k) (hn:l.length≤65536) (hk:k≤100000):Good Tryz.prog 68 [.fz 3 xs] (fr (sumR l)):=by
 have hr:=hl.row h1
 refine good_of Tryz.func68 rfl (by kernel_rfl) fun X hO hrd=>?_;rw [Tryz.ntmps68,Tryz.results68];simp only [ast0,List.map_cons,List.map_nil,List.length_cons,List.length_nil,Nat.reduceAdd,Nat.reduceSub,List.replicate_succ,List.replicate_zero,List.cons_append,List.nil_append]
 (repeat (first|(with_reducible first|refine W_seq fun K hK=>?_|refine J_block ?_|refine J_region ?_ |(refine Kont.go (by assumption) ?_)|(simp (config:={ maxSteps:=3000000 }) (disch:=omega) only [go_sem,↓reduceIte,Nat.reduceAdd]))|refine call_f (rof_frac (by omega) (by omega)) rfl ?_))
 refine W_loop [4,6,7,8,9,10,11,12,13,14,15,16,17] (fun x:Nat=>[(4,.f (I x))]) (fun x:Nat=>[oF frN,oF (fr (sumTo l x))]) (fun x:Nat=>x≤l.length) (fun x:Nat=>l.length-x) (0) (Nat.zero_le _) (by refine weak_of ?_ ?_<;>simp (disch:=omega) only [go_sem,Nat.reduceAdd]<;>first|rfl|exact ⟨rfl,rfl⟩|exact Or.inl rfl|exact ⟨Or.inl rfl,Or.inl rfl⟩|trivial|assumption|omega|(symm;assumption)|((repeat' apply And.intro)<;>first|rfl|omega|trivial|exact .inl rfl|exact .inr ⟨rfl,rfl⟩|exact .inr rfl|(right;symm;assumption)|(symm;assumption)|assumption)) ?_
 rintro i hi
 simp only [go_sem]
 (repeat (with_reducible first|refine W_seq fun K hK=>?_|refine J_region ?_ |refine J_c ?_|(refine Kont.go (by assumption) ?_)|(simp (config:={ maxSteps:=3000000 }) (disch:=omega) only [go_sem,hl.len])))
 refine Jc_if (fun hlt=>?_) (fun hlt=>?_)<;>try simp only [decide_eq_true_eq,decide_eq_false_iff_not] at hlt
 ·have hsz:=sum_boundL hi hn hk
  have hd:=IsFr.c (sumTo_fz hr i hi)
  obtain ⟨g,n,d,hx,his⟩:=hl.at3 hlt
  (repeat (first|(with_reducible first|refine W_seq fun K hK=>?_|refine J_block ?_|refine J_skip ?_|refine J_region ?_ |refine J_drawn mixed (by kernel_rfl) ?_|(refine Kont.go (by assumption) ?_)|(simp (config:={ maxSteps:=3000000 }) (disch:=omega) only [go_sem,↓reduceIte,Nat.reduceAdd,hx,hlt,sumTo_next hlt]))|refine callQ_f (radd_w (by assumption) (by assumption) (by omega) (by omega)) rfl ?_))
  refine ⟨i+1,by omega,by omega,weak_of ?_ ?_⟩<;>(try simp (disch:=omega) only [go_sem,Nat.reduceAdd])<;>(try first|done|omega|rfl|exact ⟨rfl,rfl⟩|trivial)
 ·have he:i=l.length:=by omega
  subst he
  (repeat (with_reducible first|refine W_seq fun K hK=>?_|refine J_exit ?_|refine J_ret ?_|refine J_region ?_ |(refine Kont.go (by assumption) ?_)|(simp (config:={ maxSteps:=3000000 }) (disch:=omega) only [go_sem,↓reduceIte,Nat.reduceAdd])))
  exact Frz.f _
def nrmT (qs:List Rat):List Rat:=qs.map fun q=>q/sumR qs
theorem nrmT_get {qs:List Rat} {x:Nat} (hx:x<qs.length):(nrmT qs)[x]?=some (qs[x]/sumR qs):=by unfold nrmT;rw [List.getElem?_map,List.getElem?_eq_getElem hx];rfl
theorem nrmT_len {qs:List Rat}:(nrmT qs).length=qs.length:=by unfold nrmT;rw [List.length_map]
set_option maxRecDepth 100000 in
set_option maxHeartbeats 8000000 in
theorem norm_w {k:Nat} {Z l:List Nat} {xs:List FV} {qs:List Rat} (h:TbOk k Z l xs qs) (h1:1≤k) (hk:k≤100000) (h0:sumR qs≠0):Good Tryz.prog 29 [.fz 1 (Ns Z),tabV l xs] (.tup [tabV l ((nrmT qs).map fr),I 0]):=by
 have hl8:=h.ok.len
 have hcx:=h.ok.cnt
 have hcx1:=h.ok.cnt1
 have hck:=tcheck_w h
 have hqc:=h.len
 have hxl:=h.fr.len
 have hrow:=h.fr.row h1
 have hsu:=sumL_w h.fr h1 (by omega) hk
 have hsf:Fz (sumR qs) 11000000000:=(sumTo_fz hrow qs.length (Nat.le_refl _)).up (sum_boundL (Nat.le_refl _) (show qs.length≤65536 by omega) hk)
 have hcl:=cloneF_w (l.map Int.ofNat) (by rw [List.length_map];omega)
 rw [ints_Ns] at hcl
 obtain ⟨s,hs⟩:∃s,s=sumR qs:=⟨_,rfl⟩
 obtain ⟨N,hN⟩:∃N,N=qs.length:=⟨_,rfl⟩
 have hxN:xs.length=N:=by omega
 have hpg:∀x (hx:x<qs.length),(nrmT qs)[x]?=some (qs[x]/s):=fun x hx=>by rw [nrmT_get hx,hs]
 have hpl:=nrmT_len (qs:=qs)
 obtain ⟨p,hpe⟩:∃p,p=nrmT qs:=⟨_,rfl⟩
 rw [←hpe] at hpg hpl ⊢
 rw [←hs] at hsu hsf h0
 have c0:IsFr (fr s) s 11000000000:=.c hsf
 refine good_of Tryz.func29 rfl (by kernel_rfl) fun X hO hrd=>?_;rw [Tryz.ntmps29,Tryz.results29];simp only [ast0,List.map_cons,List.map_nil,List.length_cons,List.length_nil,Nat.reduceAdd,Nat.reduceSub,List.replicate_succ,List.replicate_zero,List.cons_append,List.nil_append]
 (repeat (with_reducible first|refine W_seq fun K hK=>?_|refine J_region ?_ |(refine Kont.go (by assumption) ?_)|(simp (config:={ maxSteps:=3000000 }) (disch:=omega) only [go_sem,↓reduceIte,Nat.reduceAdd])))
 (first|refine call_f (hck) rfl ?_|refine callQ_f (hck) rfl ?_|refine callHK_f (hck) rfl ?_|refine callH_f (hck) rfl ?_)
 (repeat (with_reducible first|refine W_seq fun K hK=>?_|refine J_skip ?_|refine J_region ?_ |refine J_c ?_|refine Jc_false ?_|(refine Kont.go (by assumption) ?_)|(simp (config:={ maxSteps:=3000000 }) (disch:=omega) only [go_sem,↓reduceIte])))
 (first|refine call_f (hsu) rfl ?_|refine callQ_f (hsu) rfl ?_|refine callHK_f (hsu) rfl ?_|refine callH_f (hsu) rfl ?_)
 (repeat (with_reducible first|refine W_seq fun K hK=>?_|refine J_region ?_ |(refine Kont.go (by assumption) ?_)|(simp (config:={ maxSteps:=3000000 }) (disch:=omega) only [go_sem,↓reduceIte,Nat.reduceAdd])))
 (first|refine call_f (hcl) rfl ?_|refine callQ_f (hcl) rfl ?_|refine callHK_f (hcl) rfl ?_|refine callH_f (hcl) rfl ?_)
 (repeat (with_reducible first|refine W_seq fun K hK=>?_|(refine Kont.go (by assumption) ?_)|(simp (config:={ maxSteps:=3000000 }) (disch:=omega) only [go_sem,Nat.reduceEqDiff,↓reduceIte,Nat.reduceAdd,Nat.reduceLeDiff])))
 refine J_reserve ?_
 simp only [go_sem]
 have h00:AV.f (.agg [.fz 1 (Ns l),.v (.slice none 0 0)])=tbA 4 (Ns l) ((p.take 0).map fr):=rfl
 (repeat (with_reducible first|refine J_block ?_|refine J_region ?_ |(refine Kont.go (by assumption) ?_)|(simp (config:={ maxSteps:=3000000 }) (disch:=omega) only [go_sem,↓reduceIte,hxN])))
 refine J_mask [26] (by refine weak_of ?_ ?_<;>simp (disch:=omega) only [go_sem,Nat.reduceAdd]<;>first|rfl|exact ⟨rfl,rfl⟩|exact Or.inl rfl|exact ⟨Or.inl rfl,Or.inl rfl⟩|trivial|assumption|omega|(symm;assumption)|((repeat' apply And.intro)<;>first|rfl|omega|trivial|exact .inr ⟨rfl,rfl⟩|exact .inr rfl|(right;symm;assumption)|(symm;assumption)|assumption)) ?_;simp only [go_sem]
 rw [h00]
 refine W_loop [5,10,11,12,30,31,32,33,34,35,36,37,38,39,40,41,42,43,44,45,46,47,48,49,50] (fun x:Nat=>[(30,.f (I x))]) (fun x:Nat=>[oT (tabV l xs),oT tab0,oF (fr s),some ⟨27,2,[tbA 4 (Ns l) ((p.take x).map fr)]⟩,ob 50 3 ((p.take x).map fr)]) (fun x:Nat=>x≤N) (fun x:Nat=>N-x) (0) (Nat.zero_le _) (by refine weak_of ?_ ?_<;>simp (disch:=omega) only [go_sem,Nat.reduceAdd]<;>first|rfl|exact ⟨rfl,rfl⟩|exact Or.inl rfl|exact ⟨Or.inl rfl,Or.inl rfl⟩|trivial|assumption|omega|(symm;assumption)|((repeat' apply And.intro)<;>first|rfl|omega|trivial|exact .inl rfl|exact .inr ⟨rfl,rfl⟩|exact .inr rfl|(right;symm;assumption)|(symm;assumption)|assumption)) ?_
 rintro x hx
 simp only [go_sem]
 (repeat (with_reducible first|refine W_seq fun K hK=>?_|refine J_region ?_ |refine J_c ?_|(refine Kont.go (by assumption) ?_)|(simp (config:={ maxSteps:=3000000 }) (disch:=omega) only [go_sem])))
 refine Jc_if (fun hlt=>?_) (fun hlt=>?_)<;>try simp only [decide_eq_true_eq,decide_eq_false_iff_not] at hlt
 ·have hxq:x<qs.length:=by omega
  obtain ⟨g,n,d,g1,f1⟩:=h.fr.at3 hxq
  have hpx:=hpg x hxq
  have hdv:=div_w f1 c0 (by omega) (by omega) h0
  have htk:=take_frs hpx
  obtain ⟨q,hq⟩:∃q,q=qs[x]/s:=⟨_,rfl⟩
  have hqx:fr (qs[x]/s)=fr q:=by rw [hq]
  rw [←hq] at htk
  have hPl:((p.take x).map fr).length=x:=by rw [List.length_map,List.length_take];omega
  by_cases x0:x=0
  ·subst x0
   have e1:ob 50 3 ((p.take 0).map fr)=none:=rfl
   have e2:(p.take (0+1)).map fr=[fr q]:=htk.symm
   have e3:ob 50 3 [fr q]=some ⟨50,3,[.f (fr q)]⟩:=rfl
   have e4:tbA 4 (Ns l) [fr q]=.agg [.f (.fz 1 (Ns l)),.own 4 3 0 1]:=rfl
   rw [←h00,e1]
   (repeat (first|(with_reducible first|refine W_seq fun K hK=>?_|refine J_block ?_|refine J_skip ?_|refine J_region ?_ |refine aApp_old ?_|refine J_c ?_|refine Jc_false ?_|(refine Kont.go (by assumption) ?_)|(simp (config:={ maxSteps:=3000000 }) (disch:=omega) only [go_sem,Nat.reduceEqDiff,↓reduceIte,Nat.reduceAdd,Nat.reduceLeDiff,Int.reduceLE,Int.reduceAdd,g1,hqx]))|refine call_f (div_w (by assumption) (by assumption) (by omega) (by omega) (by assumption)) rfl ?_|refine And.intro (by omega) ?_))
   refine ⟨0+1,by omega,by omega,weak_ren [0,1,2,3,8] ⟨by decide,by first|decide|(simp;done)⟩ ?_ ?_⟩<;>(try simp (disch:=omega) only [go_sem,Nat.reduceAdd,e2,e3,e4,List.map_cons,List.map_nil])<;>(try first|done|omega|rfl|exact ⟨rfl,rfl⟩|trivial)
  ·have hne:(p.take x).map fr≠[]:=fun h=>by have:=hPl;rw [h,List.length_nil] at this;omega
   have hne1:(p.take (x+1)).map fr≠[]:=by rw [←htk];simp
   have hln1:((p.take (x+1)).map fr).length=x+1:=by rw [←htk,List.length_append,hPl];rfl
   obtain ⟨T,hT⟩:∃T,T=(p.take x).map fr:=⟨_,rfl⟩
   rw [←hT] at hne hPl htk ⊢
   have e1:ob 50 3 T=some ⟨50,3,T.map .f⟩:=ob_pos hne
   have e2:tbA 4 (Ns l) T=.agg [.f (.fz 1 (Ns l)),.own 4 3 0 x]:=by rw [tbA_pos hne,hPl]
   have e3:ob 50 3 ((p.take (x+1)).map fr)=some ⟨50,3,T.map .f++[.f (fr q)]⟩:=by rw [ob_pos hne1,←htk,List.map_append];rfl
   have e4:tbA 4 (Ns l) ((p.take (x+1)).map fr)=.agg [.f (.fz 1 (Ns l)),.own 4 3 0 (x+1)]:=by rw [tbA_pos hne1,hln1]
   have e5:(T.map AV.f).take x=T.map .f:=List.take_of_length_le (by rw [List.length_map];omega)
   have e6:(x+1)*40≤140737488355328:=by omega
   rw [e1,e2]
   (repeat (first|(with_reducible first|refine W_seq fun K hK=>?_|refine J_block ?_|refine J_skip ?_|refine J_region ?_ |refine aApp_old ?_|refine J_c ?_|refine Jc_false ?_|(refine Kont.go (by assumption) ?_)|(simp (config:={ maxSteps:=3000000 }) (disch:=omega) only [go_sem,Nat.reduceEqDiff,↓reduceIte,Nat.reduceAdd,Nat.reduceLeDiff,g1,hqx,hPl,e5,e6,List.length_map]))|refine call_f (div_w (by assumption) (by assumption) (by omega) (by omega) (by assumption)) rfl ?_|refine And.intro (by omega) ?_))
   refine ⟨x+1,by omega,by omega,weak_ren [0,1,2,3,8] ⟨by decide,by first|decide|(simp;done)⟩ ?_ ?_⟩<;>(try simp (disch:=omega) only [go_sem,Nat.reduceAdd,e3,e4,map_ren_f,List.map_append,List.map_cons,List.map_nil])<;>(try first|done|omega|rfl|exact ⟨rfl,rfl⟩|trivial)
 ·have he:x=N:=by omega
  subst he
  have hne:p.map fr≠[]:=fun h=>by have:=congrArg List.length h;rw [List.length_map,List.length_nil] at this;omega
  rw [List.take_of_length_le (by omega)]
  have e1:ob 50 3 (p.map fr)=some ⟨50,3,(p.map fr).map .f⟩:=ob_pos hne
  have e2:tbA 4 (Ns l) (p.map fr)=.agg [.f (.fz 1 (Ns l)),.own 4 3 0 (p.map fr).length]:=tbA_pos hne
  rw [e1,e2]
  (repeat (with_reducible first|refine W_seq fun K hK=>?_|refine J_exit ?_|refine J_ret ?_|refine J_region ?_ |(refine Kont.go (by assumption) ?_)|(simp (config:={ maxSteps:=3000000 }) (disch:=omega) only [go_sem,↓reduceIte,Nat.reduceAdd])))
  exact ⟨_,rfl,FrzL.cons (Frz.aggL (FrzL.cons (.f _) (FrzL.cons (Frz.own0 rfl (by rw [List.length_map])) (FrzL.nil _)))) (FrzL.cons (.f _) (FrzL.nil _))⟩
set_option maxRecDepth 100000 in
set_option maxHeartbeats 8000000 in
theorem norm0_w {k:Nat} {Z l:List Nat} {xs:List FV} {qs:List Rat} (h:TbOk k Z l xs qs) (h1:1≤k) (hk:k≤100000) (h0:sumR qs=0):Good Tryz.prog 29 [.fz 1 (Ns Z),tabV l xs] (.tup [tab0,I 3]):=by
 have hl8:=h.ok.len
 have hcx:=h.ok.cnt
 have hcx1:=h.ok.cnt1
 have hck:=tcheck_w h
 have hqc:=h.len
 have hxl:=h.fr.len
 have hrow:=h.fr.row h1
 have hsu:=sumL_w h.fr h1 (by omega) hk
 have hsf:Fz (sumR qs) 11000000000:=(sumTo_fz hrow qs.length (Nat.le_refl _)).up (sum_boundL (Nat.le_refl _) (show qs.length≤65536 by omega) hk)
 have hcl:=cloneF_w (l.map Int.ofNat) (by rw [List.length_map];omega)
 rw [ints_Ns] at hcl
 obtain ⟨s,hs⟩:∃s,s=sumR qs:=⟨_,rfl⟩
 obtain ⟨N,hN⟩:∃N,N=qs.length:=⟨_,rfl⟩
 have hxN:xs.length=N:=by omega
 rw [←hs] at hsu hsf h0
 have c0:IsFr (fr s) 0 11000000000:=by rw [←h0];exact .c hsf
 refine good_of Tryz.func29 rfl (by kernel_rfl) fun X hO hrd=>?_;rw [Tryz.ntmps29,Tryz.results29];simp only [ast0,List.map_cons,List.map_nil,List.length_cons,List.length_nil,Nat.reduceAdd,Nat.reduceSub,List.replicate_succ,List.replicate_zero,List.cons_append,List.nil_append]
 (repeat (with_reducible first|refine W_seq fun K hK=>?_|refine J_region ?_ |(refine Kont.go (by assumption) ?_)|(simp (config:={ maxSteps:=3000000 }) (disch:=omega) only [go_sem,↓reduceIte,Nat.reduceAdd])))
 (first|refine call_f (hck) rfl ?_|refine callQ_f (hck) rfl ?_|refine callHK_f (hck) rfl ?_|refine callH_f (hck) rfl ?_)
 (repeat (with_reducible first|refine W_seq fun K hK=>?_|refine J_skip ?_|refine J_region ?_ |refine J_c ?_|refine Jc_false ?_|(refine Kont.go (by assumption) ?_)|(simp (config:={ maxSteps:=3000000 }) (disch:=omega) only [go_sem,↓reduceIte])))
 (first|refine call_f (hsu) rfl ?_|refine callQ_f (hsu) rfl ?_|refine callHK_f (hsu) rfl ?_|refine callH_f (hsu) rfl ?_)
 (repeat (with_reducible first|refine W_seq fun K hK=>?_|refine J_region ?_ |(refine Kont.go (by assumption) ?_)|(simp (config:={ maxSteps:=3000000 }) (disch:=omega) only [go_sem,↓reduceIte,Nat.reduceAdd])))
 (first|refine call_f (hcl) rfl ?_|refine callQ_f (hcl) rfl ?_|refine callHK_f (hcl) rfl ?_|refine callH_f (hcl) rfl ?_)
 (repeat (with_reducible first|refine W_seq fun K hK=>?_|(refine Kont.go (by assumption) ?_)|(simp (config:={ maxSteps:=3000000 }) (disch:=omega) only [go_sem,Nat.reduceEqDiff,↓reduceIte,Nat.reduceAdd,Nat.reduceLeDiff])))
 refine J_reserve ?_
 simp only [go_sem]
 have h00:AV.f (.agg [.fz 1 (Ns l),.v (.slice none 0 0)])=tbA 4 (Ns l) ((qs.take 0).map fr):=rfl
 (repeat (with_reducible first|refine J_block ?_|refine J_region ?_ |(refine Kont.go (by assumption) ?_)|(simp (config:={ maxSteps:=3000000 }) (disch:=omega) only [go_sem,↓reduceIte,hxN])))
 refine J_mask [26] (by refine weak_of ?_ ?_<;>simp (disch:=omega) only [go_sem,Nat.reduceAdd]<;>first|rfl|exact ⟨rfl,rfl⟩|exact Or.inl rfl|exact ⟨Or.inl rfl,Or.inl rfl⟩|trivial|assumption|omega|(symm;assumption)|((repeat' apply And.intro)<;>first|rfl|omega|trivial|exact .inr ⟨rfl,rfl⟩|exact .inr rfl|(right;symm;assumption)|(symm;assumption)|assumption)) ?_;simp only [go_sem]
 rw [h00]
 refine W_loop [5,10,11,12,30,31,32,33,34,35,36,37,38,39,40,41,42,43,44,45,46,47,48,49,50] (fun x:Nat=>[(30,.f (I x))]) (fun x:Nat=>[oT (tabV l xs),oT tab0,oF (fr s),some ⟨27,2,[tbA 4 (Ns l) ((qs.take x).map fr)]⟩,ob 50 3 ((qs.take x).map fr)]) (fun x:Nat=>x≤0) (fun x:Nat=>N-x) (0) (Nat.zero_le _) (by refine weak_of ?_ ?_<;>simp (disch:=omega) only [go_sem,Nat.reduceAdd]<;>first|rfl|exact ⟨rfl,rfl⟩|exact Or.inl rfl|exact ⟨Or.inl rfl,Or.inl rfl⟩|trivial|assumption|omega|(symm;assumption)|((repeat' apply And.intro)<;>first|rfl|omega|trivial|exact .inl rfl|exact .inr ⟨rfl,rfl⟩|exact .inr rfl|(right;symm;assumption)|(symm;assumption)|assumption)) ?_
 rintro x hx
 have hx0:x=0:=by omega
 subst hx0
 rw [←h00]
 simp only [go_sem]
 have hN0:0<N:=by omega
 obtain ⟨g,n,d,g1,f1⟩:=h.fr.at3 (i:=0) (by omega)
 have hdv:=div0_w f1 c0 (by omega)
 (repeat (with_reducible first|refine W_seq fun K hK=>?_|refine J_block ?_|refine J_skip ?_|refine J_region ?_ |refine J_c ?_|refine Jc_true ?_|(refine Kont.go (by assumption) ?_)|(simp (config:={ maxSteps:=3000000 }) (disch:=omega) only [go_sem,↓reduceIte,Nat.reduceAdd,Int.reduceLE,hN0,g1])))
 (first|refine call_f (hdv) rfl ?_|refine callQ_f (hdv) rfl ?_|refine callHK_f (hdv) rfl ?_|refine callH_f (hdv) rfl ?_)
 (repeat (with_reducible first|refine W_seq fun K hK=>?_|refine J_ret ?_|refine J_region ?_ |refine J_c ?_|refine Jc_true ?_|(refine Kont.go (by assumption) ?_)|(simp (config:={ maxSteps:=3000000 }) (disch:=omega) only [go_sem,↓reduceIte,Nat.reduceAdd,Int.reduceEq])))
 exact ⟨_,rfl,FrzL.fs [_,_]⟩
set_option maxRecDepth 100000 in
set_option maxHeartbeats 8000000 in
theorem rnorm_w {k:Nat} {Z l:List Nat} {xs:List FV} {qs:List Rat} (h:TbOk k Z l xs qs) (h1:1≤k) (hk:k≤100000) (h0:sumR qs≠0):Good Tryz.prog 30 [.fz 1 (Ns Z),tabV l xs] (.tup [tabV l ((nrmT qs).map fr),I 0]):=by
 have hl8:=h.ok.len
 have hcx:=h.ok.cnt
 have hcx1:=h.ok.cnt1
 have hck:=rtcheck_w h
 have hqc:=h.len
 have hxl:=h.fr.len
 have hrow:=h.fr.row h1
 have hsu:=rsumL_w h.fr h1 (by omega) hk
 have hsf:Fz (sumR qs) 11000000000:=(sumTo_fz hrow qs.length (Nat.le_refl _)).up (sum_boundL (Nat.le_refl _) (show qs.length≤65536 by omega) hk)
 have hcl:=cloneF_w (l.map Int.ofNat) (by rw [List.length_map];omega)
 rw [ints_Ns] at hcl
 obtain ⟨s,hs⟩:∃s,s=sumR qs:=⟨_,rfl⟩
 obtain ⟨N,hN⟩:∃N,N=qs.length:=⟨_,rfl⟩
 have hxN:xs.length=N:=by omega
 have hpg:∀x (hx:x<qs.length),(nrmT qs)[x]?=some (qs[x]/s):=fun x hx=>by rw [nrmT_get hx,hs]
 have hpl:=nrmT_len (qs:=qs)
 obtain ⟨p,hpe⟩:∃p,p=nrmT qs:=⟨_,rfl⟩
 rw [←hpe] at hpg hpl ⊢
 rw [←hs] at hsu hsf h0
 have c0:IsFr (fr s) s 11000000000:=.c hsf
 refine good_of Tryz.func30 rfl (by kernel_rfl) fun X hO hrd=>?_;rw [Tryz.ntmps30,Tryz.results30];simp only [ast0,List.map_cons,List.map_nil,List.length_cons,List.length_nil,Nat.reduceAdd,Nat.reduceSub,List.replicate_succ,List.replicate_zero,List.cons_append,List.nil_append]
 (repeat (with_reducible first|refine W_seq fun K hK=>?_|refine J_region ?_ |(refine Kont.go (by assumption) ?_)|(simp (config:={ maxSteps:=3000000 }) (disch:=omega) only [go_sem,↓reduceIte,Nat.reduceAdd])))
 (first|refine call_f (hck) rfl ?_|refine callQ_f (hck) rfl ?_|refine callHK_f (hck) rfl ?_|refine callH_f (hck) rfl ?_)
 (repeat (with_reducible first|refine W_seq fun K hK=>?_|refine J_skip ?_|refine J_region ?_ |refine J_c ?_|refine Jc_false ?_|(refine Kont.go (by assumption) ?_)|(simp (config:={ maxSteps:=3000000 }) (disch:=omega) only [go_sem,↓reduceIte])))
 (first|refine call_f (hsu) rfl ?_|refine callQ_f (hsu) rfl ?_|refine callHK_f (hsu) rfl ?_|refine callH_f (hsu) rfl ?_)
 (repeat (first|(with_reducible first|refine W_seq fun K hK=>?_|((fail_if_success refine J_region (id:=6) ?_);refine J_region ?_) |refine aApp_old ?_|(refine Kont.go (by assumption) ?_)|(simp (config:={ maxSteps:=3000000 }) (disch:=omega) only [go_sem,Nat.reduceEqDiff,↓reduceIte,Nat.reduceAdd,Nat.reduceLeDiff,Ns_len]))|refine And.intro (by omega) ?_))
 rw [←Ns_len (l:=l)]
 refine J_freezeA (r:=4) (sz:=1) (e:=3) (l:=Ns l) (by rfl) ?_
 simp only [go_sem,Nat.reduceEqDiff]
 refine J_agg2 5 rfl ⟨rfl,rfl⟩ rfl ?_
 simp only [go_sem]
 refine J_reserve ?_
 simp only [go_sem]
 have h00:AV.f (.agg [.fz 1 (Ns l),.v (.slice none 0 0)])=tbA 6 (Ns l) ((p.take 0).map fr):=rfl
 (repeat (with_reducible first|refine J_block ?_|refine J_region ?_ |(refine Kont.go (by assumption) ?_)|(simp (config:={ maxSteps:=3000000 }) (disch:=omega) only [go_sem])))
 refine J_mask [26] (by refine weak_of ?_ ?_<;>simp (disch:=omega) only [go_sem,Nat.reduceAdd]<;>first|rfl|exact ⟨rfl,rfl⟩|exact Or.inl rfl|exact ⟨Or.inl rfl,Or.inl rfl⟩|trivial|assumption|omega|(symm;assumption)|((repeat' apply And.intro)<;>first|rfl|omega|trivial|exact .inr ⟨rfl,rfl⟩|exact .inr rfl|(right;symm;assumption)|(symm;assumption)|assumption)) ?_;simp only [go_sem]
 rw [h00]
 refine W_loop [5,9,10,11,27,28,29,30,31,32,33,34,35,36,37,38,39,40,41,42,43,44,45,46,47,48,49,50,51,52,53] (fun x:Nat=>[(9,.f (I x))]) (fun x:Nat=>[oT (tabV l xs),oT tab0,oF (fr s),none,none,some ⟨27,2,[tbA 6 (Ns l) ((p.take x).map fr)]⟩,ob 50 3 ((p.take x).map fr)]) (fun x:Nat=>x≤N) (fun x:Nat=>N-x) (0) (Nat.zero_le _) (by refine weak_of ?_ ?_<;>simp (disch:=omega) only [go_sem,Nat.reduceAdd]<;>first|rfl|exact ⟨rfl,rfl⟩|exact Or.inl rfl|exact ⟨Or.inl rfl,Or.inl rfl⟩|trivial|assumption|omega|(symm;assumption)|((repeat' apply And.intro)<;>first|rfl|omega|trivial|exact .inl rfl|exact .inr ⟨rfl,rfl⟩|exact .inr rfl|(right;symm;assumption)|(symm;assumption)|assumption)) ?_
 rintro x hx
 simp only [go_sem]
 (repeat (with_reducible first|refine W_seq fun K hK=>?_|refine J_region ?_ |refine J_c ?_|(refine Kont.go (by assumption) ?_)|(simp (config:={ maxSteps:=3000000 }) (disch:=omega) only [go_sem,↓reduceIte,hxN])))
 refine Jc_if (fun hlt=>?_) (fun hlt=>?_)<;>try simp only [decide_eq_true_eq,decide_eq_false_iff_not] at hlt
 ·have hxq:x<qs.length:=by omega
  obtain ⟨g,n,d,g1,f1⟩:=h.fr.at3 hxq
  have hpx:=hpg x hxq
  have hdv:=rdiv_w f1 c0 (by omega) (by omega) h0
  have htk:=take_frs hpx
  obtain ⟨q,hq⟩:∃q,q=qs[x]/s:=⟨_,rfl⟩
  have hqx:fr (qs[x]/s)=fr q:=by rw [hq]
  rw [←hq] at htk
  have hPl:((p.take x).map fr).length=x:=by rw [List.length_map,List.length_take];omega
  by_cases x0:x=0
  ·subst x0
   have e1:ob 50 3 ((p.take 0).map fr)=none:=rfl
   have e2:(p.take (0+1)).map fr=[fr q]:=htk.symm
   have e3:ob 50 3 [fr q]=some ⟨50,3,[.f (fr q)]⟩:=rfl
   have e4:tbA 6 (Ns l) [fr q]=.agg [.f (.fz 1 (Ns l)),.own 6 3 0 1]:=rfl
   rw [←h00,e1]
   (repeat (first|(with_reducible first|refine W_seq fun K hK=>?_|refine J_block ?_|refine J_skip ?_|refine J_region ?_ |refine J_drawn mixed (by kernel_rfl) ?_|refine aApp_old ?_|refine J_c ?_|refine Jc_false ?_|(refine Kont.go (by assumption) ?_)|(simp (config:={ maxSteps:=3000000 }) (disch:=omega) only [go_sem,Nat.reduceEqDiff,↓reduceIte,Nat.reduceAdd,Nat.reduceLeDiff,Int.reduceLE,Int.reduceAdd,g1,hqx]))|refine callQ_f (rdiv_w (by assumption) (by assumption) (by omega) (by omega) (by assumption)) rfl ?_|refine And.intro (by omega) ?_))
   refine ⟨0+1,by omega,by omega,weak_ren [0,1,2,3,4,5,9] ⟨by decide,by first|decide|(simp;done)⟩ ?_ ?_⟩<;>(try simp (disch:=omega) only [go_sem,Nat.reduceAdd,e2,e3,e4,List.map_cons,List.map_nil])<;>(try first|done|omega|rfl|exact ⟨rfl,rfl⟩|trivial)
  ·have hne:(p.take x).map fr≠[]:=fun h=>by have:=hPl;rw [h,List.length_nil] at this;omega
   have hne1:(p.take (x+1)).map fr≠[]:=by rw [←htk];simp
   have hln1:((p.take (x+1)).map fr).length=x+1:=by rw [←htk,List.length_append,hPl];rfl
   obtain ⟨T,hT⟩:∃T,T=(p.take x).map fr:=⟨_,rfl⟩
   rw [←hT] at hne hPl htk ⊢
   have e1:ob 50 3 T=some ⟨50,3,T.map .f⟩:=ob_pos hne
   have e2:tbA 6 (Ns l) T=.agg [.f (.fz 1 (Ns l)),.own 6 3 0 x]:=by rw [tbA_pos hne,hPl]
   have e3:ob 50 3 ((p.take (x+1)).map fr)=some ⟨50,3,T.map .f++[.f (fr q)]⟩:=by rw [ob_pos hne1,←htk,List.map_append];rfl
   have e4:tbA 6 (Ns l) ((p.take (x+1)).map fr)=.agg [.f (.fz 1 (Ns l)),.own 6 3 0 (x+1)]:=by rw [tbA_pos hne1,hln1]
   have e5:(T.map AV.f).take x=T.map .f:=List.take_of_length_le (by rw [List.length_map];omega)
   have e6:(x+1)*40≤140737488355328:=by omega
   rw [e1,e2]
   (repeat (first|(with_reducible first|refine W_seq fun K hK=>?_|refine J_block ?_|refine J_skip ?_|refine J_region ?_ |refine J_drawn mixed (by kernel_rfl) ?_|refine aApp_old ?_|refine J_c ?_|refine Jc_false ?_|(refine Kont.go (by assumption) ?_)|(simp (config:={ maxSteps:=3000000 }) (disch:=omega) only [go_sem,Nat.reduceEqDiff,↓reduceIte,Nat.reduceAdd,Nat.reduceLeDiff,g1,hqx,hPl,e5,e6,List.length_map]))|refine callQ_f (rdiv_w (by assumption) (by assumption) (by omega) (by omega) (by assumption)) rfl ?_|refine And.intro (by omega) ?_))
   refine ⟨x+1,by omega,by omega,weak_ren [0,1,2,3,4,5,9] ⟨by decide,by first|decide|(simp;done)⟩ ?_ ?_⟩<;>(try simp (disch:=omega) only [go_sem,Nat.reduceAdd,e3,e4,map_ren_f,List.map_append,List.map_cons,List.map_nil])<;>(try first|done|omega|rfl|exact ⟨rfl,rfl⟩|trivial)
 ·have he:x=N:=by omega
  subst he
  have hne:p.map fr≠[]:=fun h=>by have:=congrArg List.length h;rw [List.length_map,List.length_nil] at this;omega
  rw [List.take_of_length_le (by omega)]
  have e1:ob 50 3 (p.map fr)=some ⟨50,3,(p.map fr).map .f⟩:=ob_pos hne
  have e2:tbA 6 (Ns l) (p.map fr)=.agg [.f (.fz 1 (Ns l)),.own 6 3 0 (p.map fr).length]:=tbA_pos hne
  rw [e1,e2]
  (repeat (with_reducible first|refine W_seq fun K hK=>?_|refine J_exit ?_|refine J_ret ?_|refine J_region ?_ |(refine Kont.go (by assumption) ?_)|(simp (config:={ maxSteps:=3000000 }) (disch:=omega) only [go_sem,↓reduceIte,Nat.reduceAdd])))
  exact ⟨_,rfl,FrzL.cons (Frz.aggL (FrzL.cons (.f _) (FrzL.cons (Frz.own0 rfl (by rw [List.length_map])) (FrzL.nil _)))) (FrzL.cons (.f _) (FrzL.nil _))⟩
set_option maxRecDepth 100000 in
set_option maxHeartbeats 8000000 in
theorem rnorm0_w {k:Nat} {Z l:List Nat} {xs:List FV} {qs:List Rat} (h:TbOk k Z l xs qs) (h1:1≤k) (hk:k≤100000) (h0:sumR qs=0):Good Tryz.prog 30 [.fz 1 (Ns Z),tabV l xs] (.tup [tab0,I 3]):=by
 have hl8:=h.ok.len
 have hcx:=h.ok.cnt
 have hcx1:=h.ok.cnt1
 have hck:=rtcheck_w h
 have hqc:=h.len
 have hxl:=h.fr.len
 have hrow:=h.fr.row h1
 have hsu:=rsumL_w h.fr h1 (by omega) hk
 have hsf:Fz (sumR qs) 11000000000:=(sumTo_fz hrow qs.length (Nat.le_refl _)).up (sum_boundL (Nat.le_refl _) (show qs.length≤65536 by omega) hk)
 have hcl:=cloneF_w (l.map Int.ofNat) (by rw [List.length_map];omega)
 rw [ints_Ns] at hcl
 obtain ⟨s,hs⟩:∃s,s=sumR qs:=⟨_,rfl⟩
 obtain ⟨N,hN⟩:∃N,N=qs.length:=⟨_,rfl⟩
 have hxN:xs.length=N:=by omega
 rw [←hs] at hsu hsf h0
 have c0:IsFr (fr s) 0 11000000000:=by rw [←h0];exact .c hsf
 refine good_of Tryz.func30 rfl (by kernel_rfl) fun X hO hrd=>?_;rw [Tryz.ntmps30,Tryz.results30];simp only [ast0,List.map_cons,List.map_nil,List.length_cons,List.length_nil,Nat.reduceAdd,Nat.reduceSub,List.replicate_succ,List.replicate_zero,List.cons_append,List.nil_append]
 (repeat (with_reducible first|refine W_seq fun K hK=>?_|refine J_region ?_ |(refine Kont.go (by assumption) ?_)|(simp (config:={ maxSteps:=3000000 }) (disch:=omega) only [go_sem,↓reduceIte,Nat.reduceAdd])))
 (first|refine call_f (hck) rfl ?_|refine callQ_f (hck) rfl ?_|refine callHK_f (hck) rfl ?_|refine callH_f (hck) rfl ?_)
 (repeat (with_reducible first|refine W_seq fun K hK=>?_|refine J_skip ?_|refine J_region ?_ |refine J_c ?_|refine Jc_false ?_|(refine Kont.go (by assumption) ?_)|(simp (config:={ maxSteps:=3000000 }) (disch:=omega) only [go_sem,↓reduceIte])))
 (first|refine call_f (hsu) rfl ?_|refine callQ_f (hsu) rfl ?_|refine callHK_f (hsu) rfl ?_|refine callH_f (hsu) rfl ?_)
 (repeat (first|(with_reducible first|refine W_seq fun K hK=>?_|((fail_if_success refine J_region (id:=6) ?_);refine J_region ?_) |refine aApp_old ?_|(refine Kont.go (by assumption) ?_)|(simp (config:={ maxSteps:=3000000 }) (disch:=omega) only [go_sem,Nat.reduceEqDiff,↓reduceIte,Nat.reduceAdd,Nat.reduceLeDiff,Ns_len]))|refine And.intro (by omega) ?_))
 rw [←Ns_len (l:=l)]
 refine J_freezeA (r:=4) (sz:=1) (e:=3) (l:=Ns l) (by rfl) ?_
 simp only [go_sem,Nat.reduceEqDiff]
 refine J_agg2 5 rfl ⟨rfl,rfl⟩ rfl ?_
 simp only [go_sem]
 refine J_reserve ?_
 simp only [go_sem]
 have h00:AV.f (.agg [.fz 1 (Ns l),.v (.slice none 0 0)])=tbA 6 (Ns l) ((qs.take 0).map fr):=rfl
 (repeat (with_reducible first|refine J_block ?_|refine J_region ?_ |(refine Kont.go (by assumption) ?_)|(simp (config:={ maxSteps:=3000000 }) (disch:=omega) only [go_sem])))
 refine J_mask [26] (by refine weak_of ?_ ?_<;>simp (disch:=omega) only [go_sem,Nat.reduceAdd]<;>first|rfl|exact ⟨rfl,rfl⟩|exact Or.inl rfl|exact ⟨Or.inl rfl,Or.inl rfl⟩|trivial|assumption|omega|(symm;assumption)|((repeat' apply And.intro)<;>first|rfl|omega|trivial|exact .inr ⟨rfl,rfl⟩|exact .inr rfl|(right;symm;assumption)|(symm;assumption)|assumption)) ?_;simp only [go_sem]
 rw [h00]
 refine W_loop [5,9,10,11,27,28,29,30,31,32,33,34,35,36,37,38,39,40,41,42,43,44,45,46,47,48,49,50,51,52,53] (fun x:Nat=>[(9,.f (I x))]) (fun x:Nat=>[oT (tabV l xs),oT tab0,oF (fr s),none,none,some ⟨27,2,[tbA 6 (Ns l) ((qs.take x).map fr)]⟩,ob 50 3 ((qs.take x).map fr)]) (fun x:Nat=>x≤0) (fun x:Nat=>N-x) (0) (Nat.zero_le _) (by refine weak_of ?_ ?_<;>simp (disch:=omega) only [go_sem,Nat.reduceAdd]<;>first|rfl|exact ⟨rfl,rfl⟩|exact Or.inl rfl|exact ⟨Or.inl rfl,Or.inl rfl⟩|trivial|assumption|omega|(symm;assumption)|((repeat' apply And.intro)<;>first|rfl|omega|trivial|exact .inl rfl|exact .inr ⟨rfl,rfl⟩|exact .inr rfl|(right;symm;assumption)|(symm;assumption)|assumption)) ?_
 rintro x hx
 have hx0:x=0:=by omega
 subst hx0
 rw [←h00]
 simp only [go_sem]
 have hN0:0<N:=by omega
 obtain ⟨g,n,d,g1,f1⟩:=h.fr.at3 (i:=0) (by omega)
 have hdv:=rdiv0_w f1 c0 (by omega)
 (repeat (with_reducible first|refine W_seq fun K hK=>?_|refine J_block ?_|refine J_skip ?_|refine J_region ?_ |refine J_drawn mixed (by kernel_rfl) ?_|refine J_c ?_|refine Jc_true ?_|(refine Kont.go (by assumption) ?_)|(simp (config:={ maxSteps:=3000000 }) (disch:=omega) only [go_sem,↓reduceIte,Nat.reduceAdd,Int.reduceLE,hxN,hN0,g1])))
 (first|refine call_f (hdv) rfl ?_|refine callQ_f (hdv) rfl ?_|refine callHK_f (hdv) rfl ?_|refine callH_f (hdv) rfl ?_)
 (repeat (with_reducible first|refine W_seq fun K hK=>?_|refine J_ret ?_|refine J_region ?_ |refine J_c ?_|refine Jc_true ?_|(refine Kont.go (by assumption) ?_)|(simp (config:={ maxSteps:=3000000 }) (disch:=omega) only [go_sem,↓reduceIte,Nat.reduceAdd,Int.reduceEq])))
 exact ⟨_,rfl,FrzL.fs [_,_]⟩
end Go.Proofs.YtmcgeppgfjlclaaGreatDoor
-- NOOWN
set_option linter.unusedVariables false
set_option linter.unusedSimpArgs false
namespace Go.Proofs.YtmcgeppgfjlclaaGreatDoor
open Go Go.RowKit
def bstT (qs:List Rat):Nat→Nat
 | 0=>0
 | i+1=>if qs.getD (bstT qs i) 0<qs.getD i 0 then i else bstT qs i
theorem bstT_lt {qs:List Rat} {n:Nat} (hn:0<n):∀i,i≤n→bstT qs i<n:=by
 intro i
 induction i with
 | zero=>intro _;exact hn
 | succ i ih=>intro hi;unfold bstT;split;omega;exact ih (by omega)
theorem bstT_one {qs:List Rat}:bstT qs 1=0:=by
 show (if qs.getD (bstT qs 0) 0<qs.getD 0 0 then 0 else bstT qs 0)=0
 split<;>rfl
set_option maxRecDepth 100000 in
set_option maxHeartbeats 8000000 in
theorem best_w {k:Nat} {Z l:List Nat} {xs:List FV} {qs:List Rat} (h:TbOk k Z l xs qs) (h1:1≤k) (hk:k≤100000) :
  Good Tryz.prog 31 [.fz 1 (Ns Z),tabV l xs] (.tup [.fz 1 (Ns (asgL Z l (bstT qs qs.length))),fr (qs.getD (bstT qs qs.length) 0),I 0]):=by
 have hcx:=h.ok.cnt
 have hcx1:=h.ok.cnt1
 have hck:=tcheck_w h
 have hxl:=h.fr.len
 have hqc:=h.len
 obtain ⟨N,hN⟩:∃N,N=qs.length:=⟨_,rfl⟩
 have hxN:xs.length=N:=by omega
 have hbl:=fun i hi=>bstT_lt (qs:=qs) (n:=N) (by omega) i hi
 rw [←hN]
 refine good_of Tryz.func31 rfl (by kernel_rfl) fun X hO hrd=>?_;rw [Tryz.ntmps31,Tryz.results31];simp only [ast0,List.map_cons,List.map_nil,List.length_cons,List.length_nil,Nat.reduceAdd,Nat.reduceSub,List.replicate_succ,List.replicate_zero,List.cons_append,List.nil_append]
 (repeat (with_reducible first|refine W_seq fun K hK=>?_|refine J_region ?_ |(refine Kont.go (by assumption) ?_)|(simp (config:={ maxSteps:=3000000 }) (disch:=omega) only [go_sem,↓reduceIte,Nat.reduceAdd])))
 (first|refine call_f (hck) rfl ?_|refine callQ_f (hck) rfl ?_|refine callHK_f (hck) rfl ?_|refine callH_f (hck) rfl ?_)
 (repeat (with_reducible first|refine W_seq fun K hK=>?_|refine J_block ?_|refine J_skip ?_|refine J_region ?_ |refine J_c ?_|refine Jc_false ?_|(refine Kont.go (by assumption) ?_)|(simp (config:={ maxSteps:=3000000 }) (disch:=omega) only [go_sem,↓reduceIte,hxN])))
 refine W_loop [8,9,10,21,22,23,24,25,26,27,28,29,30,31,32,33,34,35] (fun x:Nat=>[(8,.f (I (bstT qs x:Nat))),(21,.f (I x))]) (fun x:Nat=>[oT (tabV l xs),oF frN]) (fun x:Nat=>x≤N) (fun x:Nat=>N-x) (0) (Nat.zero_le _) (by refine weak_of ?_ ?_<;>simp (disch:=omega) only [go_sem,Nat.reduceAdd]<;>first|rfl|exact ⟨rfl,rfl⟩|exact Or.inl rfl|exact ⟨Or.inl rfl,Or.inl rfl⟩|trivial|assumption|omega|(symm;assumption)|((repeat' apply And.intro)<;>first|rfl|omega|trivial|exact .inl rfl|exact .inr ⟨rfl,rfl⟩|exact .inr rfl|(right;symm;assumption)|(symm;assumption)|assumption)) ?_
 rintro x hx
 simp only [go_sem]
 (repeat (with_reducible first|refine W_seq fun K hK=>?_|refine J_region ?_ |refine J_c ?_|(refine Kont.go (by assumption) ?_)|(simp (config:={ maxSteps:=3000000 }) (disch:=omega) only [go_sem])))
 refine Jc_if (fun hlt=>?_) (fun hlt=>?_)<;>try simp only [decide_eq_true_eq,decide_eq_false_iff_not] at hlt
 ·obtain ⟨g,n,d,g1,f1⟩:=h.fr.at3 (i:=x) (by omega)
  have hb:=hbl x hx
  obtain ⟨g',n',d',g2,f2⟩:=h.fr.at3 (i:=bstT qs x) (by omega)
  have hcm:=cmp_w f1 f2 (by omega) (by omega)
  have hst:bstT qs (x+1)=if qs.getD (bstT qs x) 0<qs.getD x 0 then x else bstT qs x:=rfl
  rw [lget_lt qs 0 (show x<qs.length by omega),lget_lt qs 0 (show bstT qs x<qs.length by omega)] at hst
  by_cases hc:0<cmpR (qs[x]'(by omega)) (qs[bstT qs x]'(by omega))
  ·rw [if_pos (cmpR_gt.1 hc)] at hst
   (repeat (first|(with_reducible first|refine W_seq fun K hK=>?_|refine J_block ?_|refine J_skip ?_|refine J_region ?_ |refine J_drawn mixed (by kernel_rfl) ?_|refine J_c ?_|refine Jc_true ?_|(refine Kont.go (by assumption) ?_)|(simp (config:={ maxSteps:=3000000 }) (disch:=omega) only [go_sem,↓reduceIte,Nat.reduceAdd,g1,g2,hc]))|refine callQ_f (cmp_w (by assumption) (by assumption) (by omega) (by omega)) rfl ?_))
   refine ⟨x+1,by omega,by omega,weak_of ?_ ?_⟩<;>(try simp (disch:=omega) only [go_sem,Nat.reduceAdd,hst])<;>(try first|done|omega|rfl|exact ⟨rfl,rfl⟩|trivial)
  ·rw [if_neg fun hh=>hc (cmpR_gt.2 hh)] at hst
   (repeat (first|(with_reducible first|refine W_seq fun K hK=>?_|refine J_block ?_|refine J_skip ?_|refine J_region ?_ |refine J_drawn mixed (by kernel_rfl) ?_|refine J_c ?_|refine Jc_false ?_|(refine Kont.go (by assumption) ?_)|(simp (config:={ maxSteps:=3000000 }) (disch:=omega) only [go_sem,↓reduceIte,Nat.reduceAdd,g1,g2,hc]))|refine callQ_f (cmp_w (by assumption) (by assumption) (by omega) (by omega)) rfl ?_))
   refine ⟨x+1,by omega,by omega,weak_of ?_ ?_⟩<;>(try simp (disch:=omega) only [go_sem,Nat.reduceAdd,hst])<;>(try first|done|omega|rfl|exact ⟨rfl,rfl⟩|trivial)
 ·have he:x=N:=by omega
  subst he
  have hb:=hbl x (Nat.le_refl _)
  obtain ⟨g,n,d,g1,f1⟩:=h.fr.at3 (i:=bstT qs x) (by omega)
  have hw:=where_w h.ok (k:=bstT qs x) (by omega)
  have hca:=canon_w f1 (by omega)
  (repeat (with_reducible first|refine W_seq fun K hK=>?_|refine J_exit ?_|refine J_drawn mixed (by kernel_rfl) ?_|(refine Kont.go (by assumption) ?_)|(simp (config:={ maxSteps:=3000000 }) (disch:=omega) only [go_sem,↓reduceIte,Nat.reduceAdd,g1])))
  refine callQ_f hw rfl ?_
  (repeat (first|(with_reducible first|refine J_ret ?_|(refine Kont.go (by assumption) ?_)|(simp (config:={ maxSteps:=3000000 }) (disch:=omega) only [go_sem,↓reduceIte,Nat.reduceAdd]))|refine callQ_f (canon_w (by assumption) (by omega)) rfl ?_))
  rw [lget_lt qs 0 (show bstT qs x<qs.length by omega)]
  exact ⟨_,rfl,FrzL.fs [_,_,_]⟩
set_option maxRecDepth 100000 in
set_option maxHeartbeats 8000000 in
theorem rbest_w {k:Nat} {Z l:List Nat} {xs:List FV} {qs:List Rat} (h:TbOk k Z l xs qs) (h1:1≤k) (hk:k≤100000) :
  Good Tryz.prog 32 [.fz 1 (Ns Z),tabV l xs] (.tup [.fz 1 (Ns (asgL Z l (bstT qs qs.length))),fr (qs.getD (bstT qs qs.length) 0),I 0]):=by
 have hcx:=h.ok.cnt
 have hcx1:=h.ok.cnt1
 have hck:=rtcheck_w h
 have hxl:=h.fr.len
 have hqc:=h.len
 obtain ⟨N,hN⟩:∃N,N=qs.length:=⟨_,rfl⟩
 have hxN:xs.length=N:=by omega
 have hbl:=fun i hi=>bstT_lt (qs:=qs) (n:=N) (by omega) i hi
 have hb1:=bstT_one (qs:=qs)
 rw [←hN]
 refine good_of Tryz.func32 rfl (by kernel_rfl) fun X hO hrd=>?_;rw [Tryz.ntmps32,Tryz.results32];simp only [ast0,List.map_cons,List.map_nil,List.length_cons,List.length_nil,Nat.reduceAdd,Nat.reduceSub,List.replicate_succ,List.replicate_zero,List.cons_append,List.nil_append]
 (repeat (with_reducible first|refine W_seq fun K hK=>?_|refine J_region ?_ |(refine Kont.go (by assumption) ?_)|(simp (config:={ maxSteps:=3000000 }) (disch:=omega) only [go_sem,↓reduceIte,Nat.reduceAdd])))
 (first|refine call_f (hck) rfl ?_|refine callQ_f (hck) rfl ?_|refine callHK_f (hck) rfl ?_|refine callH_f (hck) rfl ?_)
 (repeat (with_reducible first|refine W_seq fun K hK=>?_|refine J_block ?_|refine J_skip ?_|refine J_region ?_ |refine J_c ?_|refine Jc_false ?_|(refine Kont.go (by assumption) ?_)|(simp (config:={ maxSteps:=3000000 }) (disch:=omega) only [go_sem])))
 refine W_loop [8,9,10,20,21,22,23,24,25,26,27,28,29,30,31,32,33,34,35,36,37,38,39,40] (fun x:Nat=>[(8,.f (I (bstT qs x:Nat))),(9,.f (I x))]) (fun x:Nat=>[oT (tabV l xs),oF frN]) (fun x:Nat=>1≤x∧x≤N) (fun x:Nat=>N-x) (1) (⟨Nat.le_refl _,by omega⟩) (by refine weak_of ?_ ?_<;>simp (disch:=omega) only [go_sem,Nat.reduceAdd]<;>first|rfl|exact ⟨rfl,rfl⟩|exact Or.inl rfl|exact ⟨Or.inl rfl,Or.inl rfl⟩|trivial|assumption|omega|(symm;assumption)|((repeat' apply And.intro)<;>first|rfl|omega|trivial|exact .inl rfl|exact .inr ⟨rfl,rfl⟩|exact .inr rfl|(right;symm;assumption)|(symm;assumption)|assumption)) ?_
 ·rintro x ⟨hx1,hx⟩
  simp only [go_sem]
  (repeat (with_reducible first|refine W_seq fun K hK=>?_|refine J_region ?_ |refine J_c ?_|(refine Kont.go (by assumption) ?_)|(simp (config:={ maxSteps:=3000000 }) (disch:=omega) only [go_sem,↓reduceIte,hxN])))
  refine Jc_if (fun hlt=>?_) (fun hlt=>?_)<;>try simp only [decide_eq_true_eq,decide_eq_false_iff_not] at hlt
  ·obtain ⟨g,n,d,g1,f1⟩:=h.fr.at3 (i:=x) (by omega)
   have hb:=hbl x hx
   obtain ⟨g',n',d',g2,f2⟩:=h.fr.at3 (i:=bstT qs x) (by omega)
   have hcm:=rcmp_w f1 f2 (by omega) (by omega)
   have hst:bstT qs (x+1)=if qs.getD (bstT qs x) 0<qs.getD x 0 then x else bstT qs x:=rfl
   rw [lget_lt qs 0 (show x<qs.length by omega),lget_lt qs 0 (show bstT qs x<qs.length by omega)] at hst
   by_cases hc:0<cmpR (qs[x]'(by omega)) (qs[bstT qs x]'(by omega))
   ·rw [if_pos (cmpR_gt.1 hc)] at hst
    (repeat (first|(with_reducible first|refine W_seq fun K hK=>?_|refine J_block ?_|refine J_skip ?_|refine J_region ?_ |refine J_drawn mixed (by kernel_rfl) ?_|refine J_c ?_|refine Jc_true ?_|(refine Kont.go (by assumption) ?_)|(simp (config:={ maxSteps:=3000000 }) (disch:=omega) only [go_sem,↓reduceIte,Nat.reduceAdd,g1,g2,hlt,hc]))|refine callQ_f (rcmp_w (by assumption) (by assumption) (by omega) (by omega)) rfl ?_))
    refine ⟨x+1,⟨by omega,by omega⟩,by omega,weak_of ?_ ?_⟩<;>(try simp (disch:=omega) only [go_sem,Nat.reduceAdd,hst])<;>(try first|done|omega|rfl|exact ⟨rfl,rfl⟩|trivial)
   ·rw [if_neg fun hh=>hc (cmpR_gt.2 hh)] at hst
    (repeat (first|(with_reducible first|refine W_seq fun K hK=>?_|refine J_block ?_|refine J_skip ?_|refine J_region ?_ |refine J_drawn mixed (by kernel_rfl) ?_|refine J_c ?_|refine Jc_false ?_|(refine Kont.go (by assumption) ?_)|(simp (config:={ maxSteps:=3000000 }) (disch:=omega) only [go_sem,↓reduceIte,Nat.reduceAdd,g1,g2,hlt,hc]))|refine callQ_f (rcmp_w (by assumption) (by assumption) (by omega) (by omega)) rfl ?_))
    refine ⟨x+1,⟨by omega,by omega⟩,by omega,weak_of ?_ ?_⟩<;>(try simp (disch:=omega) only [go_sem,Nat.reduceAdd,hst])<;>(try first|done|omega|rfl|exact ⟨rfl,rfl⟩|trivial)
  ·have he:x=N:=by omega
   subst he
   have hb:=hbl x (Nat.le_refl _)
   obtain ⟨g,n,d,g1,f1⟩:=h.fr.at3 (i:=bstT qs x) (by omega)
   have hw:=rwhere_w h.ok (k:=bstT qs x) (by omega)
   have hca:=rcanon_w f1 (by omega)
   (repeat (with_reducible first|refine W_seq fun K hK=>?_|refine J_exit ?_|refine J_region ?_ |(refine Kont.go (by assumption) ?_)|(simp (config:={ maxSteps:=3000000 }) (disch:=omega) only [go_sem,↓reduceIte])))
   (first|refine call_f (hw) rfl ?_|refine callQ_f (hw) rfl ?_|refine callHK_f (hw) rfl ?_|refine callH_f (hw) rfl ?_)
   (repeat (first|(with_reducible first|refine W_seq fun K hK=>?_|refine J_ret ?_|refine J_region ?_ |(refine Kont.go (by assumption) ?_)|(simp (config:={ maxSteps:=3000000 }) (disch:=omega) only [go_sem,↓reduceIte,Nat.reduceAdd,g1]))|refine call_f (rcanon_w (by assumption) (by omega)) rfl ?_))
   rw [lget_lt qs 0 (show bstT qs x<qs.length by omega)]
   exact ⟨_,rfl,FrzL.fs [_,_,_]⟩
end Go.Proofs.YtmcgeppgfjlclaaGreatDoor
