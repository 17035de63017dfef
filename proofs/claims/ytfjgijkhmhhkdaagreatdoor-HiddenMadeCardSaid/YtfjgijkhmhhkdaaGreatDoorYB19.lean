/- Hidden chains: all ways on from a state: walked. Conditions: numbers of 1000 bytes each. -/
import Derived.Test.YtfjgijkhmhhkdaaGreatDoorYB14
import Derived.Test.YtfjgijkhmhhkdaaGreatDoorYB11
import Derived.Test.YtfjgijkhmhhkdaaGreatDoorYB18
set_option linter.unusedVariables false
set_option linter.unusedSimpArgs false
namespace Go.Proofs.YtfjgijkhmhhkdaaGreatDoor
open Go Go.RowKit
abbrev nilF:FV:=.v (.slice none 0 0)
def bRow (h:HM) (op:Rat→Rat→Rat) (t:Nat):List Rat:=(List.range h.n).map (h.gB op t)
def bTo (h:HM) (op:Rat→Rat→Rat) (t i:Nat):List FV:=(List.range i).map fun k=>fr (h.gB op t k)
def bF (h:HM) (op:Rat→Rat→Rat) (lo:Nat):List FV:=(List.range h.T).map fun j=>if lo≤j then frs (bRow h op j) else nilF
def bR (h:HM) (op:Rat→Rat→Rat):List (List Rat):=(List.range h.T).map (bRow h op)
section
variable {h : HM} {op : Rat → Rat → Rat} {t i lo : Nat}
theorem bF_len:(bF h op lo).length=h.T:=by simp [bF]
theorem bTo_len:(bTo h op t i).length=i:=by simp [bTo]
theorem bTo_next:bTo h op t i++[fr (h.gB op t i)]=bTo h op t (i+1):=by simp [bTo,List.range_succ]
theorem bTo_all:bTo h op t h.n=(bRow h op t).map fr:=by simp [bTo,bRow]
theorem bRow_len:(bRow h op t).length=h.n:=by simp [bRow]
theorem bRow_get (hi:i<h.n):((bRow h op t).map fr)[i]?=some (fr (h.gB op t i)):=by simp [bRow,hi]
theorem bF_get (ht:t<h.T) (hl:lo≤t):((bF h op lo).map AV.f)[t]?=some (.f (frs (bRow h op t))):=by simp [bF,ht,hl]
theorem bF_set (ht:t<h.T):((bF h op (t+1)).map AV.f).set t (.f (frs (bRow h op t)))=(bF h op t).map .f:=by
 rw [←List.map_set]
 congr 1
 apply List.ext_getElem?
 intro j
 by_cases e:j=t
 ·subst e
  rw [List.getElem?_set_self (by rw [bF_len];exact ht)]
  simp [bF,ht]
 ·rw [List.getElem?_set_ne (Ne.symm e)]
  by_cases hj:j<h.T
  ·have:(t+1≤j)=(t≤j):=propext ⟨fun h=>by omega,fun h=>by omega⟩
   simp [bF,hj,this]
  ·rw [List.getElem?_eq_none (by rw [bF_len];omega),List.getElem?_eq_none (by rw [bF_len];omega)]
theorem bF_nil (ht:t<h.T):(bF h op (t+1)).map AV.f=((bF h op (t+1)).map AV.f).set t (.f nilF):=by
 rw [←List.map_set]
 congr 1
 apply List.ext_getElem?
 intro j
 by_cases e:j=t
 ·subst e
  rw [List.getElem?_set_self (by rw [bF_len];exact ht)]
  simp [bF,ht]
 ·rw [List.getElem?_set_ne (Ne.symm e)]
theorem bF_top:List.replicate h.T (AV.f nilF)=(bF h op h.T).map .f:=by
 apply List.ext_getElem?
 intro j
 by_cases hj:j<h.T
 ·simp [bF,hj]
 ·rw [List.getElem?_eq_none (by simp;omega),List.getElem?_eq_none (by simp [bF_len];omega)]
theorem bF_all:bF h op 0=(bR h op).map frs:=by simp [bF,bR]
end
theorem bTo_zero {h:HM} {op:Rat→Rat→Rat} {t:Nat}:bTo h op t 0=[]:=rfl
attribute [go_sem] bTo_zero
theorem gB_next {h:HM} {op:Rat→Rat→Rat} {t i:Nat} (ht:t+1<h.T):h.gB op t i=opF op (fun k=>h.mv i k*h.sh k (h.s (t+1))*h.gB op (t+1) k) h.n:=by
 unfold HM.gB
 rw [show h.T-1-t=(h.T-1-(t+1))+1 by omega]
 show opF _ _ _=_
 rw [show h.T-1-(h.T-1-(t+1))=t+1 by omega]
theorem gB_last {h:HM} {op:Rat→Rat→Rat} {t i:Nat} (ht:t+1=h.T):h.gB op t i=1:=by
 unfold HM.gB
 rw [show h.T-1-t=0 by omega]
 rfl
set_option maxRecDepth 100000 in
set_option maxHeartbeats 8000000 in
theorem behind_w {k:Nat} {fs ms ss:List FV} {st:List Rat} {mv sh:List (List Rat)} {seen:List Int} (h:HOk k fs ms ss st mv sh seen) (h1:1≤k) (hk:k≤1000) (hs:∀x∈seen,-9223372036854775808≤x∧x≤9223372036854775807) {jj:FuncId} {op:Rat→Rat→Rat} (hj:Join jj op) :
  Good Tryz.prog 43 [hidV fs ms ss,ints seen,.fn jj [] []] (rowsF (bR (hm st mv sh seen) op)):=by
 have hn4:=h.n4
 have hn1:=h.n1
 have ht8:=h.t8
 obtain ⟨m,hm_⟩:∃m,m=hm st mv sh seen:=⟨_,rfl⟩
 rw [←hm_]
 have hmn:m.n=st.length:=by rw [hm_];rfl
 have hmT:m.T=seen.length:=by rw [hm_];rfl
 have hrep:List.replicate seen.length (AV.f nilF)=(bF m op seen.length).map .f:=by rw [←hmT];exact bF_top
 have h00:(seen.length:Int)-1=(seen.length:Int)-1-0:=by omega
 refine good_of Tryz.func43 rfl (by kernel_rfl) fun X hO hrd=>?_;rw [Tryz.ntmps43,Tryz.results43];simp only [ast0,List.map_cons,List.map_nil,List.length_cons,List.length_nil,Nat.reduceAdd,Nat.reduceSub,List.replicate_succ,List.replicate_zero,List.cons_append,List.nil_append]
 (repeat (first|(with_reducible first|refine W_seq fun K hK=>?_|refine J_block ?_|refine J_region ?_|(refine Kont.go (by assumption) ?_)|(simp (config:={ maxSteps:=3000000 }) (disch:=omega) only [go_sem,Nat.reduceAdd,List.length_map,hrep]))|refine And.intro (by omega) ?_))
 refine W_loop [8,9,10,11,12,19,20,21,22,23,24,25,26,27,28,29,30,31,32,33,34,35,36,37,38,39,40,41,42,43,44,45,46,47,48,49,50,51,52,53,54,55,56,57,58,59,60,61,62,63,64,65,66,67,68,69,70,71,72,73,74,75,76,77,78,79,80,81,82,83,84] (fun x:Nat=>[(8,.f (I ((seen.length:Int)-1-(x:Int))))]) (fun x:Nat=>[some ⟨25,3,[.f (hidV fs ms ss)]⟩,some ⟨22,1,(bF m op (seen.length-x)).map .f⟩]) (fun x:Nat=>x≤seen.length) (fun x:Nat=>seen.length-x) (0) (Nat.zero_le _) (by refine weak_of ?_ ?_<;>simp (disch:=omega) only [go_sem,Nat.reduceAdd]<;>first|rfl|exact ⟨rfl,rfl⟩|exact Or.inl rfl|exact ⟨Or.inl rfl,Or.inl rfl⟩|trivial|assumption|omega|(symm;assumption)|((repeat' apply And.intro)<;>first|rfl|omega|trivial|exact .inl rfl|exact .inr ⟨rfl,rfl⟩|exact .inr rfl|(right;symm;assumption)|(symm;assumption)|assumption)) ?_
 rintro x hx
 simp only [go_sem]
 by_cases hlt:x<seen.length
 ·obtain ⟨t,ht⟩:∃t,t=seen.length-1-x:=⟨_,rfl⟩
  have hti:(seen.length:Int)-1-(x:Int)=(t:Int):=by omega
  have htl:t<seen.length:=by omega
  have hlo:seen.length-x=t+1:=by omega
  have htT:t<m.T:=by omega
  rw [hlo]
  (repeat (with_reducible first|refine W_seq fun K hK=>?_|refine J_block ?_|refine J_skip ?_|refine J_region ?_|refine J_c ?_|refine Jc_true ?_|(refine Kont.go (by assumption) ?_)|(simp (config:={ maxSteps:=3000000 }) (disch:=omega) only [go_sem,↓reduceIte,hti,h.f.ist.len])))
  refine J_reserve ?_
  rw [bF_nil htT]
  have hbn:=bRow_len (h:=m) (op:=op) (t:=t)
  refine W_loop [9,10,11,12,26,27,28,29,30,31,32,33,34,35,36,37,38,39,40,41,42,43,44,45,46,47,48,49,50,51,52,53,54,55,56,57,58,59,60,61,62,63,64,65,66,67,68,69,70,71,72,73,74,75,76,77,78,79,80,81,82,83,84] (fun x:Nat=>[(26,.f (I x))]) (fun x:Nat=>[some ⟨25,3,[.f (hidV fs ms ss)]⟩,some ⟨22,1,((bF m op (t+1)).map .f).set t (sl 2 3 (bTo m op t x))⟩,ob 30 3 (bTo m op t x)]) (fun x:Nat=>x≤st.length) (fun x:Nat=>st.length-x) (0) (Nat.zero_le _) (by refine weak_of ?_ ?_<;>simp (disch:=omega) only [go_sem,Nat.reduceAdd]<;>first|rfl|exact ⟨rfl,rfl⟩|exact Or.inl rfl|exact ⟨Or.inl rfl,Or.inl rfl⟩|trivial|assumption|omega|(symm;assumption)|((repeat' apply And.intro)<;>first|rfl|omega|trivial|exact .inl rfl|exact .inr ⟨rfl,rfl⟩|exact .inr rfl|(right;symm;assumption)|(symm;assumption)|assumption)) ?_
  rintro i hi
  simp only [go_sem]
  (repeat (with_reducible first|refine W_seq fun K hK=>?_|refine J_region ?_|refine J_c ?_|(refine Kont.go (by assumption) ?_)|(simp (config:={ maxSteps:=3000000 }) (disch:=omega) only [go_sem])))
  refine Jc_if (fun hil=>?_) (fun hil=>?_)<;>try simp only [decide_eq_true_eq,decide_eq_false_iff_not] at hil
  ·have hbl:=bTo_len (h:=m) (op:=op) (t:=t) (i:=i)
   have hnx:=bTo_next (h:=m) (op:=op) (t:=t) (i:=i)
   have hgt:∀y,(((bF m op (t+1)).map AV.f).set t y)[t]?=some y:=fun y=>List.getElem?_set_self (by rw [List.length_map,bF_len];exact htT)
   have hne1:bTo m op t (i+1)≠[]:=fun e=>by have:=congrArg List.length e;rw [bTo_len] at this;simp at this
   have hsl1:sl 5 3 (bTo m op t (i+1))=.own 5 3 0 (i+1):=by rw [sl_pos hne1,bTo_len]
   have hob1:ob 30 3 (bTo m op t (i+1))=some ⟨30,3,(bTo m op t (i+1)).map .f⟩:=ob_pos hne1
   have htk:((bTo m op t i).map AV.f).take i++[AV.f (fr (m.gB op t i))]=(bTo m op t (i+1)).map AV.f:=by rw [List.take_of_length_le (by rw [List.length_map,hbl];omega),←hnx,List.map_append];rfl
   by_cases ht1:t+1<seen.length
   ·have ht1':(t:Int)+1<(seen.length:Int):=by omega
    have ht1n:((t:Int)+1).toNat=t+1:=by omega
    have hg1:∀y,(((bF m op (t+1)).map AV.f).set t y)[t+1]?=some (.f (frs (bRow m op (t+1)))):=fun y=>by
     rw [List.getElem?_set_ne (by omega)];exact bF_get (by omega) (by omega)
    have hb1:=bRow_len (h:=m) (op:=op) (t:=t+1)
    (repeat (first|(with_reducible first|refine W_seq fun K hK=>?_|refine J_block ?_|refine J_skip ?_|refine J_region ?_|refine J_c ?_|refine Jc_true ?_|(refine Kont.go (by assumption) ?_)|(simp (config:={ maxSteps:=3000000 }) (disch:=omega) only [go_sem,↓reduceIte,Nat.reduceAdd,List.length_map,ht1',ht1n,hg1,hb1,hmn]))|refine call_f (of_good (by omega) (by omega)) rfl ?_|refine And.intro (by omega) ?_))
    have z0:fr ((0:Int):Rat)=fr (opF op (fun k=>m.mv i k*m.sh k (m.s (t+1))*m.gB op (t+1) k) 0):=rfl
    refine W_loop [11,12,42,43,44,45,46,47,48,49,50,51,52,53,54,55,56,57,58,59,60,61,62,63,64,65,66,67,68,69,70,71,72,73] (fun x:Nat=>[(42,.f (I x))]) (fun x:Nat=>[some ⟨25,3,[.f (hidV fs ms ss)]⟩,some ⟨22,1,((bF m op (t+1)).map .f).set t (sl 2 3 (bTo m op t i))⟩,ob 30 3 (bTo m op t i),oF (fr (opF op (fun k=>m.mv i k*m.sh k (m.s (t+1))*m.gB op (t+1) k) x))]) (fun x:Nat=>x≤st.length) (fun x:Nat=>st.length-x) (0) (Nat.zero_le _) (by refine weak_of ?_ ?_<;>simp (disch:=omega) only [go_sem,Nat.reduceAdd]<;>first|rfl|exact ⟨rfl,rfl⟩|exact Or.inl rfl|exact ⟨Or.inl rfl,Or.inl rfl⟩|trivial|assumption|omega|(symm;assumption)|((repeat' apply And.intro)<;>first|rfl|omega|trivial|exact .inl rfl|exact .inr ⟨rfl,rfl⟩|exact .inr rfl|(right;symm;assumption)|(symm;assumption)|assumption)) ?_
    rintro q hq
    simp only [go_sem]
    (repeat (with_reducible first|refine W_seq fun K hK=>?_|refine J_region ?_|refine J_c ?_|(refine Kont.go (by assumption) ?_)|(simp (config:={ maxSteps:=3000000 }) (disch:=omega) only [go_sem])))
    refine Jc_if (fun hql=>?_) (fun hql=>?_)<;>try simp only [decide_eq_true_eq,decide_eq_false_iff_not] at hql
    ·have hse1:=h.se (t+1) ht1
     have hsb1:=hs _ (List.getElem_mem ht1)
     obtain ⟨xs2,g2,n2,d2,y2,x2,f2⟩:=h.s3 hql ht1
     obtain ⟨xs3,g3,n3,d3,y3,x3,f3⟩:=h.m3 hil hql
     rw [lget_lt seen 0 ht1] at x2 f2 hse1
     have es:at2 sh q seen[t+1].toNat=m.sh q (m.s (t+1)):=by rw [hm_];show _=at2 sh q (seen.getD (t+1) 0).toNat;rw [lget_lt seen 0 ht1]
     have em:at2 mv i q=m.mv i q:=by rw [hm_];rfl
     rw [es] at f2
     rw [em] at f3
     have ff:∀q',q'<st.length→Fz (m.gB op (t+1) q') (szH k (m.T-1-(t+1))):=fun q' hq'=>by
      have:=h.fU h1 hj (u:=m.T-1-(t+1)) (by omega) hq'
      rw [←hm_] at this;exact this
     have sa:=szH_le (k:=k) (t:=m.T-1-(t+1)) hk (by omega)
     have cb:=IsFr.c (ff q hql)
     have cm:=IsFr.c ((f3.of3 h1).mul (f2.of3 h1))
     have fo:=opF_fz hj (f:=fun k=>m.mv i k*m.sh k (m.s (t+1))*m.gB op (t+1) k) (n:=q) (s:=k+k+szH k (m.T-1-(t+1))) fun q' hq'=>by
      have a1:=h.hM h1 (i:=i) (j:=q') hil (by omega)
      have a2:=h.hS h1 (i:=q') (t:=t+1) (by omega) ht1
      rw [←hm_] at a1 a2
      exact (a1.mul a2).mul (ff q' (by omega))
     have so:=Nat.mul_le_mul (show q≤4 by omega) (show k+k+szH k (m.T-1-(t+1))+1≤400002001 by omega)
     have fm:=((f3.of3 h1).mul (f2.of3 h1)).mul (ff q hql)
     have l2:=bRow_get (h:=m) (op:=op) (t:=t+1) (i:=q) (by omega)
     (repeat (first|(with_reducible first|refine W_seq fun K hK=>?_|refine J_block ?_|refine J_skip ?_|refine J_region ?_|refine J_drawn mixed (by kernel_rfl) ?_|(refine Kont.go (by assumption) ?_)|(simp (config:={ maxSteps:=3000000 }) (disch:=omega) only [go_sem,↓reduceIte,Nat.reduceAdd,List.length_map,l2,x2,y2,x3,y3,ht1n,map_get I seen ht1]))|refine callQ_f (mul_w (by assumption) (by assumption) (by omega) (by omega)) rfl ?_|refine And.intro (by omega) ?_))
     refine callQ_f (hj.good fo fm (by omega) (by omega)) rfl ?_
     (repeat (with_reducible first|refine J_region ?_|(refine Kont.go (by assumption) ?_)|(simp (config:={ maxSteps:=3000000 }) (disch:=omega) only [go_sem,Nat.reduceAdd])))
     refine ⟨q+1,by omega,by omega,weak_of ?_ ?_⟩<;>(try simp (disch:=omega) only [go_sem,Nat.reduceAdd])<;>(try first|done|omega|rfl|exact ⟨rfl,rfl⟩|trivial)
    ·have he:q=st.length:=by omega
     subst he
     have e2:opF op (fun k=>m.mv i k*m.sh k (m.s (t+1))*m.gB op (t+1) k) st.length=m.gB op t i:=by rw [gB_next (by omega),hmn]
     have e2':fr (opF op (fun k=>m.mv i k*m.sh k (m.s (t+1))*m.gB op (t+1) k) st.length)=fr (m.gB op t i):=by rw [e2]
     by_cases hi0:i=0
     ·subst hi0
      (repeat (first|(with_reducible first|refine J_exit ?_|refine J_region ?_|refine J_orders (id:=16) [8] (.one 0 (.one 1 (.one 2 (.one 3 (.one 4 (.one 5 (.one 6 (.one 7 (.one 8 (.one 9 (.one 10 .leaf))))))))))) mixed (by kernel_rfl) ?_ |(refine Kont.go (by assumption) ?_)|(simp (config:={ maxSteps:=3000000 }) (disch:=omega) only [go_sem,Nat.reduceEqDiff,↓reduceIte,Nat.reduceAdd,Nat.reduceLeDiff,Int.reduceAdd,e2',hgt,bTo_zero,sl_nil,ob_nil,List.set_set]))|refine And.intro (by omega) ?_))
      refine ⟨1,by omega,by omega,weak_ren [0,1,5] ⟨by decide,by first|decide|(simp;done)⟩ ?_ ?_⟩<;>(try simp (disch:=omega) only [go_sem,Nat.reduceAdd,hsl1,hob1])<;>(try first|done|omega|rfl|exact ⟨rfl,rfl⟩|trivial)
     ·have hne:bTo m op t i≠[]:=fun e=>by rw [e] at hbl;simp at hbl;omega
      have hsl:sl 2 3 (bTo m op t i)=.own 2 3 0 i:=by rw [sl_pos hne,hbl]
      have hob:ob 30 3 (bTo m op t i)=some ⟨30,3,(bTo m op t i).map .f⟩:=ob_pos hne
      (repeat (first|(with_reducible first|refine J_exit ?_|refine J_region ?_|refine J_orders (id:=16) [8] (.one 0 (.one 1 (.one 2 (.one 3 (.one 4 (.one 5 (.one 6 (.one 7 (.one 8 (.one 9 (.one 10 .leaf))))))))))) mixed (by kernel_rfl) ?_ |(refine Kont.go (by assumption) ?_)|(simp (config:={ maxSteps:=3000000 }) (disch:=omega) only [go_sem,Nat.reduceEqDiff,↓reduceIte,Nat.reduceAdd,Nat.reduceLeDiff,e2',hgt,hsl,hob,List.set_set,hbl,htk]))|refine And.intro (by omega) ?_))
      refine ⟨i+1,by omega,by omega,weak_ren [0,1,5] ⟨by decide,by first|decide|(simp;done)⟩ ?_ ?_⟩<;>(try simp (disch:=omega) only [go_sem,Nat.reduceAdd,hsl1,hob1])<;>(try first|done|omega|rfl|exact ⟨rfl,rfl⟩|trivial)
   ·have ht1':¬(t:Int)+1<(seen.length:Int):=by omega
    have e2':fr ((1:Int):Rat)=fr (m.gB op t i):=by rw [gB_last (by omega)];rfl
    by_cases hi0:i=0
    ·subst hi0
     (repeat (first|(with_reducible first|refine W_seq fun K hK=>?_|refine J_block ?_|refine J_skip ?_|refine J_region ?_|refine J_orders (id:=16) [8] (.one 0 (.one 1 (.one 2 (.one 3 (.one 4 (.one 5 (.one 6 (.one 7 (.one 8 (.one 9 (.one 10 .leaf))))))))))) mixed (by kernel_rfl) ?_ |refine J_c ?_|refine Jc_false ?_|(refine Kont.go (by assumption) ?_)|(simp (config:={ maxSteps:=3000000 }) (disch:=omega) only [go_sem,Nat.reduceEqDiff,↓reduceIte,Nat.reduceAdd,Nat.reduceLeDiff,Int.reduceAdd,List.length_map,ht1',e2',hgt,bTo_zero,sl_nil,ob_nil,List.set_set]))|refine call_f (of_good (by omega) (by omega)) rfl ?_|refine And.intro (by omega) ?_))
     refine ⟨1,by omega,by omega,weak_ren [0,1,5] ⟨by decide,by first|decide|(simp;done)⟩ ?_ ?_⟩<;>(try simp (disch:=omega) only [go_sem,Nat.reduceAdd,hsl1,hob1])<;>(try first|done|omega|rfl|exact ⟨rfl,rfl⟩|trivial)
    ·have hne:bTo m op t i≠[]:=fun e=>by rw [e] at hbl;simp at hbl;omega
     have hsl:sl 2 3 (bTo m op t i)=.own 2 3 0 i:=by rw [sl_pos hne,hbl]
     have hob:ob 30 3 (bTo m op t i)=some ⟨30,3,(bTo m op t i).map .f⟩:=ob_pos hne
     (repeat (first|(with_reducible first|refine W_seq fun K hK=>?_|refine J_block ?_|refine J_skip ?_|refine J_region ?_|refine J_orders (id:=16) [8] (.one 0 (.one 1 (.one 2 (.one 3 (.one 4 (.one 5 (.one 6 (.one 7 (.one 8 (.one 9 (.one 10 .leaf))))))))))) mixed (by kernel_rfl) ?_ |refine J_c ?_|refine Jc_false ?_|(refine Kont.go (by assumption) ?_)|(simp (config:={ maxSteps:=3000000 }) (disch:=omega) only [go_sem,Nat.reduceEqDiff,↓reduceIte,Nat.reduceAdd,Nat.reduceLeDiff,List.length_map,ht1',e2',hgt,hsl,hob,List.set_set,hbl,htk]))|refine call_f (of_good (by omega) (by omega)) rfl ?_|refine And.intro (by omega) ?_))
     refine ⟨i+1,by omega,by omega,weak_ren [0,1,5] ⟨by decide,by first|decide|(simp;done)⟩ ?_ ?_⟩<;>(try simp (disch:=omega) only [go_sem,Nat.reduceAdd,hsl1,hob1])<;>(try first|done|omega|rfl|exact ⟨rfl,rfl⟩|trivial)
  ·have he:i=st.length:=by omega
   subst he
   have hba:bTo m op t st.length=(bRow m op t).map fr:=by rw [←hmn];exact bTo_all
   have hne:(bRow m op t).map fr≠[]:=fun e=>by have:=congrArg List.length e;rw [List.length_map,bRow_len,hmn] at this;have h0:([]:List FV).length=0:=rfl;omega
   have hbs:=bF_set (h:=m) (op:=op) htT
   have hso:sl 2 3 ((bRow m op t).map fr)=.own 2 3 0 st.length:=by rw [sl_pos hne,List.length_map,bRow_len,hmn]
   have hoo:ob 30 3 ((bRow m op t).map fr)=some ⟨30,3,((bRow m op t).map fr).map .f⟩:=ob_pos hne
   have hfl:((bRow m op t).map fr).length=st.length:=by rw [List.length_map,bRow_len,hmn]
   (repeat (with_reducible first|refine J_exit ?_|(refine Kont.go (by assumption) ?_)|(simp (config:={ maxSteps:=3000000 }) (disch:=omega) only [go_sem,↓reduceIte,hba,hso,hoo])))
   refine J_freezeA (r:=2) (sz:=3) (l:=(bRow m op t).map fr) rfl ?_
   (repeat (with_reducible first|refine J_region ?_|(simp (config:={ maxSteps:=3000000 }) (disch:=omega) only [go_sem,Nat.reduceEqDiff,↓reduceIte,hfl,hbs,false_and,and_self])))
   have hn1:(t:Int)-1=(seen.length:Int)-1-((x+1:Nat):Int):=by omega
   have hn2:seen.length-(x+1)=t:=by omega
   refine ⟨x+1,by omega,by omega,weak_of ?_ ?_⟩<;>(try simp (disch:=omega) only [go_sem,Nat.reduceAdd])<;>(try first|done|omega|rfl|exact ⟨rfl,rfl⟩|trivial)
   all_goals rw [hn2]
   all_goals exact ⟨rfl,rfl⟩
 ·have he:x=seen.length:=by omega
  subst he
  have hti:(seen.length:Int)-1-(seen.length:Int)=-1:=by omega
  have hz:seen.length-seen.length=0:=by omega
  have ha:(bF m op 0).map AV.f=((bR m op).map frs).map .f:=by rw [bF_all]
  have hl:((bR m op).map frs).length=seen.length:=by simp [bR,hmT]
  (repeat (with_reducible first|refine W_seq fun K hK=>?_|refine J_exit ?_|refine J_ret ?_|refine J_region ?_|refine J_c ?_|refine Jc_false ?_|(refine Kont.go (by assumption) ?_)|(simp (config:={ maxSteps:=3000000 }) (disch:=omega) only [go_sem,↓reduceIte,Int.reduceLE,Int.reduceNeg,hti,hz,ha])))
  exact Frz.own0 rfl hl.symm
end Go.Proofs.YtfjgijkhmhhkdaaGreatDoor
set_option linter.unusedVariables false
set_option linter.unusedSimpArgs false
namespace Go.Proofs.YtfjgijkhmhhkdaaGreatDoor
open Go Go.RowKit
def fwR (st:List Rat) (mv sh:List (List Rat)) (seen:List Int):List (List Rat):=if mayE st mv sh seen=0 then aR (hm st mv sh seen) (fun a b=>a+b) seen.length else []
def bwR (st:List Rat) (mv sh:List (List Rat)) (seen:List Int):List (List Rat):=if mayE st mv sh seen=0 then bR (hm st mv sh seen) (fun a b=>a+b) else []
set_option maxRecDepth 100000 in
theorem sum_w2 {xs:List FV} {l:List Rat} {k:Nat} (hl:Frs k xs l) (h1:1≤k) (hn:l.length≤1000) (hk:k≤34359738368) (hb:8+l.length*(k+1)≤34359738368):Good Tryz.prog 29 [.fz 3 xs] (fr (sumR l)):=by
 have hr:=hl.row h1
 refine good_of Tryz.func29 rfl (by kernel_rfl) fun X hO hrd=>?_;rw [Tryz.ntmps29,Tryz.results29];simp only [ast0,List.map_cons,List.map_nil,List.length_cons,List.length_nil,Nat.reduceAdd,Nat.reduceSub,List.replicate_succ,List.replicate_zero,List.cons_append,List.nil_append]
 (repeat (first|(with_reducible first|refine W_seq fun K hK=>?_|refine J_block ?_|refine J_region ?_ |(refine Kont.go (by assumption) ?_)|(simp (config:={ maxSteps:=3000000 }) (disch:=omega) only [go_sem,↓reduceIte,Nat.reduceAdd,hl.len]))|refine call_f (of_good (by omega) (by omega)) rfl ?_))
 refine W_loop [5,9,10,11,12,13,14,15,16] (fun x:Nat=>[(9,.f (I x))]) (fun x:Nat=>[oF frN,oF (fr (sumTo l x))]) (fun x:Nat=>x≤l.length) (fun x:Nat=>l.length-x) (0) (Nat.zero_le _) (by refine weak_of ?_ ?_<;>simp (disch:=omega) only [go_sem,Nat.reduceAdd]<;>first|rfl|exact ⟨rfl,rfl⟩|exact Or.inl rfl|exact ⟨Or.inl rfl,Or.inl rfl⟩|trivial|assumption|omega|(symm;assumption)|((repeat' apply And.intro)<;>first|rfl|omega|trivial|exact .inl rfl|exact .inr ⟨rfl,rfl⟩|exact .inr rfl|(right;symm;assumption)|(symm;assumption)|assumption)) ?_
 rintro i hi
 simp only [go_sem]
 (repeat (with_reducible first|refine W_seq fun K hK=>?_|refine J_region ?_ |refine J_c ?_|(refine Kont.go (by assumption) ?_)|(simp (config:={ maxSteps:=3000000 }) (disch:=omega) only [go_sem])))
 refine Jc_if (fun hlt=>?_) (fun hlt=>?_)<;>try simp only [decide_eq_true_eq,decide_eq_false_iff_not] at hlt
 ·have hsz:=Nat.mul_le_mul_right (k+1) hi
  have hd:=IsFr.c (sumTo_fz hr i hi)
  obtain ⟨g,n,d,hx,his⟩:=hl.at3 hlt
  (repeat (first|(with_reducible first|refine W_seq fun K hK=>?_|refine J_block ?_|refine J_skip ?_|refine J_region ?_ |(refine Kont.go (by assumption) ?_)|(simp (config:={ maxSteps:=3000000 }) (disch:=omega) only [go_sem,↓reduceIte,Nat.reduceAdd,hx,hlt,sumTo_next hlt]))|refine call_f (add_w (by assumption) (by assumption) (by omega) (by omega)) rfl ?_))
  refine ⟨i+1,by omega,by omega,weak_of ?_ ?_⟩<;>(try simp (disch:=omega) only [go_sem,Nat.reduceAdd])<;>(try first|done|omega|rfl|exact ⟨rfl,rfl⟩|trivial)
 ·have he:i=l.length:=by omega
  subst he
  (repeat (with_reducible first|refine W_seq fun K hK=>?_|refine J_exit ?_|refine J_ret ?_|refine J_region ?_ |(refine Kont.go (by assumption) ?_)|(simp (config:={ maxSteps:=3000000 }) (disch:=omega) only [go_sem,↓reduceIte,Nat.reduceAdd])))
  exact Frz.f _
section
variable {k : Nat} {fs ms ss : List FV} {st : List Rat} {mv sh : List (List Rat)} {seen : List Int}
set_option maxRecDepth 100000 in
theorem forward_w (h:HidF k fs ms ss st mv sh) (h1:1≤k) (hk:k≤1000) (hsl:seen.length≤140737488355328) (hs:∀x∈seen,-9223372036854775808≤x∧x≤9223372036854775807) :
  Good Tryz.prog 11 [hidV fs ms ss,ints seen] (.tup [rowsF (fwR st mv sh seen),I (mayE st mv sh seen)]):=by
 have hm1:=may_w h h1 (by omega) seen hsl hs
 by_cases hE:mayE st mv sh seen=0
 ·have e:fwR st mv sh seen=aR (hm st mv sh seen) (fun a b=>a+b) seen.length:=by unfold fwR;rw [if_pos hE]
  rw [e,hE]
  refine good_of Tryz.func11 rfl (by kernel_rfl) fun X hO hrd=>?_;rw [Tryz.ntmps11,Tryz.results11];simp only [ast0,List.map_cons,List.map_nil,List.length_cons,List.length_nil,Nat.reduceAdd,Nat.reduceSub,List.replicate_succ,List.replicate_zero,List.cons_append,List.nil_append]
  (repeat (with_reducible first|refine W_seq fun K hK=>?_|refine J_region ?_ |(refine Kont.go (by assumption) ?_)|(simp (config:={ maxSteps:=3000000 }) (disch:=omega) only [go_sem,↓reduceIte,Nat.reduceAdd])))
  refine call_f hm1 rfl ?_
  (repeat (with_reducible first|refine W_seq fun K hK=>?_|refine J_skip ?_|refine J_region ?_ |refine J_c ?_|refine Jc_false ?_|(refine Kont.go (by assumption) ?_)|(simp (config:={ maxSteps:=3000000 }) (disch:=omega) only [go_sem,↓reduceIte,Nat.reduceAdd,hE])))
  refine call_f (ahead_w (mayE_ok h hE) h1 hk hs join_add) rfl ?_
  (repeat (with_reducible first|refine J_ret ?_|(refine Kont.go (by assumption) ?_)|(simp (config:={ maxSteps:=3000000 }) (disch:=omega) only [go_sem])))
  exact ⟨_,rfl,FrzL.fs [_,_]⟩
 ·have e:fwR st mv sh seen=[]:=by unfold fwR;rw [if_neg hE]
  rw [e]
  refine good_of Tryz.func11 rfl (by kernel_rfl) fun X hO hrd=>?_;rw [Tryz.ntmps11,Tryz.results11];simp only [ast0,List.map_cons,List.map_nil,List.length_cons,List.length_nil,Nat.reduceAdd,Nat.reduceSub,List.replicate_succ,List.replicate_zero,List.cons_append,List.nil_append]
  (repeat (with_reducible first|refine W_seq fun K hK=>?_|refine J_region ?_ |(refine Kont.go (by assumption) ?_)|(simp (config:={ maxSteps:=3000000 }) (disch:=omega) only [go_sem,↓reduceIte,Nat.reduceAdd])))
  refine call_f hm1 rfl ?_
  (repeat (with_reducible first|refine W_seq fun K hK=>?_|refine J_ret ?_|refine J_region ?_ |refine J_c ?_|refine Jc_true ?_|(refine Kont.go (by assumption) ?_)|(simp (config:={ maxSteps:=3000000 }) (disch:=omega) only [go_sem,hE])))
  exact ⟨_,rfl,FrzL.cons (.nil _) (FrzL.cons (.f _) (FrzL.nil _))⟩
set_option maxRecDepth 100000 in
theorem backward_w (h:HidF k fs ms ss st mv sh) (h1:1≤k) (hk:k≤1000) (hsl:seen.length≤140737488355328) (hs:∀x∈seen,-9223372036854775808≤x∧x≤9223372036854775807) :
  Good Tryz.prog 14 [hidV fs ms ss,ints seen] (.tup [rowsF (bwR st mv sh seen),I (mayE st mv sh seen)]):=by
 have hm1:=may_w h h1 (by omega) seen hsl hs
 by_cases hE:mayE st mv sh seen=0
 ·have e:bwR st mv sh seen=bR (hm st mv sh seen) (fun a b=>a+b):=by unfold bwR;rw [if_pos hE]
  rw [e,hE]
  refine good_of Tryz.func14 rfl (by kernel_rfl) fun X hO hrd=>?_;rw [Tryz.ntmps14,Tryz.results14];simp only [ast0,List.map_cons,List.map_nil,List.length_cons,List.length_nil,Nat.reduceAdd,Nat.reduceSub,List.replicate_succ,List.replicate_zero,List.cons_append,List.nil_append]
  (repeat (with_reducible first|refine W_seq fun K hK=>?_|refine J_region ?_ |(refine Kont.go (by assumption) ?_)|(simp (config:={ maxSteps:=3000000 }) (disch:=omega) only [go_sem,↓reduceIte,Nat.reduceAdd])))
  refine call_f hm1 rfl ?_
  (repeat (with_reducible first|refine W_seq fun K hK=>?_|refine J_skip ?_|refine J_region ?_ |refine J_c ?_|refine Jc_false ?_|(refine Kont.go (by assumption) ?_)|(simp (config:={ maxSteps:=3000000 }) (disch:=omega) only [go_sem,↓reduceIte,Nat.reduceAdd,hE])))
  refine call_f (behind_w (mayE_ok h hE) h1 hk hs join_add) rfl ?_
  (repeat (with_reducible first|refine J_ret ?_|(refine Kont.go (by assumption) ?_)|(simp (config:={ maxSteps:=3000000 }) (disch:=omega) only [go_sem])))
  exact ⟨_,rfl,FrzL.fs [_,_]⟩
 ·have e:bwR st mv sh seen=[]:=by unfold bwR;rw [if_neg hE]
  rw [e]
  refine good_of Tryz.func14 rfl (by kernel_rfl) fun X hO hrd=>?_;rw [Tryz.ntmps14,Tryz.results14];simp only [ast0,List.map_cons,List.map_nil,List.length_cons,List.length_nil,Nat.reduceAdd,Nat.reduceSub,List.replicate_succ,List.replicate_zero,List.cons_append,List.nil_append]
  (repeat (with_reducible first|refine W_seq fun K hK=>?_|refine J_region ?_ |(refine Kont.go (by assumption) ?_)|(simp (config:={ maxSteps:=3000000 }) (disch:=omega) only [go_sem,↓reduceIte,Nat.reduceAdd])))
  refine call_f hm1 rfl ?_
  (repeat (with_reducible first|refine W_seq fun K hK=>?_|refine J_ret ?_|refine J_region ?_ |refine J_c ?_|refine Jc_true ?_|(refine Kont.go (by assumption) ?_)|(simp (config:={ maxSteps:=3000000 }) (disch:=omega) only [go_sem,hE])))
  exact ⟨_,rfl,FrzL.cons (.nil _) (FrzL.cons (.f _) (FrzL.nil _))⟩
theorem sumTo_map {f:Nat→Rat} {n:Nat}:∀{i:Nat},i≤n→sumTo ((List.range n).map f) i=sumF f i:=by
 intro i
 induction i with
 | zero=>intro _;rfl
 | succ i ih =>
  intro hi
  show sumTo _ i+((List.range n).map f).getD i 0=sumF f i+f i
  rw [ih (by omega)]
  congr 1
  have:i<n:=by omega
  simp [List.getD,this]
theorem sumR_map {f:Nat→Rat} {n:Nat}:sumR ((List.range n).map f)=sumF f n:=by
 unfold sumR
 rw [List.length_map,List.length_range,sumTo_map (Nat.le_refl _)]
theorem aRow_sum {h:HM} {t:Nat}:sumR (aRow h (fun a b=>a+b) t)=sumF (h.fw t) h.n:=by
 unfold aRow
 rw [sumR_map]
 exact sumF_congr fun i _=>h.gA_fw t i
def likX (st:List Rat) (mv sh:List (List Rat)) (seen:List Int):FV:=if mayE st mv sh seen=0 then fr (hm st mv sh seen).lik else frN
set_option maxRecDepth 100000 in
theorem likely_w (h:HidF k fs ms ss st mv sh) (h1:1≤k) (hk:k≤1000) (hsl:seen.length≤140737488355328) (hs:∀x∈seen,-9223372036854775808≤x∧x≤9223372036854775807) :
  Good Tryz.prog 6 [hidV fs ms ss,ints seen] (.tup [likX st mv sh seen,I (mayE st mv sh seen)]):=by
 have hf:=forward_w h h1 hk hsl hs
 by_cases hE:mayE st mv sh seen=0
 ·have e:likX st mv sh seen=fr (hm st mv sh seen).lik:=by unfold likX;rw [if_pos hE]
  have e2:fwR st mv sh seen=aR (hm st mv sh seen) (fun a b=>a+b) seen.length:=by unfold fwR;rw [if_pos hE]
  rw [hE,e2] at hf
  rw [e,hE]
  have ok:=mayE_ok h hE
  have ht8:=ok.t8
  have hn4:=ok.n4
  by_cases hT:seen.length=0
  ·have el:(hm st mv sh seen).lik=((1:Int):Rat):=by unfold HM.lik;rw [if_pos (show (hm st mv sh seen).T=0 from hT)];rfl
   rw [el]
   refine good_of Tryz.func6 rfl (by kernel_rfl) fun X hO hrd=>?_;rw [Tryz.ntmps6,Tryz.results6];simp only [ast0,List.map_cons,List.map_nil,List.length_cons,List.length_nil,Nat.reduceAdd,Nat.reduceSub,List.replicate_succ,List.replicate_zero,List.cons_append,List.nil_append]
   (repeat (with_reducible first|refine W_seq fun K hK=>?_|refine J_region ?_ |(refine Kont.go (by assumption) ?_)|(simp (config:={ maxSteps:=3000000 }) (disch:=omega) only [go_sem,↓reduceIte,Nat.reduceAdd])))
   refine call_f hf rfl ?_
   (repeat (first|(with_reducible first|refine W_seq fun K hK=>?_|refine J_block ?_|refine J_ret ?_|refine J_region ?_ |refine J_c ?_|refine Jc_true ?_|refine Jc_false ?_|(refine Kont.go (by assumption) ?_)|(simp (config:={ maxSteps:=3000000 }) (disch:=omega) only [go_sem,↓reduceIte,Nat.reduceAdd,List.length_map,aR_len,hT]))|refine call_f (of_good (by omega) (by omega)) rfl ?_))
   exact ⟨_,rfl,FrzL.fs [_,_]⟩
  ·obtain ⟨T,hT'⟩:∃T,seen.length=T+1:=⟨seen.length-1,by omega⟩
   have el:(hm st mv sh seen).lik=sumR (aRow (hm st mv sh seen) (fun a b=>a+b) T):=by
    unfold HM.lik
    rw [if_neg (show ¬(hm st mv sh seen).T=0 from hT),aRow_sum]
    show sumF (HM.fw _ (seen.length-1)) _=_
    rw [hT'];rfl
   rw [el]
   have n1:((T+1:Nat):Int)-1=(T:Int):=by omega
   have hg:=aR_get (h:=hm st mv sh seen) (op:=fun a b=>a+b) (x:=T+1) (i:=T) (by omega)
   have sa:=szH_le (k:=k) (t:=T) hk (by omega)
   have hrow:Row (szH k T) (aRow (hm st mv sh seen) (fun a b=>a+b) T):=fun q hq=>by
    obtain ⟨i,hi,rfl⟩:=List.mem_map.1 hq
    exact ok.fA h1 join_add (by omega) (List.mem_range.1 hi)
   have hs1:1≤szH k T:=by cases T<;>simp only [szH]<;>omega
   have hll:(aRow (hm st mv sh seen) (fun a b=>a+b) T).length=st.length:=aRow_len
   have hbig:=Nat.mul_le_mul (show st.length≤4 by omega) (show szH k T+1≤400000001 by omega)
   have hsum:=sum_w2 (Frs.c hrow) hs1 (by omega) (by omega) (by rw [hll];omega)
   rw [hT'] at hf
   refine good_of Tryz.func6 rfl (by kernel_rfl) fun X hO hrd=>?_;rw [Tryz.ntmps6,Tryz.results6];simp only [ast0,List.map_cons,List.map_nil,List.length_cons,List.length_nil,Nat.reduceAdd,Nat.reduceSub,List.replicate_succ,List.replicate_zero,List.cons_append,List.nil_append]
   (repeat (with_reducible first|refine W_seq fun K hK=>?_|refine J_region ?_ |(refine Kont.go (by assumption) ?_)|(simp (config:={ maxSteps:=3000000 }) (disch:=omega) only [go_sem,↓reduceIte,Nat.reduceAdd])))
   refine call_f hf rfl ?_
   (repeat (with_reducible first|refine W_seq fun K hK=>?_|refine J_block ?_|refine J_skip ?_|refine J_region ?_ |refine J_c ?_|refine Jc_false ?_|(refine Kont.go (by assumption) ?_)|(simp (config:={ maxSteps:=3000000 }) (disch:=omega) only [go_sem,Nat.reduceEqDiff,↓reduceIte,List.length_map,aR_len,n1,hg])))
   refine call_f hsum rfl ?_
   (repeat (with_reducible first|refine J_ret ?_|(refine Kont.go (by assumption) ?_)|(simp (config:={ maxSteps:=3000000 }) (disch:=omega) only [go_sem,↓reduceIte,Nat.reduceAdd])))
   exact ⟨_,rfl,FrzL.fs [_,_]⟩
 ·have e:likX st mv sh seen=frN:=by unfold likX;rw [if_neg hE]
  rw [e]
  refine good_of Tryz.func6 rfl (by kernel_rfl) fun X hO hrd=>?_;rw [Tryz.ntmps6,Tryz.results6];simp only [ast0,List.map_cons,List.map_nil,List.length_cons,List.length_nil,Nat.reduceAdd,Nat.reduceSub,List.replicate_succ,List.replicate_zero,List.cons_append,List.nil_append]
  (repeat (with_reducible first|refine W_seq fun K hK=>?_|refine J_region ?_ |(refine Kont.go (by assumption) ?_)|(simp (config:={ maxSteps:=3000000 }) (disch:=omega) only [go_sem,↓reduceIte,Nat.reduceAdd])))
  refine call_f hf rfl ?_
  (repeat (with_reducible first|refine W_seq fun K hK=>?_|refine J_block ?_|refine J_ret ?_|refine J_region ?_ |refine J_c ?_|refine Jc_true ?_|(refine Kont.go (by assumption) ?_)|(simp (config:={ maxSteps:=3000000 }) (disch:=omega) only [go_sem,↓reduceIte,Nat.reduceAdd,hE])))
  exact ⟨_,rfl,FrzL.fs [_,_]⟩
end
end Go.Proofs.YtfjgijkhmhhkdaaGreatDoor
set_option linter.unusedVariables false
set_option linter.unusedSimpArgs false
namespace Go.Proofs.YtfjgijkhmhhkdaaGreatDoor
open Go Go.RowKit
section
variable {k : Nat} {fs ms ss : List FV} {st : List Rat} {mv sh : List (List Rat)} {seen : List Int} {w : List Nat}
set_option maxRecDepth 100000 in
theorem rwayF_w (h:HOk k fs ms ss st mv sh seen) (h1:1≤k) (hk:k≤1000) (hsl:seen.length≤140737488355328) {t:Nat} (ht:t≤seen.length) (hw:w∈wyL st.length t) :
  Good Tryz.prog 33 [hidV fs ms ss,wF t w,ints seen] (fr ((hm st mv sh seen).wl w)):=by
 have hwl:=wyL_len hw
 by_cases t0:t=0
 ·have ew:wF t w=nilV:=by unfold wF;rw [if_pos t0]
  have e0:w=[]:=List.length_eq_zero_iff.1 (by omega)
  subst e0
  have el:fr ((hm st mv sh seen).wl [])=fr ((1:Int):Rat):=rfl
  rw [ew,el]
  refine good_of Tryz.func33 rfl (by kernel_rfl) fun X hO hrd=>?_;rw [Tryz.ntmps33,Tryz.results33];simp only [ast0,List.map_cons,List.map_nil,List.length_cons,List.length_nil,Nat.reduceAdd,Nat.reduceSub,List.replicate_succ,List.replicate_zero,List.cons_append,List.nil_append]
  (repeat (first|(with_reducible first|refine W_seq fun K hK=>?_|refine J_block ?_|refine J_region ?_ |(refine Kont.go (by assumption) ?_)|(simp (config:={ maxSteps:=3000000 }) (disch:=omega) only [go_sem,↓reduceIte,Nat.reduceAdd]))|refine call_f (rof_frac (by omega) (by omega)) rfl ?_))
  refine W_loop [8,9,11,12,13,14,15,16,17,18,19,20,21,22,23,24,25,26,27,28,29,30,31,32,33,34,35,36,37,38,39,40,41,42,43,44,45,46,47,48,49,50,51,52,53,54,55,56,57,58,59,60] (fun x:Nat=>[(8,.f (I x))]) (fun x:Nat=>[some ⟨25,3,[.f (hidV fs ms ss)]⟩,oF frN,oF (fr ((1:Int):Rat))]) (fun x:Nat=>x≤0) (fun x:Nat=>0-x) (0) (Nat.zero_le _) (by refine weak_of ?_ ?_<;>simp (disch:=omega) only [go_sem,Nat.reduceAdd]<;>first|rfl|exact ⟨rfl,rfl⟩|exact Or.inl rfl|exact ⟨Or.inl rfl,Or.inl rfl⟩|trivial|assumption|omega|(symm;assumption)|((repeat' apply And.intro)<;>first|rfl|omega|trivial|exact .inl rfl|exact .inr ⟨rfl,rfl⟩|exact .inr rfl|(right;symm;assumption)|(symm;assumption)|assumption)) ?_
  rintro t ht
  simp only [go_sem]
  have hx0:t=0:=by omega
  subst hx0
  (repeat (with_reducible first|refine W_seq fun K hK=>?_|refine J_exit ?_|refine J_ret ?_|refine J_region ?_ |refine J_c ?_|refine Jc_false ?_|exact Frz.f _|(refine Kont.go (by assumption) ?_)|(simp (config:={ maxSteps:=3000000 }) (disch:=omega) only [go_sem,↓reduceIte,Nat.reduceAdd])))
 ·have ew:wF t w=.fz 1 (Ns w):=by unfold wF;rw [if_neg t0]
  rw [ew]
  exact rwayOf_w h h1 hk hsl hwl.2 (by omega)
theorem wF_cells {t:Nat} {w:List Nat}:(wF t w).cells=[wF t w]:=by unfold wF;split<;>rfl
def wsF (h:HM) (t x:Nat):Rat:=sumF (fun i=>h.wl ((wyL h.n t).getD i [])) x
theorem wsF_all {h:HM} {t:Nat}:wsF h t (wyL h.n t).length=lsm h.wl (wyL h.n t):=(lsm_F (d:=[])).symm
theorem wl_fz (h:HOk k fs ms ss st mv sh seen) (h1:1≤k) {t:Nat} (ht:t≤seen.length) (hw:w∈wyL st.length t):Fz ((hm st mv sh seen).wl w) (8+t*(k+k)):=by
 have hwl:=wyL_len hw
 have:=wv_fz h h1 (p:=fun j=>w.getD j 0) (fun j=>by
  have:=h.n1
  by_cases hj:j<w.length
  ·show w.getD j 0<_;rw [lget_lt w 0 hj];exact hwl.2 _ (List.getElem_mem _)
  ·show w.getD j 0<_;rw [List.getD_eq_getElem?_getD,List.getElem?_eq_none (by omega)];show 0<_;omega) w.length (by omega)
 rw [hwl.1] at this
 show Fz ((hm st mv sh seen).wv (fun j=>w.getD j 0) w.length) _
 rw [hwl.1]
 exact this
set_option maxRecDepth 100000 in
theorem rlikely_w (h:HidF k fs ms ss st mv sh) (h1:1≤k) (hk:k≤1000) (hsl:seen.length≤140737488355328) (hs:∀x∈seen,-9223372036854775808≤x∧x≤9223372036854775807) :
  Good Tryz.prog 7 [hidV fs ms ss,ints seen] (.tup [likX st mv sh seen,I (mayE st mv sh seen)]):=by
 have hm1:=rseen_w h h1 (by omega) seen hsl hs
 by_cases hE:mayE st mv sh seen=0
 ·have e:likX st mv sh seen=fr (hm st mv sh seen).lik:=by unfold likX;rw [if_pos hE]
  have ok:=mayE_ok h hE
  have ht8:=ok.t8
  have hn4:=ok.n4
  obtain ⟨M,hM⟩:∃M,M=hm st mv sh seen:=⟨_,rfl⟩
  have eMn:M.n=st.length:=by rw [hM];rfl
  have elik:M.lik=wsF M seen.length (wyL st.length seen.length).length:=by
   rw [←eMn,wsF_all,←wy_lik,hM];rfl
  obtain ⟨W,hW⟩:∃W,W=(wyL st.length seen.length).length:=⟨_,rfl⟩
  have hwl:=wyL_le (n:=st.length) (t:=seen.length) hn4 ht8
  have hwyl:(wyF st.length seen.length).length=W:=by unfold wyF;rw [List.length_map,hW]
  rw [←hW] at hwl elik
  rw [e,hE,←hM,elik]
  have hway:=fun {w:List Nat} (hw:w∈wyL st.length seen.length)=>rwayF_w ok h1 hk hsl (Nat.le_refl _) hw
  have hwz:=fun {w:List Nat} (hw:w∈wyL st.length seen.length)=>wl_fz ok h1 (Nat.le_refl _) hw
  rw [←hM] at hway hwz
  have hmu:=Nat.mul_le_mul (show seen.length≤8 by omega) (show k+k≤2000 by omega)
  obtain ⟨b,hb⟩:∃b,b=8+seen.length*(k+k):=⟨_,rfl⟩
  rw [←hb] at hwz
  have hsz:∀x,x≤W→Fz (wsF M seen.length x) (8+x*(b+1)):=fun x hx=>sumF_fz fun q hq=>hwz (by
   rw [eMn,lget_lt _ [] (by omega)];exact List.getElem_mem _)
  have hrw:=rways_w hn4 ht8
  have hfl:fs.length=st.length:=h.ist.len
  have h00:fr ((0:Int):Rat)=fr (wsF M seen.length 0):=rfl
  refine good_of Tryz.func7 rfl (by kernel_rfl) fun X hO hrd=>?_;rw [Tryz.ntmps7,Tryz.results7];simp only [ast0,List.map_cons,List.map_nil,List.length_cons,List.length_nil,Nat.reduceAdd,Nat.reduceSub,List.replicate_succ,List.replicate_zero,List.cons_append,List.nil_append]
  (repeat (with_reducible first|refine W_seq fun K hK=>?_|refine J_region ?_ |(refine Kont.go (by assumption) ?_)|(simp (config:={ maxSteps:=3000000 }) (disch:=omega) only [go_sem,↓reduceIte,Nat.reduceAdd])))
  refine call_f hm1 rfl ?_
  (repeat (first|(with_reducible first|refine W_seq fun K hK=>?_|refine J_skip ?_|refine J_region ?_ |refine J_c ?_|refine Jc_false ?_|(refine Kont.go (by assumption) ?_)|(simp (config:={ maxSteps:=3000000 }) (disch:=omega) only [go_sem,↓reduceIte,Nat.reduceAdd,hE,List.length_map,hfl]))|refine call_f (rof_frac (by omega) (by omega)) rfl ?_))
  refine call_f hrw rfl ?_
  (repeat (with_reducible first|refine W_seq fun K hK=>?_|refine J_block ?_|refine J_region ?_ |(refine Kont.go (by assumption) ?_)|(simp (config:={ maxSteps:=3000000 }) (disch:=omega) only [go_sem,h00])))
  refine W_loop [9,10,25,26,27,28,29,30,31,32,33,34,35,36,37,38,39,40] (fun x:Nat=>[(9,.f (I x))]) (fun x:Nat=>[some ⟨25,3,[.f (hidV fs ms ss)]⟩,oF frN,oF (fr (wsF M seen.length x))]) (fun x:Nat=>x≤W) (fun x:Nat=>W-x) (0) (Nat.zero_le _) (by refine weak_of ?_ ?_<;>simp (disch:=omega) only [go_sem,Nat.reduceAdd]<;>first|rfl|exact ⟨rfl,rfl⟩|exact Or.inl rfl|exact ⟨Or.inl rfl,Or.inl rfl⟩|trivial|assumption|omega|(symm;assumption)|((repeat' apply And.intro)<;>first|rfl|omega|trivial|exact .inl rfl|exact .inr ⟨rfl,rfl⟩|exact .inr rfl|(right;symm;assumption)|(symm;assumption)|assumption)) ?_
  rintro i hi
  simp only [go_sem]
  (repeat (with_reducible first|refine W_seq fun K hK=>?_|refine J_region ?_ |refine J_c ?_|(refine Kont.go (by assumption) ?_)|(simp (config:={ maxSteps:=3000000 }) (disch:=omega) only [go_sem,hwyl])))
  refine Jc_if (fun hil=>?_) (fun hil=>?_)<;>try simp only [decide_eq_true_eq,decide_eq_false_iff_not] at hil
  ·have hmem:(wyL st.length seen.length).getD i []∈wyL st.length seen.length:=by rw [lget_lt _ [] (by omega)];exact List.getElem_mem _
   have gw:(wyF st.length seen.length)[i]?=some (wF seen.length ((wyL st.length seen.length).getD i [])):=by unfold wyF;rw [map_get (wF seen.length) (wyL st.length seen.length) (by omega),lget_lt (wyL st.length seen.length) [] (by omega)]
   have hcall:=hway hmem
   have c1:=IsFr.c (hsz i (by omega))
   have c2:=IsFr.c (hwz hmem)
   have hmx:=Nat.mul_le_mul (show i≤65536 by omega) (show b+1≤16009 by omega)
   have en:fr (wsF M seen.length i+M.wl ((wyL st.length seen.length).getD i []))=fr (wsF M seen.length (i+1)):=by rw [←eMn];rfl
   (repeat (with_reducible first|refine W_seq fun K hK=>?_|refine J_block ?_|refine J_skip ?_|refine J_drawn mixed (by kernel_rfl) ?_|(refine Kont.go (by assumption) ?_)|(simp (config:={ maxSteps:=3000000 }) (disch:=omega) only [go_sem,↓reduceIte,Nat.reduceAdd,gw,wF_cells,true_and,and_self])))
   refine callQ_f hcall rfl ?_
   (repeat (first|(with_reducible first|refine J_region ?_ |(refine Kont.go (by assumption) ?_)|(simp (config:={ maxSteps:=3000000 }) (disch:=omega) only [go_sem,↓reduceIte,Nat.reduceAdd,true_and,and_self]))|refine call_f (radd_w (by assumption) (by assumption) (by omega) (by omega)) rfl ?_))
   rw [en]
   refine ⟨i+1,by omega,by omega,weak_of ?_ ?_⟩<;>(try simp (disch:=omega) only [go_sem,Nat.reduceAdd])<;>(try first|done|omega|rfl|exact ⟨rfl,rfl⟩|trivial)
  ·have he:i=W:=by omega
   subst he
   (repeat (with_reducible first|refine W_seq fun K hK=>?_|refine J_exit ?_|refine J_ret ?_|refine J_region ?_ |(refine Kont.go (by assumption) ?_)|(simp (config:={ maxSteps:=3000000 }) (disch:=omega) only [go_sem,↓reduceIte,Nat.reduceAdd])))
   exact ⟨_,rfl,FrzL.fs [_,_]⟩
 ·have e:likX st mv sh seen=frN:=by unfold likX;rw [if_neg hE]
  rw [e]
  refine good_of Tryz.func7 rfl (by kernel_rfl) fun X hO hrd=>?_;rw [Tryz.ntmps7,Tryz.results7];simp only [ast0,List.map_cons,List.map_nil,List.length_cons,List.length_nil,Nat.reduceAdd,Nat.reduceSub,List.replicate_succ,List.replicate_zero,List.cons_append,List.nil_append]
  (repeat (with_reducible first|refine W_seq fun K hK=>?_|refine J_region ?_ |(refine Kont.go (by assumption) ?_)|(simp (config:={ maxSteps:=3000000 }) (disch:=omega) only [go_sem,↓reduceIte,Nat.reduceAdd])))
  refine call_f hm1 rfl ?_
  (repeat (with_reducible first|refine W_seq fun K hK=>?_|refine J_ret ?_|refine J_region ?_ |refine J_c ?_|refine Jc_true ?_|(refine Kont.go (by assumption) ?_)|(simp (config:={ maxSteps:=3000000 }) (disch:=omega) only [go_sem,↓reduceIte,Nat.reduceAdd,hE])))
  exact ⟨_,rfl,FrzL.fs [_,_]⟩
end
end Go.Proofs.YtfjgijkhmhhkdaaGreatDoor
