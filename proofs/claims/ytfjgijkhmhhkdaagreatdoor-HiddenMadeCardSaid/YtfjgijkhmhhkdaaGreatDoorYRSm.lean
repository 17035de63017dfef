/- The document's hidden chains: smooth: walked. Conditions: numbers of 1000 bytes each. -/
import Derived.Test.YtfjgijkhmhhkdaaGreatDoorYB20
set_option linter.unusedVariables false
set_option linter.unusedSimpArgs false
namespace Go.Proofs.YtfjgijkhmhhkdaaGreatDoor
open Go Go.RowKit
def shQ (l:List Rat) (s:Rat) (x:Nat):List FV:=(List.range x).map fun i=>fr (l.getD i 0/s)
section
variable {l : List Rat} {s : Rat} {x : Nat}
theorem shQ_zero:shQ l s 0=[]:=rfl
theorem shQ_len:(shQ l s x).length=x:=by simp [shQ]
theorem shQ_next:shQ l s x++[fr (l.getD x 0/s)]=shQ l s (x+1):=by simp [shQ,List.range_succ]
attribute [go_sem] shQ_zero
end
set_option maxRecDepth 100000 in
theorem rsum_w2 {xs:List FV} {l:List Rat} {k:Nat} (hl:Frs k xs l) (h1:1≤k) (hn:l.length≤1000) (hk:k≤34359738368) (hb:8+l.length*(k+1)≤34359738368):Good Tryz.prog 71 [.fz 3 xs] (fr (sumR l)):=by
 have hr:=hl.row h1
 refine good_of Tryz.func71 rfl (by kernel_rfl) fun X hO hrd=>?_;rw [Tryz.ntmps71,Tryz.results71];simp only [ast0,List.map_cons,List.map_nil,List.length_cons,List.length_nil,Nat.reduceAdd,Nat.reduceSub,List.replicate_succ,List.replicate_zero,List.cons_append,List.nil_append]
 (repeat (first|(with_reducible first|refine W_seq fun K hK=>?_|refine J_block ?_|refine J_region ?_ |(refine Kont.go (by assumption) ?_)|(simp (config:={ maxSteps:=3000000 }) (disch:=omega) only [go_sem,↓reduceIte,Nat.reduceAdd]))|refine call_f (rof_frac (by omega) (by omega)) rfl ?_))
 refine W_loop [4,6,7,8,9,10,11,12,13,14,15,16,17] (fun x:Nat=>[(4,.f (I x))]) (fun x:Nat=>[oF frN,oF (fr (sumTo l x))]) (fun x:Nat=>x≤l.length) (fun x:Nat=>l.length-x) (0) (Nat.zero_le _) (by refine weak_of ?_ ?_<;>simp (disch:=omega) only [go_sem,Nat.reduceAdd]<;>first|rfl|exact ⟨rfl,rfl⟩|exact Or.inl rfl|exact ⟨Or.inl rfl,Or.inl rfl⟩|trivial|assumption|omega|(symm;assumption)|((repeat' apply And.intro)<;>first|rfl|omega|trivial|exact .inl rfl|exact .inr ⟨rfl,rfl⟩|exact .inr rfl|(right;symm;assumption)|(symm;assumption)|assumption)) ?_
 rintro i hi
 simp only [go_sem]
 (repeat (with_reducible first|refine W_seq fun K hK=>?_|refine J_region ?_ |refine J_c ?_|(refine Kont.go (by assumption) ?_)|(simp (config:={ maxSteps:=3000000 }) (disch:=omega) only [go_sem,hl.len])))
 refine Jc_if (fun hlt=>?_) (fun hlt=>?_)<;>try simp only [decide_eq_true_eq,decide_eq_false_iff_not] at hlt
 ·have hsz:=Nat.mul_le_mul_right (k+1) hi
  have hd:=IsFr.c (sumTo_fz hr i hi)
  obtain ⟨g,n,d,hx,his⟩:=hl.at3 hlt
  (repeat (first|(with_reducible first|refine W_seq fun K hK=>?_|refine J_block ?_|refine J_skip ?_|refine J_region ?_ |refine J_drawn mixed (by kernel_rfl) ?_|(refine Kont.go (by assumption) ?_)|(simp (config:={ maxSteps:=3000000 }) (disch:=omega) only [go_sem,↓reduceIte,Nat.reduceAdd,hx,hlt,sumTo_next hlt]))|refine callQ_f (radd_w (by assumption) (by assumption) (by omega) (by omega)) rfl ?_))
  refine ⟨i+1,by omega,by omega,weak_of ?_ ?_⟩<;>(try simp (disch:=omega) only [go_sem,Nat.reduceAdd])<;>(try first|done|omega|rfl|exact ⟨rfl,rfl⟩|trivial)
 ·have he:i=l.length:=by omega
  subst he
  (repeat (with_reducible first|refine W_seq fun K hK=>?_|refine J_exit ?_|refine J_ret ?_|refine J_region ?_ |(refine Kont.go (by assumption) ?_)|(simp (config:={ maxSteps:=3000000 }) (disch:=omega) only [go_sem,↓reduceIte,Nat.reduceAdd])))
  exact Frz.f _
set_option maxRecDepth 100000 in
set_option maxHeartbeats 4000000 in
theorem share_w2 {k:Nat} {xs:List FV} {l:List Rat} (hl:Frs k xs l) (h1:1≤k) (hn:l.length≤1000) (hk:k≤34359738368) (hb:8+l.length*(k+1)≤34359738368) (h0:sumR l≠0):Good Tryz.prog 47 [.fz 3 xs] (.tup [.fz 3 (shQ l (sumR l) l.length),I 0]):=by
 have hs:=rsum_w2 hl h1 hn hk hb
 have hsz:=sumTo_fz (hl.row h1) l.length (Nat.le_refl _)
 have fs:IsFr (fr (sumR l)) (sumR l) (8+l.length*(k+1)):=IsFr.c hsz
 obtain ⟨S,hS⟩:∃S,S=sumR l:=⟨_,rfl⟩
 rw [←hS] at hs fs h0 ⊢
 have hxl:=hl.len
 refine good_of Tryz.func47 rfl (by kernel_rfl) fun X hO hrd=>?_;rw [Tryz.ntmps47,Tryz.results47];simp only [ast0,List.map_cons,List.map_nil,List.length_cons,List.length_nil,Nat.reduceAdd,Nat.reduceSub,List.replicate_succ,List.replicate_zero,List.cons_append,List.nil_append]
 (repeat (with_reducible first|refine W_seq fun K hK=>?_|refine J_region ?_ |(refine Kont.go (by assumption) ?_)|(simp (config:={ maxSteps:=3000000 }) (disch:=omega) only [go_sem])))
 refine call_f hs rfl ?_
 (repeat (with_reducible first|refine W_seq fun K hK=>?_|refine J_block ?_|refine J_region ?_ |(refine Kont.go (by assumption) ?_)|(simp (config:={ maxSteps:=3000000 }) (disch:=omega) only [go_sem,↓reduceIte,Nat.reduceAdd])))
 refine J_reserve ?_
 refine W_loop [2,3,5,6,7,8,11,12,13,14,15,16,17,18,19,20,21,22,23,24,25,26,27,28,29,30,31,32] (fun x:Nat=>[(5,sl 1 3 (shQ l S x)),(6,.f (I x))]) (fun x:Nat=>[oF (fr S),ob 30 3 (shQ l S x)]) (fun x:Nat=>x≤l.length) (fun x:Nat=>l.length-x) (0) (Nat.zero_le _) (by refine weak_of ?_ ?_<;>simp (disch:=omega) only [go_sem,Nat.reduceAdd]<;>first|rfl|exact ⟨rfl,rfl⟩|exact Or.inl rfl|exact ⟨Or.inl rfl,Or.inl rfl⟩|trivial|assumption|omega|(symm;assumption)|((repeat' apply And.intro)<;>first|rfl|omega|trivial|exact .inl rfl|exact .inr ⟨rfl,rfl⟩|exact .inr rfl|(right;symm;assumption)|(symm;assumption)|assumption)) ?_
 rintro i hi
 simp only [go_sem]
 (repeat (with_reducible first|refine W_seq fun K hK=>?_|refine J_region ?_ |refine J_c ?_|(refine Kont.go (by assumption) ?_)|(simp (config:={ maxSteps:=3000000 }) (disch:=omega) only [go_sem,hxl])))
 refine Jc_if (fun hil=>?_) (fun hil=>?_)<;>try simp only [decide_eq_true_eq,decide_eq_false_iff_not] at hil
 ·have hnx:=shQ_next (l:=l) (s:=S) (x:=i)
  have hlt:=shQ_len (l:=l) (s:=S) (x:=i)
  obtain ⟨g1,n1,d1,x1,f1⟩:=hl.at3 (i:=i) hil
  rw [←lget_lt l 0 hil] at f1
  (repeat (first|(with_reducible first|refine W_seq fun K hK=>?_|refine J_block ?_|refine J_skip ?_|refine J_region ?_ |refine J_drawn mixed (by kernel_rfl) ?_|refine aApp_sl ?_|refine J_c ?_|refine Jc_false ?_|(refine Kont.go (by assumption) ?_)|(simp (config:={ maxSteps:=3000000 }) (disch:=omega) only [go_sem,Nat.reduceEqDiff,↓reduceIte,Nat.reduceAdd,Nat.reduceLeDiff,x1,hnx,hlt,Nat.reduceMul,Nat.le_refl,true_and,and_self]))|refine callQ_f (rdiv_w (by assumption) (by assumption) (by omega) (by omega) (by assumption)) rfl ?_|refine And.intro (by omega) ?_))
  refine ⟨i+1,by omega,by omega,weak_of ?_ ?_⟩<;>(try simp (disch:=omega) only [go_sem,Nat.reduceAdd])<;>(try first|done|omega|rfl|exact ⟨rfl,rfl⟩|trivial)
 ·have he:i=l.length:=by omega
  subst he
  (repeat (with_reducible first|refine W_seq fun K hK=>?_|refine J_exit ?_|refine J_ret ?_|refine J_region ?_ |(refine Kont.go (by assumption) ?_)|(simp (config:={ maxSteps:=3000000 }) (disch:=omega) only [go_sem,↓reduceIte])))
  exact ⟨_,rfl,FrzL.cons (Frz.sl rfl) (FrzL.cons (.f _) (FrzL.nil _))⟩
def smRow (h:HM) (t:Nat):List Rat:=(List.range h.n).map fun i=>h.fw t i*h.bw t i/h.lik
def smTo (h:HM) (x:Nat):List (List Rat):=(List.range x).map (smRow h)
section
variable {h : HM} {t x : Nat}
theorem smTo_len:(smTo h x).length=x:=by simp [smTo]
theorem smRow_len:(smRow h t).length=h.n:=by simp [smRow]
theorem smTo_next:(smTo h x).map frs++[frs (smRow h x)]=(smTo h (x+1)).map frs:=by simp [smTo,List.range_succ]
theorem qRow_sm (ht:t<h.T):qRow h h.n (wyL h.n h.T) t (wyL h.n h.T).length=(List.range h.n).map fun i=>h.fw t i*h.bw t i:=by
 unfold qRow
 refine List.map_congr_left fun i hi=>?_
 rw [←wy_smooth ht i (List.mem_range.1 hi),lsm_F (d:=[])]
 rfl
theorem sum_sm (ht:t<h.T):sumR ((List.range h.n).map fun i=>h.fw t i*h.bw t i)=h.lik:=by
 rw [sumR_map,HM.meets ht]
theorem shQ_sm:shQ ((List.range h.n).map fun i=>h.fw t i*h.bw t i) h.lik h.n=(smRow h t).map fr:=by
 unfold shQ smRow
 rw [List.map_map]
 refine List.map_congr_left fun i hi=>?_
 have:=List.mem_range.1 hi
 show fr (((List.range h.n).map fun i=>h.fw t i*h.bw t i).getD i 0/h.lik)=fr (h.fw t i*h.bw t i/h.lik)
 congr 2
 simp [List.getD,this]
end
def smE (st:List Rat) (mv sh:List (List Rat)) (seen:List Int):Int:=if mayE st mv sh seen=0 then (if (hm st mv sh seen).lik=0 then 3 else 0) else mayE st mv sh seen
def smX (st:List Rat) (mv sh:List (List Rat)) (seen:List Int):List (List Rat):=if smE st mv sh seen=0 then smTo (hm st mv sh seen) seen.length else []
section
variable {k : Nat} {fs ms ss : List FV} {st : List Rat} {mv sh : List (List Rat)} {seen : List Int} {w : List Nat}
set_option maxRecDepth 100000 in
set_option maxHeartbeats 4000000 in
theorem rsmooth_w (h:HidF k fs ms ss st mv sh) (h1:1≤k) (hk:k≤1000) (hsl:seen.length≤140737488355328) (hs:∀x∈seen,-9223372036854775808≤x∧x≤9223372036854775807) :
  Good Tryz.prog 17 [hidV fs ms ss,ints seen] (.tup [rowsF (smX st mv sh seen),I (smE st mv sh seen)]):=by
 have hlk:=rlikely_w h h1 hk hsl hs
 by_cases hE:mayE st mv sh seen=0
 ·have ok:=mayE_ok h hE
  have ht8:=ok.t8
  have hn4:=ok.n4
  have hn1:=ok.n1
  obtain ⟨M,hM⟩:∃M,M=hm st mv sh seen:=⟨_,rfl⟩
  have eMn:M.n=st.length:=by rw [hM];rfl
  have eMT:M.T=seen.length:=by rw [hM];rfl
  have eL:likX st mv sh seen=fr M.lik:=by unfold likX;rw [if_pos hE,hM]
  rw [eL,hE] at hlk
  have hfl:fs.length=st.length:=h.ist.len
  obtain ⟨T,hT⟩:∃T,T=seen.length:=⟨_,rfl⟩
  obtain ⟨l,hl⟩:∃l,l=wyL st.length T:=⟨_,rfl⟩
  obtain ⟨W,hW⟩:∃W,W=l.length:=⟨_,rfl⟩
  have hwl:=wyL_le (n:=st.length) (t:=T) hn4 (by omega)
  rw [←hl,←hW] at hwl
  have hwyl:(wyF st.length T).length=W:=by unfold wyF;rw [List.length_map,hW,hl]
  have hrw:=rways_w (n:=st.length) (T:=T) hn4 (by omega)
  have hway:=fun {w:List Nat} (hw:w∈wyL st.length T)=>rwayF_w ok h1 hk hsl (by omega) hw
  have hwz:=fun {w:List Nat} (hw:w∈wyL st.length T)=>wl_fz ok h1 (by omega) hw
  have hmu:=Nat.mul_le_mul (show T≤8 by omega) (show k+k≤2000 by omega)
  obtain ⟨b,hb⟩:∃b,b=8+T*(k+k):=⟨_,rfl⟩
  rw [←hM,←hl] at hway hwz
  rw [←hb] at hwz
  have hmem:∀i,i<W→l.getD i []∈l:=fun i hi=>by rw [lget_lt l [] (by omega)];exact List.getElem_mem _
  have elik:wsF M T W=M.lik:=by
   have:=wsF_all (h:=M) (t:=T)
   rw [eMn,←hl,←hW] at this
   rw [this,hl,←eMn,hT,←eMT,wy_lik]
  have hmx:=Nat.mul_le_mul hwl (show b+1≤16009 by omega)
  have hlz:Fz M.lik (8+W*(b+1)):=elik▸sumF_fz fun q hq=>hwz (by rw [eMn,←hl];exact hmem q hq)
  have c0:=IsFr.c hlz
  by_cases hz:M.lik=0
  ·have e1:smE st mv sh seen=3:=by unfold smE;rw [if_pos hE,←hM,if_pos hz]
   have e2:smX st mv sh seen=[]:=by unfold smX;rw [e1];rfl
   rw [e1,e2]
   rw [hz] at hlk c0
   refine good_of Tryz.func17 rfl (by kernel_rfl) fun X hO hrd=>?_;rw [Tryz.ntmps17,Tryz.results17];simp only [ast0,List.map_cons,List.map_nil,List.length_cons,List.length_nil,Nat.reduceAdd,Nat.reduceSub,List.replicate_succ,List.replicate_zero,List.cons_append,List.nil_append]
   (repeat (with_reducible first|refine W_seq fun K hK=>?_|refine J_region ?_ |(refine Kont.go (by assumption) ?_)|(simp (config:={ maxSteps:=3000000 }) (disch:=omega) only [go_sem,↓reduceIte,Nat.reduceAdd])))
   refine call_f hlk rfl ?_
   (repeat (first|(with_reducible first|refine W_seq fun K hK=>?_|refine J_skip ?_|refine J_ret ?_|refine J_region ?_ |refine J_c ?_|refine Jc_true ?_|refine Jc_false ?_|(refine Kont.go (by assumption) ?_)|(simp (config:={ maxSteps:=3000000 }) (disch:=omega) only [go_sem,↓reduceIte,Nat.reduceAdd]))|refine call_f (rzero_w (by assumption) (by omega)) rfl ?_))
   exact ⟨_,rfl,FrzL.cons (.nil _) (FrzL.cons (.f _) (FrzL.nil _))⟩
  have e1:smE st mv sh seen=0:=by unfold smE;rw [if_pos hE,←hM,if_neg hz]
  have e2:smX st mv sh seen=smTo M T:=by unfold smX;rw [if_pos e1,hM,hT]
  rw [e1,e2]
  refine good_of Tryz.func17 rfl (by kernel_rfl) fun X hO hrd=>?_;rw [Tryz.ntmps17,Tryz.results17];simp only [ast0,List.map_cons,List.map_nil,List.length_cons,List.length_nil,Nat.reduceAdd,Nat.reduceSub,List.replicate_succ,List.replicate_zero,List.cons_append,List.nil_append]
  (repeat (with_reducible first|refine W_seq fun K hK=>?_|refine J_region ?_ |(refine Kont.go (by assumption) ?_)|(simp (config:={ maxSteps:=3000000 }) (disch:=omega) only [go_sem,↓reduceIte,Nat.reduceAdd])))
  refine call_f hlk rfl ?_
  (repeat (first|(with_reducible first|refine W_seq fun K hK=>?_|refine J_skip ?_|refine J_region ?_ |refine J_c ?_|refine Jc_false ?_|(refine Kont.go (by assumption) ?_)|(simp (config:={ maxSteps:=3000000 }) (disch:=omega) only [go_sem,↓reduceIte,Nat.reduceAdd,hz,hfl,List.length_map,←hT]))|refine call_f (rzero_w (by assumption) (by omega)) rfl ?_))
  refine call_f hrw rfl ?_
  (repeat (with_reducible first|refine W_seq fun K hK=>?_|refine J_block ?_|refine J_region ?_ |(refine Kont.go (by assumption) ?_)|(simp (config:={ maxSteps:=3000000 }) (disch:=omega) only [go_sem])))
  refine J_reserve ?_
  refine W_loop [9,11,12,13,14,33,34,35,36,37,38,39,40,41,42,43,44,45,46,47,48,49,50,51,52,53,54,55,56,57,58,59,60,61,62,63,64,65,66,67,68,69,70,71,72,73,74,75,76,77,78,79,80,81,82,83,84,85] (fun x:Nat=>[(11,.f (I (x:Nat))),(9,sl 2 1 ((smTo M x).map frs))]) (fun x:Nat=>[some ⟨25,3,[.f (hidV fs ms ss)]⟩,oF (fr M.lik),ob 22 1 ((smTo M x).map frs)]) (fun x:Nat=>x≤T) (fun x:Nat=>T-x) (0) (Nat.zero_le _) (by refine weak_of ?_ ?_<;>simp (disch:=omega) only [go_sem,Nat.reduceAdd]<;>first|rfl|exact ⟨rfl,rfl⟩|exact Or.inl rfl|exact ⟨Or.inl rfl,Or.inl rfl⟩|trivial|assumption|omega|(symm;assumption)|((repeat' apply And.intro)<;>first|rfl|omega|trivial|exact .inl rfl|exact .inr ⟨rfl,rfl⟩|exact .inr rfl|(right;symm;assumption)|(symm;assumption)|assumption)) ?_
  rintro t ht
  simp only [go_sem]
  (repeat (with_reducible first|refine W_seq fun K hK=>?_|refine J_region ?_ |refine J_c ?_|(refine Kont.go (by assumption) ?_)|(simp (config:={ maxSteps:=3000000 }) (disch:=omega) only [go_sem,List.length_map,←hT])))
  refine Jc_if (fun htl=>?_) (fun htl=>?_)<;>try simp only [decide_eq_true_eq,decide_eq_false_iff_not] at htl
  ·have hq0:List.replicate st.length (AV.f (fr 0))=((qRow M st.length l t 0).map fr).map AV.f:=qRow_zero
   (repeat (with_reducible first|refine W_seq fun K hK=>?_|refine J_block ?_|refine J_skip ?_|refine J_region ?_ |(refine Kont.go (by assumption) ?_)|(simp (config:={ maxSteps:=3000000 }) (disch:=omega) only [go_sem,↓reduceIte,hfl])))
   refine call_o (noughts_w st.length hn1 (by omega)) (FrzL.fs [_]) ?_
   (repeat (with_reducible first|refine W_seq fun K hK=>?_|refine J_block ?_|refine J_region ?_ |(refine Kont.go (by assumption) ?_)|(simp (config:={ maxSteps:=3000000 }) (disch:=omega) only [go_sem,Nat.reduceAdd,hq0,List.length_replicate])))
   refine W_loop [13,14,43,44,45,46,47,48,49,50,51,52,53,54,55,56,57,58,59,60,61,62,63,64,65,66,67,68,69,70,71,72,73,74,75,76] (fun x:Nat=>[(13,.f (I x))]) (fun x:Nat=>[some ⟨25,3,[.f (hidV fs ms ss)]⟩,oF (fr M.lik),ob 22 1 ((smTo M t).map frs),some ⟨30,3,((qRow M st.length l t x).map fr).map .f⟩]) (fun x:Nat=>x≤W) (fun x:Nat=>W-x) (0) (Nat.zero_le _) (by refine weak_of ?_ ?_<;>simp (disch:=omega) only [go_sem,Nat.reduceAdd]<;>first|rfl|exact ⟨rfl,rfl⟩|exact Or.inl rfl|exact ⟨Or.inl rfl,Or.inl rfl⟩|trivial|assumption|omega|(symm;assumption)|((repeat' apply And.intro)<;>first|rfl|omega|trivial|exact .inl rfl|exact .inr ⟨rfl,rfl⟩|exact .inr rfl|(right;symm;assumption)|(symm;assumption)|assumption)) ?_
   rintro i hi
   simp only [go_sem]
   (repeat (with_reducible first|refine W_seq fun K hK=>?_|refine J_region ?_ |refine J_c ?_|(refine Kont.go (by assumption) ?_)|(simp (config:={ maxSteps:=3000000 }) (disch:=omega) only [go_sem,hwyl])))
   refine Jc_if (fun hil=>?_) (fun hil=>?_)<;>try simp only [decide_eq_true_eq,decide_eq_false_iff_not] at hil
   ·have hm1:=hmem i hil
    obtain ⟨w,hw⟩:∃w,w=l.getD i []:=⟨_,rfl⟩
    rw [←hw] at hm1
    have ew:wF T w=.fz 1 (Ns w):=by unfold wF;rw [if_neg (by omega)]
    have gw:(wyF st.length T)[i]?=some (.fz 1 (Ns w)):=by rw [←ew];unfold wyF;rw [←hl,map_get (wF T) l (by omega),hw,lget_lt l [] (by omega)]
    have hcall:=hway hm1
    rw [ew] at hcall
    have hwn:=wyL_len (hl▸hm1)
    obtain ⟨c,hc⟩:∃c,c=w.getD t 0:=⟨_,rfl⟩
    have hcn:c<st.length:=by rw [hc,lget_lt w 0 (by omega)];exact hwn.2 _ (List.getElem_mem _)
    have g2:(Ns w)[t]?=some (I (c:Nat)):=by rw [hc];exact Ns_get (by omega)
    have hmy:=Nat.mul_le_mul (show i≤65536 by omega) (show b+1≤16009 by omega)
    have c1:=IsFr.c (qS_fz (h:=M) (l:=l) (j:=t) (x:=i) (k:=c) (b:=b) (by omega) fun q hq=>hwz (hmem q (by omega)))
    have c2:=IsFr.c (hwz hm1)
    have gr:=qRow_get (h:=M) (n:=st.length) (l:=l) (j:=t) (x:=i) hcn
    have hset:=qRow_set (h:=M) (n:=st.length) (l:=l) (j:=t) (x:=i) hcn (by rw [hc,hw])
    rw [←hw] at hset
    (repeat (with_reducible first|refine W_seq fun K hK=>?_|refine J_block ?_|refine J_skip ?_|refine J_drawn mixed (by kernel_rfl) ?_|(refine Kont.go (by assumption) ?_)|(simp (config:={ maxSteps:=3000000 }) (disch:=omega) only [go_sem,↓reduceIte,Nat.reduceAdd,gw,true_and,and_self])))
    refine callQ_f hcall rfl ?_
    (repeat (first|(with_reducible first|refine J_region ?_ |refine J_drawn mixed (by kernel_rfl) ?_|(refine Kont.go (by assumption) ?_)|(simp (config:={ maxSteps:=3000000 }) (disch:=omega) only [go_sem,↓reduceIte,Nat.reduceAdd,gw,g2,hcn,gr,hset,true_and,and_self]))|refine callQ_f (radd_w (by assumption) (by assumption) (by omega) (by omega)) rfl ?_))
    refine ⟨i+1,by omega,by omega,weak_of ?_ ?_⟩<;>(try simp (disch:=omega) only [go_sem,Nat.reduceAdd])<;>(try first|done|omega|rfl|exact ⟨rfl,rfl⟩|trivial)
   ·have he:i=W:=by omega
    subst he
    obtain ⟨R,hR⟩:∃R,R=qRow M st.length l t i:=⟨_,rfl⟩
    have eR:R=(List.range M.n).map fun i=>M.fw t i*M.bw t i:=by
     rw [hR,hW,hl,←eMn,hT,←eMT];exact qRow_sm (by omega)
    have hRl:R.length=st.length:=by rw [hR];exact qRow_len
    have hRs:sumR R=M.lik:=by rw [eR];exact sum_sm (by omega)
    have hRr:Row (8+i*(b+1)) R:=fun q hq=>by
     rw [hR] at hq
     obtain ⟨c,_,rfl⟩:=List.mem_map.1 hq
     exact qS_fz (by omega) fun q hq=>hwz (hmem q (by omega))
    have hbig:=Nat.mul_le_mul (show R.length≤4 by omega) (show 8+i*(b+1)+1≤65536*16009+9 by omega)
    have hsh:=share_w2 (Frs.c hRr) (by omega) (by omega) (by omega) (by omega) (by rw [hRs];exact hz)
    have hre:FV.fz 3 (shQ R (sumR R) R.length)=frs (smRow M t):=by rw [hRs,hRl,eR,←eMn];exact congrArg _ shQ_sm
    rw [hre] at hsh
    rw [←hR]
    (repeat (with_reducible first|refine W_seq fun K hK=>?_|refine J_exit ?_|(refine Kont.go (by assumption) ?_)|(simp (config:={ maxSteps:=3000000 }) (disch:=omega) only [go_sem,↓reduceIte])))
    refine J_freezeO (j:=12) (l:=R.map fr) rfl (by rw [List.length_map,hRl]) rfl ?_
    (repeat (with_reducible first|refine J_region ?_ |(simp (config:={ maxSteps:=3000000 }) (disch:=omega) only [go_sem,Nat.reduceEqDiff,↓reduceIte])))
    refine call_f hsh rfl ?_
    (repeat (first|(with_reducible first|refine J_region ?_ |refine aApp_sl ?_|(refine Kont.go (by assumption) ?_)|(simp (config:={ maxSteps:=3000000 }) (disch:=omega) only [go_sem,Nat.reduceEqDiff,↓reduceIte,Nat.reduceAdd,Nat.reduceLeDiff,smTo_next,List.length_map,smTo_len]))|refine And.intro (by omega) ?_))
    refine ⟨t+1,by omega,by omega,weak_of ?_ ?_⟩<;>(try simp (disch:=omega) only [go_sem,Nat.reduceAdd])<;>(try first|done|omega|rfl|exact ⟨rfl,rfl⟩|trivial)
  ·have he:t=T:=by omega
   subst he
   (repeat (with_reducible first|refine W_seq fun K hK=>?_|refine J_exit ?_|refine J_ret ?_|refine J_region ?_ |(refine Kont.go (by assumption) ?_)|(simp (config:={ maxSteps:=3000000 }) (disch:=omega) only [go_sem,↓reduceIte])))
   exact ⟨_,rfl,FrzL.cons (.sl rfl) (FrzL.cons (.f _) (FrzL.nil _))⟩
 ·have e1:smE st mv sh seen=mayE st mv sh seen:=by unfold smE;rw [if_neg hE]
  have e2:smX st mv sh seen=[]:=by unfold smX;rw [e1,if_neg hE]
  rw [e1,e2]
  refine good_of Tryz.func17 rfl (by kernel_rfl) fun X hO hrd=>?_;rw [Tryz.ntmps17,Tryz.results17];simp only [ast0,List.map_cons,List.map_nil,List.length_cons,List.length_nil,Nat.reduceAdd,Nat.reduceSub,List.replicate_succ,List.replicate_zero,List.cons_append,List.nil_append]
  (repeat (with_reducible first|refine W_seq fun K hK=>?_|refine J_region ?_ |(refine Kont.go (by assumption) ?_)|(simp (config:={ maxSteps:=3000000 }) (disch:=omega) only [go_sem,↓reduceIte,Nat.reduceAdd])))
  refine call_f hlk rfl ?_
  have eL:likX st mv sh seen=frN:=by unfold likX;rw [if_neg hE]
  (repeat (with_reducible first|refine W_seq fun K hK=>?_|refine J_ret ?_|refine J_region ?_ |refine J_c ?_|refine Jc_true ?_|(refine Kont.go (by assumption) ?_)|(simp (config:={ maxSteps:=3000000 }) (disch:=omega) only [go_sem,↓reduceIte,Nat.reduceAdd,hE,eL])))
  exact ⟨_,rfl,FrzL.cons (.nil _) (FrzL.cons (.f _) (FrzL.nil _))⟩
end
end Go.Proofs.YtfjgijkhmhhkdaaGreatDoor
