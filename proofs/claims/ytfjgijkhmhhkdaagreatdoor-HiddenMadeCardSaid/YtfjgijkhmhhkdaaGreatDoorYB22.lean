/- hidden.Smooth: walked. Conditions: numbers of 1000 bytes each. -/
import Derived.Test.YtfjgijkhmhhkdaaGreatDoorYB18
import Derived.Test.YtfjgijkhmhhkdaaGreatDoorYRSm
import Derived.Test.YtfjgijkhmhhkdaaGreatDoorYB14
import Derived.Test.YtfjgijkhmhhkdaaGreatDoorYB15
import Derived.Test.YtfjgijkhmhhkdaaGreatDoorYB07
import Derived.Shelf.Spec.SlicesGrow
import Derived.Laws.AppendOwn
set_option linter.unusedVariables false
set_option linter.unusedSimpArgs false
namespace Go.Proofs.YtfjgijkhmhhkdaaGreatDoor
open Go Go.RowKit
theorem hpN_dy {e e1:TypeId} {sz T n:Nat} {R:List (List FV)} {a b:Option AO} :
  [a,b]++hpN 2 ((⟨e1,1,oN 1 n T⟩:AO)::R.map fun l=>⟨e,sz,l.map .f⟩)=dy [a,b,some ⟨e1,1,oN 3 n T⟩] e sz R []:=by
 unfold hpN dy rowsO
 rw [List.map_cons,List.map_map,List.append_nil]
 show a::b::_::_=a::b::_::_
 congr 3
 ·show some (AO.mk e1 1 ((oN 1 n T).map _))=_
  congr 2
  unfold oN
  rw [List.map_map]
  refine List.map_congr_left fun j _=>?_
  show AV.own (2+(1+j)) 3 0 n=.own (3+j) 3 0 n
  rw [show 2+(1+j)=3+j by omega]
 ·refine List.map_congr_left fun l _=>?_
  show some (AO.mk e sz ((l.map AV.f).map _))=_
  rw [map_ren_f]
def smC (h:HM) (x i t j:Nat):Rat:=if t<x∨(t=x∧j<i) then h.fw t j*h.bw t j/h.lik else h.fw t j
def smW (h:HM) (x i t:Nat):List FV:=(List.range h.n).map fun j=>fr (smC h x i t j)
def smG (h:HM) (x i:Nat):List (List FV):=(List.range h.T).map (smW h x i)
section
variable {h : HM} {x i t j : Nat}
theorem smG_len:(smG h x i).length=h.T:=by simp [smG]
theorem smW_len:(smW h x i t).length=h.n:=by simp [smW]
theorem smG_get (ht:t<h.T):(smG h x i)[t]?=some (smW h x i t):=by simp [smG,ht]
theorem smW_get (hj:j<h.n):(smW h x i t)[j]?=some (fr (smC h x i t j)):=by simp [smW,hj]
theorem smW_self (hj:i<h.n):((smW h x i x).map AV.f)[i]?=some (.f (fr (h.fw x i))):=by
 rw [List.getElem?_map,smW_get hj]
 unfold smC
 rw [if_neg (by omega)];rfl
theorem smW_set (hj:i<h.n):((smW h x i x).map AV.f).set i (.f (fr (h.fw x i*h.bw x i/h.lik)))=(smW h x (i+1) x).map .f:=by
 apply List.ext_getElem?
 intro a
 by_cases e:a=i
 ·subst e
  rw [List.getElem?_set_self (by rw [List.length_map,smW_len];exact hj),List.getElem?_map,smW_get hj]
  unfold smC
  rw [if_pos (.inr ⟨rfl,by omega⟩)];rfl
 ·rw [List.getElem?_set_ne (Ne.symm e),List.getElem?_map,List.getElem?_map]
  by_cases ha:a<h.n
  ·rw [smW_get ha,smW_get ha]
   have:smC h x i x a=smC h x (i+1) x a:=by unfold smC;exact (by by_cases c:x<x∨(x=x∧a<i)<;>by_cases d:x<x∨(x=x∧a<i+1)<;>first|(rw [if_pos c,if_pos d];done)|(rw [if_neg c,if_neg d];done)|(exfalso;omega))
   rw [this]
  ·rw [List.getElem?_eq_none (by rw [smW_len];omega),List.getElem?_eq_none (by rw [smW_len];omega)]
theorem smG_set (hx:x<h.T):(smG h x i).set x (smW h x (i+1) x)=smG h x (i+1):=by
 apply List.ext_getElem?
 intro a
 by_cases e:a=x
 ·subst e
  rw [List.getElem?_set_self (by rw [smG_len];exact hx),smG_get hx]
 ·rw [List.getElem?_set_ne (Ne.symm e)]
  by_cases ha:a<h.T
  ·rw [smG_get ha,smG_get ha]
   congr 1
   refine List.map_congr_left fun b _=>?_
   unfold smC
   have:(a<x∨(a=x∧b<i+1))=(a<x∨(a=x∧b<i)):=propext ⟨fun h=>by omega,fun h=>by omega⟩
   simp only [this]
  ·rw [List.getElem?_eq_none (by rw [smG_len];omega),List.getElem?_eq_none (by rw [smG_len];omega)]
theorem smG_row:smG h x h.n=smG h (x+1) 0:=by
 refine List.map_congr_left fun t _=>List.map_congr_left fun j hj=>?_
 have:=List.mem_range.1 hj
 unfold smC
 have:(t<x∨(t=x∧j<h.n))=(t<x+1∨(t=x+1∧j<0)):=propext ⟨fun h=>by omega,fun h=>by omega⟩
 simp only [this]
theorem smG_zero:rwA h (fun a b=>a+b) h.T=smG h 0 0:=by
 refine List.map_congr_left fun t _=>?_
 unfold aRow smW
 rw [List.map_map]
 refine List.map_congr_left fun j _=>?_
 unfold smC
 rw [if_neg (by omega)]
 show fr (h.gA _ t j)=_
 rw [h.gA_fw]
theorem smG_all:smG h h.T 0=(smTo h h.T).map fun l=>l.map fr:=by
 unfold smTo smG
 rw [List.map_map]
 refine List.map_congr_left fun t ht=>?_
 have:=List.mem_range.1 ht
 unfold smW
 show _=(smRow h t).map fr
 unfold smRow
 rw [List.map_map]
 refine List.map_congr_left fun j _=>?_
 unfold smC
 rw [if_pos (.inl this)];rfl
end
attribute [go_sem] smG_len
theorem frz_rows {a b:Option AO} {e e1:TypeId} {n T:Nat} {R:List (List FV)} (hR:R.length=T) (hn:∀l∈R,l.length=n) :
  Frz (dy [a,b,some ⟨e1,1,oN 3 n T⟩] e 3 R []) (.own 2 1 0 T) (.fz 1 (R.map (FV.fz 3))):=by
 refine Frz.own 2 1 0 T ⟨e1,1,oN 3 n T⟩ _ rfl rfl (by show 0+T≤(oN 3 n T).length;rw [oN_len];omega) (by rw [List.length_map,hR]) ?_
 intro j c d hc hd
 replace hc:(oN 3 n T)[j]?=some c:=by rw [Nat.zero_add] at hc;exact hc
 have hj:j<T:=by have:=glt hc;rwa [oN_len] at this
 rw [oN_get hj] at hc
 cases hc
 have hq:R[j]?=some R[j]:=List.getElem?_eq_getElem (by omega)
 rw [List.getElem?_map,hq] at hd
 cases hd
 exact Frz.own0 (dy_getR rfl hq) (hn _ (List.getElem_mem _)).symm
section
variable {k : Nat} {fs ms ss : List FV} {st : List Rat} {mv sh : List (List Rat)} {seen : List Int}
theorem aheadN_u (h:HOk k fs ms ss st mv sh seen) (h1:1≤k) (hk:k≤1000) (hs:∀x∈seen,-9223372036854775808≤x∧x≤9223372036854775807) (hT:1≤seen.length) (a b:Option AO) :
  CallU Tryz.prog 39 [.f (hidV fs ms ss),.f (ints seen),.f (.fn 40 [] [])] [a,b] (fun u G=>u=.own 2 1 0 seen.length∧G=dy [a,b,some ⟨22,1,oN 3 st.length seen.length⟩] 30 3 (smG (hm st mv sh seen) 0 0) []):=by
 have hg:=callU_N (aheadN_w h h1 hk hs join_add hT) rfl (fun o ho e he=>?_) [a,b]
 ·rw [show ([a,b]:AH).length=2 from rfl,hpN_dy,show rwA (hm st mv sh seen) (fun a b=>a+b) seen.length=smG (hm st mv sh seen) 0 0 from smG_zero] at hg
  exact hg
 ·rcases List.mem_cons.1 ho with rfl|ho
  ·obtain ⟨j,hj,rfl⟩:=List.mem_map.1 (show e∈oN 1 st.length seen.length from he)
   have:=List.mem_range.1 hj
   refine ⟨rfl,decide_eq_true (show 1+j<_ from ?_)⟩
   rw [List.length_cons,List.length_map,rwA_len];omega
  ·obtain ⟨l,_,rfl⟩:=List.mem_map.1 ho
   obtain ⟨y,_,rfl⟩:=List.mem_map.1 (show e∈l.map AV.f from he)
   exact ⟨rfl,rfl⟩
set_option maxRecDepth 100000 in
set_option maxHeartbeats 8000000 in
theorem smooth_w (h:HidF k fs ms ss st mv sh) (h1:1≤k) (hk:k≤1000) (hsl:seen.length≤140737488355328) (hs:∀x∈seen,-9223372036854775808≤x∧x≤9223372036854775807) :
  Good Tryz.prog 16 [hidV fs ms ss,ints seen] (.tup [rowsF (smX st mv sh seen),I (smE st mv sh seen)]):=by
 have hlk:=likely_w h h1 hk hsl hs
 by_cases hE:mayE st mv sh seen=0
 case neg =>
  have e1:smE st mv sh seen=mayE st mv sh seen:=by unfold smE;rw [if_neg hE]
  have e2:smX st mv sh seen=[]:=by unfold smX;rw [if_neg (by rw [e1];exact hE)]
  have eL:likX st mv sh seen=frN:=by unfold likX;rw [if_neg hE]
  rw [eL] at hlk
  rw [e1,e2]
  refine good_of Tryz.func16 rfl (by kernel_rfl) fun X hO hrd=>?_;rw [Tryz.ntmps16,Tryz.results16];simp only [ast0,List.map_cons,List.map_nil,List.length_cons,List.length_nil,Nat.reduceAdd,Nat.reduceSub,List.replicate_succ,List.replicate_zero,List.cons_append,List.nil_append]
  (repeat (with_reducible first|refine W_seq fun K hK=>?_|refine J_region ?_|(refine Kont.go (by assumption) ?_)|(simp (config:={ maxSteps:=3000000 }) (disch:=omega) only [go_sem,↓reduceIte,Nat.reduceAdd])))
  refine call_f hlk rfl ?_
  (repeat (with_reducible first|refine W_seq fun K hK=>?_|refine J_ret ?_|refine J_region ?_|refine J_c ?_|refine Jc_true ?_|(refine Kont.go (by assumption) ?_)|(simp (config:={ maxSteps:=3000000 }) (disch:=omega) only [go_sem,↓reduceIte,Nat.reduceAdd,hE])))
  exact ⟨_,rfl,FrzL.cons (.nil _) (FrzL.cons (.f _) (FrzL.nil _))⟩
 have ok:=mayE_ok h hE
 have ht8:=ok.t8
 have hn4:=ok.n4
 have hn1:=ok.n1
 have hbh:=behind_w ok h1 hk hs join_add
 obtain ⟨M,hM⟩:∃M,M=hm st mv sh seen:=⟨_,rfl⟩
 have eMn:M.n=st.length:=by rw [hM];rfl
 have eMT:M.T=seen.length:=by rw [hM];rfl
 have eL:likX st mv sh seen=fr M.lik:=by unfold likX;rw [if_pos hE,hM]
 rw [eL,hE] at hlk
 obtain ⟨T,hT⟩:∃T,T=seen.length:=⟨_,rfl⟩
 by_cases hT0:seen.length=0
 ·have hl:M.lik≠0:=by unfold HM.lik;rw [if_pos (by omega)];decide
  have e1:smE st mv sh seen=0:=by unfold smE;rw [if_pos hE,←hM,if_neg hl]
  have e2:smX st mv sh seen=[]:=by unfold smX;rw [if_pos e1,hT0];rfl
  have hah:=ahead_w ok h1 hk hs join_add
  have e3:aR (hm st mv sh seen) (fun a b=>a+b) seen.length=[]:=by rw [hT0];rfl
  rw [e3] at hah
  rw [e1,e2]
  refine good_of Tryz.func16 rfl (by kernel_rfl) fun X hO hrd=>?_;rw [Tryz.ntmps16,Tryz.results16];simp only [ast0,List.map_cons,List.map_nil,List.length_cons,List.length_nil,Nat.reduceAdd,Nat.reduceSub,List.replicate_succ,List.replicate_zero,List.cons_append,List.nil_append]
  (repeat (with_reducible first|refine W_seq fun K hK=>?_|refine J_region ?_|(refine Kont.go (by assumption) ?_)|(simp (config:={ maxSteps:=3000000 }) (disch:=omega) only [go_sem,↓reduceIte,Nat.reduceAdd])))
  refine call_f hlk rfl ?_
  (repeat (with_reducible first|refine W_seq fun K hK=>?_|refine J_skip ?_|refine J_region ?_|refine J_orders (id:=4) [2] (.one 0 (.one 1 (.one 4 (.br (.alt 2 (.one 3 (.one 5 (.one 6 (.one 7 .leaf)))) (.alt 3 (.one 2 (.one 5 (.one 6 (.one 7 .leaf)))) .fin)))))) mixed (by kernel_rfl) ?_ |refine J_c ?_|refine Jc_false ?_|(refine Kont.go (by assumption) ?_)|(simp (config:={ maxSteps:=3000000 }) (disch:=omega) only [go_sem,Nat.reduceEqDiff,↓reduceIte,Nat.reduceAdd])))
  refine (fun (h:(?Z1:Prop))=>And.intro (callHK_f hah rfl ?a1) (callHK_f hah rfl ?b1)) ?c1
  case a1 =>
   simp (config:={ maxSteps:=3000000 }) (disch:=omega) only [go_sem,Nat.reduceEqDiff,↓reduceIte,Nat.reduceAdd]
   (first|refine call_f (hbh) rfl ?_|refine callQ_f (hbh) rfl ?_|refine callHK_f (hbh) rfl ?_|refine callH_f (hbh) rfl ?_)
   try simp (config:={ maxSteps:=3000000 }) (disch:=omega) only [go_sem,Nat.reduceEqDiff,↓reduceIte,Nat.reduceAdd,Nat.reduceLT,Nat.reduceLeDiff,Int.reduceLT,Int.reduceLE,Int.reduceEq,Int.reduceNe,Int.reduceAdd,Int.reduceSub,Int.reduceMul,Int.reduceNeg,Int.reduceToNat]
   exact h
  case b1 =>
   simp (config:={ maxSteps:=3000000 }) (disch:=omega) only [go_sem,Nat.reduceEqDiff,↓reduceIte]
   (first|refine call_f (hbh) rfl ?_|refine callQ_f (hbh) rfl ?_|refine callHK_f (hbh) rfl ?_|refine callH_f (hbh) rfl ?_)
   try simp (config:={ maxSteps:=3000000 }) (disch:=omega) only [go_sem,Nat.reduceEqDiff,↓reduceIte,Nat.reduceAdd,Nat.reduceLT,Nat.reduceLeDiff,Int.reduceLT,Int.reduceLE,Int.reduceEq,Int.reduceNe,Int.reduceAdd,Int.reduceSub,Int.reduceMul,Int.reduceNeg,Int.reduceToNat]
   exact h
  have e4:rowsF []=.fz 1 []:=rfl
  (repeat (with_reducible first|refine W_seq fun K hK=>?_|refine J_block ?_|refine J_region ?_|(refine Kont.go (by assumption) ?_)|(simp (config:={ maxSteps:=3000000 }) (disch:=omega) only [go_sem,e4,List.length_nil])))
  refine W_loop [4,5,7,10,11,29,30,31,32,33,34,35,36,37,38,39,40,41,42,43,44,45,46,47,48,49,50,51,52,53,54,55,56,57,58,59,60,61,62,63,64,65,66,67,68,69,70] (fun x:Nat=>[(29,.f (I 0))]) (fun x:Nat=>[some ⟨25,3,[.f (hidV fs ms ss)]⟩,oF (fr M.lik)]) (fun x:Nat=>True) (fun x:Nat=>0) (0) (trivial) (by refine weak_of ?_ ?_<;>simp (disch:=omega) only [go_sem,Nat.reduceAdd]<;>first|rfl|exact ⟨rfl,rfl⟩|exact Or.inl rfl|exact ⟨Or.inl rfl,Or.inl rfl⟩|trivial|assumption|omega|(symm;assumption)|((repeat' apply And.intro)<;>first|rfl|omega|trivial|exact .inl rfl|exact .inr ⟨rfl,rfl⟩|exact .inr rfl|(right;symm;assumption)|(symm;assumption)|assumption)) ?_
  rintro i _
  simp only [go_sem,Nat.reduceLT]
  (repeat (with_reducible first|refine W_seq fun K hK=>?_|refine J_exit ?_|refine J_ret ?_|refine J_region ?_|refine J_c ?_|refine Jc_false ?_|(refine Kont.go (by assumption) ?_)|(simp (config:={ maxSteps:=3000000 }) (disch:=omega) only [go_sem,↓reduceIte])))
  exact ⟨_,rfl,FrzL.fs [_,_]⟩
 have hah:=aheadN_u ok h1 hk hs (by omega)
 rw [←hM,←hT] at hah
 rw [←hM] at hbh
 have hTT:T=M.T:=by omega
 have sz:∀u,u<seen.length→szH k u≤400000000:=fun u hu=>szH_le hk (by omega)
 have hbl:(bR M (fun a b=>a+b)).length=T:=by unfold bR;rw [List.length_map,List.length_range,hTT]
 have lF:∃b,Fz M.lik b∧b≤2000000000:=by
  obtain ⟨T',hT'⟩:∃T',seen.length=T'+1:=⟨seen.length-1,by omega⟩
  have sa:=sz T' (by omega)
  refine ⟨8+st.length*(szH k T'+1),?_,?_⟩
  ·unfold HM.lik
   rw [if_neg (by omega),←eMn,show M.T-1=T' by omega]
   refine sumF_fz fun q hq=>?_
   have:=ok.fA h1 join_add (t:=T') (by omega) (i:=q) (by omega)
   rw [←hM,M.gA_fw] at this
   exact this
  ·have:=Nat.mul_le_mul (show st.length≤4 by omega) (show szH k T'+1≤400000001 by omega)
   omega
 obtain ⟨bl,fl,hbl2⟩:=lF
 by_cases hz:M.lik=0
 ·have e1:smE st mv sh seen=3:=by unfold smE;rw [if_pos hE,←hM,if_pos hz]
  have e2:smX st mv sh seen=[]:=by unfold smX;rw [e1];rfl
  have cl:IsFr (fr M.lik) 0 bl:=by have:=IsFr.c fl;rw [hz] at this ⊢;exact this
  rw [e1,e2]
  refine good_of Tryz.func16 rfl (by kernel_rfl) fun X hO hrd=>?_;rw [Tryz.ntmps16,Tryz.results16];simp only [ast0,List.map_cons,List.map_nil,List.length_cons,List.length_nil,Nat.reduceAdd,Nat.reduceSub,List.replicate_succ,List.replicate_zero,List.cons_append,List.nil_append]
  (repeat (with_reducible first|refine W_seq fun K hK=>?_|refine J_region ?_|(refine Kont.go (by assumption) ?_)|(simp (config:={ maxSteps:=3000000 }) (disch:=omega) only [go_sem,↓reduceIte,Nat.reduceAdd])))
  refine call_f hlk rfl ?_
  (repeat (with_reducible first|refine W_seq fun K hK=>?_|refine J_skip ?_|refine J_region ?_|refine J_orders (id:=4) [2] (.one 0 (.one 1 (.one 4 (.br (.alt 2 (.one 3 (.one 5 (.one 6 (.one 7 .leaf)))) (.alt 3 (.one 2 (.one 5 (.one 6 (.one 7 .leaf)))) .fin)))))) mixed (by kernel_rfl) ?_ |refine J_c ?_|refine Jc_false ?_|(refine Kont.go (by assumption) ?_)|(simp (config:={ maxSteps:=3000000 }) (disch:=omega) only [go_sem,Nat.reduceEqDiff,↓reduceIte,Nat.reduceAdd])))
  refine (fun (h:(?Z2:Prop))=>And.intro (callHK_u (hah _ _) ?a2) (callHK_u (hah _ _) ?b2)) ?c2
  case a2 =>
   simp (config:={ maxSteps:=3000000 }) (disch:=omega) only [go_sem,Nat.reduceEqDiff,↓reduceIte,Nat.reduceAdd]
   (first|refine call_f (hbh) rfl ?_|refine callQ_f (hbh) rfl ?_|refine callHK_f (hbh) rfl ?_|refine callH_f (hbh) rfl ?_)
   try simp (config:={ maxSteps:=3000000 }) (disch:=omega) only [go_sem,Nat.reduceEqDiff,↓reduceIte,Nat.reduceAdd,Nat.reduceLT,Nat.reduceLeDiff,Int.reduceLT,Int.reduceLE,Int.reduceEq,Int.reduceNe,Int.reduceAdd,Int.reduceSub,Int.reduceMul,Int.reduceNeg,Int.reduceToNat]
   exact h
  case b2 =>
   simp (config:={ maxSteps:=3000000 }) (disch:=omega) only [go_sem,Nat.reduceEqDiff,↓reduceIte]
   (first|refine call_f (hbh) rfl ?_|refine callQ_f (hbh) rfl ?_|refine callHK_f (hbh) rfl ?_|refine callH_f (hbh) rfl ?_)
   try simp (config:={ maxSteps:=3000000 }) (disch:=omega) only [go_sem,Nat.reduceEqDiff,↓reduceIte,Nat.reduceAdd,Nat.reduceLT,Nat.reduceLeDiff,Int.reduceLT,Int.reduceLE,Int.reduceEq,Int.reduceNe,Int.reduceAdd,Int.reduceSub,Int.reduceMul,Int.reduceNeg,Int.reduceToNat]
   exact h
  (repeat (with_reducible first|refine W_seq fun K hK=>?_|refine J_block ?_|refine J_region ?_|(refine Kont.go (by assumption) ?_)|(simp (config:={ maxSteps:=3000000 }) (disch:=omega) only [go_sem])))
  refine W_loop [4,5,7,10,11,29,30,31,32,33,34,35,36,37,38,39,40,41,42,43,44,45,46,47,48,49,50,51,52,53,54,55,56,57,58,59,60,61,62,63,64,65,66,67,68,69,70] (fun x:Nat=>[(29,.f (I 0))]) (fun x:Nat=>dy [some ⟨25,3,[.f (hidV fs ms ss)]⟩,oF (fr M.lik),some ⟨22,1,oN 3 st.length T⟩] 30 3 (smG M 0 0) []) (fun x:Nat=>True) (fun x:Nat=>0) (0) (trivial) (by refine weak_of ?_ ?_<;>simp (disch:=omega) only [go_sem,Nat.reduceAdd]<;>first|rfl|exact ⟨rfl,rfl⟩|exact Or.inl rfl|exact ⟨Or.inl rfl,Or.inl rfl⟩|trivial|assumption|omega|(symm;assumption)|((repeat' apply And.intro)<;>first|rfl|omega|trivial|exact .inl rfl|exact .inr ⟨rfl,rfl⟩|exact .inr rfl|(right;symm;assumption)|(symm;assumption)|assumption)) ?_
  rintro t0 _
  simp only [go_sem,Nat.reduceLT]
  have htl:0<T:=by omega
  have l1:=oN_get (c:=3) (n:=st.length) htl
  have htz:(0:Int)<(T:Int):=by omega
  (repeat (with_reducible first|refine W_seq fun K hK=>?_|refine J_block ?_|refine J_skip ?_|refine J_region ?_|refine J_c ?_|refine Jc_true ?_|(refine Kont.go (by assumption) ?_)|(simp (config:={ maxSteps:=3000000 }) (disch:=omega) only [go_sem,↓reduceIte,Int.reduceLE,l1,htz,decide_true])))
  refine W_loop [4,5,7,11,37,38,39,40,41,42,43,44,45,46,47,48,49,50,51,52,53,54,55,56,57,58,59,60,61,62,63,64,65,66,67,68,69] (fun x:Nat=>[(37,.f (I 0))]) (fun x:Nat=>dy [some ⟨25,3,[.f (hidV fs ms ss)]⟩,oF (fr M.lik),some ⟨22,1,oN 3 st.length T⟩] 30 3 (smG M 0 0) []) (fun x:Nat=>True) (fun x:Nat=>0) (0) (trivial) (by refine weak_of ?_ ?_<;>simp (disch:=omega) only [go_sem,Nat.reduceAdd]<;>first|rfl|exact ⟨rfl,rfl⟩|exact Or.inl rfl|exact ⟨Or.inl rfl,Or.inl rfl⟩|trivial|assumption|omega|(symm;assumption)|((repeat' apply And.intro)<;>first|rfl|omega|trivial|exact .inl rfl|exact .inr ⟨rfl,rfl⟩|exact .inr rfl|(right;symm;assumption)|(symm;assumption)|assumption)) ?_
  rintro i0 _
  simp only [go_sem,Nat.reduceLT]
  have hil:0<st.length:=by omega
  have hiz:(0:Int)<(st.length:Int):=by omega
  have hiM:0<M.n:=by omega
  have htM:0<M.T:=by omega
  have gR:∀(a b c:Option AO) (B:AH),(dy [a,b,c] 30 3 (smG M 0 0) B)[3]?=some (some ⟨30,3,(smW M 0 0 0).map .f⟩):=fun a b c B=>dy_getR (i:=0) rfl (smG_get htM)
  have fa:=ok.fA h1 join_add (t:=0) (by omega) (i:=0) hil
  rw [←hM,M.gA_fw] at fa
  have fb:=ok.fU h1 join_add (u:=seen.length-1) (by omega) (i:=0) hil
  have eb:M.gB (fun a b=>a+b) 0 0=M.bw 0 0:=M.gU_bw _ _
  have eb2:(hm st mv sh seen).gU (fun a b=>a+b) (seen.length-1) 0=M.bw 0 0:=by rw [←hM,←eMT];exact eb
  rw [eb2] at fb
  have ca:=IsFr.c fa
  have cb:=IsFr.c fb
  have s1:=sz 0 (by omega)
  have s2:=sz (seen.length-1) (by omega)
  have cm:=IsFr.c (fa.mul fb)
  have gb:((bR M (fun a b=>a+b)).map frs)[0]?=some (frs (bRow M (fun a b=>a+b) 0)):=by simp [bR,htM]
  have gb2:((bRow M (fun a b=>a+b) 0).map fr)[0]?=some (fr (M.bw 0 0)):=by rw [bRow_get hiM,eb]
  have gs:=smW_self (h:=M) (x:=0) hiM
  have gl:=smW_len (h:=M) (x:=0) (i:=0) (t:=0)
  have hdv:=div0_w cm cl (by omega)
  (repeat (first|(with_reducible first|refine W_seq fun K hK=>?_|refine J_block ?_|refine J_skip ?_|refine J_region ?_|refine J_drawn mixed (by kernel_rfl) ?_|refine J_c ?_|refine Jc_true ?_|(refine Kont.go (by assumption) ?_)|(simp (config:={ maxSteps:=3000000 }) (disch:=omega) only [go_sem,↓reduceIte,Nat.reduceAdd,Int.reduceLE,hiz,decide_true,l1,gR,gb,gb2,gs]))|refine callQ_f (mul_w (by assumption) (by assumption) (by omega) (by omega)) rfl ?_|refine And.intro (by omega) ?_))
  (first|refine call_f (hdv) rfl ?_|refine callQ_f (hdv) rfl ?_|refine callHK_f (hdv) rfl ?_|refine callH_f (hdv) rfl ?_)
  (repeat (with_reducible first|refine W_seq fun K hK=>?_|refine J_ret ?_|refine J_region ?_|refine J_c ?_|refine Jc_true ?_|(refine Kont.go (by assumption) ?_)|(simp (config:={ maxSteps:=3000000 }) (disch:=omega) only [go_sem,Nat.reduceAdd,Int.reduceEq,List.length_map])))
  exact ⟨_,rfl,FrzL.cons (.nil _) (FrzL.cons (.f _) (FrzL.nil _))⟩
 have e1:smE st mv sh seen=0:=by unfold smE;rw [if_pos hE,←hM,if_neg hz]
 have e2:smX st mv sh seen=smTo M T:=by unfold smX;rw [if_pos e1,hM,hT]
 rw [e1,e2]
 refine good_of Tryz.func16 rfl (by kernel_rfl) fun X hO hrd=>?_;rw [Tryz.ntmps16,Tryz.results16];simp only [ast0,List.map_cons,List.map_nil,List.length_cons,List.length_nil,Nat.reduceAdd,Nat.reduceSub,List.replicate_succ,List.replicate_zero,List.cons_append,List.nil_append]
 (repeat (with_reducible first|refine W_seq fun K hK=>?_|refine J_region ?_|(refine Kont.go (by assumption) ?_)|(simp (config:={ maxSteps:=3000000 }) (disch:=omega) only [go_sem,↓reduceIte,Nat.reduceAdd])))
 refine call_f hlk rfl ?_
 (repeat (with_reducible first|refine W_seq fun K hK=>?_|refine J_skip ?_|refine J_region ?_|refine J_orders (id:=4) [2] (.one 0 (.one 1 (.one 4 (.br (.alt 2 (.one 3 (.one 5 (.one 6 (.one 7 .leaf)))) (.alt 3 (.one 2 (.one 5 (.one 6 (.one 7 .leaf)))) .fin)))))) mixed (by kernel_rfl) ?_ |refine J_c ?_|refine Jc_false ?_|(refine Kont.go (by assumption) ?_)|(simp (config:={ maxSteps:=3000000 }) (disch:=omega) only [go_sem,Nat.reduceEqDiff,↓reduceIte,Nat.reduceAdd])))
 refine (fun (h:(?Z:Prop))=>And.intro (callHK_u (hah _ _) ?a) (callHK_u (hah _ _) ?b)) ?c
 case a =>
  simp (config:={ maxSteps:=3000000 }) (disch:=omega) only [go_sem,Nat.reduceEqDiff,↓reduceIte,Nat.reduceAdd]
  (first|refine call_f (hbh) rfl ?_|refine callQ_f (hbh) rfl ?_|refine callHK_f (hbh) rfl ?_|refine callH_f (hbh) rfl ?_)
  try simp (config:={ maxSteps:=3000000 }) (disch:=omega) only [go_sem,Nat.reduceEqDiff,↓reduceIte,Nat.reduceAdd,Nat.reduceLT,Nat.reduceLeDiff,Int.reduceLT,Int.reduceLE,Int.reduceEq,Int.reduceNe,Int.reduceAdd,Int.reduceSub,Int.reduceMul,Int.reduceNeg,Int.reduceToNat]
  exact h
 case b =>
  simp (config:={ maxSteps:=3000000 }) (disch:=omega) only [go_sem,Nat.reduceEqDiff,↓reduceIte]
  (first|refine call_f (hbh) rfl ?_|refine callQ_f (hbh) rfl ?_|refine callHK_f (hbh) rfl ?_|refine callH_f (hbh) rfl ?_)
  try simp (config:={ maxSteps:=3000000 }) (disch:=omega) only [go_sem,Nat.reduceEqDiff,↓reduceIte,Nat.reduceAdd,Nat.reduceLT,Nat.reduceLeDiff,Int.reduceLT,Int.reduceLE,Int.reduceEq,Int.reduceNe,Int.reduceAdd,Int.reduceSub,Int.reduceMul,Int.reduceNeg,Int.reduceToNat]
  exact h
 have cl:=IsFr.c fl
 (repeat (with_reducible first|refine W_seq fun K hK=>?_|refine J_block ?_|refine J_region ?_|(refine Kont.go (by assumption) ?_)|(simp (config:={ maxSteps:=3000000 }) (disch:=omega) only [go_sem])))
 refine W_loop [4,5,7,10,11,29,30,31,32,33,34,35,36,37,38,39,40,41,42,43,44,45,46,47,48,49,50,51,52,53,54,55,56,57,58,59,60,61,62,63,64,65,66,67,68,69,70] (fun x:Nat=>[(29,.f (I x))]) (fun x:Nat=>dy [some ⟨25,3,[.f (hidV fs ms ss)]⟩,oF (fr M.lik),some ⟨22,1,oN 3 st.length T⟩] 30 3 (smG M x 0) []) (fun x:Nat=>x≤T) (fun x:Nat=>T-x) (0) (Nat.zero_le _) (by refine weak_of ?_ ?_<;>simp (disch:=omega) only [go_sem,Nat.reduceAdd]<;>first|rfl|exact ⟨rfl,rfl⟩|exact Or.inl rfl|exact ⟨Or.inl rfl,Or.inl rfl⟩|trivial|assumption|omega|(symm;assumption)|((repeat' apply And.intro)<;>first|rfl|omega|trivial|exact .inl rfl|exact .inr ⟨rfl,rfl⟩|exact .inr rfl|(right;symm;assumption)|(symm;assumption)|assumption)) ?_
 rintro t ht
 simp only [go_sem]
 (repeat (with_reducible first|refine W_seq fun K hK=>?_|refine J_region ?_|refine J_c ?_|(refine Kont.go (by assumption) ?_)|(simp (config:={ maxSteps:=3000000 }) (disch:=omega) only [go_sem])))
 refine Jc_if (fun htl=>?_) (fun htl=>?_)<;>try simp only [decide_eq_true_eq,decide_eq_false_iff_not] at htl
 ·have l1:=oN_get (c:=3) (n:=st.length) htl
  (repeat (first|(with_reducible first|refine W_seq fun K hK=>?_|refine J_block ?_|refine J_skip ?_|refine J_region ?_|(refine Kont.go (by assumption) ?_)|(simp (config:={ maxSteps:=3000000 }) (disch:=omega) only [go_sem,↓reduceIte,l1]))|refine And.intro (by omega) ?_))
  refine W_loop [4,5,7,11,37,38,39,40,41,42,43,44,45,46,47,48,49,50,51,52,53,54,55,56,57,58,59,60,61,62,63,64,65,66,67,68,69] (fun x:Nat=>[(37,.f (I x))]) (fun x:Nat=>dy [some ⟨25,3,[.f (hidV fs ms ss)]⟩,oF (fr M.lik),some ⟨22,1,oN 3 st.length T⟩] 30 3 (smG M t x) []) (fun x:Nat=>x≤st.length) (fun x:Nat=>st.length-x) (0) (Nat.zero_le _) (by refine weak_of ?_ ?_<;>simp (disch:=omega) only [go_sem,Nat.reduceAdd]<;>first|rfl|exact ⟨rfl,rfl⟩|exact Or.inl rfl|exact ⟨Or.inl rfl,Or.inl rfl⟩|trivial|assumption|omega|(symm;assumption)|((repeat' apply And.intro)<;>first|rfl|omega|trivial|exact .inl rfl|exact .inr ⟨rfl,rfl⟩|exact .inr rfl|(right;symm;assumption)|(symm;assumption)|assumption)) ?_
  rintro i hi
  simp only [go_sem]
  (repeat (with_reducible first|refine W_seq fun K hK=>?_|refine J_region ?_|refine J_c ?_|(refine Kont.go (by assumption) ?_)|(simp (config:={ maxSteps:=3000000 }) (disch:=omega) only [go_sem])))
  refine Jc_if (fun hil=>?_) (fun hil=>?_)<;>try simp only [decide_eq_true_eq,decide_eq_false_iff_not] at hil
  ·have hiM:i<M.n:=by omega
   have htM:t<M.T:=by omega
   have gR:∀(a b c:Option AO) (B:AH),(dy [a,b,c] 30 3 (smG M t i) B)[3+t]?=some (some ⟨30,3,(smW M t i t).map .f⟩):=fun a b c B=>dy_getR rfl (smG_get htM)
   have sR:∀(a b c:Option AO) (B:AH),(dy [a,b,c] 30 3 (smG M t i) B).set (3+t) (some ⟨30,3,(smW M t (i+1) t).map .f⟩)=dy [a,b,c] 30 3 (smG M t (i+1)) B:=fun a b c B=>by rw [dy_setR (a:=3) rfl (by rw [smG_len];exact htM),smG_set htM]
   have fa:=ok.fA h1 join_add (t:=t) (by omega) (i:=i) hil
   rw [←hM,M.gA_fw] at fa
   have fb:=ok.fU h1 join_add (u:=seen.length-1-t) (by omega) (i:=i) hil
   have eb:M.gB (fun a b=>a+b) t i=M.bw t i:=M.gU_bw _ _
   have eb2:(hm st mv sh seen).gU (fun a b=>a+b) (seen.length-1-t) i=M.bw t i:=by rw [←hM,←eMT];exact eb
   rw [eb2] at fb
   have ca:=IsFr.c fa
   have cb:=IsFr.c fb
   have s1:=sz t (by omega)
   have s2:=sz (seen.length-1-t) (by omega)
   have cm:=IsFr.c (fa.mul fb)
   have gb:((bR M (fun a b=>a+b)).map frs)[t]?=some (frs (bRow M (fun a b=>a+b) t)):=by simp [bR,htM]
   have gb2:((bRow M (fun a b=>a+b) t).map fr)[i]?=some (fr (M.bw t i)):=by rw [bRow_get hiM,eb]
   have gs:=smW_self (h:=M) (x:=t) hiM
   have gl:=smW_len (h:=M) (x:=t) (i:=i) (t:=t)
   have gz:=smW_set (h:=M) (x:=t) hiM
   (repeat (first|(with_reducible first|refine W_seq fun K hK=>?_|refine J_block ?_|refine J_skip ?_|refine J_region ?_|refine J_drawn mixed (by kernel_rfl) ?_|refine J_c ?_|refine Jc_false ?_|(refine Kont.go (by assumption) ?_)|(simp (config:={ maxSteps:=3000000 }) (disch:=omega) only [go_sem,↓reduceIte,Nat.reduceAdd,l1,gR,sR,gb,gb2,gs,gz,hil,List.length_map]))|refine callQ_f (div_w (by assumption) (by assumption) (by omega) (by omega) (by assumption)) rfl ?_|refine callQ_f (mul_w (by assumption) (by assumption) (by omega) (by omega)) rfl ?_|refine And.intro (by omega) ?_))
   refine ⟨i+1,by omega,by omega,weak_of ?_ ?_⟩<;>(try simp (disch:=omega) only [go_sem,Nat.reduceAdd])<;>(try first|done|omega|rfl|exact ⟨rfl,rfl⟩|trivial)
  ·have he:i=st.length:=by omega
   subst he
   have hr:=smG_row (h:=M) (x:=t)
   rw [eMn] at hr
   rw [hr]
   (repeat (with_reducible first|refine J_exit ?_|refine J_region ?_|(refine Kont.go (by assumption) ?_)|(simp (config:={ maxSteps:=3000000 }) (disch:=omega) only [go_sem,↓reduceIte])))
   refine ⟨t+1,by omega,by omega,weak_of ?_ ?_⟩<;>(try simp (disch:=omega) only [go_sem,Nat.reduceAdd])<;>(try first|done|omega|rfl|exact ⟨rfl,rfl⟩|trivial)
 ·have he:t=T:=by omega
  subst he
  (repeat (with_reducible first|refine W_seq fun K hK=>?_|refine J_exit ?_|refine J_ret ?_|refine J_region ?_|(refine Kont.go (by assumption) ?_)|(simp (config:={ maxSteps:=3000000 }) (disch:=omega) only [go_sem,↓reduceIte])))
  have er:rowsF (smTo M t)=.fz 1 ((smG M t 0).map (FV.fz 3)):=by
   have:=smG_all (h:=M)
   rw [←hTT] at this
   rw [this,List.map_map];rfl
  rw [er]
  exact ⟨_,rfl,FrzL.cons (frz_rows (by rw [smG_len,hTT]) fun l hl=>by
   obtain ⟨q,_,rfl⟩:=List.mem_map.1 hl
   rw [smW_len,eMn]) (FrzL.cons (.f _) (FrzL.nil _))⟩
end
end Go.Proofs.YtfjgijkhmhhkdaaGreatDoor
set_option linter.unusedVariables false
set_option linter.unusedSimpArgs false
namespace Go.Proofs.YtfjgijkhmhhkdaaGreatDoor
open Go Go.RowKit
set_option maxRecDepth 100000 in
theorem cloneS_w (z:ByteArray) (l:List ByteArray) (hl:l.length≤1000):GoodO Tryz.prog 81 [.fz 1 ((z::l).map St)] (.own 9 1 ((z::l).map St)):=by
 have hi:FV.fz 1 ((z::l).map St)=.fz 1 (St z::l.map St):=rfl
 have hll:(l.map St).length=l.length:=List.length_map ..
 refine goodO_of Tryz.func81 rfl (by kernel_rfl) fun X hO hrd=>?_;rw [Tryz.ntmps81,Tryz.results81];simp only [ast0,List.map_cons,List.map_nil,List.length_cons,List.length_nil,Nat.reduceAdd,Nat.reduceSub,List.replicate_succ,List.replicate_zero,List.cons_append,List.nil_append]
 (repeat (first|(with_reducible first|refine W_seq fun K hK=>?_|refine J_skip ?_|refine J_ret ?_|refine J_region ?_ |refine aApp_old ?_|refine J_c ?_|refine Jc_false ?_|(refine Kont.go (by assumption) ?_)|(simp (config:={ maxSteps:=3000000 }) (disch:=omega) only [go_sem,hll]))|refine And.intro (by omega) ?_))
 refine ⟨1,by simp,rfl,fun x hx=>?_⟩
 rcases List.mem_cons.1 hx with rfl|hx
 ·exact .v _
 ·obtain ⟨y,_,rfl⟩:=List.mem_map.1 hx
  exact .v _
set_option maxRecDepth 100000 in
theorem cloneI_w (z:Int) (l:List Int) (hl:l.length≤1000):GoodO Tryz.prog 82 [ints (z::l)] (.own 3 1 ((z::l).map I)):=by
 have hi:ints (z::l)=.fz 1 (I z::l.map I):=rfl
 have hll:(l.map I).length=l.length:=List.length_map ..
 refine goodO_of Tryz.func82 rfl (by kernel_rfl) fun X hO hrd=>?_;rw [Tryz.ntmps82,Tryz.results82];simp only [ast0,List.map_cons,List.map_nil,List.length_cons,List.length_nil,Nat.reduceAdd,Nat.reduceSub,List.replicate_succ,List.replicate_zero,List.cons_append,List.nil_append]
 (repeat (first|(with_reducible first|refine W_seq fun K hK=>?_|refine J_skip ?_|refine J_ret ?_|refine J_region ?_ |refine aApp_old ?_|refine J_c ?_|refine Jc_false ?_|(refine Kont.go (by assumption) ?_)|(simp (config:={ maxSteps:=3000000 }) (disch:=omega) only [go_sem,hi,hll]))|refine And.intro (by omega) ?_))
 refine ⟨1,by simp,rfl,fun x hx=>?_⟩
 rcases List.mem_cons.1 hx with rfl|hx
 ·exact .v _
 ·obtain ⟨y,_,rfl⟩:=List.mem_map.1 hx
  exact .v _
set_option maxRecDepth 100000 in
theorem cloneI0_w:Good Tryz.prog 82 [.v (.slice none 0 0)] (.v (.slice none 0 0)):=by
 refine good_of Tryz.func82 rfl (by kernel_rfl) fun X hO hrd=>?_;rw [Tryz.ntmps82,Tryz.results82];simp only [ast0,List.map_cons,List.map_nil,List.length_cons,List.length_nil,Nat.reduceAdd,Nat.reduceSub,List.replicate_succ,List.replicate_zero,List.cons_append,List.nil_append]
 (repeat (with_reducible first|refine W_seq fun K hK=>?_|refine J_region ?_ |(refine Kont.go (by assumption) ?_)|(simp (config:={ maxSteps:=3000000 }) (disch:=omega) only [go_sem])))
 refine ⟨.slice none 0 0,.slice none 0 0,true,rfl,rfl,fun w=>by kernel_rfl,?_⟩
 (repeat (with_reducible first|refine W_seq fun K hK=>?_|refine J_ret ?_|refine J_region ?_ |refine J_c ?_|refine Jc_true ?_|exact Frz.f _|(refine Kont.go (by assumption) ?_)|(simp (config:={ maxSteps:=3000000 }) (disch:=omega) only [go_sem])))
end Go.Proofs.YtfjgijkhmhhkdaaGreatDoor
set_option linter.unusedVariables false
set_option linter.unusedSimpArgs false
namespace Go.Proofs.YtfjgijkhmhhkdaaGreatDoor
open Go Go.RowKit Go.Shelf
def groRen:Go.Shelf.Ren:=⟨fun|4=>80|n=>n,fun|22=>22|25=>30|3=>3|4=>4|9=>9|20=>20|0=>0|n=>n,fun n=>n⟩
theorem groLays:Lays8.n4 Tryz.prog groRen where
 mixed:=by kernel_rfl
 f4 := ⟨"slices.Grow[[]augur/api.Frac,augur/api.Frac]", by kernel_rfl, Tryz.func80.trans (congrArg some (by kernel_rfl))⟩
 t0:=Tryz.underlying0
 a0:=Tryz.isAgg0
 z0:=Tryz.sizeOf0
 v0:=Tryz.zeroValue0
 t3:=Tryz.underlying3
 a3:=Tryz.isAgg3
 z3:=Tryz.sizeOf3
 v3:=Tryz.zeroValue3
 t4:=Tryz.underlying4
 a4:=Tryz.isAgg4
 z4:=Tryz.sizeOf4
 v4:=Tryz.zeroValue4
 t9:=Tryz.underlying9
 a9:=Tryz.isAgg9
 z9:=Tryz.sizeOf9
 v9:=Tryz.zeroValue9
 t20:=Tryz.underlying20
 a20:=Tryz.isAgg20
 z20:=Tryz.sizeOf20
 v20:=Tryz.zeroValue20
 t22:=Tryz.underlying22
 a22:=Tryz.isAgg22
 z22:=Tryz.sizeOf22
 v22:=Tryz.zeroValue22
noncomputable def frI:TypeInfo:=(Tryz.prog.info? 30).getD default
theorem frI_is:Tryz.prog.info? 30=some frI:=by kernel_rfl
set_option maxRecDepth 100000 in
theorem grow_w {n:Nat} (h0:1≤n) (hn:n≤1000):GoodO Tryz.prog 80 [.v (.slice none 0 0),I (n:Int)] (.own 30 3 []):=by
 refine ⟨by kernel_rfl,fun w G ys hT hG hys=>?_⟩
 obtain ⟨hl,hr⟩:=hys
 have h1:ys.size=2:=hl.symm
 have r0:=hr 0 _ rfl
 have r1:=hr 1 _ rfl
 obtain ⟨u,v,rfl⟩:∃u v,ys=#[u,v]:=by
  match ys,h1 with
  | ⟨[u,v]⟩,_=>exact ⟨u,v,rfl⟩
 replace r0:RepF w G (.v (.slice none 0 0)) u:=r0
 replace r1:RepF w G (I (n:Int)) v:=r1
 cases r0
 cases r1
 have hz:frI.zero=some (.agg #[.bool false,.string ⟨#[]⟩,.string ⟨#[]⟩]):=by kernel_rfl
 have hs:frI.size=3:=by kernel_rfl
 have hb:frI.bytes=40:=by kernel_rfl
 have key:=Any8.slices_Grow_grow groLays frI _ frI_is hz (by rw [hs];decide) none 0 0 n [] w (by omega) (by omega) (by rw [hb];omega) (by omega) (by simp) (fun _=>rfl) (fun a h=>by cases h)
 refine Calls.mono key ?_
 rintro e w' ⟨rfl,rfl⟩
 obtain ⟨vs,hvs⟩:∃vs:Array Value,vs=(([]:List Value).toArray++Builtin.zeroCells (Value.agg #[.bool false,.string ⟨#[]⟩,.string ⟨#[]⟩]).cells (0+n-0)++Builtin.zeroCells (Value.agg #[.bool false,.string ⟨#[]⟩,.string ⟨#[]⟩]).cells (grownCap w (0+n) 0 (groRen.t 25)-(0+n))):=⟨_,rfl⟩
 have hge:=grownCap_ge w (0+n) 0 (groRen.t 25)
 have hle:=grownCap_le_maxLen w (0+n) 0 (groRen.t 25) (by unfold maxLen;omega)
 obtain ⟨cap,hcap⟩:∃cap,cap=grownCap w (0+n) 0 (groRen.t 25):=⟨_,rfl⟩
 rw [←hcap] at hge hle hvs ⊢
 have hsz:vs.size=cap*3:=by
  rw [hvs,Array.size_append,Array.size_append,size_zeroCells,size_zeroCells]
  have:(Value.agg #[.bool false,.string ⟨#[]⟩,.string ⟨#[]⟩]).cells.size=3:=rfl
  rw [this]
  simp
  omega
 rw [←hvs]
 have hb1:Beyond (fun _=>False) w w.drew:=⟨rfl,rfl,rfl,Nat.le_refl _,fun _ _ _=>rfl⟩
 have hb2:=beyond_alloc w.drew (.cells vs (groRen.t 25))
 refine ⟨_,rfl,hb1.trans ⟨hb2.os,hb2.tape,hb2.output,hb2.size,fun k hk hn=>hb2.block k hk id⟩,?_⟩
 have hh:(w.drew.alloc (.cells vs (groRen.t 25))).heap[w.heap.size]?=some (.cells vs 30 (0,0)):=heap_alloc_new w.drew _
 exact RepR.own 30 3 [] w.heap.size cap (Nat.le_refl _) (by simp) hle (fun x hx=>by cases hx) (fun x hx=>by cases hx) vs hh hsz (fun j c hj=>by simp [flatF] at hj)
end Go.Proofs.YtfjgijkhmhhkdaaGreatDoor
set_option linter.unusedVariables false
set_option linter.unusedSimpArgs false
namespace Go.Proofs.YtfjgijkhmhhkdaaGreatDoor
open Go Go.RowKit
theorem J_maskC {X:Cx} {P:Program} (ws:List Nat) {c:Code} {Q:Exit→AS→Prop} {t:List AV} {H:AH} (hw:Weak ⟨t,H⟩ ⟨msk ws t,H⟩) (hJ:J X P c Q ⟨msk ws t,H⟩):J X P c Q ⟨t,H⟩:=J_weak hw hJ
set_option maxRecDepth 100000 in
set_option maxHeartbeats 4000000 in
theorem concat_w (R:List (List FV)) (hR:R.length≤1000) (h0:1≤R.flatten.length) (hn:R.flatten.length≤1000) (hf:∀x∈R.flatten,FlatF x) :
  GoodO Tryz.prog 53 [.fz 1 (R.map (FV.fz 3))] (.own 30 3 R.flatten):=by
 have hfl:∀i (hi:i<R.length),(R.take (i+1)).flatten=(R.take i).flatten++R[i]:=fun i hi=>by
  rw [List.take_add_one,List.getElem?_eq_getElem hi,List.flatten_append];simp
 have hle:∀i,(R.take i).flatten.length≤1000:=fun i=>by
  have:(R.take i).flatten.length≤R.flatten.length:=by
   conv=>rhs;rw [←List.take_append_drop i R,List.flatten_append,List.length_append]
   omega
  omega
 obtain ⟨Z,hZ⟩:∃Z,Z=R.flatten:=⟨_,rfl⟩
 have hg:=grow_w (n:=R.flatten.length) h0 hn
 rw [←hZ] at hg hf h0 ⊢
 refine goodO_of Tryz.func53 rfl (by kernel_rfl) fun X hO hrd=>?_;rw [Tryz.ntmps53,Tryz.results53];simp only [ast0,List.map_cons,List.map_nil,List.length_cons,List.length_nil,Nat.reduceAdd,Nat.reduceSub,List.replicate_succ,List.replicate_zero,List.cons_append,List.nil_append]
 (repeat (with_reducible first|refine W_seq fun K hK=>?_|refine J_block ?_|refine J_region ?_ |(refine Kont.go (by assumption) ?_)|(simp (config:={ maxSteps:=3000000 }) (disch:=omega) only [go_sem,List.length_map])))
 refine W_loop [3,5,11,12,13,14,15,16,17,18,19,20,21,22] (fun i:Nat=>[(3,.f (I (((R.take i).flatten.length:Nat):Int))),(11,.f (I i))]) (fun i:Nat=>[]) (fun i:Nat=>i≤R.length) (fun i:Nat=>R.length-i) (0) (Nat.zero_le _) (by refine weak_of ?_ ?_<;>simp (disch:=omega) only [go_sem]<;>first|rfl|exact ⟨rfl,rfl⟩|exact Or.inl rfl|exact ⟨Or.inl rfl,Or.inl rfl⟩|trivial|assumption|omega|(symm;assumption)|((repeat' apply And.intro)<;>first|rfl|omega|trivial|exact .inl rfl|exact .inr ⟨rfl,rfl⟩|exact .inr rfl|(right;symm;assumption)|(symm;assumption)|assumption)) ?_
 rintro i hi
 simp only [go_sem]
 (repeat (with_reducible first|refine W_seq fun K hK=>?_|refine J_region ?_ |refine J_c ?_|(refine Kont.go (by assumption) ?_)|(simp (config:={ maxSteps:=3000000 }) (disch:=omega) only [go_sem])))
 refine Jc_if (fun hil=>?_) (fun hil=>?_)<;>try simp only [decide_eq_true_eq,decide_eq_false_iff_not] at hil
 ·have gi:=map_get (FV.fz 3) R hil
  have hnx:=hfl i hil
  have h1:=hle i
  have h2:=hle (i+1)
  have hlen:(R.take i).flatten.length+R[i].length=(R.take (i+1)).flatten.length:=by rw [hnx,List.length_append]
  have hsum:(((R.take i).flatten.length:Nat):Int)+((R[i].length:Nat):Int)=(((R.take (i+1)).flatten.length:Nat):Int):=by omega
  have hng:¬((((R.take i).flatten.length:Nat):Int)+((R[i].length:Nat):Int)<0):=by omega
  (repeat (with_reducible first|refine W_seq fun K hK=>?_|refine J_block ?_|refine J_skip ?_|refine J_region ?_ |refine J_c ?_|refine Jc_false ?_|(refine Kont.go (by assumption) ?_)|(simp (config:={ maxSteps:=3000000 }) (disch:=omega) only [go_sem,↓reduceIte,gi,hng])))
  refine ⟨i+1,by omega,by omega,weak_of ?_ ?_⟩<;>(try simp (disch:=omega) only [go_sem,hsum])<;>(try first|done|omega|rfl|exact ⟨rfl,rfl⟩|trivial)
 ·have he:i=R.length:=by omega
  rw [he,List.take_length,←hZ]
  (repeat (with_reducible first|refine W_seq fun K hK=>?_|refine J_exit ?_|refine J_region ?_ |(refine Kont.go (by assumption) ?_)|(simp (config:={ maxSteps:=3000000 }) (disch:=omega) only [go_sem,↓reduceIte])))
  refine call_o hg (FrzL.fs [_,_]) ?_
  (repeat (with_reducible first|refine W_seq fun K hK=>?_|refine J_block ?_|refine J_region ?_ |(refine Kont.go (by assumption) ?_)|(simp (config:={ maxSteps:=3000000 }) (disch:=omega) only [go_sem,List.length_map])))
  refine J_maskC [24] (by refine weak_of ?_ ?_<;>simp (disch:=omega) only [go_sem]<;>first|rfl|exact ⟨rfl,rfl⟩|trivial|((repeat' apply And.intro)<;>first|rfl|omega|trivial|exact .inl rfl|exact .inr ⟨rfl,rfl⟩|exact .inr rfl)) ?_
  simp only [go_sem]
  have e0:([]:List AV)=(R.take 0).flatten.map AV.f:=rfl
  refine W_loop [6,8,27,28,29,30,31,32,33,34] (fun j:Nat=>[(6,.own 0 3 0 (R.take j).flatten.length),(27,.f (I j))]) (fun j:Nat=>[some ⟨30,3,(R.take j).flatten.map .f⟩]) (fun j:Nat=>j≤R.length) (fun j:Nat=>R.length-j) (0) (Nat.zero_le _) (by refine weak_of ?_ ?_<;>simp (disch:=omega) only [go_sem]<;>first|rfl|exact ⟨rfl,rfl⟩|exact Or.inl rfl|exact ⟨Or.inl rfl,Or.inl rfl⟩|trivial|assumption|omega|(symm;assumption)|((repeat' apply And.intro)<;>first|rfl|omega|trivial|exact .inl rfl|exact .inr ⟨rfl,rfl⟩|exact .inr rfl|(right;symm;assumption)|(symm;assumption)|assumption)) ?_
  rintro j hj
  simp only [go_sem]
  (repeat (with_reducible first|refine W_seq fun K hK=>?_|refine J_region ?_ |refine J_c ?_|(refine Kont.go (by assumption) ?_)|(simp (config:={ maxSteps:=3000000 }) (disch:=omega) only [go_sem])))
  refine Jc_if (fun hjl=>?_) (fun hjl=>?_)<;>try simp only [decide_eq_true_eq,decide_eq_false_iff_not] at hjl
  ·have gj:=map_get (FV.fz 3) R hjl
   have hnx:=hfl j hjl
   have h2:=hle (j+1)
   have hlen:(R.take j).flatten.length+R[j].length=(R.take (j+1)).flatten.length:=by rw [hnx,List.length_append]
   have htk:((R.take j).flatten.map AV.f).take (R.take j).flatten.length=(R.take j).flatten.map .f:=List.take_of_length_le (by rw [List.length_map];omega)
   have hap:(R.take j).flatten.map AV.f++R[j].map AV.f=(R.take (j+1)).flatten.map .f:=by rw [hnx,List.map_append]
   have hby:((R.take j).flatten.length+R[j].length)*40≤140737488355328:=by omega
   (repeat (first|(with_reducible first|refine W_seq fun K hK=>?_|refine J_block ?_|refine J_skip ?_|refine J_region ?_ |refine aApp_old ?_|(refine Kont.go (by assumption) ?_)|(simp (config:={ maxSteps:=3000000 }) (disch:=omega) only [go_sem,↓reduceIte,Nat.reduceAdd,gj,htk,hap,hby,List.length_map]))|refine And.intro (by omega) ?_))
   refine ⟨j+1,by omega,by omega,weak_ren [1] ⟨by decide,by first|decide|(simp;done)⟩ ?_ ?_⟩<;>(try simp (disch:=omega) only [go_sem,hlen])<;>(try first|done|omega|rfl|exact ⟨rfl,rfl⟩|trivial)
  ·have he:j=R.length:=by omega
   rw [he,List.take_length,←hZ]
   (repeat (with_reducible first|refine W_seq fun K hK=>?_|refine J_exit ?_|refine J_ret ?_|refine J_region ?_ |(refine Kont.go (by assumption) ?_)|(simp (config:={ maxSteps:=3000000 }) (disch:=omega) only [go_sem,↓reduceIte])))
   exact ⟨0,rfl,rfl,hf⟩
end Go.Proofs.YtfjgijkhmhhkdaaGreatDoor
