/- chain.Hits: walked. Conditions: numbers of 10^4 bytes each. -/
import Derived.Test.YtcgagiimlkjcpaaGreatDoorZB25
import Derived.Test.YtcgagiimlkjcpaaGreatDoorZB24
import Derived.Test.YtcgagiimlkjcpaaGreatDoorZB14
import Derived.Test.YtcgagiimlkjcpaaGreatDoorZB19
import Derived.Test.YtcgagiimlkjcpaaGreatDoorZB20
import Derived.Test.YtcgagiimlkjcpaaGreatDoorZB21
set_option linter.unusedVariables false
set_option linter.unusedSimpArgs false
namespace Go.Proofs.YtcgagiimlkjcpaaGreatDoor
open Go Go.RowKit
def hitT (l:List Nat) (i:Nat):Bool:=decide (i∈l)
def hitC (R:Bx) (l:List Nat) (i:Nat):Bool:=(List.range l.length).any fun q=>R i (l.getD q 0)
def hitV (m:List (List Rat)) (R:Bx) (l:List Nat):Mx:=fun i k=>if hitC R l i=true∧hitT l i=false then (if i=k then 1 else 0)-at2 m i k else (if i=k then 1 else 0)
def hTo (m:List (List Rat)) (R:Bx) (l:List Nat) (i x:Nat):List FV:=(List.range x).map fun k=>fr (hitV m R l i k)
def hRw (m:List (List Rat)) (R:Bx) (l:List Nat) (i:Nat):List Rat:=(List.range m.length).map (hitV m R l i)
def hB (l:List Nat) (i:Nat):Rat:=if hitT l i=true then 1 else 0
section
variable {m : List (List Rat)} {R : Bx} {l : List Nat} {i x : Nat}
theorem hTo_zero:hTo m R l i 0=[]:=rfl
theorem hTo_len:(hTo m R l i x).length=x:=by simp [hTo]
theorem hTo_next:hTo m R l i x++[fr (hitV m R l i x)]=hTo m R l i (x+1):=by simp [hTo,List.range_succ]
end
attribute [go_sem] hTo_zero
def hitL (m:List (List Rat)) (l:List Nat):List Rat:=solR ((List.range m.length).map (hRw m (wsh (edg m) m.length) l)) ((List.range m.length).map (hB l))
set_option maxRecDepth 100000 in
set_option maxHeartbeats 8000000 in
theorem hits_w {b:Nat} {ys:List FV} {m:List (List Rat)} {l:List Nat} (hm0:FrM b ys m) (h1:1≤b) (hb:b≤10000) (hmx:m.length≤140737488355328) (h0:chkM m=0) (hl6:l.length≤1000) (hlm:∀s∈l,s<m.length) (hris:risB m.length (l.map Int.ofNat)=true) :
  Good Tryz.prog 26 [.fz 1 ys,.fz 1 (Ns l)] (.tup [frs (hitL m l),I 0]):=by
 have hc:=check_w hm0 h1 (by omega) hmx
 rw [h0] at hc
 obtain ⟨hm,hn1,hch⟩:=chk_sq hm0 h0
 have hr:=reach_w hm h1 (by omega) hn1
 have hn6:=hm.le
 have hst:=states_w (ys:=ys) (n:=m.length) (l.map Int.ofNat) hm0.len (by omega) (fun z hz=>by
  obtain ⟨a,ha,rfl⟩:=List.mem_map.1 hz
  have:=hlm a ha
  show -9223372036854775808≤((a:Nat):Int)∧((a:Nat):Int)≤9223372036854775807
  omega) (by rw [List.length_map];omega)
 have eNs:ints (l.map Int.ofNat)=.fz 1 (Ns l):=by unfold Ns;simp [ints]
 rw [hris,eNs] at hst
 obtain ⟨n,hn⟩:∃n,n=m.length:=⟨_,rfl⟩
 have hyl:ys.length=n:=hm0.len.trans hn.symm
 unfold hitL
 rw [←hn] at hn1 hn6 hlm hr ⊢
 obtain ⟨R,hR⟩:∃R,R=wsh (edg m) n:=⟨_,rfl⟩
 rw [←hR] at hr ⊢
 have hz1:List.replicate n (AV.f nilV)=(fillL n 0 (fun i=>frs (hRw m R l i)) nilV).map .f:=by rw [fill_zero,List.map_replicate]
 have hz2:∀z,List.replicate n (AV.f z)=(fillL n 0 (fun i=>fr (hB l i)) z).map .f:=fun z=>by rw [fill_zero,List.map_replicate]
 obtain ⟨rv,hrv⟩:∃rv,rv=reachV n R:=⟨_,rfl⟩
 rw [←hrv] at hr
 have hrs:rv.st=true:=by rw [hrv];rfl
 have hrc:rv.cells=[rv]:=by rw [hrv];rfl
 refine good_of Tryz.func26 rfl (by kernel_rfl) fun X hO hrd=>?_;rw [Tryz.ntmps26,Tryz.results26];simp only [ast0,List.map_cons,List.map_nil,List.length_cons,List.length_nil,Nat.reduceAdd,Nat.reduceSub,List.replicate_succ,List.replicate_zero,List.cons_append,List.nil_append]
 repeat (with_reducible first|refine W_seq fun K hK=>?_|refine J_region ?_|(refine Kont.go (by assumption) ?_)|(simp (config:={ maxSteps:=3000000 }) (disch:=omega) only [go_sem]))
 refine call_f hc rfl ?_
 repeat (with_reducible first|refine W_seq fun K hK=>?_|refine J_skip ?_|refine J_region ?_|refine J_c ?_|refine Jc_false ?_|(refine Kont.go (by assumption) ?_)|(simp (config:={ maxSteps:=3000000 }) (disch:=omega) only [go_sem]))
 refine call_f hst rfl ?_
 repeat (with_reducible first|refine W_seq fun K hK=>?_|refine J_skip ?_|refine J_region ?_|refine J_c ?_|refine Jc_false ?_|(refine Kont.go (by assumption) ?_)|(simp (config:={ maxSteps:=3000000 }) (disch:=omega) only [go_sem]))
 refine call_f hr rfl ?_
 repeat (with_reducible first|refine W_seq fun K hK=>?_|refine J_orders (id:=7) [2,5] (.one 0 (.one 1 (.one 3 (.one 4 (.br (.alt 2 (.one 6 (.one 5 (.one 7 .leaf))) (.alt 5 (.one 2 (.one 6 (.one 7 .leaf))) .fin))))))) mixed (by kernel_rfl) ?_|(refine Kont.go (by assumption) ?_)|(simp (config:={ maxSteps:=3000000 }) (disch:=omega) only [go_sem,Nat.reduceEqDiff,↓reduceIte,Nat.reduceAdd,hyl,hz1,hz2,hrs,hrc,Nat.le_refl,true_and,and_true,and_self]))
 refine (fun h:_∧_=>⟨⟨by omega,by omega,h.1⟩,by omega,by omega,h.2⟩) (kont_two (by assumption) (weak_ren [0,2,1] ⟨by decide,by first|decide|(simp;done)⟩ ?_ ?_) ?_)
 ·simp (disch:=omega) only [go_sem,Nat.reduceAdd]
 ·simp (disch:=omega) only [go_sem,Nat.reduceAdd]
 obtain ⟨zf,hzf⟩:∃zf:FV,zf=.agg [.v (.bool false),.v (.string ⟨#[]⟩),.v (.string ⟨#[]⟩)]:=⟨_,rfl⟩
 rw [←hzf]
 repeat (with_reducible first|refine W_seq fun K hK=>?_|refine J_block ?_|refine J_region ?_|(refine Kont.go (by assumption) ?_)|(simp (config:={ maxSteps:=3000000 }) (disch:=omega) only [go_sem,hyl,true_and]))
 refine W_loop [10,11,12,13,14,15,35,36,37,38,39,40,41,42,43,44,45,46,47,48,49,50,51,52,53,54,55,56,57,58,59,60,61,62,63,64,65,66,67,68,69,70,71,72,73,74,75,76,77,78,79,80,81,82,83,84] (fun x:Nat=>[(35,.f (I x))]) (fun x:Nat=>[some ⟨35,1,[.f rv]⟩,some ⟨23,1,(fillL n x (fun i=>frs (hRw m R l i)) nilV).map .f⟩,some ⟨44,3,(fillL n x (fun i=>fr (hB l i)) zf).map .f⟩]) (fun x:Nat=>x≤n) (fun x:Nat=>n-x) (0) (Nat.zero_le _) (by refine weak_of ?_ ?_<;>simp (disch:=omega) only [go_sem,Nat.reduceAdd]<;>first|rfl|exact ⟨rfl,rfl⟩|exact Or.inl rfl|exact ⟨Or.inl rfl,Or.inl rfl⟩|trivial|assumption|omega|(symm;assumption)|((repeat' apply And.intro)<;>first|rfl|omega|trivial|exact .inr ⟨rfl,rfl⟩|exact .inr rfl|(right;symm;assumption)|(symm;assumption)|assumption)) ?_
 rintro i hi
 simp only [go_sem]
 repeat (with_reducible first|refine W_seq fun K hK=>?_|refine J_region ?_|refine J_c ?_|(refine Kont.go (by assumption) ?_)|(simp (config:={ maxSteps:=3000000 }) (disch:=omega) only [go_sem]))
 refine Jc_if (fun hil=>?_) (fun hil=>?_)<;>try simp only [decide_eq_true_eq,decide_eq_false_iff_not] at hil
 ·have hct:=containsI_w (l:=l) (k:=i) hl6 (by omega) (fun s hs=>by have:=hlm s hs;omega)
  repeat (with_reducible first|refine W_seq fun K hK=>?_|refine J_block ?_|refine J_skip ?_|refine J_region ?_|(refine Kont.go (by assumption) ?_)|(simp (config:={ maxSteps:=3000000 }) (disch:=omega) only [go_sem,↓reduceIte,Nat.reduceAdd,true_and,and_self]))
  refine call_f hct rfl ?_
  have hcf:=containsFuncI_w (l:=l) (g:=110) (a:=[]) (b:=[.fp rv 0,.fp (I i) 0]) (p:=fun q=>R i (l.getD q 0)) hl6 (fun q hq=>by
   rw [hrv]
   exact can_w (n:=n) (by omega) hil (by rw [lget_lt l 0 hq];exact hlm _ (List.getElem_mem _)))
  repeat (with_reducible first|refine W_seq fun K hK=>?_|refine J_region ?_|(refine Kont.go (by assumption) ?_)|(simp (config:={ maxSteps:=3000000 }) (disch:=omega) only [go_sem]))
  refine call_fl hcf (.v _) (FrzL.cons (.f _) (FrzL.cons (Frz.fn _ _ _ _ _ rfl (fun j c d h=>by simp at h) rfl fun j cc d h h'=>?_) (FrzL.nil _))) ?_
  ·cases j with
   | zero=>cases h;cases h';exact Frz.ptr0 rfl rfl
   | succ j =>
    cases j with
    | zero=>cases h;cases h';exact Frz.ptr0 rfl rfl
    | succ j=>simp at h
  obtain ⟨th,hth⟩:∃th,th=hitT l i:=⟨_,rfl⟩
  obtain ⟨cn,hcn⟩:∃cn,cn=hitC R l i:=⟨_,rfl⟩
  have hth':decide (i∈l)=th:=hth.symm
  have hcn':((List.range l.length).any fun q=>R i (l.getD q 0))=cn:=hcn.symm
  rw [hth',hcn']
  have hone:=chone_w th
  repeat (with_reducible first|refine W_seq fun K hK=>?_|refine J_drawn mixed (by kernel_rfl) ?_|(refine Kont.go (by assumption) ?_)|(simp (config:={ maxSteps:=3000000 }) (disch:=omega) only [go_sem,↓reduceIte,true_and,and_self]))
  refine callQ_f hone rfl ?_
  obtain ⟨c,hc⟩:∃c:Int,c=if th=true then 1 else 0:=⟨_,rfl⟩
  have hc1:0≤c∧c≤1:=by rw [hc];split<;>omega
  rw [←hc]
  have ec:fr ((c:Int):Rat)=fr (hB l i):=by
   congr 1
   rw [hc]
   unfold hB
   rw [←hth]
   cases th<;>rfl
  have hfs:=fillA_set (n:=n) (k:=i) (f:=fun i=>fr (hB l i)) (z:=zf) hil rfl
  have hfg:((fillL n i (fun i=>fr (hB l i)) zf).map AV.f)[i]?=some (.f zf):=by rw [fillA_get hil,if_neg (by omega)]
  have hf2:(fillL n i (fun i=>fr (hB l i)) zf).length=n:=fill_len
  have hmi:i<m.length:=by omega
  obtain ⟨xs,hx,hxs⟩:=hm.fr.at hmi
  have hrl:=hm.sq _ (List.getElem_mem hmi)
  have hxl:xs.length=n:=by rw [hxs.len,hrl,hn]
  repeat (first|(with_reducible first|refine W_seq fun K hK=>?_|refine J_block ?_|refine J_region ?_|(refine Kont.go (by assumption) ?_)|(simp (config:={ maxSteps:=3000000 }) (disch:=omega) only [go_sem,↓reduceIte,Nat.reduceAdd,ec,hfs,hfg,hx,hxl,true_and]))|refine callQ_f (of_good (by omega) (by omega)) rfl ?_|refine And.intro (by omega) ?_)
  refine J_reserve ?_
  rw [fillA_z hil]
  refine W_loop [13,14,15,55,56,57,58,59,60,61,62,63,64,65,66,67,68,69,70,71,72,73,74,75,76,77,78,79,80,81,82,83] (fun x:Nat=>[(42,.any),(55,.f (I x))]) (fun x:Nat=>[some ⟨35,1,[.f rv]⟩,some ⟨23,1,((fillL n i (fun i=>frs (hRw m R l i)) nilV).map .f).set i (sl 4 3 (hTo m R l i x))⟩,some ⟨44,3,(fillL n (i+1) (fun i=>fr (hB l i)) zf).map .f⟩,some ⟨3,1,[.f (I i)]⟩,ob 44 3 (hTo m R l i x)]) (fun x:Nat=>x≤n) (fun x:Nat=>n-x) (0) (Nat.zero_le _) (by refine weak_of ?_ ?_<;>simp (disch:=omega) only [go_sem,Nat.reduceAdd]<;>first|rfl|exact ⟨rfl,rfl⟩|exact Or.inl rfl|exact ⟨Or.inl rfl,Or.inl rfl⟩|trivial|assumption|omega|(symm;assumption)|((repeat' apply And.intro)<;>first|rfl|omega|trivial|exact .inr ⟨rfl,rfl⟩|exact .inr rfl|(right;symm;assumption)|(symm;assumption)|assumption)) ?_
  rintro x hx'
  simp only [go_sem]
  repeat (with_reducible first|refine W_seq fun K hK=>?_|refine J_region ?_|refine J_c ?_|(refine Kont.go (by assumption) ?_)|(simp (config:={ maxSteps:=3000000 }) (disch:=omega) only [go_sem]))
  refine Jc_if (fun hxn=>?_) (fun hxn=>?_)<;>try simp only [decide_eq_true_eq,decide_eq_false_iff_not] at hxn
  ·obtain ⟨gg,nn,dd,z1,z2⟩:=hxs.at3 (i:=x) (by omega)
   have eat:(m[i]'(by omega))[x]'(by omega)=at2 m i x:=(hm.e2 (by omega) (by omega)).symm
   rw [eat] at z2
   have hfl:(fillL n i (fun i=>frs (hRw m R l i)) nilV).length=n:=fill_len
   have hgt:∀y,(((fillL n i (fun i=>frs (hRw m R l i)) nilV).map AV.f).set i y)[i]?=some y:=fun y=>List.getElem?_set_self (by rw [List.length_map,hfl];exact hil)
   have hnx:=hTo_next (m:=m) (R:=R) (l:=l) (i:=i) (x:=x)
   have hbl:=hTo_len (m:=m) (R:=R) (l:=l) (i:=i) (x:=x)
   have hne1:hTo m R l i (x+1)≠[]:=fun e=>by have:=congrArg List.length e;rw [hTo_len] at this;simp at this
   have hsl1:sl 8 3 (hTo m R l i (x+1))=.own 8 3 0 (x+1):=by rw [sl_pos hne1,hTo_len]
   have hob1:ob 44 3 (hTo m R l i (x+1))=some ⟨44,3,(hTo m R l i (x+1)).map .f⟩:=ob_pos hne1
   have htk:((hTo m R l i x).map AV.f).take x++[AV.f (fr (hitV m R l i x))]=(hTo m R l i (x+1)).map AV.f:=by rw [List.take_of_length_le (by rw [List.length_map,hbl];omega),←hnx,List.map_append];rfl
   have hq1:(hTo m R l i (0+1)).map AV.f=[AV.f (fr (hitV m R l i 0))]:=rfl
   have hone2:=chone_w (decide (i=x))
   obtain ⟨c2,hc2⟩:∃c:Int,c=if decide (i=x)=true then 1 else 0:=⟨_,rfl⟩
   have hc21:0≤c2∧c2≤1:=by rw [hc2];split<;>omega
   rw [←hc2] at hone2
   have ec3:((c2:Int):Rat)=if i=x then 1 else 0:=by
    rw [hc2]
    by_cases e:i=x
    ·rw [if_pos e,if_pos (by simpa using e)];rfl
    ·rw [if_neg e,if_neg (by simpa using e)];rfl
   repeat (with_reducible first|refine W_seq fun K hK=>?_|refine J_block ?_|refine J_skip ?_|refine J_region ?_|(refine Kont.go (by assumption) ?_)|(simp (config:={ maxSteps:=3000000 }) (disch:=omega) only [go_sem,↓reduceIte,Nat.reduceAdd,z1,Int.natCast_inj,true_and,and_self]))
   refine call_f hone2 rfl ?_
   have r2:IsFr (fr ((c2:Int):Rat)) ((c2:Int):Rat) 8:=IsFr.int (by omega) (by omega)
   have hv0:¬(cn=true∧th=false)→fr ((c2:Int):Rat)=fr (hitV m R l i x):=fun h=>by
    congr 1;rw [ec3];unfold hitV;rw [←hcn,←hth];exact (if_neg h).symm
   have hv1:cn=true→th=false→fr (((c2:Int):Rat)-at2 m i x)=fr (hitV m R l i x):=fun a b=>by
    congr 1;rw [ec3];unfold hitV;rw [←hcn,←hth];exact (if_pos (And.intro a b)).symm
   clear hone hct hcf
   cases cn with
   | false =>
    have hv:=hv0 (by simp)
    by_cases hx0:x=0
    ·subst hx0
     repeat (first|(with_reducible first|refine W_seq fun K hK=>?_|refine J_skip ?_|refine J_region ?_|refine J_orders (id:=20) [8] (.one 0 (.one 2 (.one 3 (.one 4 (.one 5 (.one 6 (.br (.alt 1 (.one 7 (.one 8 (.one 9 (.one 10 .leaf)))) (.alt 7 (.br (.alt 1 (.one 8 (.one 9 (.one 10 .leaf))) (.alt 8 (.one 1 (.one 9 (.one 10 .leaf))) .fin))) .fin))))))))) mixed (by kernel_rfl) ?_ |refine J_c ?_|refine Jc_false ?_|(refine Kont.go (by assumption) ?_)|(simp (config:={ maxSteps:=3000000 }) (disch:=omega) only [go_sem,Nat.reduceEqDiff,↓reduceIte,Nat.reduceAdd,Nat.reduceLeDiff,Int.reduceAdd,hgt,hTo_zero,sl_nil,ob_nil,List.set_set,hv,Nat.reduceMul,Nat.le_refl,true_and,and_true,and_self]))|refine call_f (of_good (by omega) (by omega)) rfl ?_|refine And.intro (by omega) ?_)
     refine ⟨0+1,by omega,by omega,weak_ren [0,1,2,3,8] ⟨by decide,by first|decide|(simp;done)⟩ ?_ ?_⟩<;>(try simp (disch:=omega) only [go_sem,Nat.reduceAdd,hsl1,hob1,hq1])<;>(try first|done|omega|rfl|exact ⟨rfl,rfl⟩|trivial)
    ·have hne:hTo m R l i x≠[]:=fun e=>by rw [e] at hbl;simp at hbl;omega
     have hsl:sl 4 3 (hTo m R l i x)=.own 4 3 0 x:=by rw [sl_pos hne,hbl]
     have hob:ob 44 3 (hTo m R l i x)=some ⟨44,3,(hTo m R l i x).map .f⟩:=ob_pos hne
     repeat (first|(with_reducible first|refine W_seq fun K hK=>?_|refine J_skip ?_|refine J_region ?_|refine J_orders (id:=20) [8] (.one 0 (.one 2 (.one 3 (.one 4 (.one 5 (.one 6 (.br (.alt 1 (.one 7 (.one 8 (.one 9 (.one 10 .leaf)))) (.alt 7 (.br (.alt 1 (.one 8 (.one 9 (.one 10 .leaf))) (.alt 8 (.one 1 (.one 9 (.one 10 .leaf))) .fin))) .fin))))))))) mixed (by kernel_rfl) ?_ |refine J_c ?_|refine Jc_false ?_|(refine Kont.go (by assumption) ?_)|(simp (config:={ maxSteps:=3000000 }) (disch:=omega) only [go_sem,Nat.reduceEqDiff,↓reduceIte,Nat.reduceAdd,Nat.reduceLeDiff,hgt,hsl,hob,hbl,List.set_set,htk,hv,Nat.reduceMul,Nat.le_refl,true_and,and_true,and_self]))|refine call_f (of_good (by omega) (by omega)) rfl ?_|refine And.intro (by omega) ?_)
     refine ⟨x+1,by omega,by omega,weak_ren [0,1,2,3,8] ⟨by decide,by first|decide|(simp;done)⟩ ?_ ?_⟩<;>(try simp (disch:=omega) only [go_sem,Nat.reduceAdd,hsl1,hob1])<;>(try first|done|omega|rfl|exact ⟨rfl,rfl⟩|trivial)
   | true =>
    cases th with
    | true =>
     have hv:=hv0 (by simp)
     by_cases hx0:x=0
     ·subst hx0
      repeat (first|(with_reducible first|refine W_seq fun K hK=>?_|refine J_skip ?_|refine J_region ?_|refine J_orders (id:=20) [8] (.one 0 (.one 2 (.one 3 (.one 4 (.one 5 (.one 6 (.br (.alt 1 (.one 7 (.one 8 (.one 9 (.one 10 .leaf)))) (.alt 7 (.br (.alt 1 (.one 8 (.one 9 (.one 10 .leaf))) (.alt 8 (.one 1 (.one 9 (.one 10 .leaf))) .fin))) .fin))))))))) mixed (by kernel_rfl) ?_ |refine J_c ?_|refine Jc_false ?_|(refine Kont.go (by assumption) ?_)|(simp (config:={ maxSteps:=3000000 }) (disch:=omega) only [go_sem,Nat.reduceEqDiff,↓reduceIte,Nat.reduceAdd,Nat.reduceLeDiff,Int.reduceAdd,hgt,hTo_zero,sl_nil,ob_nil,List.set_set,hv,Nat.reduceMul,Nat.le_refl,true_and,and_true,and_self]))|refine call_f (of_good (by omega) (by omega)) rfl ?_|refine And.intro (by omega) ?_)
      refine ⟨0+1,by omega,by omega,weak_ren [0,1,2,3,8] ⟨by decide,by first|decide|(simp;done)⟩ ?_ ?_⟩<;>(try simp (disch:=omega) only [go_sem,Nat.reduceAdd,hsl1,hob1,hq1])<;>(try first|done|omega|rfl|exact ⟨rfl,rfl⟩|trivial)
     ·have hne:hTo m R l i x≠[]:=fun e=>by rw [e] at hbl;simp at hbl;omega
      have hsl:sl 4 3 (hTo m R l i x)=.own 4 3 0 x:=by rw [sl_pos hne,hbl]
      have hob:ob 44 3 (hTo m R l i x)=some ⟨44,3,(hTo m R l i x).map .f⟩:=ob_pos hne
      repeat (first|(with_reducible first|refine W_seq fun K hK=>?_|refine J_skip ?_|refine J_region ?_|refine J_orders (id:=20) [8] (.one 0 (.one 2 (.one 3 (.one 4 (.one 5 (.one 6 (.br (.alt 1 (.one 7 (.one 8 (.one 9 (.one 10 .leaf)))) (.alt 7 (.br (.alt 1 (.one 8 (.one 9 (.one 10 .leaf))) (.alt 8 (.one 1 (.one 9 (.one 10 .leaf))) .fin))) .fin))))))))) mixed (by kernel_rfl) ?_ |refine J_c ?_|refine Jc_false ?_|(refine Kont.go (by assumption) ?_)|(simp (config:={ maxSteps:=3000000 }) (disch:=omega) only [go_sem,Nat.reduceEqDiff,↓reduceIte,Nat.reduceAdd,Nat.reduceLeDiff,hgt,hsl,hob,hbl,List.set_set,htk,hv,Nat.reduceMul,Nat.le_refl,true_and,and_true,and_self]))|refine call_f (of_good (by omega) (by omega)) rfl ?_|refine And.intro (by omega) ?_)
      refine ⟨x+1,by omega,by omega,weak_ren [0,1,2,3,8] ⟨by decide,by first|decide|(simp;done)⟩ ?_ ?_⟩<;>(try simp (disch:=omega) only [go_sem,Nat.reduceAdd,hsl1,hob1])<;>(try first|done|omega|rfl|exact ⟨rfl,rfl⟩|trivial)
    | false =>
     have hv:=hv1 rfl rfl
     by_cases hx0:x=0
     ·subst hx0
      repeat (first|(with_reducible first|refine W_seq fun K hK=>?_|refine J_region ?_|refine J_orders (id:=20) [8] (.one 0 (.one 2 (.one 3 (.one 4 (.one 5 (.one 6 (.br (.alt 1 (.one 7 (.one 8 (.one 9 (.one 10 .leaf)))) (.alt 7 (.br (.alt 1 (.one 8 (.one 9 (.one 10 .leaf))) (.alt 8 (.one 1 (.one 9 (.one 10 .leaf))) .fin))) .fin))))))))) mixed (by kernel_rfl) ?_ |refine J_c ?_|refine Jc_true ?_|(refine Kont.go (by assumption) ?_)|(simp (config:={ maxSteps:=3000000 }) (disch:=omega) only [go_sem,Nat.reduceEqDiff,↓reduceIte,Nat.reduceAdd,Nat.reduceLeDiff,Int.reduceAdd,hgt,hTo_zero,sl_nil,ob_nil,List.set_set,hv,Nat.reduceMul,Nat.le_refl,true_and,and_true,and_self]))|refine call_f (of_good (by omega) (by omega)) rfl ?_|refine call_f (sub_w (by assumption) (by assumption) (by omega) (by omega)) rfl ?_|refine And.intro (by omega) ?_)
      refine ⟨0+1,by omega,by omega,weak_ren [0,1,2,3,8] ⟨by decide,by first|decide|(simp;done)⟩ ?_ ?_⟩<;>(try simp (disch:=omega) only [go_sem,Nat.reduceAdd,hsl1,hob1,hq1])<;>(try first|done|omega|rfl|exact ⟨rfl,rfl⟩|trivial)
     ·have hne:hTo m R l i x≠[]:=fun e=>by rw [e] at hbl;simp at hbl;omega
      have hsl:sl 4 3 (hTo m R l i x)=.own 4 3 0 x:=by rw [sl_pos hne,hbl]
      have hob:ob 44 3 (hTo m R l i x)=some ⟨44,3,(hTo m R l i x).map .f⟩:=ob_pos hne
      repeat (first|(with_reducible first|refine W_seq fun K hK=>?_|refine J_region ?_|refine J_orders (id:=20) [8] (.one 0 (.one 2 (.one 3 (.one 4 (.one 5 (.one 6 (.br (.alt 1 (.one 7 (.one 8 (.one 9 (.one 10 .leaf)))) (.alt 7 (.br (.alt 1 (.one 8 (.one 9 (.one 10 .leaf))) (.alt 8 (.one 1 (.one 9 (.one 10 .leaf))) .fin))) .fin))))))))) mixed (by kernel_rfl) ?_ |refine J_c ?_|refine Jc_true ?_|(refine Kont.go (by assumption) ?_)|(simp (config:={ maxSteps:=3000000 }) (disch:=omega) only [go_sem,Nat.reduceEqDiff,↓reduceIte,Nat.reduceAdd,Nat.reduceLeDiff,hgt,hsl,hob,hbl,List.set_set,htk,hv,Nat.reduceMul,Nat.le_refl,true_and,and_true,and_self]))|refine call_f (of_good (by omega) (by omega)) rfl ?_|refine call_f (sub_w (by assumption) (by assumption) (by omega) (by omega)) rfl ?_|refine And.intro (by omega) ?_)
      refine ⟨x+1,by omega,by omega,weak_ren [0,1,2,3,8] ⟨by decide,by first|decide|(simp;done)⟩ ?_ ?_⟩<;>(try simp (disch:=omega) only [go_sem,Nat.reduceAdd,hsl1,hob1])<;>(try first|done|omega|rfl|exact ⟨rfl,rfl⟩|trivial)
  ·have he:x=n:=by omega
   subst he
   have hbl:=hTo_len (m:=m) (R:=R) (l:=l) (i:=i) (x:=x)
   have hne:hTo m R l i x≠[]:=fun e=>by rw [e] at hbl;simp at hbl;omega
   have hsl:sl 4 3 (hTo m R l i x)=.own 4 3 0 x:=by rw [sl_pos hne,hbl]
   have hob:ob 44 3 (hTo m R l i x)=some ⟨44,3,(hTo m R l i x).map .f⟩:=ob_pos hne
   have hset:=fillA_set (n:=x) (f:=fun i=>frs (hRw m R l i)) (z:=nilV) hil rfl
   have hrw:FV.fz 3 (hTo m R l i x)=frs (hRw m R l i):=by unfold hTo hRw;show FV.fz 3 _=FV.fz 3 (((List.range m.length).map (hitV m R l i)).map fr);rw [List.map_map,←hn];rfl
   rw [hsl,hob]
   refine J_freezeA (r:=4) (sz:=3) (l:=hTo m R l i x) rfl ?_
   repeat (with_reducible first|refine J_exit ?_|refine J_region ?_|(refine Kont.go (by assumption) ?_)|(simp (config:={ maxSteps:=3000000 }) (disch:=omega) only [go_sem,Nat.reduceEqDiff,↓reduceIte,hbl,and_self,hrw,hset]))
   refine ⟨i+1,by omega,by omega,weak_of ?_ ?_⟩<;>(try simp (disch:=omega) only [go_sem,Nat.reduceAdd])<;>(try first|done|omega|rfl|exact ⟨rfl,rfl⟩|trivial)
 ·have he:i=n:=by omega
  subst he
  have hA:fillL i i (fun i=>frs (hRw m R l i)) nilV=((List.range i).map (hRw m R l)).map frs:=by rw [fill_all,List.map_map];rfl
  have hB':fillL i i (fun i=>fr (hB l i)) zf=((List.range i).map (hB l)).map fr:=by rw [fill_all,List.map_map];rfl
  rw [hA,hB']
  refine J_freezeO (j:=9) rfl (by simp) rfl ?_
  repeat (with_reducible first|refine W_seq fun K hK=>?_|refine J_exit ?_|refine J_region ?_|(refine Kont.go (by assumption) ?_)|(simp (config:={ maxSteps:=3000000 }) (disch:=omega) only [go_sem,Nat.reduceEqDiff,↓reduceIte]))
  have hone:Fz (1:Rat) (b+9):=(Fz.int (n:=1) (by decide)).up (by omega)
  have hzero:Fz (0:Rat) (b+9):=(Fz.int (n:=0) (by decide)).up (by omega)
  have hd:∀a k:Nat,Fz (if a=k then (1:Rat) else 0) (b+9):=fun a k=>by split;exact hone;exact hzero
  have hW:∀a k,a<i→k<i→Fz (hitV m R l a k) (b+9):=fun a k ha hk=>by
   unfold hitV
   split
   ·refine Fz.up (Fz.sub (j:=8) (k:=b) ?_ (hm.f2 h1 (by omega) (by omega))) (by omega)
    split
    ·exact Fz.int (n:=1) (by decide)
    ·exact Fz.int (n:=0) (by decide)
   ·exact hd a k
  have hAl:((List.range i).map (hRw m R l)).length=i:=by simp
  have hs:=solve_w (A:=(List.range i).map (hRw m R l)) (b:=(List.range i).map (hB l)) (s:=b+9) (by omega) (by omega) (fun r hr=>by
    obtain ⟨a,_,rfl⟩:=List.mem_map.1 hr
    simp [hRw,hn]) (by simp) (fun r hr=>by
    obtain ⟨a,ha,rfl⟩:=List.mem_map.1 hr
    intro z hz
    obtain ⟨k,hk,rfl⟩:=List.mem_map.1 hz
    exact hW a k (List.mem_range.1 ha) (by rw [hn];exact List.mem_range.1 hk)) (fun z hz=>by
    obtain ⟨a,_,rfl⟩:=List.mem_map.1 hz
    unfold hB
    split
    ·exact hone
    ·exact hzero) (by omega) (by omega)
  rw [hAl] at hs
  refine call_m (q:=1) hs rfl rfl (fun z hz=>?_) ?_
  ·rcases List.mem_cons.1 hz with rfl|hz
   ·rfl
   ·cases List.mem_singleton.1 hz;rfl
  repeat (with_reducible first|refine J_ret ?_|(refine Kont.go (by assumption) ?_)|(simp (config:={ maxSteps:=3000000 }) (disch:=omega) only [go_sem]))
  exact ⟨_,rfl,FrzL.fs [_,_]⟩
end Go.Proofs.YtcgagiimlkjcpaaGreatDoor
set_option linter.unusedVariables false
set_option linter.unusedSimpArgs false
namespace Go.Proofs.YtcgagiimlkjcpaaGreatDoor
open Go Go.RowKit
section
variable {m : List (List Rat)} {l : List Nat} {n : Nat}
theorem hitC_can (hl:∀t∈l,t<n):CanTo n (at2 m) (hitT l) (hitC (wsh (edg m) n) l):=fun i hi=>by
 unfold hitC
 rw [List.any_eq_true]
 constructor
 ·rintro ⟨q,hq,h⟩
  have hq:=List.mem_range.1 hq
  have hm:l.getD q 0∈l:=by rw [lget_lt l 0 hq];exact List.getElem_mem _
  exact ⟨_,hl _ hm,decide_eq_true hm,(wsh_iff hi (hl _ hm)).1 h⟩
 ·rintro ⟨t,ht,hS,hst⟩
  obtain ⟨q,hq,e⟩:=List.getElem_of_mem (of_decide_eq_true hS)
  refine ⟨q,List.mem_range.2 hq,?_⟩
  rw [lget_lt l 0 hq,e]
  exact (wsh_iff hi ht).2 hst
theorem hitAug (hn:n=m.length) {i k:Nat} (hi:i<n) (hk:k≤n):augM ((List.range m.length).map (hRw m (wsh (edg m) m.length) l)) ((List.range m.length).map (hB l)) i k=hitM n (at2 m) (hitT l) (hitC (wsh (edg m) n) l) i k:=by
 subst hn
 have hlen:((List.range m.length).map (hRw m (wsh (edg m) m.length) l)).length=m.length:=by simp
 unfold augM hitM
 rw [hlen]
 by_cases e:k=m.length
 ·rw [if_pos e,if_pos e]
  have:((List.range m.length).map (hB l))[i]?=some (hB l i):=by simp [hi]
  rw [List.getD_eq_getElem?_getD,this];rfl
 ·rw [if_neg e,if_neg e]
  have hk':k<m.length:=by omega
  have e1:((List.range m.length).map (hRw m (wsh (edg m) m.length) l))[i]?=some (hRw m (wsh (edg m) m.length) l i):=by simp [hi]
  have e2:(hRw m (wsh (edg m) m.length) l i)[k]?=some (hitV m (wsh (edg m) m.length) l i k):=by simp [hRw,hk']
  have e3:at2 ((List.range m.length).map (hRw m (wsh (edg m) m.length) l)) i k=hitV m (wsh (edg m) m.length) l i k:=by
   unfold at2
   rw [List.getD_eq_getElem?_getD (l:=(List.range m.length).map (hRw m (wsh (edg m) m.length) l)),e1]
   show (hRw m (wsh (edg m) m.length) l i).getD k 0=_
   rw [List.getD_eq_getElem?_getD,e2];rfl
  rw [e3];rfl
theorem hitL_spec (hs:Sto n (at2 m)) (hn:n=m.length) (hl:∀t∈l,t<n):∃h:Nat→Rat,hitL m l=(List.range n).map h∧Hit n (at2 m) (hitT l) (hitC (wsh (edg m) n) l) h:=by
 have hC:=hitC_can (m:=m) hl
 obtain ⟨M,hM⟩:∃M,M=augM ((List.range m.length).map (hRw m (wsh (edg m) m.length) l)) ((List.range m.length).map (hB l)):=⟨_,rfl⟩
 have ent:∀i k,i<n→k≤n→M i k=hitM n (at2 m) (hitT l) (hitC (wsh (edg m) n) l) i k:=fun i k hi hk=>hM▸hitAug hn hi hk
 have hom:∀y,Hom n M y→Hom n (hitM n (at2 m) (hitT l) (hitC (wsh (edg m) n) l)) y:=fun y hy i hi=>by
  rw [←hy i hi];exact sumF_congr fun k hk=>by rw [ent i k hi (by omega)]
 obtain ⟨M',hM'⟩:=gs_some (M:=M) fun y hy=>hit_hom hs hC (hom y hy)
 have hsol0:Sol n M (fun i=>M' i n):=(gs_sol hM').2 fun i _=>rfl
 have hsol:Sol n (hitM n (at2 m) (hitT l) (hitC (wsh (edg m) n) l)) (fun i=>M' i n):=fun i hi=>by
  have:=hsol0 i hi
  rw [←ent i n hi (Nat.le_refl _),←this]
  exact sumF_congr fun k hk=>by rw [ent i k hi (by omega)]
 obtain ⟨M2,hM2,hh⟩:=hit_gs hs hC
 have hsame:∀i,i<n→M' i n=M2 i n:=fun i hi=>(gs_sol hM2).1 hsol i hi
 refine ⟨fun i=>M2 i n,?_,hh⟩
 unfold hitL solR
 have hlen:((List.range m.length).map (hRw m (wsh (edg m) m.length) l)).length=n:=by simp [hn]
 rw [hlen,←hM,hM']
 exact List.map_congr_left fun i hi=>hsame i (List.mem_range.1 hi)
end
end Go.Proofs.YtcgagiimlkjcpaaGreatDoor
set_option linter.unusedVariables false
set_option linter.unusedSimpArgs false
namespace Go.Proofs.YtcgagiimlkjcpaaGreatDoor
open Go Go.RowKit
def comK (a b:List Nat) (x:Nat):List Nat:=(a.take x).filter fun k=>decide (k∈b)
theorem comK_yes {a b:List Nat} {x:Nat} (h:x<a.length) (hb:a.getD x 0∈b):Ns (comK a b x)++[I (a.getD x 0:Nat)]=Ns (comK a b (x+1)):=by
 rw [lget_lt a 0 h] at hb ⊢
 unfold comK
 rw [List.take_add_one,List.getElem?_eq_getElem h,List.filter_append,Ns_snoc]
 congr 2
 simp [hb]
theorem comK_no {a b:List Nat} {x:Nat} (h:x<a.length) (hb:a.getD x 0∉b):Ns (comK a b x)=Ns (comK a b (x+1)):=by
 rw [lget_lt a 0 h] at hb
 unfold comK
 rw [List.take_add_one,List.getElem?_eq_getElem h,List.filter_append]
 congr 1
 simp [hb]
theorem comK_len {a b:List Nat} {x:Nat}:(comK a b x).length≤x:=by
 unfold comK
 exact Nat.le_trans (List.length_filter_le _ _) (by simp;omega)
theorem comK_zero {a b:List Nat}:Ns (comK a b 0)=[]:=by simp [comK,Ns]
attribute [go_sem] comK_zero
set_option maxRecDepth 100000 in
set_option maxHeartbeats 4000000 in
theorem common_w {a b:List Nat} (ha:a.length≤1000) (hb:b.length≤1000) (ham:∀s∈a,s≤1000):Good Tryz.prog 114 [.fz 1 (Ns a),.fz 1 (Ns b)] (.fz 1 (Ns (comK a b a.length))):=by
 refine good_of Tryz.func114 rfl (by kernel_rfl) fun X hO hrd=>?_;rw [Tryz.ntmps114,Tryz.results114];simp only [ast0,List.map_cons,List.map_nil,List.length_cons,List.length_nil,Nat.reduceAdd,Nat.reduceSub,List.replicate_succ,List.replicate_zero,List.cons_append,List.nil_append]
 repeat (with_reducible first|refine W_seq fun K hK=>?_|refine J_block ?_|refine J_region ?_ |(refine Kont.go (by assumption) ?_)|(simp (config:={ maxSteps:=3000000 }) (disch:=omega) only [go_sem]))
 refine J_reserve ?_
 refine W_loop [5,6,7,8,9,10,11,12,13,14,15,16,17,18,19,20,21,22,23,24,25,26,27] (fun x:Nat=>[(5,sl 0 1 (Ns (comK a b x))),(6,.f (I x))]) (fun x:Nat=>[ob 3 1 (Ns (comK a b x))]) (fun x:Nat=>x≤a.length) (fun x:Nat=>a.length-x) (0) (Nat.zero_le _) (by refine weak_of ?_ ?_<;>simp (disch:=omega) only [go_sem]<;>first|rfl|exact ⟨rfl,rfl⟩|exact Or.inl rfl|exact ⟨Or.inl rfl,Or.inl rfl⟩|trivial|assumption|omega|(symm;assumption)|((repeat' apply And.intro)<;>first|rfl|omega|trivial|exact .inr ⟨rfl,rfl⟩|exact .inr rfl|(right;symm;assumption)|(symm;assumption)|assumption)) ?_
 rintro i hi
 simp only [go_sem]
 repeat (with_reducible first|refine W_seq fun K hK=>?_|refine J_region ?_ |refine J_c ?_|(refine Kont.go (by assumption) ?_)|(simp (config:={ maxSteps:=3000000 }) (disch:=omega) only [go_sem,Ns_len]))
 refine Jc_if (fun hil=>?_) (fun hil=>?_)<;>try simp only [decide_eq_true_eq,decide_eq_false_iff_not] at hil
 ·have g1:=Ns_get hil
  have hle:a.getD i 0≤1000:=by rw [lget_lt a 0 hil];exact ham _ (List.getElem_mem _)
  have hin:=rinN_w (a.getD i 0) b (by omega) (by omega)
  have hcl:=comK_len (a:=a) (b:=b) (x:=i)
  by_cases hm:a.getD i 0∈b
  ·have hnx:=comK_yes hil hm
   rw [decide_eq_true hm] at hin
   repeat (with_reducible first|refine W_seq fun K hK=>?_|refine J_block ?_|refine J_skip ?_|refine J_region ?_ |(refine Kont.go (by assumption) ?_)|(simp (config:={ maxSteps:=3000000 }) (disch:=omega) only [go_sem,↓reduceIte,g1]))
   refine call_f hin rfl ?_
   repeat (first|(with_reducible first|refine W_seq fun K hK=>?_|refine J_region ?_ |refine aApp_sl ?_|refine J_c ?_|refine Jc_true ?_|(refine Kont.go (by assumption) ?_)|(simp (config:={ maxSteps:=3000000 }) (disch:=omega) only [go_sem,Nat.reduceEqDiff,↓reduceIte,Nat.reduceLeDiff,Ns_len,g1,hnx]))|refine And.intro (by omega) ?_)
   refine ⟨i+1,by omega,by omega,weak_of ?_ ?_⟩<;>(try simp (disch:=omega) only [go_sem])<;>(try first|done|omega|rfl|exact ⟨rfl,rfl⟩|trivial)
  ·have hnx:=comK_no hil hm
   rw [decide_eq_false hm] at hin
   repeat (with_reducible first|refine W_seq fun K hK=>?_|refine J_block ?_|refine J_skip ?_|refine J_region ?_ |(refine Kont.go (by assumption) ?_)|(simp (config:={ maxSteps:=3000000 }) (disch:=omega) only [go_sem,↓reduceIte,g1]))
   refine call_f hin rfl ?_
   repeat (with_reducible first|refine W_seq fun K hK=>?_|refine J_skip ?_|refine J_region ?_ |refine J_c ?_|refine Jc_false ?_|(refine Kont.go (by assumption) ?_)|(simp (config:={ maxSteps:=3000000 }) (disch:=omega) only [go_sem]))
   rw [hnx]
   refine ⟨i+1,by omega,by omega,weak_of ?_ ?_⟩<;>(try simp (disch:=omega) only [go_sem])<;>(try first|done|omega|rfl|exact ⟨rfl,rfl⟩|trivial)
 ·have he:i=a.length:=by omega
  subst he
  repeat (with_reducible first|refine W_seq fun K hK=>?_|refine J_exit ?_|refine J_ret ?_|refine J_region ?_ |(refine Kont.go (by assumption) ?_)|(simp (config:={ maxSteps:=3000000 }) (disch:=omega) only [go_sem,↓reduceIte]))
  exact Frz.sl rfl
def cwL (A:List (List Rat)) (v:List Rat) (k x:Nat):List FV:=(List.range x).map fun i=>frs ((A.getD i []).set k (v.getD i 0))
def slTo (n:Nat) (A:Mx) (b:Nat→Rat) (x:Nat):List FV:=(List.range x).map fun k=>fr (dsl n A b k)
section
variable {A : List (List Rat)} {v : List Rat} {n k x : Nat} {B : Mx} {w : Nat → Rat}
theorem cwL_zero:cwL A v k 0=[]:=rfl
theorem cwL_len:(cwL A v k x).length=x:=by simp [cwL]
theorem cwL_next:cwL A v k x++[frs ((A.getD x []).set k (v.getD x 0))]=cwL A v k (x+1):=by simp [cwL,List.range_succ]
theorem slTo_zero:slTo n B w 0=[]:=rfl
theorem slTo_len:(slTo n B w x).length=x:=by simp [slTo]
theorem slTo_next:slTo n B w x++[fr (dsl n B w x)]=slTo n B w (x+1):=by simp [slTo,List.range_succ]
attribute [go_sem] cwL_zero slTo_zero
def cwM (A:List (List Rat)) (v:List Rat) (k:Nat):List (List Rat):=(List.range A.length).map fun i=>(A.getD i []).set k (v.getD i 0)
theorem cwM_at {i:Nat} (hA:A.length=n) (hr:∀r∈A,r.length=n) (hk:k<n):EqM n (at2 (cwM A v k)) (cset (at2 A) k (fun i=>v.getD i 0)):=fun i j hi hj=>by
 have e1:(cwM A v k)[i]?=some ((A.getD i []).set k (v.getD i 0)):=by simp [cwM,hA,hi]
 unfold at2 cset
 rw [List.getD_eq_getElem?_getD (l:=cwM A v k),e1]
 show ((A.getD i []).set k (v.getD i 0)).getD j 0=_
 rw [List.getD_eq_getElem?_getD]
 by_cases e:j=k
 ·subst e
  rw [List.getElem?_set_self (by rw [lget_lt A [] (by omega),hr _ (List.getElem_mem _)];exact hj),if_pos rfl];rfl
 ·rw [List.getElem?_set_ne (Ne.symm e),if_neg e,←List.getD_eq_getElem?_getD]
set_option maxRecDepth 100000 in
set_option maxHeartbeats 8000000 in
theorem solved_w {s:Nat} {A:List (List Rat)} {v:List Rat} {n:Nat} (h1:1≤s) (hs:s≤10000) (hA:A.length=n) (hr:∀r∈A,r.length=n) (hv:v.length=n) (hn:n≤6) (hz:∀r∈A,Row s r) (hvz:Row s v) (hd:det n (at2 A)≠0) :
  Good Tryz.prog 117 [.fz 1 (A.map frs),.fz 3 (v.map fr)] (.fz 3 (slTo n (at2 A) (fun i=>v.getD i 0) n)):=by
 have hdet:=det_w h1 hs (FrM.c hz) hA hr hn
 have hyl:(A.map frs).length=n:=by rw [List.length_map,hA]
 have hag:∀i,i<n→(A.map frs)[i]?=some (frs (A.getD i [])):=fun i hi=>by rw [map_get frs A (by omega),lget_lt A [] (by omega)]
 have hvg:∀i,i<n→(v.map fr)[i]?=some (fr (v.getD i 0)):=fun i hi=>by rw [map_get fr v (by omega),lget_lt v 0 (by omega)]
 have hrl:∀i,i<n→(A.getD i []).length=n:=fun i hi=>by rw [lget_lt A [] (by omega)];exact hr _ (List.getElem_mem _)
 have ha2:∀i k,i<n→k<n→Fz (at2 A i k) s:=fun i k hi hk=>by
  have hm:=List.getElem_mem (l:=A) (n:=i) (by omega)
  unfold at2
  rw [lget_lt A [] (by omega),lget_lt _ 0 (by rw [hr _ hm];exact hk)]
  exact (hz _ hm).get _
 have hvf:∀i,i<n→Fz (v.getD i 0) s:=fun i hi=>by rw [lget_lt v 0 (by omega)];exact hvz.get _
 have hszd:=szD_le hs n hn
 have hdz:Fz (det n (at2 A)) (szD s n):=det_fz ha2
 have fd:=IsFr.c hdz
 obtain ⟨D,hD⟩:∃D,D=det n (at2 A):=⟨_,rfl⟩
 obtain ⟨Sz,hSz⟩:∃Sz,Sz=szD s n:=⟨_,rfl⟩
 have hcz:∀k,k<n→Fz (det n (cset (at2 A) k (fun i=>v.getD i 0))) Sz:=fun k hk=>by
  rw [hSz]
  exact det_fz fun i j hi hj=>by
   unfold cset
   split
   ·exact hvf i hi
   ·exact ha2 i j hi hj
 rw [←hSz] at fd hszd
 rw [←hD] at hdet fd hd
 refine good_of Tryz.func117 rfl (by kernel_rfl) fun X hO hrd=>?_;rw [Tryz.ntmps117,Tryz.results117];simp only [ast0,List.map_cons,List.map_nil,List.length_cons,List.length_nil,Nat.reduceAdd,Nat.reduceSub,List.replicate_succ,List.replicate_zero,List.cons_append,List.nil_append]
 repeat (with_reducible first|refine W_seq fun K hK=>?_|refine J_region ?_ |(refine Kont.go (by assumption) ?_)|(simp (config:={ maxSteps:=3000000 }) (disch:=omega) only [go_sem]))
 refine call_f hdet rfl ?_
 repeat (with_reducible first|refine W_seq fun K hK=>?_|refine J_block ?_|refine J_region ?_ |(refine Kont.go (by assumption) ?_)|(simp (config:={ maxSteps:=3000000 }) (disch:=omega) only [go_sem,↓reduceIte,Nat.reduceAdd]))
 refine J_reserve ?_
 refine W_loop [6,7,8,9,10,11,14,15,16,17,18,19,20,21,22,23,24,25,26,27,28,29,30,31,32,33,34,35,36,37,38,39,40,41,42,43,44,45,46,47,48,49,50,51,52,53,54] (fun x:Nat=>[(6,sl 1 3 (slTo n (at2 A) (fun i=>v.getD i 0) x)),(7,.f (I x))]) (fun x:Nat=>[oF (fr D),ob 44 3 (slTo n (at2 A) (fun i=>v.getD i 0) x)]) (fun x:Nat=>x≤n) (fun x:Nat=>n-x) (0) (Nat.zero_le _) (by refine weak_of ?_ ?_<;>simp (disch:=omega) only [go_sem,Nat.reduceAdd]<;>first|rfl|exact ⟨rfl,rfl⟩|exact Or.inl rfl|exact ⟨Or.inl rfl,Or.inl rfl⟩|trivial|assumption|omega|(symm;assumption)|((repeat' apply And.intro)<;>first|rfl|omega|trivial|exact .inr ⟨rfl,rfl⟩|exact .inr rfl|(right;symm;assumption)|(symm;assumption)|assumption)) ?_
 rintro k hk
 simp only [go_sem]
 repeat (with_reducible first|refine W_seq fun K hK=>?_|refine J_region ?_ |refine J_c ?_|(refine Kont.go (by assumption) ?_)|(simp (config:={ maxSteps:=3000000 }) (disch:=omega) only [go_sem,hyl]))
 refine Jc_if (fun hkl=>?_) (fun hkl=>?_)<;>try simp only [decide_eq_true_eq,decide_eq_false_iff_not] at hkl
 ·have hnx:=slTo_next (n:=n) (B:=at2 A) (w:=fun i=>v.getD i 0) (x:=k)
  have hlt:=slTo_len (n:=n) (B:=at2 A) (w:=fun i=>v.getD i 0) (x:=k)
  have hcl:(cwM A v k).length=n:=by simp [cwM,hA]
  have hcr:∀r∈cwM A v k,r.length=n:=fun r hm=>by
   obtain ⟨i,hi,rfl⟩:=List.mem_map.1 hm
   rw [List.length_set,hrl i (by have:=List.mem_range.1 hi;omega)]
  have hcf:∀r∈cwM A v k,Row s r:=fun r hm=>by
   obtain ⟨i,hi,rfl⟩:=List.mem_map.1 hm
   have hi:i<n:=by have:=List.mem_range.1 hi;omega
   intro q hq
   rcases List.mem_or_eq_of_mem_set hq with hq|rfl
   ·rw [lget_lt A [] (by omega)] at hq;exact hz _ (List.getElem_mem _) q hq
   ·exact hvf i hi
  have hdc:=det_w h1 hs (FrM.c hcf) hcl hcr hn
  rw [det_congr (cwM_at (i:=0) hA hr hkl)] at hdc
  have hcm:(cwM A v k).map frs=cwL A v k n:=by unfold cwM cwL;rw [List.map_map,hA];rfl
  rw [hcm] at hdc
  have f1:=IsFr.c (hcz k hkl)
  have f2:=IsFr.c (Fz.div (hcz k hkl) (show Fz D Sz by rw [hD,hSz];exact hdz))
  have ev:fr (det n (cset (at2 A) k fun i=>v.getD i 0)/D)=fr (dsl n (at2 A) (fun i=>v.getD i 0) k):=by rw [hD];rfl
  rw [←ev] at hnx
  repeat (with_reducible first|refine W_seq fun K hK=>?_|refine J_block ?_|refine J_skip ?_|refine J_region ?_ |(refine Kont.go (by assumption) ?_)|(simp (config:={ maxSteps:=3000000 }) (disch:=omega) only [go_sem]))
  refine J_reserve ?_
  refine W_loop [8,9,10,20,21,22,23,24,25,26,27,28,29,30,31,32,33,34,35,36,37,38,39,40,41,42] (fun x:Nat=>[(8,sl 2 1 (cwL A v k x)),(9,.f (I x))]) (fun x:Nat=>[oF (fr D),ob 44 3 (slTo n (at2 A) (fun i=>v.getD i 0) k),ob 23 1 (cwL A v k x)]) (fun x:Nat=>x≤n) (fun x:Nat=>n-x) (0) (Nat.zero_le _) (by refine weak_of ?_ ?_<;>simp (disch:=omega) only [go_sem,Nat.reduceAdd]<;>first|rfl|exact ⟨rfl,rfl⟩|exact Or.inl rfl|exact ⟨Or.inl rfl,Or.inl rfl⟩|trivial|assumption|omega|(symm;assumption)|((repeat' apply And.intro)<;>first|rfl|omega|trivial|exact .inr ⟨rfl,rfl⟩|exact .inr rfl|(right;symm;assumption)|(symm;assumption)|assumption)) ?_
  rintro i hi
  simp only [go_sem]
  repeat (with_reducible first|refine W_seq fun K hK=>?_|refine J_region ?_ |refine J_c ?_|(refine Kont.go (by assumption) ?_)|(simp (config:={ maxSteps:=3000000 }) (disch:=omega) only [go_sem,hyl]))
  refine Jc_if (fun hil=>?_) (fun hil=>?_)<;>try simp only [decide_eq_true_eq,decide_eq_false_iff_not] at hil
  ·have g1:=hag i hil
   have g2:=hvg i hil
   have hrli:=hrl i hil
   have hcx:=cwL_next (A:=A) (v:=v) (k:=k) (x:=i)
   have hcn:=cwL_len (A:=A) (v:=v) (k:=k) (x:=i)
   have hst:List.set (((A.getD i []).map fr).map AV.f) k (.f (fr (v.getD i 0)))=(((A.getD i []).set k (v.getD i 0)).map fr).map .f:=by rw [←List.map_set,←List.map_set]
   have hsl2:((A.getD i []).set k (v.getD i 0)).length=n:=by rw [List.length_set,hrli]
   have hgk:(List.map AV.f (List.map fr (A.getD i [])))[k]?=some (.f (fr ((A.getD i []).getD k 0))):=by
    rw [List.getElem?_map,map_get fr (A.getD i []) (by omega),lget_lt (A.getD i []) 0 (by omega)];rfl
   repeat (first|(with_reducible first|refine W_seq fun K hK=>?_|refine J_block ?_|refine J_skip ?_|((fail_if_success refine J_region (id:=12) ?_);refine J_region ?_) |refine aApp_old ?_|(refine Kont.go (by assumption) ?_)|(simp (config:={ maxSteps:=3000000 }) (disch:=omega) only [go_sem,↓reduceIte,Nat.reduceAdd,Nat.reduceLeDiff,g1,g2,hrli,List.length_map,hst,hgk,Nat.reduceMul,true_and,and_self]))|refine And.intro (by omega) ?_)
   refine J_freezeO (j:=10) rfl (by rw [List.length_map,hsl2]) rfl ?_
   repeat (first|(with_reducible first|refine J_region ?_ |refine aApp_sl ?_|(refine Kont.go (by assumption) ?_)|(simp (config:={ maxSteps:=3000000 }) (disch:=omega) only [go_sem,Nat.reduceEqDiff,↓reduceIte,Nat.reduceAdd,Nat.reduceLeDiff,hcx,hcn]))|refine And.intro (by omega) ?_)
   refine ⟨i+1,by omega,by omega,weak_of ?_ ?_⟩<;>(try simp (disch:=omega) only [go_sem,Nat.reduceAdd])<;>(try first|done|omega|rfl|exact ⟨rfl,rfl⟩|trivial)
  ·have he:i=n:=by omega
   subst he
   refine J_freeze (j:=8) rfl rfl ?_
   repeat (with_reducible first|refine W_seq fun K hK=>?_|refine J_exit ?_|refine J_region ?_ |(refine Kont.go (by assumption) ?_)|(simp (config:={ maxSteps:=3000000 }) (disch:=omega) only [go_sem,Nat.reduceEqDiff,↓reduceIte]))
   refine call_f hdc rfl ?_
   repeat (first|(with_reducible first|refine W_seq fun K hK=>?_|refine J_region ?_ |refine aApp_sl ?_|(refine Kont.go (by assumption) ?_)|(simp (config:={ maxSteps:=3000000 }) (disch:=omega) only [go_sem,Nat.reduceEqDiff,↓reduceIte,Nat.reduceAdd,Nat.reduceLeDiff,hnx,hlt]))|refine call_f (rdiv_w (by assumption) (by assumption) (by omega) (by omega) (by assumption)) rfl ?_|refine And.intro (by omega) ?_)
   refine ⟨k+1,by omega,by omega,weak_of ?_ ?_⟩<;>(try simp (disch:=omega) only [go_sem,Nat.reduceAdd])<;>(try first|done|omega|rfl|exact ⟨rfl,rfl⟩|trivial)
 ·have he:k=n:=by omega
  subst he
  repeat (with_reducible first|refine W_seq fun K hK=>?_|refine J_exit ?_|refine J_ret ?_|refine J_region ?_ |(refine Kont.go (by assumption) ?_)|(simp (config:={ maxSteps:=3000000 }) (disch:=omega) only [go_sem,↓reduceIte]))
  exact Frz.sl rfl
end
def smR (m:List (List Rat)) (S:List Nat) (i:Nat):List Rat:=(List.range S.length).map (smA m S i)
def smL (m:List (List Rat)) (S:List Nat):List (List Rat):=(List.range S.length).map (smR m S)
def smT (m:List (List Rat)) (S:List Nat) (i x:Nat):List FV:=(List.range x).map fun k=>fr (smA m S i k)
def smF (m:List (List Rat)) (S:List Nat) (x:Nat):List FV:=(List.range x).map fun i=>frs (smR m S i)
section
variable {m : List (List Rat)} {S : List Nat} {i x : Nat}
theorem smT_zero:smT m S i 0=[]:=rfl
theorem smT_len:(smT m S i x).length=x:=by simp [smT]
theorem smT_next:smT m S i x++[fr (smA m S i x)]=smT m S i (x+1):=by simp [smT,List.range_succ]
theorem smT_all:FV.fz 3 (smT m S i S.length)=frs (smR m S i):=by
 unfold smT smR
 show FV.fz 3 _=FV.fz 3 (((List.range S.length).map _).map fr)
 rw [List.map_map];rfl
theorem smF_zero:smF m S 0=[]:=rfl
theorem smF_len:(smF m S x).length=x:=by simp [smF]
theorem smF_next:smF m S x++[frs (smR m S x)]=smF m S (x+1):=by simp [smF,List.range_succ]
theorem smL_len:(smL m S).length=S.length:=by simp [smL]
theorem smL_row:∀r∈smL m S,r.length=S.length:=fun r hr=>by
 obtain ⟨i,_,rfl⟩:=List.mem_map.1 hr
 simp [smR]
theorem smL_all:(smL m S).map frs=smF m S S.length:=by unfold smL smF;rw [List.map_map];rfl
theorem smL_at:EqM S.length (at2 (smL m S)) (smA m S):=fun i k hi hk=>by
 have e1:(smL m S)[i]?=some (smR m S i):=by simp [smL,hi]
 unfold at2
 rw [List.getD_eq_getElem?_getD (l:=smL m S),e1]
 show (smR m S i).getD k 0=_
 simp [smR,List.getD,hk]
theorem smA_fz {b:Nat} {ys:List FV} (hm:SqM b ys m) (h1:1≤b) (hS:∀s∈S,s<m.length) {i k:Nat} (hi:i<S.length) (hk:k<S.length):Fz (smA m S i k) (b+9):=by
 unfold smA
 refine Fz.up (Fz.sub (j:=8) (k:=b) ?_ (hm.f2 h1 (hS _ (getD_mem hi)) (hS _ (getD_mem hk)))) (by omega)
 split
 ·exact Fz.int (n:=1) (by decide)
 ·exact Fz.int (n:=0) (by decide)
theorem smL_fz {b:Nat} {ys:List FV} (hm:SqM b ys m) (h1:1≤b) (hS:∀s∈S,s<m.length):∀r∈smL m S,Row (b+9) r:=fun r hr=>by
 obtain ⟨i,hi,rfl⟩:=List.mem_map.1 hr
 intro q hq
 obtain ⟨k,hk,rfl⟩:=List.mem_map.1 hq
 exact smA_fz hm h1 hS (List.mem_range.1 hi) (List.mem_range.1 hk)
theorem dsl_congr {n:Nat} {A B:Mx} {u v:Nat→Rat} {k:Nat} (h:EqM n A B) (huv:∀i,i<n→u i=v i):dsl n A u k=dsl n B v k:=by
 unfold dsl
 rw [det_congr h,det_congr (A:=cset A k u) (B:=cset B k v) fun i j hi hj=>by
  unfold cset
  split
  ·exact huv i hi
  ·exact h i j hi hj]
attribute [go_sem] smT_zero smF_zero
end
end Go.Proofs.YtcgagiimlkjcpaaGreatDoor
