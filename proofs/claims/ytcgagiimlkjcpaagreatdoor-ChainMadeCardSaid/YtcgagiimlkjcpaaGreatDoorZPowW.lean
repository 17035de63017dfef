/- Powers of a chain: walked. Conditions: numbers of 1000 bytes each. -/
import Derived.Test.YtcgagiimlkjcpaaGreatDoorZB14
set_option linter.unusedVariables false
set_option linter.unusedSimpArgs false
namespace Go.Proofs.YtcgagiimlkjcpaaGreatDoor
open Go Go.RowKit
set_option maxRecDepth 100000 in
theorem chone_w (b:Bool):Good Tryz.prog 96 [Bo b] (I (if b=true then 1 else 0)):=by
 cases b with
 | true =>
  refine good_of Tryz.func96 rfl (by kernel_rfl) fun X hO hrd=>?_;rw [Tryz.ntmps96,Tryz.results96];simp only [ast0,List.map_cons,List.map_nil,List.length_cons,List.length_nil,Nat.reduceAdd,Nat.reduceSub,List.replicate_succ,List.replicate_zero,List.cons_append,List.nil_append]
  repeat (with_reducible first|refine W_seq fun K hK=>?_|refine J_ret ?_|refine J_region ?_ |refine J_c ?_|refine Jc_true ?_|exact Frz.f _|(refine Kont.go (by assumption) ?_)|(simp (config:={ maxSteps:=3000000 }) (disch:=omega) only [go_sem,↓reduceIte]))
 | false =>
  refine good_of Tryz.func96 rfl (by kernel_rfl) fun X hO hrd=>?_;rw [Tryz.ntmps96,Tryz.results96];simp only [ast0,List.map_cons,List.map_nil,List.length_cons,List.length_nil,Nat.reduceAdd,Nat.reduceSub,List.replicate_succ,List.replicate_zero,List.cons_append,List.nil_append]
  repeat (with_reducible first|refine W_seq fun K hK=>?_|refine J_skip ?_|refine J_ret ?_|refine J_region ?_ |refine J_c ?_|refine Jc_false ?_|exact Frz.f _|(refine Kont.go (by assumption) ?_)|(simp (config:={ maxSteps:=3000000 }) (disch:=omega) only [go_sem,↓reduceIte]))
section
variable {a b n : Nat} {xs ys : List FV} {A B : List (List Rat)}
def prR (A B:List (List Rat)) (x:Nat):List (List Rat):=(A.take x).map fun r=>tmR r B
theorem prR_all:prR A B A.length=A.map fun r=>tmR r B:=by unfold prR;rw [List.take_length]
set_option maxRecDepth 100000 in
theorem product_w (hA:FrM a xs A) (hB:SqM b ys B) (hl:∀r∈A,r.length=B.length) (hn:A.length≤6) (h1:1≤a) (h2:1≤b) (ha:a≤1000000000) (hb:b≤1000000000):Good Tryz.prog 97 [.fz 1 xs,.fz 1 ys] (rowsF (A.map fun r=>tmR r B)):=by
 refine good_of Tryz.func97 rfl (by kernel_rfl) fun X hO hrd=>?_;rw [Tryz.ntmps97,Tryz.results97];simp only [ast0,List.map_cons,List.map_nil,List.length_cons,List.length_nil,Nat.reduceAdd,Nat.reduceSub,List.replicate_succ,List.replicate_zero,List.cons_append,List.nil_append]
 repeat (with_reducible first|refine W_seq fun K hK=>?_|refine J_block ?_|refine J_region ?_ |(refine Kont.go (by assumption) ?_)|(simp (config:={ maxSteps:=3000000 }) (disch:=omega) only [go_sem,hA.len]))
 refine J_reserve ?_
 refine W_loop [5,7,10,11,12,13,14,15,16,17,18,19,20] (fun x:Nat=>[(10,.f (I x)),(5,sl 0 1 ((prR A B x).map frs))]) (fun x:Nat=>[ob 23 1 ((prR A B x).map frs)]) (fun x:Nat=>x≤A.length) (fun x:Nat=>A.length-x) (0) (Nat.zero_le _) (by refine weak_of ?_ ?_<;>simp (disch:=omega) only [go_sem]<;>first|rfl|exact ⟨rfl,rfl⟩|exact Or.inl rfl|exact ⟨Or.inl rfl,Or.inl rfl⟩|trivial|assumption|omega|(symm;assumption)|((repeat' apply And.intro)<;>first|rfl|omega|trivial|exact .inr ⟨rfl,rfl⟩|exact .inr rfl|(right;symm;assumption)|(symm;assumption)|assumption)) ?_
 rintro i hi
 simp only [go_sem]
 repeat (with_reducible first|refine W_seq fun K hK=>?_|refine J_region ?_ |refine J_c ?_|(refine Kont.go (by assumption) ?_)|(simp (config:={ maxSteps:=3000000 }) (disch:=omega) only [go_sem]))
 refine Jc_if (fun hlt=>?_) (fun hlt=>?_)<;>try simp only [decide_eq_true_eq,decide_eq_false_iff_not] at hlt
 ·obtain ⟨zs,hx,hzs⟩:=hA.at hlt
  have hll:((prR A B i).map frs).length=i:=by simp [prR];omega
  have hnx:(prR A B i).map frs++[frs (tmR A[i] B)]=(prR A B (i+1)).map frs:=by
   unfold prR
   rw [List.take_add_one,List.getElem?_eq_getElem hlt,List.map_append,List.map_append]
   rfl
  repeat (with_reducible first|refine W_seq fun K hK=>?_|refine J_block ?_|refine J_skip ?_|refine J_region ?_ |(refine Kont.go (by assumption) ?_)|(simp (config:={ maxSteps:=3000000 }) (disch:=omega) only [go_sem,↓reduceIte,hx]))
  refine call_f (times_w hzs hB h1 h2 ha hb (hl _ (List.getElem_mem _))) rfl ?_
  repeat (first|(with_reducible first|refine J_region ?_ |refine aApp_sl ?_|(refine Kont.go (by assumption) ?_)|(simp (config:={ maxSteps:=3000000 }) (disch:=omega) only [go_sem,Nat.reduceEqDiff,↓reduceIte,Nat.reduceLeDiff,hnx,hll]))|refine And.intro (by omega) ?_)
  refine ⟨i+1,by omega,by omega,weak_of ?_ ?_⟩<;>(try simp (disch:=omega) only [go_sem])<;>(try first|done|omega|rfl|exact ⟨rfl,rfl⟩|trivial)
 ·have he:i=A.length:=by omega
  subst he
  repeat (with_reducible first|refine W_seq fun K hK=>?_|refine J_exit ?_|refine J_ret ?_|refine J_region ?_ |(refine Kont.go (by assumption) ?_)|(simp (config:={ maxSteps:=3000000 }) (disch:=omega) only [go_sem,↓reduceIte,prR_all]))
  exact Frz.sl rfl
theorem pr_mul (hA:∀r∈A,r.length=n) (hlA:A.length=n) (hlB:B.length=n):(A.map fun r=>tmR r B)=mxL n (mulM n (at2 A) (at2 B)):=by
 apply List.ext_getElem?
 intro i
 by_cases hi:i<n
 ·have hiA:i<A.length:=by omega
  rw [mxL_get hi,List.getElem?_map,List.getElem?_eq_getElem hiA]
  show some (tmR A[i] B)=_
  congr 1
  unfold tmR
  rw [hlB]
  refine List.map_congr_left fun k hk=>?_
  rw [hA _ (List.getElem_mem hiA)]
  show _=sumF (fun j=>at2 A i j*at2 B j k) n
  refine sumF_congr fun j _=>?_
  congr 1
  unfold at2
  rw [lget_lt A [] hiA]
 ·rw [List.getElem?_eq_none (by simp;omega),List.getElem?_eq_none (by rw [mxL_len];omega)]
end
def szP (k:Nat):Nat→Nat
 | 0=>k+8
 | j+1=>12*szP k j+14
theorem szP_le {k j:Nat} (hk:k≤1000) (hj:j≤5):szP k j≤260000000:=by
 have mono:∀j,szP k j≤szP 1000 j:=by
  intro j
  induction j with
  | zero=>show k+8≤1008;omega
  | succ j ih=>show 12*szP k j+14≤12*szP 1000 j+14;omega
 have h:=mono j
 have h5:∀j,j≤5→szP 1000 j≤260000000:=by decide
 exact Nat.le_trans h (h5 j hj)
theorem szP_ge (k j:Nat):k+8≤szP k j:=by
 induction j with
 | zero=>exact Nat.le_refl _
 | succ j ih=>show _≤12*szP k j+14;omega
def pwR (m:List (List Rat)) (k:Int):List (List Rat):=if chkM m=0∧0≤k∧k≤16 then mxL m.length (powM m.length (at2 m) k.toNat) else []
def pwE (m:List (List Rat)) (k:Int):Int:=if chkM m≠0 then chkM m else if k<0∨16<k then 2 else 0
structure PwI where
  j : Nat
  k : Nat
  d : Nat
  h : Nat
  hv : List FV
  hm : List (List Rat)
structure PwOk (s n k0 : Nat) (A : Mx) (x : PwI) : Prop where
  j5 : x.j ≤ 5
  kl : x.k < 2 ^ (5 - x.j)
  hk : x.d + x.k * x.h = k0
  sq : SqM (szP s x.j) x.hv x.hm
  ln : x.hm.length = n
  eq : EqM n (at2 x.hm) (powM n A x.h)
  dz : ∀ i k, i < n → k < n → Fz (powM n A x.d i k) (szP s x.j)
def idTo (i x:Nat):List FV:=(List.range x).map fun k=>fr (idM i k)
theorem idTo_zero {i:Nat}:idTo i 0=[]:=rfl
attribute [go_sem] idTo_zero
theorem idTo_len {i x:Nat}:(idTo i x).length=x:=by simp [idTo]
theorem idTo_next {i x:Nat}:idTo i x++[fr (idM i x)]=idTo i (x+1):=by simp [idTo,List.range_succ]
theorem fillA_z {n k:Nat} {f:Nat→FV} {z:FV} (h:k<n):(fillL n k f z).map AV.f=((fillL n k f z).map AV.f).set k (.f z):=by
 rw [←List.map_set]
 congr 1
 apply List.ext_getElem?
 intro j
 by_cases e:j=k
 ·subst e
  rw [List.getElem?_set_self (by rw [fill_len];exact h),fill_get h,if_neg (by omega)]
 ·rw [List.getElem?_set_ne (Ne.symm e)]
set_option maxRecDepth 100000 in
set_option maxHeartbeats 8000000 in
theorem power_w {b:Nat} {ys:List FV} {m:List (List Rat)} (hm:FrM b ys m) (h1:1≤b) (hb:b≤1000) (hmx:m.length≤140737488355328) (k:Int) (k1:-9223372036854775808≤k) (k2:k≤9223372036854775807):Good Tryz.prog 18 [.fz 1 ys,I k] (.tup [rowsF (pwR m k),I (pwE m k)]):=by
 have hc:=check_w hm h1 (by omega) hmx
 by_cases h0:chkM m=0
 case neg =>
  rw [show pwR m k=[] by unfold pwR;rw [if_neg fun h=>h0 h.1],show pwE m k=chkM m by unfold pwE;rw [if_pos h0]]
  refine good_of Tryz.func18 rfl (by kernel_rfl) fun X hO hrd=>?_;rw [Tryz.ntmps18,Tryz.results18];simp only [ast0,List.map_cons,List.map_nil,List.length_cons,List.length_nil,Nat.reduceAdd,Nat.reduceSub,List.replicate_succ,List.replicate_zero,List.cons_append,List.nil_append]
  repeat (with_reducible first|refine W_seq fun K hK=>?_|refine J_region ?_|(refine Kont.go (by assumption) ?_)|(simp (config:={ maxSteps:=3000000 }) (disch:=omega) only [go_sem]))
  refine call_f hc rfl ?_
  repeat (with_reducible first|refine W_seq fun K hK=>?_|refine J_ret ?_|refine J_region ?_|refine J_c ?_|refine Jc_true ?_|(refine Kont.go (by assumption) ?_)|(simp (config:={ maxSteps:=3000000 }) (disch:=omega) only [go_sem,h0]))
  exact ⟨_,rfl,FrzL.cons (.nil _) (FrzL.cons (.f _) (FrzL.nil _))⟩
 rw [h0] at hc
 by_cases c1:k<0
 ·rw [show pwR m k=[] by unfold pwR;rw [if_neg fun h=>by omega],show pwE m k=2 by unfold pwE;rw [if_neg (by omega),if_pos (.inl c1)]]
  refine good_of Tryz.func18 rfl (by kernel_rfl) fun X hO hrd=>?_;rw [Tryz.ntmps18,Tryz.results18];simp only [ast0,List.map_cons,List.map_nil,List.length_cons,List.length_nil,Nat.reduceAdd,Nat.reduceSub,List.replicate_succ,List.replicate_zero,List.cons_append,List.nil_append]
  repeat (with_reducible first|refine W_seq fun K hK=>?_|refine J_region ?_|(refine Kont.go (by assumption) ?_)|(simp (config:={ maxSteps:=3000000 }) (disch:=omega) only [go_sem]))
  refine call_f hc rfl ?_
  repeat (with_reducible first|refine W_seq fun K hK=>?_|refine J_skip ?_|refine J_ret ?_|refine J_region ?_|refine J_c ?_|refine Jc_true ?_|refine Jc_false ?_|(refine Kont.go (by assumption) ?_)|(simp (config:={ maxSteps:=3000000 }) (disch:=omega) only [go_sem,c1]))
  exact ⟨_,rfl,FrzL.cons (.nil _) (FrzL.cons (.f _) (FrzL.nil _))⟩
 by_cases c2:16<k
 ·rw [show pwR m k=[] by unfold pwR;rw [if_neg fun h=>by omega],show pwE m k=2 by unfold pwE;rw [if_neg (by omega),if_pos (.inr c2)]]
  refine good_of Tryz.func18 rfl (by kernel_rfl) fun X hO hrd=>?_;rw [Tryz.ntmps18,Tryz.results18];simp only [ast0,List.map_cons,List.map_nil,List.length_cons,List.length_nil,Nat.reduceAdd,Nat.reduceSub,List.replicate_succ,List.replicate_zero,List.cons_append,List.nil_append]
  repeat (with_reducible first|refine W_seq fun K hK=>?_|refine J_region ?_|(refine Kont.go (by assumption) ?_)|(simp (config:={ maxSteps:=3000000 }) (disch:=omega) only [go_sem]))
  refine call_f hc rfl ?_
  repeat (with_reducible first|refine W_seq fun K hK=>?_|refine J_skip ?_|refine J_ret ?_|refine J_region ?_|refine J_c ?_|refine Jc_true ?_|refine Jc_false ?_|(refine Kont.go (by assumption) ?_)|(simp (config:={ maxSteps:=3000000 }) (disch:=omega) only [go_sem,c1,c2]))
  exact ⟨_,rfl,FrzL.cons (.nil _) (FrzL.cons (.f _) (FrzL.nil _))⟩
 obtain ⟨k0,rfl⟩:∃k0:Nat,k=(k0:Int):=⟨k.toNat,by omega⟩
 obtain ⟨hsq,hn1,hch⟩:=chk_sq hm h0
 obtain ⟨n,hn⟩:∃n,n=m.length:=⟨_,rfl⟩
 have hn6:=hsq.le
 have eR:pwR m (k0:Int)=mxL n (powM n (at2 m) k0):=by unfold pwR;rw [if_pos ⟨h0,by omega,by omega⟩,hn];rfl
 have eE:pwE m (k0:Int)=0:=by unfold pwE;rw [if_neg (by omega),if_neg (by omega)]
 rw [eR,eE]
 have hrep:List.replicate n (AV.f nilV)=(fillL n 0 (fun i=>frs ((List.range n).map (idM i))) nilV).map .f:=by rw [fill_zero,List.map_replicate]
 refine good_of Tryz.func18 rfl (by kernel_rfl) fun X hO hrd=>?_;rw [Tryz.ntmps18,Tryz.results18];simp only [ast0,List.map_cons,List.map_nil,List.length_cons,List.length_nil,Nat.reduceAdd,Nat.reduceSub,List.replicate_succ,List.replicate_zero,List.cons_append,List.nil_append]
 repeat (with_reducible first|refine W_seq fun K hK=>?_|refine J_region ?_|(refine Kont.go (by assumption) ?_)|(simp (config:={ maxSteps:=3000000 }) (disch:=omega) only [go_sem]))
 refine call_f hc rfl ?_
 repeat (first|(with_reducible first|refine W_seq fun K hK=>?_|refine J_block ?_|refine J_skip ?_|refine J_region ?_|refine J_c ?_|refine Jc_false ?_|(refine Kont.go (by assumption) ?_)|(simp (config:={ maxSteps:=3000000 }) (disch:=omega) only [go_sem,c1,c2,hm.len,←hn,hrep]))|refine And.intro (by omega) ?_)
 refine W_loop [8,9,27,28,29,30,31,32,33,34,35,36,37,38,39,40,41,42,43,44,45,46,47,48,49,50] (fun x:Nat=>[(27,.f (I x))]) (fun x:Nat=>[some ⟨23,1,(fillL n x (fun i=>frs ((List.range n).map (idM i))) nilV).map .f⟩]) (fun x:Nat=>x≤n) (fun x:Nat=>n-x) (0) (Nat.zero_le _) (by refine weak_of ?_ ?_<;>simp (disch:=omega) only [go_sem]<;>first|rfl|exact ⟨rfl,rfl⟩|exact Or.inl rfl|exact ⟨Or.inl rfl,Or.inl rfl⟩|trivial|assumption|omega|(symm;assumption)|((repeat' apply And.intro)<;>first|rfl|omega|trivial|exact .inr ⟨rfl,rfl⟩|exact .inr rfl|(right;symm;assumption)|(symm;assumption)|assumption)) ?_
 rintro i hi
 simp only [go_sem]
 repeat (with_reducible first|refine W_seq fun K hK=>?_|refine J_region ?_|refine J_c ?_|(refine Kont.go (by assumption) ?_)|(simp (config:={ maxSteps:=3000000 }) (disch:=omega) only [go_sem]))
 refine Jc_if (fun hil=>?_) (fun hil=>?_)<;>try simp only [decide_eq_true_eq,decide_eq_false_iff_not] at hil
 ·have hfl:(fillL n i (fun i=>frs ((List.range n).map (idM i))) nilV).length=n:=fill_len
  repeat (with_reducible first|refine W_seq fun K hK=>?_|refine J_block ?_|refine J_skip ?_|refine J_region ?_|(refine Kont.go (by assumption) ?_)|(simp (config:={ maxSteps:=3000000 }) (disch:=omega) only [go_sem,hm.len,←hn]))
  refine J_reserve ?_
  rw [fillA_z hil]
  refine W_loop [9,32,33,34,35,36,37,38,39,40,41,42,43,44,45,46,47,48,49] (fun x:Nat=>[(32,.f (I x))]) (fun x:Nat=>[some ⟨23,1,((fillL n i (fun i=>frs ((List.range n).map (idM i))) nilV).map .f).set i (sl 1 3 (idTo i x))⟩,ob 44 3 (idTo i x)]) (fun x:Nat=>x≤n) (fun x:Nat=>n-x) (0) (Nat.zero_le _) (by refine weak_of ?_ ?_<;>simp (disch:=omega) only [go_sem,Nat.reduceAdd]<;>first|rfl|exact ⟨rfl,rfl⟩|exact Or.inl rfl|exact ⟨Or.inl rfl,Or.inl rfl⟩|trivial|assumption|omega|(symm;assumption)|((repeat' apply And.intro)<;>first|rfl|omega|trivial|exact .inr ⟨rfl,rfl⟩|exact .inr rfl|(right;symm;assumption)|(symm;assumption)|assumption)) ?_
  rintro x hx
  simp only [go_sem]
  repeat (with_reducible first|refine W_seq fun K hK=>?_|refine J_region ?_|refine J_c ?_|(refine Kont.go (by assumption) ?_)|(simp (config:={ maxSteps:=3000000 }) (disch:=omega) only [go_sem]))
  refine Jc_if (fun hxl=>?_) (fun hxl=>?_)<;>try simp only [decide_eq_true_eq,decide_eq_false_iff_not] at hxl
  ·have hgt:∀y,(((fillL n i (fun i=>frs ((List.range n).map (idM i))) nilV).map AV.f).set i y)[i]?=some y:=fun y=>List.getElem?_set_self (by rw [List.length_map,hfl];exact hil)
   obtain ⟨c,hc⟩:∃c:Int,c=if decide (i=x)=true then 1 else 0:=⟨_,rfl⟩
   have hc1:0≤c∧c≤1:=by rw [hc];split<;>omega
   have hone:=chone_w (decide (i=x))
   rw [←hc] at hone
   have ec:fr ((c:Int):Rat)=fr (idM i x):=by
    congr 1
    rw [hc]
    unfold idM
    by_cases e:i=x
    ·rw [if_pos e,if_pos (by simpa using e)];rfl
    ·rw [if_neg e,if_neg (by simpa using e)];rfl
   have hnx:=idTo_next (i:=i) (x:=x)
   have hbl:=idTo_len (i:=i) (x:=x)
   have hne1:idTo i (x+1)≠[]:=fun e=>by have:=congrArg List.length e;rw [idTo_len] at this;simp at this
   have hsl1:sl 3 3 (idTo i (x+1))=.own 3 3 0 (x+1):=by rw [sl_pos hne1,idTo_len]
   have hob1:ob 44 3 (idTo i (x+1))=some ⟨44,3,(idTo i (x+1)).map .f⟩:=ob_pos hne1
   have htk:((idTo i x).map AV.f).take x++[AV.f (fr (idM i x))]=(idTo i (x+1)).map AV.f:=by rw [List.take_of_length_le (by rw [List.length_map,hbl];omega),←hnx,List.map_append];rfl
   have hq1:(idTo i (0+1)).map AV.f=[AV.f (fr (idM i 0))]:=rfl
   by_cases hx0:x=0
   ·subst hx0
    repeat (first|(with_reducible first|refine W_seq fun K hK=>?_|refine J_block ?_|refine J_skip ?_|refine J_region ?_|refine J_orders (id:=13) [12] (.one 0 (.one 1 (.one 2 (.one 3 (.one 4 (.one 5 (.one 6 (.one 7 (.one 8 (.one 9 (.one 10 (.one 11 (.one 12 (.one 13 (.one 14 .leaf))))))))))))))) mixed (by kernel_rfl) ?_ |(refine Kont.go (by assumption) ?_)|(simp (config:={ maxSteps:=3000000 }) (disch:=omega) only [go_sem,Nat.reduceEqDiff,↓reduceIte,Nat.reduceAdd,hgt,idTo_zero,sl_nil,ob_nil,List.set_set]))|refine And.intro (by omega) ?_)
    refine callQ_f hone rfl ?_
    repeat (first|(with_reducible first|refine J_region ?_|(refine Kont.go (by assumption) ?_)|(simp (config:={ maxSteps:=3000000 }) (disch:=omega) only [go_sem,↓reduceIte,Nat.reduceAdd,Nat.reduceLeDiff,Int.reduceAdd,ec]))|refine callQ_f (of_good (by omega) (by omega)) rfl ?_|refine And.intro (by omega) ?_)
    refine ⟨0+1,by omega,by omega,weak_ren [0,3] ⟨by decide,by first|decide|(simp;done)⟩ ?_ ?_⟩<;>(try simp (disch:=omega) only [go_sem,Nat.reduceAdd,hsl1,hob1,hq1])<;>(try first|done|omega|rfl|exact ⟨rfl,rfl⟩|trivial)
   ·have hne:idTo i x≠[]:=fun e=>by rw [e] at hbl;simp at hbl;omega
    have hsl:sl 1 3 (idTo i x)=.own 1 3 0 x:=by rw [sl_pos hne,hbl]
    have hob:ob 44 3 (idTo i x)=some ⟨44,3,(idTo i x).map .f⟩:=ob_pos hne
    repeat (first|(with_reducible first|refine W_seq fun K hK=>?_|refine J_block ?_|refine J_skip ?_|refine J_region ?_|refine J_orders (id:=13) [12] (.one 0 (.one 1 (.one 2 (.one 3 (.one 4 (.one 5 (.one 6 (.one 7 (.one 8 (.one 9 (.one 10 (.one 11 (.one 12 (.one 13 (.one 14 .leaf))))))))))))))) mixed (by kernel_rfl) ?_ |(refine Kont.go (by assumption) ?_)|(simp (config:={ maxSteps:=3000000 }) (disch:=omega) only [go_sem,Nat.reduceEqDiff,↓reduceIte,Nat.reduceAdd,hgt,hsl,hob,hbl,List.set_set,Int.natCast_inj]))|refine And.intro (by omega) ?_)
    refine callQ_f hone rfl ?_
    repeat (first|(with_reducible first|refine J_region ?_|(refine Kont.go (by assumption) ?_)|(simp (config:={ maxSteps:=3000000 }) (disch:=omega) only [go_sem,↓reduceIte,Nat.reduceAdd,Nat.reduceLeDiff,htk,ec]))|refine callQ_f (of_good (by omega) (by omega)) rfl ?_|refine And.intro (by omega) ?_)
    refine ⟨x+1,by omega,by omega,weak_ren [0,3] ⟨by decide,by first|decide|(simp;done)⟩ ?_ ?_⟩<;>(try simp (disch:=omega) only [go_sem,Nat.reduceAdd,hsl1,hob1])<;>(try first|done|omega|rfl|exact ⟨rfl,rfl⟩|trivial)
  ·have he:x=n:=by omega
   subst he
   have hbl:=idTo_len (i:=i) (x:=x)
   have hne:idTo i x≠[]:=fun e=>by rw [e] at hbl;simp at hbl;omega
   have hsl:sl 1 3 (idTo i x)=.own 1 3 0 x:=by rw [sl_pos hne,hbl]
   have hob:ob 44 3 (idTo i x)=some ⟨44,3,(idTo i x).map .f⟩:=ob_pos hne
   have hset:=fillA_set (f:=fun i=>frs ((List.range x).map (idM i))) (z:=nilV) hil rfl
   have hrw:FV.fz 3 (idTo i x)=frs ((List.range x).map (idM i)):=by unfold idTo;show FV.fz 3 _=FV.fz 3 (((List.range x).map (idM i)).map fr);rw [List.map_map];rfl
   rw [hsl,hob]
   refine J_freezeA (r:=1) (sz:=3) (l:=idTo i x) rfl ?_
   repeat (with_reducible first|refine J_exit ?_|refine J_region ?_|(refine Kont.go (by assumption) ?_)|(simp (config:={ maxSteps:=3000000 }) (disch:=omega) only [go_sem,Nat.reduceEqDiff,↓reduceIte,hbl,and_self,hrw,hset]))
   refine ⟨i+1,by omega,by omega,weak_of ?_ ?_⟩<;>(try simp (disch:=omega) only [go_sem])<;>(try first|done|omega|rfl|exact ⟨rfl,rfl⟩|trivial)
 ·have he:i=n:=by omega
  subst he
  have hall:(fillL i i (fun j=>frs ((List.range i).map (idM j))) nilV)=(mxL i (powM i (at2 m) 0)).map frs:=by rw [fill_all];simp [mxL,powM]
  rw [hall]
  refine J_freezeO (j:=7) rfl (by simp [mxL]) rfl ?_
  repeat (with_reducible first|refine W_seq fun K hK=>?_|refine J_block ?_|refine J_exit ?_|refine J_region ?_|(refine Kont.go (by assumption) ?_)|(simp (config:={ maxSteps:=3000000 }) (disch:=omega) only [go_sem,↓reduceIte]))
  clear hall hi hil hrep
  have hstart:PwOk b i k0 (at2 m) ⟨0,k0,0,1,ys,m⟩:=⟨Nat.zero_le _,by show k0<32;omega,by show 0+k0*1=k0;omega,hsq.up (by show b≤b+8;omega),hn.symm,pow_one.symm,fun r c _ _=>by
   show Fz (idM r c) (b+8)
   unfold idM
   split
   ·exact (Fz.int (n:=1) (by decide)).up (by omega)
   ·exact (Fz.int (n:=0) (by decide)).up (by omega)⟩
  refine W_loop [1,7,10,52,53,54,55,56,57,58,59,60,61,62,63,64] (fun x:PwI=>[(1,.f (I (x.k:Nat))),(7,.f (rowsF (mxL i (powM i (at2 m) x.d)))),(10,.f (.fz 1 x.hv))]) (fun x:PwI=>[]) (fun x:PwI=>PwOk b i k0 (at2 m) x) (fun x:PwI=>x.k) (⟨0,k0,0,1,ys,m⟩) (hstart) (by refine weak_of ?_ ?_<;>simp (disch:=omega) only [go_sem]<;>first|rfl|exact ⟨rfl,rfl⟩|exact Or.inl rfl|exact ⟨Or.inl rfl,Or.inl rfl⟩|trivial|assumption|omega|(symm;assumption)|((repeat' apply And.intro)<;>first|rfl|omega|trivial|exact .inr ⟨rfl,rfl⟩|exact .inr rfl|(right;symm;assumption)|(symm;assumption)|assumption)) ?_
  rintro ⟨j,k',d,h,hv,hm'⟩ ok
  simp only
  simp only [go_sem]
  by_cases hk:0<k'
  ·have hj5:j<5:=by
    have h1:=ok.j5
    have h2:=ok.kl
    simp only at h1 h2
    rcases Nat.lt_or_ge j 5 with h3|h3
    ·exact h3
    ·rw [show 5-j=0 by omega] at h2;simp at h2;omega
   have sz:=szP_le (k:=b) (j:=j) hb (by omega)
   have sg:=szP_ge b j
   have hrem:(k':Int).tmod 2=((k'%2:Nat):Int):=by rw [Int.tmod_eq_emod_of_nonneg (by omega)];omega
   have hkb:k'<32:=by
    have h2:=ok.kl
    simp only at h2
    exact Nat.lt_of_lt_of_le h2 (Nat.pow_le_pow_right (by decide) (show 5-j≤5 by omega))
   have hquo:(k':Int).tdiv 2=((k'/2:Nat):Int):=by rw [Int.tdiv_eq_ediv_of_nonneg (by omega)];omega
   have sq:=ok.sq
   have ln:hm'.length=i:=ok.ln
   have eq:EqM i (at2 hm') (powM i (at2 m) h):=ok.eq
   have dz:∀r c,r<i→c<i→Fz (powM i (at2 m) d r c) (szP b j):=ok.dz
   simp only at sq
   have hz:∀r c,r<i→c<i→Fz (powM i (at2 m) h r c) (szP b j):=fun r c hr hc=>by
    rw [←eq r c hr hc];exact sq.f2 (by omega) (by omega) (by omega)
   have mz:∀(P:Mx),(∀r c,r<i→c<i→Fz (P r c) (szP b j))→∀r c,r<i→c<i→Fz (mulM i P (powM i (at2 m) h) r c) (szP b (j+1)):=fun P hP r c hr hc=>by
    have:=sumF_fz (f:=fun q=>P r q*powM i (at2 m) h q c) (n:=i) (s:=szP b j+szP b j) fun q hq=>(hP r q hr hq).mul (hz q c hq hc)
    refine this.up ?_
    have:=Nat.mul_le_mul_right (szP b j+szP b j+1) (show i≤6 by omega)
    show _≤12*szP b j+14
    omega
   have hsqr:∀r∈hm',r.length=hm'.length:=sq.sq
   have hh:=product_w (A:=hm') sq.fr sq hsqr (by omega) (by omega) (by omega) (by omega) (by omega)
   have e1:(hm'.map fun r=>tmR r hm')=mxL i (powM i (at2 m) (h+h)):=by
    rw [pr_mul (n:=i) (fun r hr=>by rw [hsqr r hr,ln]) ln ln]
    exact mxL_congr ((mul_congr eq eq).trans (pow_add h).symm)
   rw [e1] at hh
   have hh2:=SqM.c (A:=powM i (at2 m) (h+h)) (n:=i) (b:=szP b (j+1)) (by omega) fun r c hr hc=>by
    rw [pow_add h r c hr hc];exact mz _ hz r c hr hc
   have hok2:∀d',d'+k'/2*(h+h)=k0→(∀r c,r<i→c<i→Fz (powM i (at2 m) d' r c) (szP b (j+1)))→PwOk b i k0 (at2 m) ⟨j+1,k'/2,d',h+h,(mxL i (powM i (at2 m) (h+h))).map frs,mxL i (powM i (at2 m) (h+h))⟩:=fun d' h1 h2 =>
    ⟨by simp only;omega,by
     simp only
     have h3:=ok.kl
     simp only at h3
     rw [show 5-j=(5-(j+1))+1 by omega,Nat.pow_succ] at h3
     omega,h1,hh2,mxL_len,mxL_at,h2⟩
   have hk0:d+k'*h=k0:=ok.hk
   by_cases hodd:k'%2=1
   ·have hk1:d+h+k'/2*(h+h)=k0:=by
     have e3:k'*h=k'/2*(h+h)+h:=by
      have e4:k'/2*(h+h)=k'/2*2*h:=by rw [←Nat.two_mul,←Nat.mul_assoc]
      rw [e4]
      have e5:(k'/2*2+1)*h=k'/2*2*h+h:=by rw [Nat.add_mul,Nat.one_mul]
      rw [←e5,show k'/2*2+1=k' by omega]
     omega
    have hp:=product_w (A:=mxL i (powM i (at2 m) d)) (FrM.c (k:=szP b j) fun r hr=>by
     obtain ⟨x,hx,rfl⟩:=List.mem_map.1 hr
     intro q hq
     obtain ⟨y,hy,rfl⟩:=List.mem_map.1 hq
     exact dz x y (List.mem_range.1 hx) (List.mem_range.1 hy)) sq (fun r hr=>by rw [mxL_row r hr,ln]) (by rw [mxL_len];omega) (by omega) (by omega) (by omega) (by omega)
    have e2:((mxL i (powM i (at2 m) d)).map fun r=>tmR r hm')=mxL i (powM i (at2 m) (d+h)):=by
     rw [pr_mul (n:=i) (fun r hr=>mxL_row r hr) mxL_len ln]
     exact mxL_congr ((mul_congr mxL_at eq).trans (pow_add h).symm)
    rw [e2] at hp
    rw [hodd] at hrem
    have hone:((1:Nat):Int)=1:=rfl
    repeat (with_reducible first|refine W_seq fun K hK=>?_|refine J_block ?_|refine J_skip ?_|refine J_region ?_|refine J_c ?_|refine Jc_true ?_|(refine Kont.go (by assumption) ?_)|(simp (config:={ maxSteps:=3000000 }) (disch:=omega) only [go_sem,Int.reduceEq,hk,hrem,hone]))
    refine call_f hp rfl ?_
    repeat (with_reducible first|refine J_region ?_|(refine Kont.go (by assumption) ?_)|(simp (config:={ maxSteps:=3000000 }) (disch:=omega) only [go_sem]))
    refine call_f hh rfl ?_
    repeat (with_reducible first|refine J_region ?_|(refine Kont.go (by assumption) ?_)|(simp (config:={ maxSteps:=3000000 }) (disch:=omega) only [go_sem,Int.reduceEq,hquo]))
    refine ⟨⟨j+1,k'/2,d+h,h+h,(mxL i (powM i (at2 m) (h+h))).map frs,mxL i (powM i (at2 m) (h+h))⟩,hok2 _ hk1 (fun r c hr hc=>by rw [pow_add h r c hr hc];exact mz _ dz r c hr hc),by simp only;omega,weak_of ?_ ?_⟩<;>(try simp (disch:=omega) only [go_sem])<;>(try first|done|omega|rfl|exact ⟨rfl,rfl⟩|trivial)
   ·have heven:k'%2=0:=by omega
    have hk1:d+k'/2*(h+h)=k0:=by
     have e4:k'/2*(h+h)=k'/2*2*h:=by rw [←Nat.two_mul,←Nat.mul_assoc]
     rw [e4,show k'/2*2=k' by omega]
     exact hk0
    rw [heven] at hrem
    have hzero:((0:Nat):Int)=0:=rfl
    repeat (with_reducible first|refine W_seq fun K hK=>?_|refine J_block ?_|refine J_skip ?_|refine J_region ?_|refine J_c ?_|refine Jc_true ?_|refine Jc_false ?_|(refine Kont.go (by assumption) ?_)|(simp (config:={ maxSteps:=3000000 }) (disch:=omega) only [go_sem,Int.reduceEq,hk,hrem,hzero]))
    refine call_f hh rfl ?_
    repeat (with_reducible first|refine J_region ?_|(refine Kont.go (by assumption) ?_)|(simp (config:={ maxSteps:=3000000 }) (disch:=omega) only [go_sem,Int.reduceEq,hquo]))
    refine ⟨⟨j+1,k'/2,d,h+h,(mxL i (powM i (at2 m) (h+h))).map frs,mxL i (powM i (at2 m) (h+h))⟩,hok2 _ hk1 (fun r c hr hc=>(dz r c hr hc).up (by show _≤12*szP b j+14;omega)),by simp only;omega,weak_of ?_ ?_⟩<;>(try simp (disch:=omega) only [go_sem])<;>(try first|done|omega|rfl|exact ⟨rfl,rfl⟩|trivial)
  ·have hk0:d+k'*h=k0:=ok.hk
   have:k'=0:=by omega
   subst this
   have e:d=k0:=by omega
   subst e
   repeat (with_reducible first|refine W_seq fun K hK=>?_|refine J_exit ?_|refine J_ret ?_|refine J_region ?_|refine J_c ?_|refine Jc_false ?_|(refine Kont.go (by assumption) ?_)|(simp (config:={ maxSteps:=3000000 }) (disch:=omega) only [go_sem,↓reduceIte]))
   exact ⟨_,rfl,FrzL.fs [_,_]⟩
end Go.Proofs.YtcgagiimlkjcpaaGreatDoor
