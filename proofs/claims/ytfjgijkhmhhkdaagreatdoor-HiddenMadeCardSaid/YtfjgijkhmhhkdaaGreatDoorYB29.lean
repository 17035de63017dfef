/- A hidden chain of raw weights; signs; how likely a way is. Conditions: what slices may hold. -/
import Derived.Test.YtfjgijkhmhhkdaaGreatDoorYB27
import Derived.Test.YtfjgijkhmhhkdaaGreatDoorYB28
import Derived.Test.YtfjgijkhmhhkdaaGreatDoorYAmOne
import Derived.Lib.TrailingZeros
import Derived.SevenTiedAt
set_option linter.unusedVariables false
set_option linter.unusedSimpArgs false
namespace Go.Proofs.YtfjgijkhmhhkdaaGreatDoor
open Go Go.RowKit
def hoS (w:List Int) (n:Nat):List Rat:=rowOf w 0 n
def hoM (w:List Int) (n i:Nat):List (List Rat):=(List.range i).map fun j=>rowOf w (3+j*n) n
def hoV (w:List Int) (m i:Nat):List (List Rat):=(List.range i).map fun j=>rowOf w (7+j*m) m
section
variable {w : List Int} {n m i : Nat}
theorem hoM_len:(hoM w n i).length=i:=by simp [hoM]
theorem hoV_len:(hoV w m i).length=i:=by simp [hoV]
theorem hoM_next:(hoM w n i).map frs++[frs (rowOf w (3+i*n) n)]=(hoM w n (i+1)).map frs:=by simp [hoM,List.range_succ]
theorem hoV_next:(hoV w m i).map frs++[frs (rowOf w (7+i*m) m)]=(hoV w m (i+1)).map frs:=by simp [hoV,List.range_succ]
end
def hoE (w:List Int) (n i:Nat):AV:=if i=0 then .f (.agg [frs (hoS w n),nilF,nilF]) else .agg [.f (frs (hoS w n)),.own 2 1 0 i,.own 3 1 0 i]
theorem hoE_zero {w:List Int} {n:Nat}:hoE w n 0=.f (.agg [frs (hoS w n),nilF,nilF]):=rfl
theorem hoE_pos {w:List Int} {n i:Nat} (h:0<i):hoE w n i=.agg [.f (frs (hoS w n)),.own 2 1 0 i,.own 3 1 0 i]:=by unfold hoE;rw [if_neg (by omega)]
theorem hoM_zero {w:List Int} {n:Nat}:hoM w n 0=[]:=rfl
theorem hoV_zero {w:List Int} {m:Nat}:hoV w m 0=[]:=rfl
theorem hoE_lt0 {w:List Int} {n i N:Nat} (h:3<N):(hoE w n i).lt0 N=true:=by
 by_cases h0:i=0
 ·rw [h0];rfl
 ·rw [hoE_pos (by omega)]
  show (true&&(decide (2<N)&&(decide (3<N)&&true)))=true
  simp;omega
attribute [go_sem] hoE_zero hoM_zero hoV_zero hoE_lt0
set_option maxRecDepth 100000 in
set_option maxHeartbeats 4000000 in
theorem hiddenOf_w (w:List Int) (n m:Nat) (hw:∀x∈w,-9223372036854775808≤x∧x≤9223372036854775807) (h1:1≤n) (hn:n≤100) (h2:1≤m) (hm:m≤100) (hwl:w.length≤140737488355328) :
  Good Tryz.prog 25 [ints w,I n,I m] (hidV ((hoS w n).map fr) ((hoM w n n).map frs) ((hoV w m n).map frs)):=by
 refine good_of Tryz.func25 rfl (by kernel_rfl) fun X hO hrd=>?_;rw [Tryz.ntmps25,Tryz.results25];simp only [ast0,List.map_cons,List.map_nil,List.length_cons,List.length_nil,Nat.reduceAdd,Nat.reduceSub,List.replicate_succ,List.replicate_zero,List.cons_append,List.nil_append]
 (repeat (with_reducible first|refine W_seq fun K hK=>?_|refine J_region ?_ |(refine Kont.go (by assumption) ?_)|(simp (config:={ maxSteps:=3000000 }) (disch:=omega) only [go_sem,Nat.reduceAdd])))
 refine call_f (rowI (k':=0) (n':=n) (by omega) rfl hw (by omega) h1 (by omega) hwl) rfl ?_
 have e0:AV.f (.agg [frs (rowOf w 0 n),nilF,nilF])=hoE w n 0:=rfl
 (repeat (with_reducible first|refine W_seq fun K hK=>?_|refine J_block ?_|refine J_region ?_ |(refine Kont.go (by assumption) ?_)|(simp (config:={ maxSteps:=3000000 }) (disch:=omega) only [go_sem,Nat.reduceEqDiff,↓reduceIte,Nat.reduceAdd,Nat.reduceLeDiff])))
 refine J_reserve ?_
 refine J_reserve ?_
 refine W_loop [8,9,10,15,16,17,18,19,20,21,22,23,24,25,26,27,28,29,30,31,32,33,34,35,36,37,38,39,40,41,42,43,44,45] (fun x:Nat=>[(8,.f (I x))]) (fun x:Nat=>[some ⟨25,3,[.f (.agg [nilF,nilF,nilF])]⟩,some ⟨25,3,[hoE w n x]⟩,ob 22 1 ((hoM w n x).map frs),ob 22 1 ((hoV w m x).map frs)]) (fun x:Nat=>x≤n) (fun x:Nat=>n-x) (0) (Nat.zero_le _) (by refine weak_of ?_ ?_<;>simp (disch:=omega) only [go_sem,Nat.reduceAdd]<;>first|rfl|exact ⟨rfl,rfl⟩|exact Or.inl rfl|exact ⟨Or.inl rfl,Or.inl rfl⟩|trivial|assumption|omega|(symm;assumption)|((repeat' apply And.intro)<;>first|rfl|omega|trivial|exact .inl rfl|exact .inr ⟨rfl,rfl⟩|exact .inr rfl|(right;symm;assumption)|(symm;assumption)|assumption)) ?_
 rintro i hi
 simp only [go_sem]
 (repeat (with_reducible first|refine W_seq fun K hK=>?_|refine J_region ?_ |refine J_c ?_|(refine Kont.go (by assumption) ?_)|(simp (config:={ maxSteps:=3000000 }) (disch:=omega) only [go_sem])))
 refine Jc_if (fun hlt=>?_) (fun hlt=>?_)<;>try simp only [decide_eq_true_eq,decide_eq_false_iff_not] at hlt
 ·have i1:i*n≤10000:=Nat.mul_le_mul (show i≤100 by omega) hn
  have i2:i*m≤10000:=Nat.mul_le_mul (show i≤100 by omega) hm
  have k1:(3:Int)+(i:Int)*(n:Int)=((3+i*n:Nat):Int):=by rw [Int.natCast_add,Int.natCast_mul];rfl
  have k2:(7:Int)+(i:Int)*(m:Int)=((7+i*m:Nat):Int):=by rw [Int.natCast_add,Int.natCast_mul];rfl
  have k3:(i:Int)*(n:Int)=((i*n:Nat):Int):=(Int.natCast_mul i n).symm
  have k4:(i:Int)*(m:Int)=((i*m:Nat):Int):=(Int.natCast_mul i m).symm
  have n1:=hoM_next (w:=w) (n:=n) (i:=i)
  have n2:=hoV_next (w:=w) (m:=m) (i:=i)
  have l1:((hoM w n i).map frs).length=i:=by rw [List.length_map,hoM_len]
  have l2:((hoV w m i).map frs).length=i:=by rw [List.length_map,hoV_len]
  have l3:((hoM w n (i+1)).map frs).length=i+1:=by rw [List.length_map,hoM_len]
  have l4:((hoV w m (i+1)).map frs).length=i+1:=by rw [List.length_map,hoV_len]
  have p1:(hoM w n (i+1)).map frs≠[]:=fun e=>by rw [e] at l3;simp at l3
  have p2:(hoV w m (i+1)).map frs≠[]:=fun e=>by rw [e] at l4;simp at l4
  have hob1:ob 22 1 ((hoM w n (i+1)).map frs)=some ⟨22,1,((hoM w n (i+1)).map frs).map .f⟩:=ob_pos p1
  have hob2:ob 22 1 ((hoV w m (i+1)).map frs)=some ⟨22,1,((hoV w m (i+1)).map frs).map .f⟩:=ob_pos p2
  have hE1:=hoE_pos (w:=w) (n:=n) (show 0<i+1 by omega)
  have kk1:((3+i*n:Nat):Int)≤9223372036854775807:=by omega
  have kk2:((7+i*m:Nat):Int)≤9223372036854775807:=by omega
  (repeat (with_reducible first|refine W_seq fun K hK=>?_|refine J_block ?_|refine J_skip ?_|refine J_region ?_ |(refine Kont.go (by assumption) ?_)|(simp (config:={ maxSteps:=3000000 }) (disch:=omega) only [go_sem,k3])))
  refine call_f (rowI (k':=3+i*n) (n':=n) (by omega) rfl hw (by omega) h1 (by omega) hwl) rfl ?_
  (repeat (with_reducible first|refine W_seq fun K hK=>?_|refine J_region ?_ |(refine Kont.go (by assumption) ?_)|(simp (config:={ maxSteps:=3000000 }) (disch:=omega) only [go_sem,k4])))
  refine call_f (rowI (k':=7+i*m) (n':=m) (by omega) rfl hw (by omega) h2 (by omega) hwl) rfl ?_
  by_cases h0:i=0
  ·subst h0
   have q1:((hoM w n (0+1)).map frs).map AV.f=[AV.f (frs (rowOf w (3+0*n) n))]:=by rw [←n1];rfl
   have q2:((hoV w m (0+1)).map frs).map AV.f=[AV.f (frs (rowOf w (7+0*m) m))]:=by rw [←n2];rfl
   (repeat (first|(with_reducible first|refine W_seq fun K hK=>?_|refine J_region ?_ |refine aApp_old ?_|(refine Kont.go (by assumption) ?_)|(simp (config:={ maxSteps:=3000000 }) (disch:=omega) only [go_sem,Nat.reduceEqDiff,↓reduceIte,Nat.reduceAdd,Nat.reduceLeDiff,Int.reduceAdd,ob_nil]))|refine And.intro (by omega) ?_))
   refine ⟨0+1,by omega,by omega,weak_ren [0,1,5,7] ⟨by decide,by first|decide|(simp;done)⟩ ?_ ?_⟩<;>(try simp (disch:=omega) only [go_sem,Nat.reduceAdd,hob1,hob2,hE1,q1,q2])<;>(try first|done|omega|rfl|exact ⟨rfl,rfl⟩|trivial)
  ·have hE0:=hoE_pos (w:=w) (n:=n) (show 0<i by omega)
   have p3:(hoM w n i).map frs≠[]:=fun e=>by rw [e] at l1;simp at l1;omega
   have p4:(hoV w m i).map frs≠[]:=fun e=>by rw [e] at l2;simp at l2;omega
   have hob3:ob 22 1 ((hoM w n i).map frs)=some ⟨22,1,((hoM w n i).map frs).map .f⟩:=ob_pos p3
   have hob4:ob 22 1 ((hoV w m i).map frs)=some ⟨22,1,((hoV w m i).map frs).map .f⟩:=ob_pos p4
   have q1:(((hoM w n i).map frs).map AV.f).take i++[AV.f (frs (rowOf w (3+i*n) n))]=((hoM w n (i+1)).map frs).map AV.f:=by rw [List.take_of_length_le (by rw [List.length_map,l1];omega),←n1,List.map_append];rfl
   have q2:(((hoV w m i).map frs).map AV.f).take i++[AV.f (frs (rowOf w (7+i*m) m))]=((hoV w m (i+1)).map frs).map AV.f:=by rw [List.take_of_length_le (by rw [List.length_map,l2];omega),←n2,List.map_append];rfl
   (repeat (first|(with_reducible first|refine W_seq fun K hK=>?_|refine J_region ?_ |refine aApp_old ?_|(refine Kont.go (by assumption) ?_)|(simp (config:={ maxSteps:=3000000 }) (disch:=omega) only [go_sem,Nat.reduceEqDiff,↓reduceIte,Nat.reduceAdd,Nat.reduceLeDiff,hE0,hob3,hob4,l1,l2,q1,q2]))|refine And.intro (by omega) ?_))
   refine ⟨i+1,by omega,by omega,weak_ren [0,1,5,7] ⟨by decide,by first|decide|(simp;done)⟩ ?_ ?_⟩<;>(try simp (disch:=omega) only [go_sem,Nat.reduceAdd,hob1,hob2,hE1])<;>(try first|done|omega|rfl|exact ⟨rfl,rfl⟩|trivial)
 ·have he:i=n:=by omega
  subst he
  have l1:((hoM w i i).map frs).length=i:=by rw [List.length_map,hoM_len]
  have l2:((hoV w m i).map frs).length=i:=by rw [List.length_map,hoV_len]
  have p3:(hoM w i i).map frs≠[]:=fun e=>by rw [e] at l1;simp at l1;omega
  have p4:(hoV w m i).map frs≠[]:=fun e=>by rw [e] at l2;simp at l2;omega
  have hob3:ob 22 1 ((hoM w i i).map frs)=some ⟨22,1,((hoM w i i).map frs).map .f⟩:=ob_pos p3
  have hob4:ob 22 1 ((hoV w m i).map frs)=some ⟨22,1,((hoV w m i).map frs).map .f⟩:=ob_pos p4
  have hE0:=hoE_pos (w:=w) (n:=i) (show 0<i by omega)
  (repeat (with_reducible first|refine W_seq fun K hK=>?_|refine J_exit ?_|refine J_ret ?_|refine J_region ?_ |(refine Kont.go (by assumption) ?_)|(simp (config:={ maxSteps:=3000000 }) (disch:=omega) only [go_sem,↓reduceIte,Nat.reduceAdd,hE0,hob3,hob4])))
  exact Frz.aggL (FrzL.cons (.f _) (FrzL.cons (Frz.own0 rfl l1.symm) (FrzL.cons (Frz.own0 rfl l2.symm) (FrzL.nil _))))
def sgL (raw:List Int) (n i:Nat):List Int:=(List.range i).map fun j=>((pickN (raw.getD j 0) n:Nat):Int)
theorem sgL_len {raw:List Int} {n i:Nat}:(sgL raw n i).length=i:=by simp [sgL]
theorem sgL_next {raw:List Int} {n i:Nat}:(sgL raw n i).map I++[I (pickN (raw.getD i 0) n:Nat)]=(sgL raw n (i+1)).map I:=by simp [sgL,List.range_succ]
set_option maxRecDepth 100000 in
theorem signs_w (raw:List Int) (n m:Nat) (hw:∀x∈raw,-9223372036854775808≤x∧x≤9223372036854775807) (h1:1≤n) (hn:n≤1000) (hm:m≤1000) (hl:raw.length≤140737488355328) :
  Good Tryz.prog 26 [ints raw,I n,I m] (ints (sgL raw n (min raw.length m))):=by
 refine good_of Tryz.func26 rfl (by kernel_rfl) fun X hO hrd=>?_;rw [Tryz.ntmps26,Tryz.results26];simp only [ast0,List.map_cons,List.map_nil,List.length_cons,List.length_nil,Nat.reduceAdd,Nat.reduceSub,List.replicate_succ,List.replicate_zero,List.cons_append,List.nil_append]
 (repeat (with_reducible first|refine W_seq fun K hK=>?_|refine J_block ?_|refine J_region ?_ |(refine Kont.go (by assumption) ?_)|(simp (config:={ maxSteps:=3000000 }) (disch:=omega) only [go_sem])))
 refine J_reserve ?_
 refine W_loop [7,8,9,10,11,12,13,14,15,16,17,18,19,20,21,22,23,24,25,26,27,28] (fun x:Nat=>[(8,.f (I x)),(7,sl 0 1 ((sgL raw n x).map I))]) (fun x:Nat=>[ob 3 1 ((sgL raw n x).map I)]) (fun x:Nat=>x≤min raw.length m) (fun x:Nat=>min raw.length m-x) (0) (Nat.zero_le _) (by refine weak_of ?_ ?_<;>simp (disch:=omega) only [go_sem]<;>first|rfl|exact ⟨rfl,rfl⟩|exact Or.inl rfl|exact ⟨Or.inl rfl,Or.inl rfl⟩|trivial|assumption|omega|(symm;assumption)|((repeat' apply And.intro)<;>first|rfl|omega|trivial|exact .inl rfl|exact .inr ⟨rfl,rfl⟩|exact .inr rfl|(right;symm;assumption)|(symm;assumption)|assumption)) ?_
 rintro i hi
 simp only [go_sem]
 by_cases c1:i<raw.length
 ·by_cases c2:i<m
  ·have hx:=i64_get hw c1
   have hg:=sgL_next (raw:=raw) (n:=n) (i:=i)
   rw [lget_lt raw 0 c1] at hg
   have hp:=pickN_lt raw[i] (n:=n) (by omega)
   (repeat (first|(with_reducible first|refine W_seq fun K hK=>?_|refine J_block ?_|refine J_skip ?_|refine J_region ?_ |refine aApp_sl ?_|refine J_c ?_|refine Jc_true ?_|(refine Kont.go (by assumption) ?_)|(simp (config:={ maxSteps:=3000000 }) (disch:=omega) only [go_sem,Nat.reduceEqDiff,↓reduceIte,Nat.reduceLeDiff,List.length_map,c1,c2,map_get I raw c1,sgL_len,hg]))|refine call_f (pickI _ _ (by omega) (by omega) (by omega) (by omega)) rfl ?_|refine And.intro (by omega) ?_))
   refine ⟨i+1,by omega,by omega,weak_of ?_ ?_⟩<;>(try simp (disch:=omega) only [go_sem])<;>(try first|done|omega|rfl|exact ⟨rfl,rfl⟩|trivial)
  ·have he:i=min raw.length m:=by omega
   (repeat (with_reducible first|refine W_seq fun K hK=>?_|refine J_exit ?_|refine J_ret ?_|refine J_region ?_ |refine J_c ?_|refine Jc_false ?_|(refine Kont.go (by assumption) ?_)|(simp (config:={ maxSteps:=3000000 }) (disch:=omega) only [go_sem,↓reduceIte,List.length_map,c1,c2])))
   rw [he]
   exact Frz.sl rfl
 ·have he:i=min raw.length m:=by omega
  (repeat (with_reducible first|refine W_seq fun K hK=>?_|refine J_exit ?_|refine J_ret ?_|refine J_region ?_ |refine J_c ?_|refine Jc_false ?_|(refine Kont.go (by assumption) ?_)|(simp (config:={ maxSteps:=3000000 }) (disch:=omega) only [go_sem,↓reduceIte,List.length_map,c1])))
  rw [he]
  exact Frz.sl rfl
end Go.Proofs.YtfjgijkhmhhkdaaGreatDoor
set_option linter.unusedVariables false
set_option linter.unusedSimpArgs false
namespace Go.Proofs.YtfjgijkhmhhkdaaGreatDoor
open Go Go.RowKit
def f3q (q:Rat):F3:=(cg q,cn q,cd q)
theorem raws_q (l:List Rat):frs l=raws (l.map f3q):=by
 show FV.fz 3 _=.fz 3 _
 rw [List.map_map];rfl
theorem okFs_q {k:Nat} {l:List Rat} (h:Row k l) (hk:k≤1000) (hl:l.length≤1000):OkFs (l.map f3q):=by
 refine ⟨by simp;omega,fun x hx=>?_⟩
 obtain ⟨q,hq,rfl⟩:=List.mem_map.1 hx
 have:=Is.c (h q hq)
 exact ⟨by have:=this.2.1;show (cn q).size≤_;omega,by have:=this.2.2;show (cd q).size≤_;omega⟩
theorem rows_q (m:List (List Rat)):m.map frs=(m.map fun r=>r.map f3q).map raws:=by
 rw [List.map_map]
 exact List.map_congr_left fun r _=>raws_q r
theorem okRows_q {k n:Nat} {m:List (List Rat)} (h:∀r∈m,Row k r∧r.length≤1000) (hk:k≤1000) (hl:m.length≤1000):OkRows (m.map fun r=>r.map f3q):=by
 refine ⟨by simp;omega,fun x hx=>?_⟩
 obtain ⟨r,hr,rfl⟩:=List.mem_map.1 hx
 exact okFs_q (h r hr).1 hk (h r hr).2
set_option maxRecDepth 100000 in
theorem made_w (w:List Int) (a b:Int) (raw:List Int) (s:Int) (hw:∀x∈w,-9223372036854775808≤x∧x≤9223372036854775807) (hwl:w.length≤140737488355328) (ha:-9223372036854775808≤a∧a≤9223372036854775807) (hb:-9223372036854775808≤b∧b≤9223372036854775807)
  (hr:∀x∈raw,-9223372036854775808≤x∧x≤9223372036854775807) (hrl:raw.length≤140737488355328) (hs:-9223372036854775808≤s∧s≤9223372036854775807) :
  Good Tryz.prog 4 [ints w,I a,I b,ints raw,I s] (Bo true):=by
 by_cases hbig:(256:Int)<(w.length:Int)+(raw.length:Int)
 ·refine good_of Tryz.func4 rfl (by kernel_rfl) fun X hO hrd=>?_;rw [Tryz.ntmps4,Tryz.results4];simp only [ast0,List.map_cons,List.map_nil,List.length_cons,List.length_nil,Nat.reduceAdd,Nat.reduceSub,List.replicate_succ,List.replicate_zero,List.cons_append,List.nil_append]
  (repeat (with_reducible first|refine W_seq fun K hK=>?_|refine J_ret ?_|refine J_region ?_ |refine J_c ?_|refine Jc_true ?_|exact Frz.f _|(refine Kont.go (by assumption) ?_)|(simp (config:={ maxSteps:=3000000 }) (disch:=omega) only [go_sem,hbig,decide_true])))
 have p1:=pickN_lt a (n:=3) (by omega)
 have p2:=pickN_lt b (n:=3) (by omega)
 obtain ⟨n,hn⟩:∃n,n=pickN a 3+1:=⟨_,rfl⟩
 obtain ⟨m,hm⟩:∃m,m=pickN b 3+1:=⟨_,rfl⟩
 have q1:=pickI a 3 ha.1 ha.2 (by omega) (by omega)
 have q2:=pickI b 3 hb.1 hb.2 (by omega) (by omega)
 have h1:=hiddenOf_w w n m hw (by omega) (by omega) (by omega) (by omega) hwl
 have h2:=signs_w raw m 4 hr (by omega) (by omega) (by omega) hrl
 have e1:((hoS w n).map fr)=((hoS w n).map f3q).map frF:=by rw [List.map_map];rfl
 have r0:Row 8 (hoS w n):=rowOf_row _ _ _ (by omega) (by omega)
 have h3:=law_w ((hoS w n).map f3q) ((hoM w n n).map fun r=>r.map f3q) ((hoV w m n).map fun r=>r.map f3q) (sgL raw m (min raw.length 4)) s
  (okFs_q r0 (by omega) (by unfold hoS;rw [rowOf_len];omega)) (okRows_q (n:=0) (fun r hr=>by obtain ⟨j,_,rfl⟩:=List.mem_map.1 hr;exact ⟨rowOf_row _ _ _ (by omega) (by omega),by rw [rowOf_len];omega⟩) (k:=8) (by omega) (by rw [hoM_len];omega))
  (okRows_q (n:=0) (fun r hr=>by obtain ⟨j,_,rfl⟩:=List.mem_map.1 hr;exact ⟨rowOf_row _ _ _ (by omega) (by omega),by rw [rowOf_len];omega⟩) (k:=8) (by omega) (by rw [hoV_len];omega))
  (fun x hx=>by obtain ⟨j,_,rfl⟩:=List.mem_map.1 hx;have:=pickN_lt (raw.getD j 0) (n:=m) (by omega);omega) (by rw [sgL_len];omega) hs
 have e2:hidO ((hoS w n).map f3q,(hoM w n n).map (fun r=>r.map f3q),(hoV w m n).map (fun r=>r.map f3q))=hidV ((hoS w n).map fr) ((hoM w n n).map frs) ((hoV w m n).map frs):=by
  rw [rows_q,rows_q,e1];rfl
 rw [e2] at h3
 obtain ⟨H,hH⟩:∃H,H=hidV ((hoS w n).map fr) ((hoM w n n).map frs) ((hoV w m n).map frs):=⟨_,rfl⟩
 rw [←hH] at h1 h3
 have en:(1:Int)+(pickN a 3:Nat)=(n:Int):=by omega
 have em:(1:Int)+(pickN b 3:Nat)=(m:Int):=by omega
 refine good_of Tryz.func4 rfl (by kernel_rfl) fun X hO hrd=>?_;rw [Tryz.ntmps4,Tryz.results4];simp only [ast0,List.map_cons,List.map_nil,List.length_cons,List.length_nil,Nat.reduceAdd,Nat.reduceSub,List.replicate_succ,List.replicate_zero,List.cons_append,List.nil_append]
 (repeat (first|(with_reducible first|refine W_seq fun K hK=>?_|refine J_skip ?_|refine J_region ?_ |refine J_c ?_|refine Jc_false ?_|(refine Kont.go (by assumption) ?_)|(simp (config:={ maxSteps:=3000000 }) (disch:=omega) only [go_sem,Int.reduceToNat,hbig,decide_false,en,em]))|refine call_f (pickI _ _ (by omega) (by omega) (by omega) (by omega)) rfl ?_))
 (first|refine call_f (h1) rfl ?_|refine callQ_f (h1) rfl ?_|refine callHK_f (h1) rfl ?_|refine callH_f (h1) rfl ?_)
 (repeat (with_reducible first|(simp (config:={ maxSteps:=3000000 }) (disch:=omega) only [go_sem])))
 (first|refine call_f (h2) rfl ?_|refine callQ_f (h2) rfl ?_|refine callHK_f (h2) rfl ?_|refine callH_f (h2) rfl ?_)
 (repeat (with_reducible first|(simp (config:={ maxSteps:=3000000 }) (disch:=omega) only [go_sem])))
 (first|refine call_f (h3) rfl ?_|refine callQ_f (h3) rfl ?_|refine callHK_f (h3) rfl ?_|refine callH_f (h3) rfl ?_)
 (repeat (with_reducible first|refine J_ret ?_|exact Frz.f _|(refine Kont.go (by assumption) ?_)|(simp (config:={ maxSteps:=3000000 }) (disch:=omega) only [go_sem])))
end Go.Proofs.YtfjgijkhmhhkdaaGreatDoor
set_option linter.unusedVariables false
namespace Go.Proofs.YtfjgijkhmhhkdaaGreatDoor
open Go Go.RowKit
def dB64Cells:Array Value:=(Lib.deBruijn64tab.map fun n:Nat=>Value.int .u8 (n:Int)).toArray
def dB32Cells:Array Value:=(Lib.deBruijn32tab.map fun n:Nat=>Value.int .u8 (n:Int)).toArray
def p10Cells:Array Value:=((List.range 20).map fun i:Nat=>Value.int .u64 ((10^i:Nat):Int)).toArray
end Go.Proofs.YtfjgijkhmhhkdaaGreatDoor
set_option linter.unusedVariables false
set_option linter.unusedSimpArgs false
namespace Go.Proofs.YtfjgijkhmhhkdaaGreatDoor
open Go
theorem goes_none {P:Program} (h:P.funcs.any Func.goes=false) (f:FuncId):P.goes f=false:=by
 have hx:∀g:FuncId,(P.funcs[g]?).any Func.goes=false:=fun g=>by
  cases hg:P.funcs[g]? with
  | none=>rfl
  | some fn =>
   show Func.goes fn=false
   cases hf:Func.goes fn with
   | false=>rfl
   | true =>
    have hm:fn∈P.funcs:=Array.mem_of_getElem? hg
    have:P.funcs.any Func.goes=true:=Array.any_eq_true'.2 ⟨fn,hm,hf⟩
    rw [h] at this;cases this
 unfold Program.goes
 rw [h,Bool.and_false,Bool.or_false,List.any_eq_false]
 intro g _
 rw [hx g]
 decide
theorem goesBy_none {P:Program} {c:OpenClaim} (h:P.funcs.any Func.goes=false) (hs:c.start=.entering):false=c.goesBy P:=by
 unfold OpenClaim.goesBy Program.goesAt Program.goesFrom
 rw [hs]
 cases P.funcNamed c.func with
 | none=>rfl
 | some f=>show false=(P.goes f||false);rw [goes_none h];rfl
end Go.Proofs.YtfjgijkhmhhkdaaGreatDoor
