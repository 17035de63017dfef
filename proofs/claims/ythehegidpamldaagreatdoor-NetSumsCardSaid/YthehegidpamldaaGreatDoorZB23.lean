/- Tables: Check; the program's Out: walked. Conditions: what may be; numbers of at most 4096 bytes. -/
import Derived.Test.YthehegidpamldaaGreatDoorZB22
import Derived.Test.YthehegidpamldaaGreatDoorZB18
import Derived.Test.YthehegidpamldaaGreatDoorZB08
import Derived.Test.YthehegidpamldaaGreatDoorZB07
import Derived.Shelf.Spec.SlicesGrow
import Derived.Laws.AppendOwn
import Derived.Test.YthehegidpamldaaGreatDoorZB20
import Derived.Test.YthehegidpamldaaGreatDoorZB09
import Derived.Test.YthehegidpamldaaGreatDoorZB19
set_option linter.unusedVariables false
set_option linter.unusedSimpArgs false
namespace Go.Proofs.YthehegidpamldaaGreatDoor
open Go Go.RowKit
abbrev tabV (l:List Nat) (xs:List FV):FV:=.agg [.fz 1 (Ns l),.fz 3 xs]
abbrev oT (x:FV):Option AO:=some ⟨34,2,[.f x]⟩
structure TbOk (k : Nat) (Z l : List Nat) (xs : List FV) (qs : List Rat) : Prop where
  ok : OkT Z l
  fr : Frs k xs qs
  len : qs.length = cntS (szT Z) l
set_option maxRecDepth 100000 in
theorem rtcheck_w {k:Nat} {Z l:List Nat} {xs:List FV} {qs:List Rat} (h:TbOk k Z l xs qs):Good Tryz.prog 70 [.fz 1 (Ns Z),tabV l xs] (I 0):=by
 have hc:=rcountT_w h.ok
 have hcl:=h.ok.cnt
 have hxl:xs.length=cntS (szT Z) l:=by rw [h.fr.len,h.len]
 refine good_of Tryz.func70 rfl (by kernel_rfl) fun X hO hrd=>?_;rw [Tryz.ntmps70,Tryz.results70];simp only [ast0,List.map_cons,List.map_nil,List.length_cons,List.length_nil,Nat.reduceAdd,Nat.reduceSub,List.replicate_succ,List.replicate_zero,List.cons_append,List.nil_append]
 (repeat (with_reducible first|refine W_seq fun K hK=>?_|refine J_region ?_ |(refine Kont.go (by assumption) ?_)|(simp (config:={ maxSteps:=3000000 }) (disch:=omega) only [go_sem,↓reduceIte,Nat.reduceAdd])))
 (first|refine call_f (hc) rfl ?_|refine callQ_f (hc) rfl ?_|refine callHK_f (hc) rfl ?_|refine callH_f (hc) rfl ?_)
 (repeat (with_reducible first|refine W_seq fun K hK=>?_|refine J_skip ?_|refine J_ret ?_|refine J_region ?_ |refine J_c ?_|refine Jc_false ?_|exact Frz.f _|(refine Kont.go (by assumption) ?_)|(simp (config:={ maxSteps:=3000000 }) (disch:=omega) only [go_sem,↓reduceIte,hxl])))
def opT (most:Bool):Rat→Rat→Rat:=if most then gtrS else fun a b=>a+b
abbrev tab0:FV:=.agg [.v (.slice none 0 0),.v (.slice none 0 0)]
end Go.Proofs.YthehegidpamldaaGreatDoor
set_option linter.unusedVariables false
set_option linter.unusedSimpArgs false
namespace Go.Proofs.YthehegidpamldaaGreatDoor
open Go Go.RowKit Go.Shelf
end Go.Proofs.YthehegidpamldaaGreatDoor
set_option linter.unusedVariables false
set_option linter.unusedSimpArgs false
namespace Go.Proofs.YthehegidpamldaaGreatDoor
open Go Go.RowKit
end Go.Proofs.YthehegidpamldaaGreatDoor
set_option linter.unusedVariables false
set_option linter.unusedSimpArgs false
namespace Go.Proofs.YthehegidpamldaaGreatDoor
open Go Go.RowKit
def tbA (r:Nat) (l P:List FV):AV:=if P=[] then .f (.agg [.fz 1 l,.v (.slice none 0 0)]) else .agg [.f (.fz 1 l),.own r 3 0 P.length]
theorem tbA_pos {r:Nat} {l P:List FV} (h:P≠[]):tbA r l P=.agg [.f (.fz 1 l),.own r 3 0 P.length]:=if_neg h
theorem take_frs {l:List Rat} {x:Nat} {q:Rat} (h:l[x]?=some q):(l.take x).map fr++[fr q]=(l.take (x+1)).map fr:=by
 rw [List.take_add_one,h,List.map_append];rfl
theorem sortT_u {H:AH} {q:Nat} {zs S:List Int} (hS:S=srtT zs) (hq:H[q]?=some (some ⟨3,1,(zs.map I).map .f⟩)) (hz:zs.length<4611686018427387904) :
  CallU Tryz.prog 37 [.own q 1 0 zs.length] H (fun u G=>u=.f (.v (.tuple #[]))∧G=H.set q (some ⟨3,1,(S.map I).map .f⟩)):=by
 subst hS;exact sort_u hq hz
end Go.Proofs.YthehegidpamldaaGreatDoor
set_option linter.unusedVariables false
set_option linter.unusedSimpArgs false
namespace Go.Proofs.YthehegidpamldaaGreatDoor
open Go Go.RowKit
section
variable {l : List Int} {n v x : Nat}
end
end Go.Proofs.YthehegidpamldaaGreatDoor
set_option linter.unusedVariables false
set_option linter.unusedSimpArgs false
namespace Go.Proofs.YthehegidpamldaaGreatDoor
open Go Go.RowKit
theorem flat_Ns {l:List Nat}:∀x∈Ns l,FlatF x:=fun x hx=>by
 obtain ⟨k,_,rfl⟩:=List.mem_map.1 hx
 exact .v _
set_option maxRecDepth 100000 in
set_option maxHeartbeats 4000000 in
theorem rallO_w (xs:List FV) (hn:xs.length≤1000):GoodO Tryz.prog 22 [.fz 1 xs] (rvG 3 1 (Ns (List.range xs.length))):=by
 obtain ⟨n,hne⟩:∃n,n=xs.length:=⟨_,rfl⟩
 obtain ⟨R,hR⟩:∃R,R=rvG 3 1 (Ns (List.range xs.length)):=⟨_,rfl⟩
 have hend:∀{H:AH} {r:Nat},H[r]?=some (ob 3 1 (Ns (List.range xs.length)))→ownR H (sl r 1 (Ns (List.range xs.length))) R:=fun h=>by rw [hR];exact rvG_end h flat_Ns
 rw [←hR]
 rw [←hne] at hn hend
 refine goodO_of Tryz.func22 rfl (by kernel_rfl) fun X hO hrd=>?_;rw [Tryz.ntmps22,Tryz.results22];simp only [ast0,List.map_cons,List.map_nil,List.length_cons,List.length_nil,Nat.reduceAdd,Nat.reduceSub,List.replicate_succ,List.replicate_zero,List.cons_append,List.nil_append]
 (repeat (with_reducible first|refine W_seq fun K hK=>?_|refine J_block ?_|refine J_region ?_ |(refine Kont.go (by assumption) ?_)|(simp (config:={ maxSteps:=3000000 }) (disch:=omega) only [go_sem])))
 refine J_reserve ?_
 refine W_loop [3,4,5,6,7,8,9,10,11,12,13,14] (fun x:Nat=>[(3,sl 0 1 (Ns (List.range x))),(4,.f (I x))]) (fun x:Nat=>[ob 3 1 (Ns (List.range x))]) (fun x:Nat=>x≤n) (fun x:Nat=>n-x) (0) (Nat.zero_le _) (by refine weak_of ?_ ?_<;>simp (disch:=omega) only [go_sem]<;>first|rfl|exact ⟨rfl,rfl⟩|exact Or.inl rfl|exact ⟨Or.inl rfl,Or.inl rfl⟩|trivial|assumption|omega|(symm;assumption)|((repeat' apply And.intro)<;>first|rfl|omega|trivial|exact .inl rfl|exact .inr ⟨rfl,rfl⟩|exact .inr rfl|(right;symm;assumption)|(symm;assumption)|assumption)) ?_
 rintro x hx
 simp only [go_sem]
 (repeat (with_reducible first|refine W_seq fun K hK=>?_|refine J_region ?_ |refine J_c ?_|(refine Kont.go (by assumption) ?_)|(simp (config:={ maxSteps:=3000000 }) (disch:=omega) only [go_sem,←hne])))
 refine Jc_if (fun hxn=>?_) (fun hxn=>?_)<;>try simp only [decide_eq_true_eq,decide_eq_false_iff_not] at hxn
 ·have hs:Ns (List.range x)++[I (x:Int)]=Ns (List.range (x+1)):=by rw [Ns_snoc,List.range_succ]
  have hl:(Ns (List.range x)).length=x:=by rw [Ns_len,List.length_range]
  have hb:((Ns (List.range x)).length+1)*8≤140737488355328:=by omega
  (repeat (first|(with_reducible first|refine W_seq fun K hK=>?_|refine J_block ?_|refine J_skip ?_|refine J_region ?_ |refine aApp_sl ?_|(refine Kont.go (by assumption) ?_)|(simp (config:={ maxSteps:=3000000 }) (disch:=omega) only [go_sem,Nat.reduceEqDiff,↓reduceIte,Nat.reduceLeDiff,hs,hb]))|refine And.intro (by omega) ?_))
  refine ⟨x+1,by omega,by omega,weak_of ?_ ?_⟩<;>(try simp (disch:=omega) only [go_sem])<;>(try first|done|omega|rfl|exact ⟨rfl,rfl⟩|trivial)
 ·have he:x=n:=by omega
  subst he
  (repeat (with_reducible first|refine W_seq fun K hK=>?_|refine J_exit ?_|refine J_ret ?_|refine J_region ?_ |(refine Kont.go (by assumption) ?_)|(simp (config:={ maxSteps:=3000000 }) (disch:=omega) only [go_sem,↓reduceIte])))
  exact hend rfl
theorem rall_fresh (xs:List FV) (hn:xs.length≤1000):Fresh Tryz.prog 22 [.fz 1 xs] (.fz 1 (Ns (List.range xs.length))):=freshO (rallO_w xs hn)
theorem rall_w (xs:List FV) (hn:xs.length≤1000):Good Tryz.prog 22 [.fz 1 xs] (.fz 1 (Ns (List.range xs.length))):=(rall_fresh xs hn).good (by kernel_rfl)
def lessM (l m:List Nat):List Nat:=l.filter fun v=>decide (v∉m)
theorem lessM_one {l:List Nat} {v:Nat}:lessM l [v]=lessT l v:=by
 unfold lessM lessT
 refine List.filter_congr fun x _=>decide_eq_decide.2 ?_
 rw [List.mem_singleton]
theorem lessM_next {l m:List Nat} {x:Nat} (h:x<l.length):lessM (l.take (x+1)) m=lessM (l.take x) m++if l.getD x 0∈m then [] else [l.getD x 0]:=by
 unfold lessM
 rw [List.take_add_one,List.getElem?_eq_getElem h,List.filter_append,lget_lt l 0 h]
 congr 1
 by_cases hm:l[x]∈m
 ·rw [if_pos hm];simp [hm]
 ·rw [if_neg hm];simp [hm]
theorem lessM_len {l m:List Nat}:(lessM l m).length≤l.length:=List.length_filter_le _ _
end Go.Proofs.YthehegidpamldaaGreatDoor
set_option linter.unusedVariables false
set_option linter.unusedSimpArgs false
namespace Go.Proofs.YthehegidpamldaaGreatDoor
open Go Go.RowKit
def rwA (Z l:List Nat) (k i:Nat):List Nat:=(List.range l.length).map fun j=>if j<i then asgS (szT Z) l k (l.getD j 0) else 0
section
variable {Z l : List Nat} {k i : Nat}
theorem rwA_len:(rwA Z l k i).length=l.length:=by simp [rwA]
theorem rwA_zero:rwA Z l k 0=List.replicate l.length 0:=by
 unfold rwA
 rw [List.eq_replicate_iff]
 refine ⟨by simp,fun x hx=>?_⟩
 obtain ⟨j,hj,rfl⟩:=List.mem_map.1 hx
 rw [if_neg (by omega)]
theorem rwA_end:rwA Z l k l.length=asgL Z l k:=by
 unfold rwA asgL
 apply List.ext_getElem (by simp)
 intro j h1 h2
 have hj:j<l.length:=by simpa using h1
 rw [List.getElem_map,List.getElem_map,List.getElem_range,if_pos hj,lget_lt l 0 hj]
theorem rwA_step (hi:i<l.length):(rwA Z l k i).set i (asgS (szT Z) l k (l.getD i 0))=rwA Z l k (i+1):=by
 unfold rwA
 rw [range_set hi]
 refine List.map_congr_left fun j hj=>?_
 by_cases e:j=i
 ·rw [if_pos e,if_pos (by omega),e]
 ·rw [if_neg e]
  by_cases h:j<i
  ·rw [if_pos h,if_pos (by omega)]
  ·rw [if_neg h,if_neg (by omega)]
theorem rw_step (h:OkT Z l) (hk:k<cntS (szT Z) l) (hi:i<l.length) :
  cntS (szT Z) (l.drop i)/szT Z (l.getD i 0)=cntS (szT Z) (l.drop (i+1))∧k%cntS (szT Z) (l.drop i)/cntS (szT Z) (l.drop (i+1))=asgS (szT Z) l k (l.getD i 0)∧k%cntS (szT Z) (l.drop i)%cntS (szT Z) (l.drop (i+1))=k%cntS (szT Z) (l.drop (i+1)):=by
 have hc:=cnt_drop (S:=szT Z) hi
 have hp:=(h.zdrop (i+1)).cnt1
 have hs:=h.szp (h.get hi)
 rw [lget_lt l 0 hi] at hs ⊢
 refine ⟨?_,?_,?_⟩
 ·rw [hc];exact Nat.mul_div_cancel_left _ hs
 ·rw [dig_eq hi h.nd h.pos hk,hc,Nat.mul_comm,Nat.mod_mul_right_div_self]
 ·rw [hc,Nat.mul_comm,Nat.mod_mul_right_mod]
end
set_option maxRecDepth 100000 in
set_option maxHeartbeats 4000000 in
theorem rwhere_w {Z l:List Nat} {k:Nat} (h:OkT Z l) (hk:k<cntS (szT Z) l):Good Tryz.prog 24 [.fz 1 (Ns Z),.fz 1 (Ns l),I (k:Int)] (.tup [.fz 1 (Ns (asgL Z l k)),I 0]):=by
 have hl8:=h.len
 have hz8:=h.z8
 have hc:=h.cnt
 have hrc:=rcountT_w h
 have hz:List.replicate l.length (AV.f (FV.v (.int .i64 0)))=(Ns (rwA Z l k 0)).map AV.f:=by rw [rwA_zero];unfold Ns;rw [List.map_replicate,List.map_replicate];rfl
 have hby:(8:Int)*(l.length:Int)≤281474976710656:=by omega
 have hk2:¬((cntS (szT Z) l:Nat):Int)≤(k:Int):=by omega
 have hk3:¬(k:Int)<0:=by omega
 have e0:I (k:Int)=I ((k%cntS (szT Z) (l.drop 0):Nat):Int):=by rw [List.drop_zero,Nat.mod_eq_of_lt hk]
 have e1:I ((cntS (szT Z) l:Nat):Int)=I ((cntS (szT Z) (l.drop 0):Nat):Int):=by rw [List.drop_zero]
 refine good_of Tryz.func24 rfl (by kernel_rfl) fun X hO hrd=>?_;rw [Tryz.ntmps24,Tryz.results24];simp only [ast0,List.map_cons,List.map_nil,List.length_cons,List.length_nil,Nat.reduceAdd,Nat.reduceSub,List.replicate_succ,List.replicate_zero,List.cons_append,List.nil_append]
 (repeat (with_reducible first|refine W_seq fun K hK=>?_|refine J_region ?_ |(refine Kont.go (by assumption) ?_)|(simp (config:={ maxSteps:=3000000 }) (disch:=omega) only [go_sem])))
 (first|refine call_f (hrc) rfl ?_|refine callQ_f (hrc) rfl ?_|refine callHK_f (hrc) rfl ?_|refine callH_f (hrc) rfl ?_)
 (repeat (first|(with_reducible first|refine W_seq fun K hK=>?_|refine J_block ?_|refine J_skip ?_|refine J_region ?_ |refine J_c ?_|refine Jc_false ?_|(refine Kont.go (by assumption) ?_)|(simp (config:={ maxSteps:=3000000 }) (disch:=omega) only [go_sem,hk2,hk3,hz,Ns_len]))|refine And.intro (by omega) ?_))
 rw [e0,e1]
 refine W_loop [2,8,11,31,32,33,34,35,36,37,38,39,40,41,42,43,44,45,46,47,48,49,50,51,52,53,54] (fun x:Nat=>[(2,.f (I ((k%cntS (szT Z) (l.drop x):Nat):Int))),(8,.f (I ((cntS (szT Z) (l.drop x):Nat):Int))),(11,.f (I x))]) (fun x:Nat=>[some ⟨3,1,(Ns (rwA Z l k x)).map .f⟩]) (fun x:Nat=>x≤l.length) (fun x:Nat=>l.length-x) (0) (Nat.zero_le _) (by refine weak_of ?_ ?_<;>simp (disch:=omega) only [go_sem]<;>first|rfl|exact ⟨rfl,rfl⟩|exact Or.inl rfl|exact ⟨Or.inl rfl,Or.inl rfl⟩|trivial|assumption|omega|(symm;assumption)|((repeat' apply And.intro)<;>first|rfl|omega|trivial|exact .inl rfl|exact .inr ⟨rfl,rfl⟩|exact .inr rfl|(right;symm;assumption)|(symm;assumption)|assumption)) ?_
 rintro x hx
 simp only [go_sem]
 (repeat (with_reducible first|refine W_seq fun K hK=>?_|refine J_region ?_ |refine J_c ?_|(refine Kont.go (by assumption) ?_)|(simp (config:={ maxSteps:=3000000 }) (disch:=omega) only [go_sem,Ns_len])))
 refine Jc_if (fun hxl=>?_) (fun hxl=>?_)<;>try simp only [decide_eq_true_eq,decide_eq_false_iff_not] at hxl
 ·have g1:=Ns_get hxl
  have hgl:=h.get hxl
  have g2:=Ns_get (l:=Z) hgl
  obtain ⟨s1,s2,s3⟩:=rw_step h hk hxl
  have hsp:=h.szp hgl
  have hp:=(h.zdrop (x+1)).cnt1
  have hp2:=(h.zdrop (x+1)).cnt
  have hp3:=(h.zdrop x).cnt
  have hp4:=(h.zdrop x).cnt1
  have d1:((cntS (szT Z) (l.drop x):Nat):Int).tdiv ((Z.getD (l.getD x 0) 0:Nat):Int)=((cntS (szT Z) (l.drop (x+1)):Nat):Int):=by rw [td_nat];exact congrArg _ s1
  obtain ⟨A,hA⟩:∃A,A=k%cntS (szT Z) (l.drop x):=⟨_,rfl⟩
  obtain ⟨B,hB⟩:∃B,B=cntS (szT Z) (l.drop (x+1)):=⟨_,rfl⟩
  obtain ⟨C,hC⟩:∃C,C=asgS (szT Z) l k (l.getD x 0):=⟨_,rfl⟩
  obtain ⟨D,hD⟩:∃D,D=k%cntS (szT Z) (l.drop (x+1)):=⟨_,rfl⟩
  have hAl:A≤65536:=by rw [hA];have:=Nat.mod_lt k hp4;omega
  have hset:=rwA_step (Z:=Z) (k:=k) hxl
  rw [←hB] at d1 s2 s3 hp hp2 hD
  rw [←hA] at s2 s3 ⊢
  rw [←hC] at s2 hset
  rw [←hD] at s3
  have d2:(A:Int).tdiv (B:Int)=(C:Int):=by rw [td_nat];exact congrArg _ s2
  have d3:(A:Int).tmod (B:Int)=(D:Int):=by rw [tm_nat];exact congrArg _ s3
  have hCl:C≤65536:=by rw [←s2];have:=Nat.div_le_self A B;omega
  have hz0:¬((Z.getD (l.getD x 0) 0:Nat):Int)=0:=by unfold szT at hsp;omega
  have hB0:¬(B:Int)=0:=by omega
  have w1:=wrN hp2
  have w2:=wrN hCl
  have hst:((Ns (rwA Z l k x)).map AV.f).set x (.f (I (C:Int)))=(Ns (rwA Z l k (x+1))).map AV.f:=by rw [←List.map_set,Ns_set,hset]
  have hwl:((Ns (rwA Z l k x)).map AV.f).length=l.length:=by rw [List.length_map,Ns_len,rwA_len]
  have hgw:((Ns (rwA Z l k x)).map AV.f)[x]?=some (.f (I ((rwA Z l k x).getD x 0:Nat))):=by rw [List.getElem?_map,Ns_get (by rw [rwA_len];exact hxl)];rfl
  (repeat (first|(with_reducible first|refine W_seq fun K hK=>?_|refine J_block ?_|refine J_skip ?_|refine J_region ?_ |(refine Kont.go (by assumption) ?_)|(simp (config:={ maxSteps:=3000000 }) (disch:=omega) only [go_sem,↓reduceIte,g1,g2,d1,d2,d3,hz0,hB0,w1,w2,hst,hgw]))|refine And.intro (by omega) ?_))
  rw [hD,hB]
  refine ⟨x+1,by omega,by omega,weak_of ?_ ?_⟩<;>(try simp (disch:=omega) only [go_sem])<;>(try first|done|omega|rfl|exact ⟨rfl,rfl⟩|trivial)
 ·have he:x=l.length:=by omega
  subst he
  rw [rwA_end]
  (repeat (with_reducible first|refine W_seq fun K hK=>?_|refine J_exit ?_|refine J_ret ?_|refine J_region ?_ |(refine Kont.go (by assumption) ?_)|(simp (config:={ maxSteps:=3000000 }) (disch:=omega) only [go_sem,↓reduceIte])))
  exact ⟨_,rfl,FrzL.cons (Frz.own0 rfl (by rw [Ns_len,asgL_len])) (FrzL.cons (.f _) (FrzL.nil _))⟩
def spL (Z l:List Nat) (k:Nat):List Nat:=(List.range Z.length).map (asgS (szT Z) l k)
def spA (Z l:List Nat) (k i:Nat):List Nat:=(List.range Z.length).map fun w=>if w∈l.take i then asgS (szT Z) l k w else 0
section
variable {Z l : List Nat} {k i : Nat}
theorem spA_len:(spA Z l k i).length=Z.length:=by simp [spA]
theorem spL_len:(spL Z l k).length=Z.length:=by simp [spL]
theorem spA_zero:spA Z l k 0=List.replicate Z.length 0:=by
 unfold spA
 rw [List.eq_replicate_iff]
 refine ⟨by simp,fun x hx=>?_⟩
 obtain ⟨j,hj,rfl⟩:=List.mem_map.1 hx
 rw [if_neg (by simp)]
theorem spA_end:spA Z l k l.length=spL Z l k:=by
 unfold spA spL
 refine List.map_congr_left fun w _=>?_
 rw [List.take_length]
 by_cases h:w∈l
 ·rw [if_pos h]
 ·rw [if_neg h,asgS_out h]
theorem spA_step (h:OkT Z l) (hi:i<l.length):(spA Z l k i).set (l.getD i 0) (asgS (szT Z) l k (l.getD i 0))=spA Z l k (i+1):=by
 unfold spA
 rw [range_set (h.get hi)]
 refine List.map_congr_left fun w _=>?_
 rw [List.take_add_one,List.getElem?_eq_getElem hi,lget_lt l 0 hi,show (some l[i]).toList=[l[i]] from rfl]
 by_cases e:w=l[i]
 ·rw [if_pos e,if_pos (by rw [e];exact List.mem_append_right _ (List.mem_singleton.2 rfl)),e]
 ·rw [if_neg e]
  by_cases hw:w∈l.take i
  ·rw [if_pos hw,if_pos (List.mem_append_left _ hw)]
  ·rw [if_neg hw,if_neg fun hm=>(List.mem_append.1 hm).elim hw fun h=>e (List.mem_singleton.1 h)]
end
set_option maxRecDepth 100000 in
set_option maxHeartbeats 4000000 in
theorem rspread_w {Z l:List Nat} {k:Nat} (h:OkT Z l):GoodO Tryz.prog 42 [.fz 1 (Ns Z),.fz 1 (Ns l),.fz 1 (Ns (asgL Z l k))] (.own 3 1 (Ns (spL Z l k))):=by
 have hl8:=h.len
 have hz8:=h.z8
 have hz1:=h.z1
 have hz:List.replicate Z.length (AV.f (FV.v (.int .i64 0)))=(Ns (spA Z l k 0)).map AV.f:=by rw [spA_zero];unfold Ns;rw [List.map_replicate,List.map_replicate];rfl
 have hby:(8:Int)*(Z.length:Int)≤281474976710656:=by omega
 obtain ⟨R,hR⟩:∃R,R=RV.own 3 1 (Ns (spL Z l k)):=⟨_,rfl⟩
 have hend:∀{H:AH},H[0]?=some (some ⟨3,1,(Ns (spL Z l k)).map .f⟩)→ownR H (.own 0 1 0 Z.length) R:=fun h=>by
  rw [hR];exact ⟨0,by rw [Ns_len,spL_len],h,flat_Ns⟩
 rw [←hR]
 refine goodO_of Tryz.func42 rfl (by kernel_rfl) fun X hO hrd=>?_;rw [Tryz.ntmps42,Tryz.results42];simp only [ast0,List.map_cons,List.map_nil,List.length_cons,List.length_nil,Nat.reduceAdd,Nat.reduceSub,List.replicate_succ,List.replicate_zero,List.cons_append,List.nil_append]
 (repeat (first|(with_reducible first|refine W_seq fun K hK=>?_|refine J_block ?_|refine J_region ?_ |(refine Kont.go (by assumption) ?_)|(simp (config:={ maxSteps:=3000000 }) (disch:=omega) only [go_sem,hz,Ns_len]))|refine And.intro (by omega) ?_))
 refine W_loop [8,12,13,14,15,16,17,18,19,20,21,22,23,24,25,26,27] (fun x:Nat=>[(8,.f (I x))]) (fun x:Nat=>[some ⟨3,1,(Ns (spA Z l k x)).map .f⟩]) (fun x:Nat=>x≤l.length) (fun x:Nat=>l.length-x) (0) (Nat.zero_le _) (by refine weak_of ?_ ?_<;>simp (disch:=omega) only [go_sem]<;>first|rfl|exact ⟨rfl,rfl⟩|exact Or.inl rfl|exact ⟨Or.inl rfl,Or.inl rfl⟩|trivial|assumption|omega|(symm;assumption)|((repeat' apply And.intro)<;>first|rfl|omega|trivial|exact .inl rfl|exact .inr ⟨rfl,rfl⟩|exact .inr rfl|(right;symm;assumption)|(symm;assumption)|assumption)) ?_
 rintro x hx
 simp only [go_sem]
 (repeat (with_reducible first|refine W_seq fun K hK=>?_|refine J_region ?_ |refine J_c ?_|(refine Kont.go (by assumption) ?_)|(simp (config:={ maxSteps:=3000000 }) (disch:=omega) only [go_sem,Ns_len])))
 refine Jc_if (fun hxl=>?_) (fun hxl=>?_)<;>try simp only [decide_eq_true_eq,decide_eq_false_iff_not] at hxl
 ·have g1:=Ns_get hxl
  have hgl:=h.get hxl
  have g3:=Ns_get (l:=asgL Z l k) (i:=x) (by rw [asgL_len];exact hxl)
  rw [asgL_get hxl] at g3
  have hst:((Ns (spA Z l k x)).map AV.f).set (l.getD x 0) (.f (I ((asgS (szT Z) l k (l.getD x 0):Nat):Int)))=(Ns (spA Z l k (x+1))).map AV.f:=by rw [←List.map_set,Ns_set,spA_step h hxl]
  have hwl:((Ns (spA Z l k x)).map AV.f).length=Z.length:=by rw [List.length_map,Ns_len,spA_len]
  have hgw:((Ns (spA Z l k x)).map AV.f)[l.getD x 0]?=some (.f (I ((spA Z l k x).getD (l.getD x 0) 0:Nat))):=by rw [List.getElem?_map,Ns_get (by rw [spA_len];exact hgl)];rfl
  (repeat (with_reducible first|refine W_seq fun K hK=>?_|refine J_block ?_|refine J_skip ?_|refine J_region ?_ |refine J_drawn mixed (by kernel_rfl) ?_|(refine Kont.go (by assumption) ?_)|(simp (config:={ maxSteps:=3000000 }) (disch:=omega) only [go_sem,↓reduceIte,g1,g3,hst,hgw,hgl])))
  refine ⟨x+1,by omega,by omega,weak_of ?_ ?_⟩<;>(try simp (disch:=omega) only [go_sem])<;>(try first|done|omega|rfl|exact ⟨rfl,rfl⟩|trivial)
 ·have he:x=l.length:=by omega
  subst he
  rw [spA_end]
  (repeat (with_reducible first|refine W_seq fun K hK=>?_|refine J_exit ?_|refine J_ret ?_|refine J_region ?_ |(refine Kont.go (by assumption) ?_)|(simp (config:={ maxSteps:=3000000 }) (disch:=omega) only [go_sem,↓reduceIte])))
  exact hend rfl
set_option maxRecDepth 100000 in
set_option maxHeartbeats 4000000 in
theorem rcell_w {j:Nat} {Z l:List Nat} {xs:List FV} {qs:List Rat} (h:TbOk j Z l xs qs) {a:Nat→Nat} (ha:∀w∈l,a w<szT Z w) {g:Bool} {n d:ByteArray} (hx:xs[idxS (szT Z) a l]?=some (frR g n d)) :
  Good Tryz.prog 72 [.fz 1 (Ns Z),tabV l xs,.fz 1 (Ns ((List.range Z.length).map a))] (frR g n d):=by
 have hl8:=h.ok.len
 have hz8:=h.ok.z8
 have hc:=h.ok.cnt
 have hxl:=h.fr.len
 have hlt:=idxS_lt (S:=szT Z) ha
 obtain ⟨ix,hix⟩:∃ix:Nat→Nat,ix=fun x=>idxS (szT Z) a (l.take x):=⟨_,rfl⟩
 have hit:ix l.length=idxS (szT Z) a l:=by rw [hix];show idxS _ _ (l.take l.length)=_;rw [List.take_length]
 have hib:∀x,ix x<65536+1:=fun x=>by
  rw [hix]
  have h1:=idxS_lt (S:=szT Z) (a:=a) (l:=l.take x) fun w hw=>ha w (List.mem_of_mem_take hw)
  have h2:=(h.ok.ztake x).cnt
  show idxS _ _ _<_
  omega
 have hin:∀x,x<l.length→ix (x+1)=ix x*szT Z (l.getD x 0)+a (l.getD x 0):=fun x hx=>by
  rw [hix]
  show idxS _ _ (l.take (x+1))=_
  rw [List.take_add_one,List.getElem?_eq_getElem hx,lget_lt l 0 hx]
  exact idxS_snoc
 have hi0:ix 0=0:=by rw [hix];rfl
 rw [←hit] at hx hlt
 have hlq:ix l.length<xs.length:=by rw [hxl,h.len];exact hlt
 refine good_of Tryz.func72 rfl (by kernel_rfl) fun X hO hrd=>?_;rw [Tryz.ntmps72,Tryz.results72];simp only [ast0,List.map_cons,List.map_nil,List.length_cons,List.length_nil,Nat.reduceAdd,Nat.reduceSub,List.replicate_succ,List.replicate_zero,List.cons_append,List.nil_append]
 (repeat (with_reducible first|refine W_seq fun K hK=>?_|refine J_block ?_|refine J_region ?_ |(refine Kont.go (by assumption) ?_)|(simp (config:={ maxSteps:=3000000 }) (disch:=omega) only [go_sem,Nat.reduceAdd])))
 refine W_loop [7,8,9,10,11,12,13,14,15,16,17,18,19,20,21,22,23,24,25,26,27,28,29,30,31,32,33,34] (fun x:Nat=>[(7,.f (I (ix x:Nat))),(8,.f (I x))]) (fun x:Nat=>[oT (tabV l xs),some ⟨39,3,[.f frN]⟩]) (fun x:Nat=>x≤l.length) (fun x:Nat=>l.length-x) (0) (Nat.zero_le _) (by refine weak_of ?_ ?_<;>simp (disch:=omega) only [go_sem,Nat.reduceAdd]<;>first|rfl|exact ⟨rfl,rfl⟩|exact Or.inl rfl|exact ⟨Or.inl rfl,Or.inl rfl⟩|trivial|assumption|omega|(symm;assumption)|((repeat' apply And.intro)<;>first|rfl|omega|trivial|exact .inl rfl|exact .inr ⟨rfl,rfl⟩|exact .inr rfl|(right;symm;assumption)|(symm;assumption)|assumption)) ?_
 rintro x hx2
 simp only [go_sem]
 (repeat (with_reducible first|refine W_seq fun K hK=>?_|refine J_region ?_ |refine J_c ?_|(refine Kont.go (by assumption) ?_)|(simp (config:={ maxSteps:=3000000 }) (disch:=omega) only [go_sem,↓reduceIte,Ns_len])))
 refine Jc_if (fun hxl2=>?_) (fun hxl2=>?_)<;>try simp only [decide_eq_true_eq,decide_eq_false_iff_not] at hxl2
 ·have g1:=Ns_get hxl2
  have hgl:=h.ok.get hxl2
  have g2:=Ns_get (l:=Z) hgl
  have hll:((List.range Z.length).map a).length=Z.length:=by simp
  have g3:=Ns_get (l:=(List.range Z.length).map a) (i:=l.getD x 0) (by rw [hll];exact hgl)
  have g4:((List.range Z.length).map a).getD (l.getD x 0) 0=a (l.getD x 0):=by rw [lget_lt _ 0 (by rw [hll];exact hgl)];simp
  rw [g4] at g3
  have hs4:=h.ok.sz4 hgl
  have h1:=hib x
  have h2:=hib (x+1)
  have hmx:ix x*szT Z (l.getD x 0)≤300000:=Nat.le_trans (Nat.mul_le_mul (Nat.le_of_lt_succ h1) hs4) (by omega)
  have e0:((ix x:Nat):Int)*((Z.getD (l.getD x 0) 0:Nat):Int)=((ix x*szT Z (l.getD x 0):Nat):Int):=by rw [Int.natCast_mul];rfl
  have e1:((ix x*szT Z (l.getD x 0):Nat):Int)+((a (l.getD x 0):Nat):Int)=((ix (x+1):Nat):Int):=by rw [hin x hxl2,Int.natCast_add]
  (repeat (with_reducible first|refine W_seq fun K hK=>?_|refine J_block ?_|refine J_skip ?_|refine J_region ?_ |refine J_drawn mixed (by kernel_rfl) ?_|(refine Kont.go (by assumption) ?_)|(simp (config:={ maxSteps:=3000000 }) (disch:=omega) only [go_sem,↓reduceIte,g1,g2,g3,e0,e1])))
  refine ⟨x+1,by omega,by omega,weak_of ?_ ?_⟩<;>(try simp (disch:=omega) only [go_sem,Nat.reduceAdd])<;>(try first|done|omega|rfl|exact ⟨rfl,rfl⟩|trivial)
 ·have he:x=l.length:=by omega
  subst he
  (repeat (with_reducible first|refine W_seq fun K hK=>?_|refine J_exit ?_|refine J_ret ?_|refine J_region ?_ |exact Frz.f _|(refine Kont.go (by assumption) ?_)|(simp (config:={ maxSteps:=3000000 }) (disch:=omega) only [go_sem,↓reduceIte,Nat.reduceAdd,hx])))
set_option maxRecDepth 100000 in
set_option maxHeartbeats 4000000 in
theorem rwithoutO_w (l:List Nat) (v:Int) (hl:l.length≤1000) (hv:∀w∈l,w≤1000) (u:Nat) (hvu:v=(u:Int)):GoodO Tryz.prog 71 [.fz 1 (Ns l),I v] (rvG 3 1 (Ns (lessT l u))):=by
 obtain ⟨R,hR⟩:∃R,R=rvG 3 1 (Ns (lessT l u)):=⟨_,rfl⟩
 have hend:∀{H:AH} {r:Nat},H[r]?=some (ob 3 1 (Ns (lessT l u)))→ownR H (sl r 1 (Ns (lessT l u))) R:=fun h=>by rw [hR];exact rvG_end h flat_Ns
 rw [←hR]
 refine goodO_of Tryz.func71 rfl (by kernel_rfl) fun X hO hrd=>?_;rw [Tryz.ntmps71,Tryz.results71];simp only [ast0,List.map_cons,List.map_nil,List.length_cons,List.length_nil,Nat.reduceAdd,Nat.reduceSub,List.replicate_succ,List.replicate_zero,List.cons_append,List.nil_append]
 (repeat (with_reducible first|refine W_seq fun K hK=>?_|refine J_block ?_|refine J_region ?_ |(refine Kont.go (by assumption) ?_)|(simp (config:={ maxSteps:=3000000 }) (disch:=omega) only [go_sem])))
 refine J_reserve ?_
 refine W_loop [5,6,7,8,9,10,11,12,13,14,15,16,17,18,19,20,21,22,23,24,25] (fun x:Nat=>[(5,sl 0 1 (Ns (lessT (l.take x) u))),(6,.f (I x))]) (fun x:Nat=>[ob 3 1 (Ns (lessT (l.take x) u))]) (fun x:Nat=>x≤l.length) (fun x:Nat=>l.length-x) (0) (Nat.zero_le _) (by refine weak_of ?_ ?_<;>simp (disch:=omega) only [go_sem]<;>first|rfl|exact ⟨rfl,rfl⟩|exact Or.inl rfl|exact ⟨Or.inl rfl,Or.inl rfl⟩|trivial|assumption|omega|(symm;assumption)|((repeat' apply And.intro)<;>first|rfl|omega|trivial|exact .inl rfl|exact .inr ⟨rfl,rfl⟩|exact .inr rfl|(right;symm;assumption)|(symm;assumption)|assumption)) ?_
 rintro x hx
 simp only [go_sem]
 (repeat (with_reducible first|refine W_seq fun K hK=>?_|refine J_region ?_ |refine J_c ?_|(refine Kont.go (by assumption) ?_)|(simp (config:={ maxSteps:=3000000 }) (disch:=omega) only [go_sem,Ns_len])))
 refine Jc_if (fun hxl=>?_) (fun hxl=>?_)<;>try simp only [decide_eq_true_eq,decide_eq_false_iff_not] at hxl
 ·have g1:=Ns_get hxl
  have hxv:l.getD x 0≤1000:=by rw [lget_lt l 0 hxl];exact hv _ (List.getElem_mem _)
  have hnx:=lessM_next (m:=[u]) hxl
  rw [lessM_one,lessM_one] at hnx
  have hll:=lessM_len (l:=l.take x) (m:=[u])
  rw [lessM_one,List.length_take] at hll
  have hb:((Ns (lessT (l.take x) u)).length+1)*8≤140737488355328:=by rw [Ns_len];omega
  by_cases hi:l.getD x 0=u
  ·rw [if_pos (List.mem_singleton.2 hi),List.append_nil] at hnx
   have hi2:decide (((l.getD x 0:Nat):Int)=v)=true:=decide_eq_true (by omega)
   rw [←hnx]
   (repeat (with_reducible first|refine W_seq fun K hK=>?_|refine J_block ?_|refine J_skip ?_|refine J_region ?_ |refine J_c ?_|refine Jc_false ?_|(refine Kont.go (by assumption) ?_)|(simp (config:={ maxSteps:=3000000 }) (disch:=omega) only [go_sem,↓reduceIte,g1,hi2])))
   refine ⟨x+1,by omega,by omega,weak_of ?_ ?_⟩<;>(try simp (disch:=omega) only [go_sem])<;>(try first|done|omega|rfl|exact ⟨rfl,rfl⟩|trivial)
  ·rw [if_neg (by simp only [List.mem_singleton];exact hi)] at hnx
   have hi2:decide (((l.getD x 0:Nat):Int)=v)=false:=decide_eq_false (by omega)
   have hs:Ns (lessT (l.take x) u)++[I (l.getD x 0:Nat)]=Ns (lessT (l.take (x+1)) u):=by rw [Ns_snoc,hnx]
   (repeat (first|(with_reducible first|refine W_seq fun K hK=>?_|refine J_block ?_|refine J_skip ?_|refine J_region ?_ |refine aApp_sl ?_|refine J_c ?_|refine Jc_true ?_|(refine Kont.go (by assumption) ?_)|(simp (config:={ maxSteps:=3000000 }) (disch:=omega) only [go_sem,Nat.reduceEqDiff,↓reduceIte,Nat.reduceLeDiff,g1,hi2,hs,Ns_len]))|refine And.intro (by omega) ?_))
   refine ⟨x+1,by omega,by omega,weak_of ?_ ?_⟩<;>(try simp (disch:=omega) only [go_sem])<;>(try first|done|omega|rfl|exact ⟨rfl,rfl⟩|trivial)
 ·have he:x=l.length:=by omega
  subst he
  rw [List.take_length]
  (repeat (with_reducible first|refine W_seq fun K hK=>?_|refine J_exit ?_|refine J_ret ?_|refine J_region ?_ |(refine Kont.go (by assumption) ?_)|(simp (config:={ maxSteps:=3000000 }) (disch:=omega) only [go_sem,↓reduceIte])))
  exact hend rfl
theorem rwithout_w (l:List Nat) (u:Nat) (hl:l.length≤1000) (hv:∀w∈l,w≤1000):Good Tryz.prog 71 [.fz 1 (Ns l),I (u:Int)] (.fz 1 (Ns (lessT l u))):=(freshO (rwithoutO_w l u hl hv u rfl)).good (by kernel_rfl)
end Go.Proofs.YthehegidpamldaaGreatDoor
set_option linter.unusedVariables false
set_option linter.unusedSimpArgs false
namespace Go.Proofs.YthehegidpamldaaGreatDoor
open Go Go.RowKit
def atB (Z l:List Nat) (at_:List Int):Bool:=(List.range l.length).all fun i=>decide (0≤at_.getD i 0∧at_.getD i 0<((szT Z (l.getD i 0):Nat):Int))
theorem atB_iff {Z l:List Nat} {at_:List Int}:atB Z l at_=true↔∀i,i<l.length→0≤at_.getD i 0∧at_.getD i 0<((szT Z (l.getD i 0):Nat):Int):=by
 unfold atB
 rw [List.all_eq_true]
 exact ⟨fun h i hi=>of_decide_eq_true (h i (List.mem_range.2 hi)),fun h i hi=>decide_eq_true (h i (List.mem_range.1 hi))⟩
theorem trisT_w {Z l:List Nat} (h:OkT Z l):Good Tryz.prog 80 [.fz 1 (Ns Z),.fz 1 (Ns l)] (Bo true):=by
 have hl8:=h.len
 have hz8:=h.z8
 have hr:=trising_w (Z.map Int.ofNat) (l.map Int.ofNat) (by rw [List.length_map];omega) (fun x hx=>by obtain ⟨n,hn,rfl⟩:=List.mem_map.1 hx;have:=h.lt n hn;show _≤(n:Int)∧(n:Int)≤_;omega) (by rw [List.length_map];omega)
 rw [ints_Ns,ints_Ns,okB_of h] at hr
 exact hr
set_option maxRecDepth 100000 in
set_option maxHeartbeats 8000000 in
theorem index_w {Z l:List Nat} (at_:List Int) (h:OkT Z l) (hal:at_.length≤140737488355328):Good Tryz.prog 45 [.fz 1 (Ns Z),.fz 1 (Ns l),ints at_] (if at_.length≠l.length then .tup [I 0,I 8] else if atB Z l at_=true then .tup [I (horT Z l at_ l.length:Nat),I 0] else .tup [I 0,I 12]):=by
 have hl8:=h.len
 have hz8:=h.z8
 have hr:=trisT_w h
 by_cases hlen:at_.length=l.length
 case neg =>
  have hlen':¬((at_.length:Nat):Int)=(l.length:Int):=by omega
  rw [if_pos hlen]
  refine good_of Tryz.func45 rfl (by kernel_rfl) fun X hO hrd=>?_;rw [Tryz.ntmps45,Tryz.results45];simp only [ast0,List.map_cons,List.map_nil,List.length_cons,List.length_nil,Nat.reduceAdd,Nat.reduceSub,List.replicate_succ,List.replicate_zero,List.cons_append,List.nil_append]
  (repeat (with_reducible first|refine W_seq fun K hK=>?_|refine J_block ?_|refine J_region ?_ |(refine Kont.go (by assumption) ?_)|(simp (config:={ maxSteps:=3000000 }) (disch:=omega) only [go_sem])))
  (first|refine call_f (hr) rfl ?_|refine callQ_f (hr) rfl ?_|refine callHK_f (hr) rfl ?_|refine callH_f (hr) rfl ?_)
  (repeat (with_reducible first|refine W_seq fun K hK=>?_|refine J_ret ?_|refine J_region ?_ |refine J_c ?_|refine Jc_true ?_|refine Jc_false ?_|(refine Kont.go (by assumption) ?_)|(simp (config:={ maxSteps:=3000000 }) (disch:=omega) only [go_sem,List.length_map,Ns_len,hlen'])))
  exact ⟨_,rfl,FrzL.fs [_,_]⟩
 have hlen':((at_.length:Nat):Int)=(l.length:Int):=by omega
 have hno:∀x,x<l.length→¬(0≤at_.getD x 0∧at_.getD x 0<((szT Z (l.getD x 0):Nat):Int))→atB Z l at_=false:=fun x hx hn=>by
  cases hb:atB Z l at_ with
  | false=>rfl
  | true=>exact absurd (atB_iff.1 hb x hx) hn
 obtain ⟨R,hR⟩:∃R,R=(if at_.length≠l.length then FV.tup [I 0,I 8] else if atB Z l at_=true then .tup [I (horT Z l at_ l.length:Nat),I 0] else .tup [I 0,I 12]):=⟨_,rfl⟩
 have R1:atB Z l at_=true→R=.tup [I (horT Z l at_ l.length:Nat),I 0]:=fun e=>by rw [hR,if_neg (by simp [hlen]),if_pos e]
 have R2:atB Z l at_=false→R=.tup [I 0,I 12]:=fun e=>by rw [hR,if_neg (by simp [hlen]),if_neg (by rw [e];decide)]
 rw [←hR]
 refine good_of Tryz.func45 rfl (by kernel_rfl) fun X hO hrd=>?_;rw [Tryz.ntmps45,Tryz.results45];simp only [ast0,List.map_cons,List.map_nil,List.length_cons,List.length_nil,Nat.reduceAdd,Nat.reduceSub,List.replicate_succ,List.replicate_zero,List.cons_append,List.nil_append]
 (repeat (with_reducible first|refine W_seq fun K hK=>?_|refine J_block ?_|refine J_region ?_ |(refine Kont.go (by assumption) ?_)|(simp (config:={ maxSteps:=3000000 }) (disch:=omega) only [go_sem])))
 (first|refine call_f (hr) rfl ?_|refine callQ_f (hr) rfl ?_|refine callHK_f (hr) rfl ?_|refine callH_f (hr) rfl ?_)
 (repeat (with_reducible first|refine W_seq fun K hK=>?_|refine J_block ?_|refine J_skip ?_|refine J_region ?_ |refine J_c ?_|refine Jc_false ?_|(refine Kont.go (by assumption) ?_)|(simp (config:={ maxSteps:=3000000 }) (disch:=omega) only [go_sem,List.length_map,Ns_len,hlen,decide_true])))
 refine W_loop [6,7,8,9,10,24,25,26,27,28,29,30,31,32,33,34,35,36,37,38,39,40,41,42,43,44,45,46,47,48,49,50,51,52,53,54,55,56] (fun x:Nat=>[(8,.f (I (horT Z l at_ x:Nat))),(24,.f (I x))]) (fun x:Nat=>[]) (fun x:Nat=>x≤l.length∧∀i,i<x→0≤at_.getD i 0∧at_.getD i 0<((szT Z (l.getD i 0):Nat):Int)) (fun x:Nat=>l.length-x) (0) (⟨Nat.zero_le _,fun j h=>by omega⟩) (by refine weak_of ?_ ?_<;>simp (disch:=omega) only [go_sem]<;>first|rfl|exact ⟨rfl,rfl⟩|exact Or.inl rfl|exact ⟨Or.inl rfl,Or.inl rfl⟩|trivial|assumption|omega|(symm;assumption)|((repeat' apply And.intro)<;>first|rfl|omega|trivial|exact .inl rfl|exact .inr ⟨rfl,rfl⟩|exact .inr rfl|(right;symm;assumption)|(symm;assumption)|assumption)) ?_
 ·rintro x ⟨hx,hp⟩
  simp only [go_sem]
  (repeat (with_reducible first|refine W_seq fun K hK=>?_|refine J_region ?_ |refine J_c ?_|(refine Kont.go (by assumption) ?_)|(simp (config:={ maxSteps:=3000000 }) (disch:=omega) only [go_sem])))
  refine Jc_if (fun hxl=>?_) (fun hxl=>?_)<;>try simp only [decide_eq_true_eq,decide_eq_false_iff_not] at hxl
  ·have g1:=Ns_get hxl
   have hgl:=h.get hxl
   have g2:=Ns_get (l:=Z) hgl
   have hxa:x<at_.length:=by omega
   have g3:=map_get I at_ hxa
   have e3:at_.getD x 0=at_[x]:=lget_lt at_ 0 hxa
   have hgz:((Z.getD (l.getD x 0) 0:Nat):Int)=((szT Z (l.getD x 0):Nat):Int):=rfl
   rw [hgz] at g2
   have hz4:=h.sz4 hgl
   by_cases c1:at_[x]<0
   ·have hb:=hno x hxl fun hh=>by omega
    (repeat (with_reducible first|refine W_seq fun K hK=>?_|refine J_block ?_|refine J_skip ?_|refine J_ret ?_|refine J_region ?_ |refine J_drawn mixed (by kernel_rfl) ?_|refine J_c ?_|refine Jc_true ?_|(refine Kont.go (by assumption) ?_)|(simp (config:={ maxSteps:=3000000 }) (disch:=omega) only [go_sem,↓reduceIte,g1,g3,c1])))
    rw [R2 hb]
    exact ⟨_,rfl,FrzL.fs [_,_]⟩
   ·by_cases c2:((szT Z (l.getD x 0):Nat):Int)≤at_[x]
    ·have hb:=hno x hxl fun hh=>by omega
     (repeat (with_reducible first|refine W_seq fun K hK=>?_|refine J_block ?_|refine J_skip ?_|refine J_ret ?_|refine J_region ?_ |refine J_drawn mixed (by kernel_rfl) ?_|refine J_c ?_|refine Jc_true ?_|(refine Kont.go (by assumption) ?_)|(simp (config:={ maxSteps:=3000000 }) (disch:=omega) only [go_sem,↓reduceIte,g1,g2,g3,c1,c2])))
     rw [R2 hb]
     exact ⟨_,rfl,FrzL.fs [_,_]⟩
    ·have hlt:=horT_lt (at_:=at_) h (i:=x) hx fun j hj=>by have:=hp j hj;omega
     have hc:=(h.ztake x).cnt
     have hmx:horT Z l at_ x*szT Z (l.getD x 0)≤300000:=Nat.le_trans (Nat.mul_le_mul (show horT Z l at_ x≤65536 by omega) hz4) (by omega)
     have hn:horT Z l at_ (x+1)=horT Z l at_ x*szT Z (l.getD x 0)+(at_.getD x 0).toNat:=rfl
     have e0:((horT Z l at_ x:Nat):Int)*((szT Z (l.getD x 0):Nat):Int)=((horT Z l at_ x*szT Z (l.getD x 0):Nat):Int):=(Int.natCast_mul _ _).symm
     have e1:((horT Z l at_ x*szT Z (l.getD x 0):Nat):Int)+at_[x]=((horT Z l at_ (x+1):Nat):Int):=by rw [hn];omega
     have hup:((horT Z l at_ (x+1):Nat):Int)≤300000+10:=by rw [←e1];omega
     (repeat (with_reducible first|refine W_seq fun K hK=>?_|refine J_block ?_|refine J_skip ?_|refine J_region ?_ |refine J_drawn mixed (by kernel_rfl) ?_|refine J_c ?_|refine Jc_false ?_|(refine Kont.go (by assumption) ?_)|(simp (config:={ maxSteps:=3000000 }) (disch:=omega) only [go_sem,↓reduceIte,g1,g2,g3,c1,c2,e0,e1])))
     refine ⟨x+1,⟨by omega,upto_next (p:=fun i=>0≤at_.getD i 0∧at_.getD i 0<((szT Z (l.getD i 0):Nat):Int)) hp ⟨by omega,by omega⟩⟩,by omega,weak_of ?_ ?_⟩<;>(try simp (disch:=omega) only [go_sem])<;>(try first|done|omega|rfl|exact ⟨rfl,rfl⟩|trivial)
  ·have he:x=l.length:=by omega
   subst he
   have hb:=atB_iff.2 hp
   (repeat (with_reducible first|refine W_seq fun K hK=>?_|refine J_exit ?_|refine J_ret ?_|refine J_region ?_ |(refine Kont.go (by assumption) ?_)|(simp (config:={ maxSteps:=3000000 }) (disch:=omega) only [go_sem,↓reduceIte])))
   rw [R1 hb]
   exact ⟨_,rfl,FrzL.fs [_,_]⟩
set_option maxRecDepth 100000 in
theorem whereT_w {Z l:List Nat} {k:Nat} (h:OkT Z l) (hk:k<cntS (szT Z) l):Good Tryz.prog 32 [.fz 1 (Ns Z),.fz 1 (Ns l),I (k:Int)] (.tup [.fz 1 (Ns (asgL Z l k)),I 0]):=by
 have hr:=tcountT_w h
 have hw:=where_w h hk
 have c0:¬(k:Int)<0:=by omega
 have c1:¬((cntS (szT Z) l:Nat):Int)≤(k:Int):=by omega
 refine good_of Tryz.func32 rfl (by kernel_rfl) fun X hO hrd=>?_;rw [Tryz.ntmps32,Tryz.results32];simp only [ast0,List.map_cons,List.map_nil,List.length_cons,List.length_nil,Nat.reduceAdd,Nat.reduceSub,List.replicate_succ,List.replicate_zero,List.cons_append,List.nil_append]
 (repeat (with_reducible first|refine W_seq fun K hK=>?_|refine J_region ?_ |(refine Kont.go (by assumption) ?_)|(simp (config:={ maxSteps:=3000000 }) (disch:=omega) only [go_sem])))
 (first|refine call_f (hr) rfl ?_|refine callQ_f (hr) rfl ?_|refine callHK_f (hr) rfl ?_|refine callH_f (hr) rfl ?_)
 (repeat (with_reducible first|refine W_seq fun K hK=>?_|refine J_block ?_|refine J_skip ?_|refine J_region ?_ |refine J_c ?_|refine Jc_false ?_|(refine Kont.go (by assumption) ?_)|(simp (config:={ maxSteps:=3000000 }) (disch:=omega) only [go_sem,c0,c1])))
 (first|refine call_f (hw) rfl ?_|refine callQ_f (hw) rfl ?_|refine callHK_f (hw) rfl ?_|refine callH_f (hw) rfl ?_)
 (repeat (with_reducible first|refine J_ret ?_|(refine Kont.go (by assumption) ?_)|(simp (config:={ maxSteps:=3000000 }) (disch:=omega) only [go_sem])))
 exact ⟨_,rfl,FrzL.fs [_,_]⟩
end Go.Proofs.YthehegidpamldaaGreatDoor
