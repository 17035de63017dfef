/- The document's classes, and the closed one: walked. Conditions: numbers of 10^6 bytes each. -/
import Derived.Test.YtcgagiimlkjcpaaGreatDoorZB21
import Derived.Test.YtcgagiimlkjcpaaGreatDoorZB18
import Derived.Test.YtcgagiimlkjcpaaGreatDoorZB19
set_option linter.unusedVariables false
set_option linter.unusedSimpArgs false
namespace Go.Proofs.YtcgagiimlkjcpaaGreatDoor
open Go Go.RowKit
theorem com_R {m:List (List Rat)} {n i k:Nat} (hi:i<n) (hk:k<n):decide (k∈comL n (edg m) i)=wsh (edg m) n i k:=by
 have h1:=comL_mem (E:=edg m) hi k
 have h2:=wsh_iff (E:=edg m) hi hk
 cases hb:wsh (edg m) n i k with
 | true=>exact decide_eq_true (h1.2 (h2.1 hb))
 | false=>exact decide_eq_false fun h=>by rw [h2.2 (h1.1 h)] at hb;cases hb
theorem clo_len {m:List (List Rat)} {n i:Nat} (hi:i<n):decide ((comL n (edg m) i).length=(cls n (wsh (edg m) n) i).length)=clo n (wsh (edg m) n) i:=by
 obtain ⟨R,hR⟩:∃R,R=wsh (edg m) n:=⟨_,rfl⟩
 have hmem:∀k,k∈comL n (edg m) i↔k<n∧R i k=true:=fun k=>by
  rw [hR]
  constructor
  ·intro h
   have hk:=comL_lt hi k h
   exact ⟨hk,(wsh_iff hi hk).2 ((comL_mem hi k).1 h)⟩
  ·rintro ⟨hk,h⟩
   exact (comL_mem hi k).2 ((wsh_iff hi hk).1 h)
 have hp:(comL n (edg m) i).length=((List.range n).filter (R i)).length:=by
  have nd2:((List.range n).filter (R i)).Nodup:=List.Pairwise.filter _ List.nodup_range
  exact ((List.perm_ext_iff_of_nodup (comL_nd hi) nd2).2 fun k=>by rw [hmem,List.mem_filter,List.mem_range]).length_eq
 have hc:cls n R i=((List.range n).filter (R i)).filter (fun k=>R k i):=by
  unfold cls
  rw [List.filter_filter]
  exact List.filter_congr fun k _=>Bool.and_comm _ _
 rw [hp,←hR,hc]
 cases hb:clo n R i with
 | true =>
  have:=clo_iff.1 hb
  refine decide_eq_true ?_
  have hself:List.filter (fun k=>R k i) (List.filter (R i) (List.range n))=List.filter (R i) (List.range n):=List.filter_eq_self.2 fun k hk=>by
   obtain ⟨h1,h2⟩:=List.mem_filter.1 hk
   exact this k (List.mem_range.1 h1) h2
  rw [hself]
 | false =>
  refine decide_eq_false fun e=>?_
  have hno:clo n R i=true:=clo_iff.2 fun k hk h=>Classical.byContradiction fun hn=>by
   have:=List.length_filter_lt_length_iff_exists (p:=fun k=>R k i).2 ⟨k,List.mem_filter.2 ⟨List.mem_range.2 hk,h⟩,hn⟩
   omega
  rw [hb] at hno
  cases hno
theorem rcheck0 {b:Nat} {ys:List FV} {m:List (List Rat)} (hm:FrM b ys m) (h1:1≤b) (hb:b≤1000000) (hmx:m.length≤140737488355328) (h0:chkM m=0):Good Tryz.prog 16 [.fz 1 ys] (I 0):=by
 have:=rcheck_w hm h1 (by omega) hmx
 rwa [h0] at this
set_option maxRecDepth 100000 in
set_option maxHeartbeats 8000000 in
theorem rclasses_w {b:Nat} {ys:List FV} {m:List (List Rat)} (hm:FrM b ys m) (h1:1≤b) (hb:b≤1000000) (hmx:m.length≤140737488355328) (h0:chkM m=0) :
  Good Tryz.prog 22 [.fz 1 ys] (.tup [.fz 1 (repF m.length (wsh (edg m) m.length) m.length),.fz 1 (shutF m.length (wsh (edg m) m.length) m.length),I 0]):=by
 have hc:=rcheck0 hm h1 hb hmx h0
 obtain ⟨hsq,hn1,hch⟩:=chk_sq hm h0
 have hn6:=hsq.le
 have hco:=fun i (hi:i<m.length)=>rcomes_w (i:=i) hsq h1 hb hi
 have hcR:=fun i k (hi:i<m.length) (hk:k<m.length)=>com_R (m:=m) hi hk
 have hcl:=fun i (hi:i<m.length)=>clo_len (m:=m) hi
 have hcn:=fun i (hi:i<m.length)=>nodup_le (comL_nd (E:=edg m) hi) (comL_lt hi)
 obtain ⟨n,hn⟩:∃n,n=m.length:=⟨_,rfl⟩
 rw [←hn] at hn1 hn6 hco hcR hcl hcn ⊢
 obtain ⟨R,hR⟩:∃R,R=wsh (edg m) n:=⟨_,rfl⟩
 rw [←hR] at hcR hcl ⊢
 have hpre:Pre n R:=by rw [hR];exact wsh_pre
 have hyl:ys.length=n:=hm.len.trans hn.symm
 refine good_of Tryz.func22 rfl (by kernel_rfl) fun X hO hrd=>?_;rw [Tryz.ntmps22,Tryz.results22];simp only [ast0,List.map_cons,List.map_nil,List.length_cons,List.length_nil,Nat.reduceAdd,Nat.reduceSub,List.replicate_succ,List.replicate_zero,List.cons_append,List.nil_append]
 repeat (with_reducible first|refine W_seq fun K hK=>?_|refine J_region ?_ |(refine Kont.go (by assumption) ?_)|(simp (config:={ maxSteps:=3000000 }) (disch:=omega) only [go_sem]))
 refine call_f hc rfl ?_
 repeat (with_reducible first|refine W_seq fun K hK=>?_|refine J_block ?_|refine J_skip ?_|refine J_region ?_ |refine J_c ?_|refine Jc_false ?_|(refine Kont.go (by assumption) ?_)|(simp (config:={ maxSteps:=3000000 }) (disch:=omega) only [go_sem]))
 refine J_reserve ?_
 refine J_reserve ?_
 refine W_loop [6,7,8,9,10,11,12,13,19,20,21,22,23,24,25,26,27,28,29,30,31,32,33,34,35,36,37,38,39,40,41,42,43,44,45,46,47,48,49,50,51,52,53,54,55,56,57,58,59,60,61,62,63,64,65,66] (fun x:Nat=>[(6,sl 0 1 (repF n R x)),(7,sl 1 1 (shutF n R x)),(8,.f (I x))]) (fun x:Nat=>[ob 24 1 (repF n R x),ob 4 1 (shutF n R x)]) (fun x:Nat=>x≤n) (fun x:Nat=>n-x) (0) (Nat.zero_le _) (by refine weak_of ?_ ?_<;>simp (disch:=omega) only [go_sem,Nat.reduceAdd]<;>first|rfl|exact ⟨rfl,rfl⟩|exact Or.inl rfl|exact ⟨Or.inl rfl,Or.inl rfl⟩|trivial|assumption|omega|(symm;assumption)|((repeat' apply And.intro)<;>first|rfl|omega|trivial|exact .inr ⟨rfl,rfl⟩|exact .inr rfl|(right;symm;assumption)|(symm;assumption)|assumption)) ?_
 rintro i hi
 simp only [go_sem]
 repeat (with_reducible first|refine W_seq fun K hK=>?_|refine J_region ?_ |refine J_c ?_|(refine Kont.go (by assumption) ?_)|(simp (config:={ maxSteps:=3000000 }) (disch:=omega) only [go_sem,hyl]))
 refine Jc_if (fun hil=>?_) (fun hil=>?_)<;>try simp only [decide_eq_true_eq,decide_eq_false_iff_not] at hil
 ·have hci:=hco i hil
  repeat (with_reducible first|refine W_seq fun K hK=>?_|refine J_block ?_|refine J_skip ?_|refine J_region ?_ |(refine Kont.go (by assumption) ?_)|(simp (config:={ maxSteps:=3000000 }) (disch:=omega) only [go_sem]))
  refine call_f hci rfl ?_
  repeat (with_reducible first|refine W_seq fun K hK=>?_|refine J_block ?_|refine J_region ?_ |(refine Kont.go (by assumption) ?_)|(simp (config:={ maxSteps:=3000000 }) (disch:=omega) only [go_sem]))
  refine J_reserve ?_
  refine W_loop [9,11,12,13,28,29,30,31,32,33,34,35,36,37,38,39,40,41,42,43,44,45,46,47,48,49] (fun x:Nat=>[(9,sl 2 1 (Ns (clsK R i x))),(11,.f (I x))]) (fun x:Nat=>[ob 24 1 (repF n R i),ob 4 1 (shutF n R i),ob 3 1 (Ns (clsK R i x))]) (fun x:Nat=>x≤n) (fun x:Nat=>n-x) (0) (Nat.zero_le _) (by refine weak_of ?_ ?_<;>simp (disch:=omega) only [go_sem,Nat.reduceAdd]<;>first|rfl|exact ⟨rfl,rfl⟩|exact Or.inl rfl|exact ⟨Or.inl rfl,Or.inl rfl⟩|trivial|assumption|omega|(symm;assumption)|((repeat' apply And.intro)<;>first|rfl|omega|trivial|exact .inr ⟨rfl,rfl⟩|exact .inr rfl|(right;symm;assumption)|(symm;assumption)|assumption)) ?_
  rintro k hk
  simp only [go_sem]
  repeat (with_reducible first|refine W_seq fun K hK=>?_|refine J_region ?_ |refine J_c ?_|(refine Kont.go (by assumption) ?_)|(simp (config:={ maxSteps:=3000000 }) (disch:=omega) only [go_sem,hyl]))
  refine Jc_if (fun hkl=>?_) (fun hkl=>?_)<;>try simp only [decide_eq_true_eq,decide_eq_false_iff_not] at hkl
  ·have hi1:=rinN_w k (comL n (edg m) i) (by omega) (by have:=hcn i hil;omega)
   have hi2:=rinN_w i (comL n (edg m) k) (by omega) (by have:=hcn k hkl;omega)
   rw [hcR i k hil hkl] at hi1
   rw [hcR k i hkl hil] at hi2
   have hck:=hco k hkl
   have hll:=clsK_len (R:=R) (i:=i) (k:=k)
   repeat (with_reducible first|refine W_seq fun K hK=>?_|refine J_block ?_|refine J_skip ?_|refine J_region ?_ |(refine Kont.go (by assumption) ?_)|(simp (config:={ maxSteps:=3000000 }) (disch:=omega) only [go_sem]))
   refine call_f hi1 rfl ?_
   repeat (with_reducible first|refine W_seq fun K hK=>?_|refine J_region ?_ |(refine Kont.go (by assumption) ?_)|(simp (config:={ maxSteps:=3000000 }) (disch:=omega) only [go_sem]))
   refine call_f hck rfl ?_
   repeat (with_reducible first|(simp (config:={ maxSteps:=3000000 }) (disch:=omega) only [go_sem]))
   refine call_f hi2 rfl ?_
   by_cases hb:(R i k&&R k i)=true
   ·obtain ⟨b1,b2⟩:=Bool.and_eq_true_iff.1 hb
    have hnx:=clsK_yes hb
    rw [b1,b2]
    repeat (first|(with_reducible first|refine W_seq fun K hK=>?_|refine J_region ?_ |refine aApp_sl ?_|refine J_c ?_|refine Jc_true ?_|(refine Kont.go (by assumption) ?_)|(simp (config:={ maxSteps:=3000000 }) (disch:=omega) only [go_sem,Nat.reduceEqDiff,↓reduceIte,Nat.reduceAdd,Nat.reduceLeDiff,hnx]))|refine And.intro (by omega) ?_)
    refine ⟨k+1,by omega,by omega,weak_of ?_ ?_⟩<;>(try simp (disch:=omega) only [go_sem,Nat.reduceAdd])<;>(try first|done|omega|rfl|exact ⟨rfl,rfl⟩|trivial)
   ·have hbf:(R i k&&R k i)=false:=by simpa using hb
    cases b1:R i k with
    | false =>
     repeat (with_reducible first|refine W_seq fun K hK=>?_|refine J_skip ?_|refine J_region ?_ |refine J_c ?_|refine Jc_false ?_|(refine Kont.go (by assumption) ?_)|(simp (config:={ maxSteps:=3000000 }) (disch:=omega) only [go_sem]))
     rw [clsK_no hbf]
     refine ⟨k+1,by omega,by omega,weak_of ?_ ?_⟩<;>(try simp (disch:=omega) only [go_sem,Nat.reduceAdd])<;>(try first|done|omega|rfl|exact ⟨rfl,rfl⟩|trivial)
    | true =>
     have b2:R k i=false:=by rw [b1] at hbf;simpa using hbf
     rw [b2]
     repeat (with_reducible first|refine W_seq fun K hK=>?_|refine J_skip ?_|refine J_region ?_ |refine J_c ?_|refine Jc_false ?_|(refine Kont.go (by assumption) ?_)|(simp (config:={ maxSteps:=3000000 }) (disch:=omega) only [go_sem]))
     rw [clsK_no hbf]
     refine ⟨k+1,by omega,by omega,weak_of ?_ ?_⟩<;>(try simp (disch:=omega) only [go_sem,Nat.reduceAdd])<;>(try first|done|omega|rfl|exact ⟨rfl,rfl⟩|trivial)
  ·have he:k=n:=by omega
   subst he
   obtain ⟨c0,cl,ecl⟩:=List.exists_cons_of_ne_nil (List.ne_nil_of_mem (cls_self hpre hil))
   have e1:Ns (clsK R i k)=Ns (cls k R i):=rfl
   have hd:(Ns (cls k R i))[0]?=some (I (c0:Int)):=by rw [ecl];rfl
   have hlp:0<(Ns (cls k R i)).length:=by rw [ecl];simp [Ns]
   have hlm:(Ns (cls k R i)).length≤6:=by rw [←e1];exact Nat.le_trans clsK_len hn6
   have hrl:=repF_len (n:=k) (R:=R) (x:=i)
   have hsl:=shutF_len (n:=k) (R:=R) (x:=i)
   rw [e1]
   refine J_freeze (j:=9) rfl rfl ?_
   have hri:isRep k R i=decide (c0=i):=by unfold isRep;rw [ecl];show (some c0==some i)=_;by_cases e:c0=i<;>simp [e]
   by_cases e:c0=i
   ·have hy:isRep k R i=true:=by rw [hri];exact decide_eq_true e
    have e2:=hcl i hil
    repeat (first|(with_reducible first|refine W_seq fun K hK=>?_|refine J_exit ?_|refine J_region ?_ |refine aApp_sl ?_|refine J_c ?_|refine Jc_true ?_|(refine Kont.go (by assumption) ?_)|(simp (config:={ maxSteps:=3000000 }) (disch:=omega) only [go_sem,Nat.reduceEqDiff,↓reduceIte,Nat.reduceAdd,Nat.reduceLeDiff,Int.reduceLE,hd,e,Ns_len,e2,Int.natCast_inj]))|refine And.intro (by omega) ?_)
    rw [repF_yes hy,shutF_yes hy]
    refine ⟨i+1,by omega,by omega,weak_of ?_ ?_⟩<;>(try simp (disch:=omega) only [go_sem,Nat.reduceAdd])<;>(try first|done|omega|rfl|exact ⟨rfl,rfl⟩|trivial)
   ·have hy:isRep k R i=false:=by rw [hri];exact decide_eq_false e
    repeat (with_reducible first|refine W_seq fun K hK=>?_|refine J_skip ?_|refine J_exit ?_|refine J_region ?_ |refine J_c ?_|refine Jc_false ?_|(refine Kont.go (by assumption) ?_)|(simp (config:={ maxSteps:=3000000 }) (disch:=omega) only [go_sem,↓reduceIte,Int.reduceLE,hd,e,Int.natCast_inj]))
    rw [repF_no hy,shutF_no hy]
    refine ⟨i+1,by omega,by omega,weak_of ?_ ?_⟩<;>(try simp (disch:=omega) only [go_sem,Nat.reduceAdd])<;>(try first|done|omega|rfl|exact ⟨rfl,rfl⟩|trivial)
 ·have he:i=n:=by omega
  subst he
  repeat (with_reducible first|refine W_seq fun K hK=>?_|refine J_exit ?_|refine J_ret ?_|refine J_region ?_ |(refine Kont.go (by assumption) ?_)|(simp (config:={ maxSteps:=3000000 }) (disch:=omega) only [go_sem,↓reduceIte]))
  exact ⟨_,rfl,FrzL.cons (Frz.sl rfl) (FrzL.cons (Frz.sl rfl) (FrzL.cons (.f _) (FrzL.nil _)))⟩
def cntT (bs:List Bool):Nat→Nat
 | 0=>0
 | x+1=>if bs.getD x false=true then cntT bs x+1 else cntT bs x
def lstC (cs:List (List Nat)) (bs:List Bool):Nat→FV
 | 0=>nilV
 | x+1=>if bs.getD x false=true then .fz 1 (Ns (cs.getD x [])) else lstC cs bs x
theorem cntT_le {bs:List Bool}:∀x,cntT bs x≤x:=by
 intro x
 induction x with
 | zero=>exact Nat.le_refl _
 | succ x ih=>show (if bs.getD x false=true then cntT bs x+1 else cntT bs x)≤x+1;split<;>omega
set_option maxRecDepth 100000 in
set_option maxHeartbeats 8000000 in
theorem rclosed_w {b:Nat} {ys:List FV} {m:List (List Rat)} (hm:FrM b ys m) (h1:1≤b) (hb:b≤1000000) (hmx:m.length≤140737488355328) (h0:chkM m=0) :
  Good Tryz.prog 104 [.fz 1 ys] (.tup [lstC (repL m.length (wsh (edg m) m.length) m.length) (shutL m.length (wsh (edg m) m.length) m.length) (shutL m.length (wsh (edg m) m.length) m.length).length,Bo (decide (cntT (shutL m.length (wsh (edg m) m.length) m.length) (shutL m.length (wsh (edg m) m.length) m.length).length=1))]):=by
 have hc:=rclasses_w hm h1 hb hmx h0
 have hn6:=(chk_sq hm h0).1.le
 obtain ⟨n,hn⟩:∃n,n=m.length:=⟨_,rfl⟩
 rw [←hn] at hc hn6 ⊢
 obtain ⟨R,hR⟩:∃R,R=wsh (edg m) n:=⟨_,rfl⟩
 rw [←hR] at hc ⊢
 have hsl:(shutL n R n).length≤6:=by have:=shutF_len (n:=n) (R:=R) (x:=n);unfold shutF at this;rw [List.length_map] at this;omega
 have hrs:(repL n R n).length=(shutL n R n).length:=by unfold repL shutL;rw [List.length_map,List.length_map]
 obtain ⟨C,hC⟩:∃C,C=repL n R n:=⟨_,rfl⟩
 obtain ⟨B,hB⟩:∃B,B=shutL n R n:=⟨_,rfl⟩
 have e1:repF n R n=C.map fun l=>.fz 1 (Ns l):=by rw [hC];rfl
 have e2:shutF n R n=B.map Bo:=by rw [hB];rfl
 rw [e1,e2] at hc
 rw [←hC,←hB] at hrs ⊢
 rw [←hB] at hsl
 refine good_of Tryz.func104 rfl (by kernel_rfl) fun X hO hrd=>?_;rw [Tryz.ntmps104,Tryz.results104];simp only [ast0,List.map_cons,List.map_nil,List.length_cons,List.length_nil,Nat.reduceAdd,Nat.reduceSub,List.replicate_succ,List.replicate_zero,List.cons_append,List.nil_append]
 repeat (with_reducible first|refine W_seq fun K hK=>?_|refine J_region ?_ |(refine Kont.go (by assumption) ?_)|(simp (config:={ maxSteps:=3000000 }) (disch:=omega) only [go_sem]))
 refine call_f hc rfl ?_
 repeat (with_reducible first|refine W_seq fun K hK=>?_|refine J_block ?_|refine J_region ?_ |(refine Kont.go (by assumption) ?_)|(simp (config:={ maxSteps:=3000000 }) (disch:=omega) only [go_sem]))
 have z1:AV.f (FV.v (Value.slice none 0 0))=.f (lstC C B 0):=rfl
 rw [z1]
 refine W_loop [7,8,9,16,17,18,19,20,21,22,23,24,25,26,27,28,29,30,31] (fun x:Nat=>[(7,.f (I (cntT B x))),(8,.f (lstC C B x)),(9,.f (I x))]) (fun x:Nat=>[]) (fun x:Nat=>x≤B.length) (fun x:Nat=>B.length-x) (0) (Nat.zero_le _) (by refine weak_of ?_ ?_<;>simp (disch:=omega) only [go_sem]<;>first|rfl|exact ⟨rfl,rfl⟩|exact Or.inl rfl|exact ⟨Or.inl rfl,Or.inl rfl⟩|trivial|assumption|omega|(symm;assumption)|((repeat' apply And.intro)<;>first|rfl|omega|trivial|exact .inr ⟨rfl,rfl⟩|exact .inr rfl|(right;symm;assumption)|(symm;assumption)|assumption)) ?_
 rintro i hi
 simp only [go_sem]
 repeat (with_reducible first|refine W_seq fun K hK=>?_|refine J_region ?_ |refine J_c ?_|(refine Kont.go (by assumption) ?_)|(simp (config:={ maxSteps:=3000000 }) (disch:=omega) only [go_sem,List.length_map,hrs]))
 refine Jc_if (fun hil=>?_) (fun hil=>?_)<;>try simp only [decide_eq_true_eq,decide_eq_false_iff_not] at hil
 ·have g1:(B.map Bo)[i]?=some (Bo (B.getD i false)):=by rw [map_get Bo B hil,lget_lt B false hil]
  have g2:(C.map fun l=>FV.fz 1 (Ns l))[i]?=some (.fz 1 (Ns (C.getD i []))):=by rw [map_get (fun l=>FV.fz 1 (Ns l)) C (by omega),lget_lt C [] (by omega)]
  have hcl:=cntT_le (bs:=B) i
  cases hb2:B.getD i false with
  | true =>
   rw [hb2] at g1
   have e3:cntT B (i+1)=cntT B i+1:=if_pos hb2
   have e4:lstC C B (i+1)=.fz 1 (Ns (C.getD i [])):=if_pos hb2
   repeat (with_reducible first|refine W_seq fun K hK=>?_|refine J_block ?_|refine J_skip ?_|refine J_region ?_ |refine J_c ?_|refine Jc_true ?_|(refine Kont.go (by assumption) ?_)|(simp (config:={ maxSteps:=3000000 }) (disch:=omega) only [go_sem,↓reduceIte,g1,g2]))
   rw [←e4]
   refine ⟨i+1,by omega,by omega,weak_of ?_ ?_⟩<;>(try simp (disch:=omega) only [go_sem])<;>(try first|done|omega|rfl|exact ⟨rfl,rfl⟩|trivial)
  | false =>
   rw [hb2] at g1
   have e3:cntT B (i+1)=cntT B i:=if_neg (by rw [hb2];decide)
   have e4:lstC C B (i+1)=lstC C B i:=if_neg (by rw [hb2];decide)
   repeat (with_reducible first|refine W_seq fun K hK=>?_|refine J_block ?_|refine J_skip ?_|refine J_region ?_ |refine J_c ?_|refine Jc_false ?_|(refine Kont.go (by assumption) ?_)|(simp (config:={ maxSteps:=3000000 }) (disch:=omega) only [go_sem,↓reduceIte,g1]))
   rw [←e3,←e4]
   refine ⟨i+1,by omega,by omega,weak_of ?_ ?_⟩<;>(try simp (disch:=omega) only [go_sem])<;>(try first|done|omega|rfl|exact ⟨rfl,rfl⟩|trivial)
 ·have he:i=B.length:=by omega
  subst he
  repeat (with_reducible first|refine W_seq fun K hK=>?_|refine J_exit ?_|refine J_ret ?_|refine J_region ?_ |(refine Kont.go (by assumption) ?_)|(simp (config:={ maxSteps:=3000000 }) (disch:=omega) only [go_sem,↓reduceIte]))
  have e5:decide (((cntT B B.length:Nat):Int)=1)=decide (cntT B B.length=1):=by congr 1;exact propext ⟨fun h=>by omega,fun h=>by omega⟩
  rw [e5]
  exact ⟨_,rfl,FrzL.cons (.f _) (FrzL.cons (.f _) (FrzL.nil _))⟩
def turnB (n:Nat) (p:Nat→Rat) (A:Mx):Bool:=(List.range n).all fun i=>(List.range n).all fun k=>decide (p i*A i k=p k*A k i)
theorem turnB_iff {n:Nat} {p:Nat→Rat} {A:Mx}:turnB n p A=true↔∀i,i<n→∀k,k<n→p i*A i k=p k*A k i:=by simp [turnB]
set_option maxRecDepth 100000 in
set_option maxHeartbeats 8000000 in
theorem turns_w {b s:Nat} {ys:List FV} {m:List (List Rat)} {p:Nat→Rat} (hm:SqM b ys m) (h1:1≤b) (hb:b≤1000000) (hs1:s≤1000000) (hp:∀i,i<m.length→Fz (p i) s)
  (hst:Good Tryz.prog 24 [.fz 1 ys] (.tup [frs ((List.range m.length).map p),I 0])):Good Tryz.prog 30 [.fz 1 ys] (.tup [Bo (turnB m.length p (at2 m)),I 0]):=by
 have hn6:=hm.le
 obtain ⟨n,hn⟩:∃n,n=m.length:=⟨_,rfl⟩
 rw [←hn] at hst hp hn6 ⊢
 have hyl:ys.length=n:=hm.fr.len.trans hn.symm
 have hpl:(((List.range n).map p).map fr).length=n:=by simp
 have hpg:∀j,j<n→(((List.range n).map p).map fr)[j]?=some (fr (p j)):=fun j hj=>by simp [hj]
 refine good_of Tryz.func30 rfl (by kernel_rfl) fun X hO hrd=>?_;rw [Tryz.ntmps30,Tryz.results30];simp only [ast0,List.map_cons,List.map_nil,List.length_cons,List.length_nil,Nat.reduceAdd,Nat.reduceSub,List.replicate_succ,List.replicate_zero,List.cons_append,List.nil_append]
 repeat (with_reducible first|refine W_seq fun K hK=>?_|refine J_region ?_ |(refine Kont.go (by assumption) ?_)|(simp (config:={ maxSteps:=3000000 }) (disch:=omega) only [go_sem]))
 refine call_f hst rfl ?_
 repeat (with_reducible first|refine W_seq fun K hK=>?_|refine J_block ?_|refine J_skip ?_|refine J_region ?_ |refine J_c ?_|refine Jc_false ?_|(refine Kont.go (by assumption) ?_)|(simp (config:={ maxSteps:=3000000 }) (disch:=omega) only [go_sem,hyl]))
 refine W_loop [2,3,6,7,18,19,20,21,22,23,24,25,26,27,28,29,30,31,32,33,34,35,36,37,38,39,40,41,42,43,44,45,46,47,48,49,50,51,52,53] (fun x:Nat=>[(18,.f (I x))]) (fun x:Nat=>[]) (fun x:Nat=>x≤n∧∀i,i<x→∀k,k<n→p i*at2 m i k=p k*at2 m k i) (fun x:Nat=>n-x) (0) (⟨Nat.zero_le _,fun i h=>by omega⟩) (by refine weak_of ?_ ?_<;>simp (disch:=omega) only [go_sem]<;>first|rfl|exact ⟨rfl,rfl⟩|exact Or.inl rfl|exact ⟨Or.inl rfl,Or.inl rfl⟩|trivial|assumption|omega|(symm;assumption)|((repeat' apply And.intro)<;>first|rfl|omega|trivial|exact .inr ⟨rfl,rfl⟩|exact .inr rfl|(right;symm;assumption)|(symm;assumption)|assumption)) ?_
 rintro i ⟨hi,hcol⟩
 simp only [go_sem]
 repeat (with_reducible first|refine W_seq fun K hK=>?_|refine J_region ?_ |refine J_c ?_|(refine Kont.go (by assumption) ?_)|(simp (config:={ maxSteps:=3000000 }) (disch:=omega) only [go_sem]))
 refine Jc_if (fun hil=>?_) (fun hil=>?_)<;>try simp only [decide_eq_true_eq,decide_eq_false_iff_not] at hil
 ·repeat (with_reducible first|refine W_seq fun K hK=>?_|refine J_block ?_|refine J_skip ?_|refine J_region ?_ |(refine Kont.go (by assumption) ?_)|(simp (config:={ maxSteps:=3000000 }) (disch:=omega) only [go_sem,hyl]))
  refine W_loop [2,3,7,23,24,25,26,27,28,29,30,31,32,33,34,35,36,37,38,39,40,41,42,43,44,45,46,47,48,49,50,51,52] (fun x:Nat=>[(23,.f (I x))]) (fun x:Nat=>[]) (fun x:Nat=>x≤n∧∀k,k<x→p i*at2 m i k=p k*at2 m k i) (fun x:Nat=>n-x) (0) (⟨Nat.zero_le _,fun i h=>by omega⟩) (by refine weak_of ?_ ?_<;>simp (disch:=omega) only [go_sem]<;>first|rfl|exact ⟨rfl,rfl⟩|exact Or.inl rfl|exact ⟨Or.inl rfl,Or.inl rfl⟩|trivial|assumption|omega|(symm;assumption)|((repeat' apply And.intro)<;>first|rfl|omega|trivial|exact .inr ⟨rfl,rfl⟩|exact .inr rfl|(right;symm;assumption)|(symm;assumption)|assumption)) ?_
  rintro k ⟨hk,hrow⟩
  simp only [go_sem]
  repeat (with_reducible first|refine W_seq fun K hK=>?_|refine J_region ?_ |refine J_c ?_|(refine Kont.go (by assumption) ?_)|(simp (config:={ maxSteps:=3000000 }) (disch:=omega) only [go_sem]))
  refine Jc_if (fun hkl=>?_) (fun hkl=>?_)<;>try simp only [decide_eq_true_eq,decide_eq_false_iff_not] at hkl
  ·obtain ⟨xs,gg,nn,dd,z1,z2,z3⟩:=hm.at2 (i:=i) (j:=k) (by omega) (by omega)
   obtain ⟨xs',gg',nn',dd',z1',z2',z3'⟩:=hm.at2 (i:=k) (j:=i) (by omega) (by omega)
   have f1:=IsFr.c (hp i hil)
   have f2:=IsFr.c (hp k hkl)
   have f3:=IsFr.c ((hp i hil).mul (hm.f2 h1 (i:=i) (j:=k) (by omega) (by omega)))
   have f4:=IsFr.c ((hp k hkl).mul (hm.f2 h1 (i:=k) (j:=i) (by omega) (by omega)))
   have g1:=hpg i hil
   have g2:=hpg k hkl
   have hz:=cmpR_zero (p i*at2 m i k) (p k*at2 m k i)
   by_cases e:p i*at2 m i k=p k*at2 m k i
   ·have hz1:(cmpR (p i*at2 m i k) (p k*at2 m k i)=0)=True:=eq_true (hz.2 e)
    repeat (first|(with_reducible first|refine W_seq fun K hK=>?_|refine J_block ?_|refine J_skip ?_|refine J_region ?_ |refine J_drawn mixed (by kernel_rfl) ?_|refine J_c ?_|refine Jc_false ?_|(refine Kont.go (by assumption) ?_)|(simp (config:={ maxSteps:=3000000 }) (disch:=omega) only [go_sem,↓reduceIte,Nat.reduceAdd,g1,g2,z1,z2,z1',z2',hz1,decide_true,true_and,and_self]))|refine callQ_f (cmp_w (by assumption) (by assumption) (by omega) (by omega)) rfl ?_|refine callQ_f (mul_w (by assumption) (by assumption) (by omega) (by omega)) rfl ?_)
    refine ⟨k+1,⟨by omega,upto_next (p:=fun k=>p i*at2 m i k=p k*at2 m k i) hrow e⟩,by omega,weak_of ?_ ?_⟩<;>(try simp (disch:=omega) only [go_sem])<;>(try first|done|omega|rfl|exact ⟨rfl,rfl⟩|trivial)
   ·have hz1:(cmpR (p i*at2 m i k) (p k*at2 m k i)=0)=False:=eq_false fun h=>e (hz.1 h)
    have ef:turnB n p (at2 m)=false:=by
     cases hb:turnB n p (at2 m) with
     | false=>rfl
     | true=>exact absurd (turnB_iff.1 hb i hil k hkl) e
    repeat (first|(with_reducible first|refine W_seq fun K hK=>?_|refine J_block ?_|refine J_skip ?_|refine J_ret ?_|refine J_region ?_ |refine J_drawn mixed (by kernel_rfl) ?_|refine J_c ?_|refine Jc_true ?_|(refine Kont.go (by assumption) ?_)|(simp (config:={ maxSteps:=3000000 }) (disch:=omega) only [go_sem,↓reduceIte,Nat.reduceAdd,g1,g2,z1,z2,z1',z2',hz1,decide_false,true_and,and_self]))|refine callQ_f (cmp_w (by assumption) (by assumption) (by omega) (by omega)) rfl ?_|refine callQ_f (mul_w (by assumption) (by assumption) (by omega) (by omega)) rfl ?_)
    rw [ef]
    exact ⟨_,rfl,FrzL.cons (.f _) (FrzL.cons (.f _) (FrzL.nil _))⟩
  ·have he:k=n:=by omega
   subst he
   repeat (with_reducible first|refine J_exit ?_|refine J_region ?_ |(refine Kont.go (by assumption) ?_)|(simp (config:={ maxSteps:=3000000 }) (disch:=omega) only [go_sem,↓reduceIte]))
   refine ⟨i+1,⟨by omega,upto_next (p:=fun i=>∀q,q<k→p i*at2 m i q=p q*at2 m q i) hcol hrow⟩,by omega,weak_of ?_ ?_⟩<;>(try simp (disch:=omega) only [go_sem])<;>(try first|done|omega|rfl|exact ⟨rfl,rfl⟩|trivial)
 ·have he:i=n:=by omega
  subst he
  have ef:turnB i p (at2 m)=true:=turnB_iff.2 hcol
  repeat (with_reducible first|refine W_seq fun K hK=>?_|refine J_exit ?_|refine J_ret ?_|refine J_region ?_ |(refine Kont.go (by assumption) ?_)|(simp (config:={ maxSteps:=3000000 }) (disch:=omega) only [go_sem,↓reduceIte]))
  rw [ef]
  exact ⟨_,rfl,FrzL.cons (.f _) (FrzL.cons (.f _) (FrzL.nil _))⟩
def evR (n:Nat) (A:Mx) (i:Nat):Nat→Rat:=fun k=>A i k+A k i
def evTo (n:Nat) (A:Mx) (i x:Nat):List FV:=(List.range x).map fun k=>fr (evR n A i k)
def evL (n:Nat) (A:Mx) (i:Nat):List Rat:=(List.range n).map (evM n A i)
def evLs (n:Nat) (A:Mx) (x:Nat):List FV:=(List.range x).map fun i=>frs (evL n A i)
section
variable {n i x : Nat} {A : Mx}
theorem evTo_zero:evTo n A i 0=[]:=rfl
theorem evLs_zero:evLs n A 0=[]:=rfl
end
attribute [go_sem] evTo_zero evLs_zero
end Go.Proofs.YtcgagiimlkjcpaaGreatDoor
set_option linter.unusedVariables false
set_option linter.unusedSimpArgs false
namespace Go.Proofs.YtcgagiimlkjcpaaGreatDoor
open Go Go.RowKit
theorem firstI_any {p:Nat→Bool} {n:Nat}:decide (0≤firstI p n)=(List.range n).any p:=by
 unfold firstI
 cases h:(List.range n).find? p with
 | none =>
  have:(List.range n).any p=false:=by
   rw [List.any_eq_false]
   intro x hx
   exact List.find?_eq_none.1 h x hx
  rw [this];decide
 | some i =>
  have:(List.range n).any p=true:=List.any_eq_true.2 ⟨i,List.mem_of_find?_eq_some h,List.find?_some h⟩
  rw [this]
  exact decide_eq_true (Int.natCast_nonneg _)
set_option maxRecDepth 100000 in
theorem indexI_w {l:List Nat} {k:Nat} (hl:l.length≤1000) (hk:k≤1000) (hlm:∀s∈l,s≤1000):Good Tryz.prog 120 [.fz 1 (Ns l),I (k:Int)] (I (firstI (fun i=>decide (l.getD i 0=k)) l.length)):=by
 refine good_of Tryz.func120 rfl (by kernel_rfl) fun X hO hrd=>?_;rw [Tryz.ntmps120,Tryz.results120];simp only [ast0,List.map_cons,List.map_nil,List.length_cons,List.length_nil,Nat.reduceAdd,Nat.reduceSub,List.replicate_succ,List.replicate_zero,List.cons_append,List.nil_append]
 repeat (with_reducible first|refine W_seq fun K hK=>?_|refine J_block ?_|refine J_region ?_ |(refine Kont.go (by assumption) ?_)|(simp (config:={ maxSteps:=3000000 }) (disch:=omega) only [go_sem,Ns_len]))
 refine W_loop [4,5,8,9,10,11,12,13,14,15,16,17,18] (fun x:Nat=>[(8,.f (I x))]) (fun x:Nat=>[]) (fun x:Nat=>x≤l.length∧∀j,j<x→decide (l.getD j 0=k)=false) (fun x:Nat=>l.length-x) (0) (⟨Nat.zero_le _,fun j h=>by omega⟩) (by refine weak_of ?_ ?_<;>simp (disch:=omega) only [go_sem]<;>first|rfl|exact ⟨rfl,rfl⟩|exact Or.inl rfl|exact ⟨Or.inl rfl,Or.inl rfl⟩|trivial|assumption|omega|(symm;assumption)|((repeat' apply And.intro)<;>first|rfl|omega|trivial|exact .inr ⟨rfl,rfl⟩|exact .inr rfl|(right;symm;assumption)|(symm;assumption)|assumption)) ?_
 rintro i ⟨hi,hp⟩
 simp only [go_sem]
 repeat (with_reducible first|refine W_seq fun K hK=>?_|refine J_region ?_ |refine J_c ?_|(refine Kont.go (by assumption) ?_)|(simp (config:={ maxSteps:=3000000 }) (disch:=omega) only [go_sem]))
 refine Jc_if (fun hlt=>?_) (fun hlt=>?_)<;>try simp only [decide_eq_true_eq,decide_eq_false_iff_not] at hlt
 ·have hx:=Ns_get hlt
  have hle:l.getD i 0≤1000:=by rw [lget_lt l 0 hlt];exact hlm _ (List.getElem_mem _)
  by_cases hb:l.getD i 0=k
  ·have e:firstI (fun i=>decide (l.getD i 0=k)) l.length=i:=firstI_some hlt (decide_eq_true hb) hp
   repeat (with_reducible first|refine W_seq fun K hK=>?_|refine J_block ?_|refine J_skip ?_|refine J_ret ?_|refine J_region ?_ |refine J_c ?_|refine Jc_true ?_|(refine Kont.go (by assumption) ?_)|(simp (config:={ maxSteps:=3000000 }) (disch:=omega) only [go_sem,↓reduceIte,hx,hb]))
   rw [e]
   exact Frz.f _
  ·have hb':¬k=l.getD i 0:=fun h=>hb h.symm
   repeat (with_reducible first|refine W_seq fun K hK=>?_|refine J_block ?_|refine J_skip ?_|refine J_region ?_ |refine J_c ?_|refine Jc_false ?_|(refine Kont.go (by assumption) ?_)|(simp (config:={ maxSteps:=3000000 }) (disch:=omega) only [go_sem,↓reduceIte,hx,hb',Int.natCast_inj]))
   refine ⟨i+1,⟨by omega,upto_next (p:=fun j=>decide (l.getD j 0=k)=false) hp (decide_eq_false hb)⟩,by omega,weak_of ?_ ?_⟩<;>(try simp (disch:=omega) only [go_sem])<;>(try first|done|omega|rfl|exact ⟨rfl,rfl⟩|trivial)
 ·have he:i=l.length:=by omega
  have e:firstI (fun i=>decide (l.getD i 0=k)) l.length=-1:=firstI_none (he▸hp)
  repeat (with_reducible first|refine W_seq fun K hK=>?_|refine J_exit ?_|refine J_ret ?_|refine J_region ?_ |(refine Kont.go (by assumption) ?_)|(simp (config:={ maxSteps:=3000000 }) (disch:=omega) only [go_sem,↓reduceIte,Int.reduceNeg]))
  rw [e]
  exact Frz.f _
set_option maxRecDepth 100000 in
theorem containsI_w {l:List Nat} {k:Nat} (hl:l.length≤1000) (hk:k≤1000) (hlm:∀s∈l,s≤1000):Good Tryz.prog 108 [.fz 1 (Ns l),I (k:Int)] (Bo (decide (k∈l))):=by
 have h:=indexI_w hl hk hlm
 have e:decide (0≤firstI (fun i=>decide (l.getD i 0=k)) l.length)=decide (k∈l):=by
  rw [firstI_any]
  by_cases hm:k∈l
  ·obtain ⟨c,hc,ec⟩:=List.getElem_of_mem hm
   rw [decide_eq_true hm]
   exact List.any_eq_true.2 ⟨c,List.mem_range.2 hc,decide_eq_true (by rw [lget_lt l 0 hc];exact ec)⟩
  ·rw [decide_eq_false hm,List.any_eq_false]
   intro j hj hh
   have hj:=List.mem_range.1 hj
   have:=of_decide_eq_true hh
   exact hm (by rw [←this,lget_lt l 0 hj];exact List.getElem_mem _)
 refine good_of Tryz.func108 rfl (by kernel_rfl) fun X hO hrd=>?_;rw [Tryz.ntmps108,Tryz.results108];simp only [ast0,List.map_cons,List.map_nil,List.length_cons,List.length_nil,Nat.reduceAdd,Nat.reduceSub,List.replicate_succ,List.replicate_zero,List.cons_append,List.nil_append]
 repeat (with_reducible first|refine W_seq fun K hK=>?_|refine J_region ?_ |(refine Kont.go (by assumption) ?_)|(simp (config:={ maxSteps:=3000000 }) (disch:=omega) only [go_sem]))
 refine call_f h rfl ?_
 repeat (with_reducible first|refine J_ret ?_|(refine Kont.go (by assumption) ?_)|(simp (config:={ maxSteps:=3000000 }) (disch:=omega) only [go_sem]))
 rw [e]
 exact Frz.f _
end Go.Proofs.YtcgagiimlkjcpaaGreatDoor
set_option linter.unusedVariables false
set_option linter.unusedSimpArgs false
namespace Go.Proofs.YtcgagiimlkjcpaaGreatDoor
open Go Go.RowKit
section
variable {B : List Bool} {q : Nat}
theorem cnt_one (hall:∀j,j≠q→B.getD j false=false) (hq:B.getD q false=true):∀x,cntT B x=if q<x then 1 else 0:=by
 intro x
 induction x with
 | zero=>rfl
 | succ x ih =>
  show (if B.getD x false=true then cntT B x+1 else cntT B x)=_
  by_cases e:x=q
  ·subst e
   rw [if_pos hq,ih,if_neg (by omega),if_pos (by omega)]
  ·rw [hall x e,if_neg (by decide),ih]
   by_cases h:q<x
   ·rw [if_pos h,if_pos (by omega)]
   ·rw [if_neg h,if_neg (by omega)]
theorem lst_one {C:List (List Nat)} (hall:∀j,j≠q→B.getD j false=false) (hq:B.getD q false=true):∀x,q<x→lstC C B x=.fz 1 (Ns (C.getD q [])):=by
 intro x
 induction x with
 | zero=>intro h;omega
 | succ x ih =>
  intro h
  show (if B.getD x false=true then FV.fz 1 (Ns (C.getD x [])) else lstC C B x)=_
  by_cases e:x=q
  ·subst e;rw [if_pos hq]
  ·rw [hall x e,if_neg (by decide)]
   exact ih (by omega)
theorem cnt_mono {x y:Nat} (h:x≤y):cntT B x≤cntT B y:=by
 induction y with
 | zero=>rw [show x=0 by omega];exact Nat.le_refl _
 | succ y ih =>
  by_cases e:x=y+1
  ·rw [e];exact Nat.le_refl _
  ·refine Nat.le_trans (ih (by omega)) ?_
   show cntT B y≤if B.getD y false=true then cntT B y+1 else cntT B y
   split<;>omega
theorem cnt_two {j x:Nat} (hq:B.getD q false=true) (hj:B.getD j false=true) (h1:q<j) (h2:j<x):2≤cntT B x:=by
 have a:cntT B (q+1)=cntT B q+1:=if_pos hq
 have b:cntT B (j+1)=cntT B j+1:=if_pos hj
 have c:=cnt_mono (B:=B) (show q+1≤j by omega)
 have d:=cnt_mono (B:=B) (show j+1≤x by omega)
 omega
theorem flag_cnt (hq:q<B.length) (hqt:B.getD q false=true) (hqf:∀j,j<q→B.getD j false=false) :
  (!decide (0≤firstI (fun i=>(B.drop (q+1)).getD i false) (B.drop (q+1)).length))=decide (cntT B B.length=1) ∧
  (cntT B B.length=1→∀j,j≠q→B.getD j false=false):=by
 have hd:∀i,(B.drop (q+1)).getD i false=B.getD (q+1+i) false:=fun i=>by
  rw [List.getD_eq_getElem?_getD,List.getD_eq_getElem?_getD,List.getElem?_drop]
 rw [firstI_any]
 have key:cntT B B.length=1→∀j,j≠q→B.getD j false=false:=fun h1 j hj=>by
  cases hb:B.getD j false with
  | false=>rfl
  | true =>
   by_cases hlt:j<q
   ·rw [hqf j hlt] at hb;cases hb
   ·by_cases hjl:j<B.length
    ·have:=cnt_two hqt hb (by omega) hjl
     omega
    ·rw [List.getD_eq_getElem?_getD,List.getElem?_eq_none (by omega)] at hb
     cases hb
 refine ⟨?_,key⟩
 by_cases h1:cntT B B.length=1
 ·rw [decide_eq_true h1]
  have:((List.range (B.drop (q+1)).length).any fun i=>(B.drop (q+1)).getD i false)=false:=by
   rw [List.any_eq_false]
   intro i _
   rw [hd,key h1 _ (by omega)]
   decide
  rw [this];rfl
 ·rw [decide_eq_false h1]
  have:((List.range (B.drop (q+1)).length).any fun i=>(B.drop (q+1)).getD i false)=true:=by
   cases hb:((List.range (B.drop (q+1)).length).any fun i=>(B.drop (q+1)).getD i false) with
   | true=>rfl
   | false =>
    rw [List.any_eq_false] at hb
    refine absurd ?_ h1
    rw [cnt_one (q:=q) (fun j hj=>?_) hqt,if_pos hq]
    by_cases hlt:j<q
    ·exact hqf j hlt
    ·by_cases hjl:j<B.length
     ·have:=hb (j-(q+1)) (List.mem_range.2 (by rw [List.length_drop];omega))
      rw [hd,show q+1+(j-(q+1))=j by omega] at this
      simpa using this
     ·rw [List.getD_eq_getElem?_getD,List.getElem?_eq_none (by omega)];rfl
  rw [this];rfl
end
structure OneC (m : List (List Rat)) (n b r : Nat) (l : List Nat) (p : Nat → Rat) : Prop where
  hr : r < n
  hl : l = cls n (wsh (edg m) n) r
  hc : clo n (wsh (edg m) n) r = true
  irr : Irr l.length (inQ m l)
  nd : l.Nodup
  lt : ∀ s ∈ l, s < n
  l0 : 0 < l.length
  ln : l.length ≤ n
  stat : Stat n (at2 m) p
  sum : sumF p n = 1
  pin : Stat l.length (inQ m l) fun c => p (l.getD c 0)
  psum : sumF (fun c => p (l.getD c 0)) l.length = 1
  pout : ∀ s, s ∉ l → p s = 0
  fz : ∀ i, i < n → Fz (p i) (szG (b + 9) l.length)
  fit : ∃ q, (shutL n (wsh (edg m) n) n).getD q false = true ∧ q < (shutL n (wsh (edg m) n) n).length ∧ (∀ j, j ≠ q → (shutL n (wsh (edg m) n) n).getD j false = false) ∧ (repL n (wsh (edg m) n) n).getD q [] = l
def oneB (m:List (List Rat)):Bool:=decide (cntT (shutL m.length (wsh (edg m) m.length) m.length) (shutL m.length (wsh (edg m) m.length) m.length).length=1)
section
variable {b : Nat} {ys : List FV} {m : List (List Rat)}
theorem still_no (hF:FrM b ys m) (h1:1≤b) (hb:b≤1000) (hmx:m.length≤140737488355328) (h0:chkM m=0) (ho:oneB m=false) :
  Good Tryz.prog 24 [.fz 1 ys] (.tup [frs [],I 13]):=by
 obtain ⟨hsq,hn1,hch⟩:=chk_sq hF h0
 obtain ⟨q,r,hr,hcr,hq,hqt,hqf,hqr⟩:=last_ex (n:=m.length) (R:=wsh (edg m) m.length) wsh_pre (by omega)
 have hlast:=last_w (p:=q) hF h1 (by omega) hmx h0 hq hqt hqf
 obtain ⟨hfc,hun⟩:=flag_cnt hq hqt hqf
 rw [hfc,show decide (cntT (shutL m.length (wsh (edg m) m.length) m.length) (shutL m.length (wsh (edg m) m.length) m.length).length=1)=false from ho] at hlast
 exact still_many_w hF h1 (by omega) hmx h0 hlast
theorem still_yes (hF:FrM b ys m) (h1:1≤b) (hb:b≤1000) (hmx:m.length≤140737488355328) (h0:chkM m=0) (ho:oneB m=true) :
  ∃r l p,OneC m m.length b r l p∧Good Tryz.prog 24 [.fz 1 ys] (.tup [frs ((List.range m.length).map p),I 0]):=by
 obtain ⟨hsq,hn1,hch⟩:=chk_sq hF h0
 obtain ⟨n,hn⟩:∃n,n=m.length:=⟨_,rfl⟩
 have hs:Sto n (at2 m):=sto_of hn (fun r hr=>(hsq.sq r hr).trans hn.symm) hch
 obtain ⟨q,r,hr,hcr,hq,hqt,hqf,hqr⟩:=last_ex (n:=m.length) (R:=wsh (edg m) m.length) wsh_pre (by omega)
 have hlast:=last_w (p:=q) hF h1 (by omega) hmx h0 hq hqt hqf
 obtain ⟨hfc,hun⟩:=flag_cnt hq hqt hqf
 have hone:cntT (shutL m.length (wsh (edg m) m.length) m.length) (shutL m.length (wsh (edg m) m.length) m.length).length=1:=of_decide_eq_true ho
 rw [hfc,decide_eq_true hone,hqr] at hlast
 have hall:=hun hone
 have hn6:=hsq.le
 rw [←hn] at hr hcr hq hqt hqf hqr hlast hall hn6 ⊢
 obtain ⟨l,hl⟩:∃l,l=cls n (wsh (edg m) n) r:=⟨_,rfl⟩
 rw [←hl] at hlast hqr
 have hlm:∀s∈l,s<n:=fun s hs=>by rw [hl] at hs;exact (cls_mem.1 hs).1
 have hnd:l.Nodup:=by rw [hl];exact cls_nodup
 have hl0:0<l.length:=List.length_pos_of_mem (by rw [hl];exact cls_self wsh_pre hr)
 have hln:l.length≤n:=nodup_le hnd hlm
 have hirr:=irr_cls hs hr hcr
 rw [←hl] at hirr
 obtain ⟨y,hy,hys,hy1⟩:=wSol_spec hirr rfl hl0 hnd
 have hsl:(wSol m l).length=l.length:=by rw [hy];simp
 have hstill:=still_one_w hF h1 (by omega) hmx h0 hlast hl0 (by omega) (by rw [←hn];exact hlm) (by omega)
 rw [hsl,←hn] at hstill
 have hsol:∀c,c<l.length→(wSol m l).getD c 0=y c:=fun c hc=>by rw [hy];simp [List.getD,hc]
 obtain ⟨p,hp⟩:∃p,p=stF l (wSol m l) l.length:=⟨_,rfl⟩
 have hps:FV.fz 3 (stL n l (wSol m l) l.length)=frs ((List.range n).map p):=by unfold stL;rw [hp];show _=FV.fz 3 (((List.range n).map _).map fr);rw [List.map_map];rfl
 rw [hps] at hstill
 have hwf:Row (szG (b+9) l.length) (wSol m l):=wSol_fz (b:=b) hsq h1 (by rw [←hn];exact hlm)
 have hge:=szG_ge (s:=b+9) l.length
 have hpc:∀c,c<l.length→p (l.getD c 0)=y c:=fun c hc=>by rw [hp,stF_at hnd (Nat.le_refl _) hc,hsol c hc]
 refine ⟨r,l,p,⟨hr,hl,hcr,hirr,hnd,hlm,hl0,hln,by rw [hp];exact stF_stat hs hr hcr hl hys hsol,by rw [hp,stF_sum hl hsol];exact hy1,fun k hk=>?_,?_,fun s hs=>by rw [hp];exact stF_out hs (Nat.le_refl _),fun i _=>by rw [hp];exact stF_fz hwf (by omega) (by omega),q,hqt,hq,hall,hqr⟩,hstill⟩
 ·show sumF (fun i=>p (l.getD i 0)*inQ m l i k) l.length=p (l.getD k 0)
  rw [hpc k hk,←hys k hk]
  exact sumF_congr fun i hi=>by rw [hpc i hi]
 ·rw [←hy1];exact sumF_congr fun i hi=>hpc i hi
theorem OneC.pos {n r:Nat} {l:List Nat} {p:Nat→Rat} (h:OneC m n b r l p):∀s∈l,0<p s:=fun s hs=>by
 obtain ⟨c,hc,e⟩:=List.getElem_of_mem hs
 have:=stat_pos h.irr h.pin h.psum c hc
 rw [lget_lt l 0 hc,e] at this
 exact this
theorem OneC.nonneg {n r:Nat} {l:List Nat} {p:Nat→Rat} (h:OneC m n b r l p) (s:Nat):0≤p s:=by
 by_cases hs:s∈l
 ·exact Rat.le_of_lt (h.pos s hs)
 ·rw [h.pout s hs];exact Rat.le_refl
theorem closed_yes (hF:FrM b ys m) (h1:1≤b) (hb:b≤1000) (hmx:m.length≤140737488355328) (h0:chkM m=0) {r:Nat} {l:List Nat} {p:Nat→Rat} (h:OneC m m.length b r l p) :
  Good Tryz.prog 104 [.fz 1 ys] (.tup [.fz 1 (Ns l),Bo true]):=by
 have hcl:=rclosed_w hF h1 (by omega) hmx h0
 obtain ⟨q,hqt,hq,hall,hqr⟩:=h.fit
 rw [cnt_one hall hqt,if_pos hq,lst_one hall hqt _ hq,hqr,decide_eq_true rfl] at hcl
 exact hcl
theorem closed_no (hF:FrM b ys m) (h1:1≤b) (hb:b≤1000) (hmx:m.length≤140737488355328) (h0:chkM m=0) (ho:oneB m=false) :
  ∃lv,Good Tryz.prog 104 [.fz 1 ys] (.tup [lv,Bo false]):=by
 have hcl:=rclosed_w hF h1 (by omega) hmx h0
 rw [show decide (cntT (shutL m.length (wsh (edg m) m.length) m.length) (shutL m.length (wsh (edg m) m.length) m.length).length=1)=false from ho] at hcl
 exact ⟨_,hcl⟩
end
end Go.Proofs.YtcgagiimlkjcpaaGreatDoor
