/- The document's Still and Turns: walked. Conditions: numbers of 10^3 bytes each, five states. -/
import Derived.Test.YtcgagiimlkjcpaaGreatDoorZB25
import Derived.ChangeSame
import Derived.ProofKit
import Derived.OpenShut
import Derived.Deep.DeepHandedRow
import Derived.Lib.LaidTab
import GoSem.PinnedTables
import Derived.Test.YtcgagiimlkjcpaaGreatDoorZB08
import Derived.Carry
import Derived.SizedLaws
import Derived.ChangeArms
import Derived.Test.YtcgagiimlkjcpaaGreatDoorZB11
set_option linter.unusedVariables false
set_option linter.unusedSimpArgs false
namespace Go.Proofs.YtcgagiimlkjcpaaGreatDoor
open Go Go.RowKit
set_option maxRecDepth 100000 in
theorem rstill_err {b:Nat} {ys:List FV} {m:List (List Rat)} (hm:FrM b ys m) (h1:1≤b) (hb:b≤10000) (hmx:m.length≤140737488355328) (h0:chkM m≠0) :
  Good Tryz.prog 25 [.fz 1 ys] (.tup [frs [],I (chkM m)]):=by
 have hc:=rcheck_w hm h1 (by omega) hmx
 refine good_of Tryz.func25 rfl (by kernel_rfl) fun X hO hrd=>?_;rw [Tryz.ntmps25,Tryz.results25];simp only [ast0,List.map_cons,List.map_nil,List.length_cons,List.length_nil,Nat.reduceAdd,Nat.reduceSub,List.replicate_succ,List.replicate_zero,List.cons_append,List.nil_append]
 repeat (with_reducible first|refine W_seq fun K hK=>?_|refine J_region ?_ |(refine Kont.go (by assumption) ?_)|(simp (config:={ maxSteps:=3000000 }) (disch:=omega) only [go_sem]))
 refine call_f hc rfl ?_
 repeat (with_reducible first|refine W_seq fun K hK=>?_|refine J_ret ?_|refine J_region ?_ |refine J_c ?_|refine Jc_true ?_|(refine Kont.go (by assumption) ?_)|(simp (config:={ maxSteps:=3000000 }) (disch:=omega) only [go_sem,h0]))
 exact ⟨_,rfl,FrzL.cons (.nil _) (FrzL.cons (.f _) (FrzL.nil _))⟩
set_option maxRecDepth 100000 in
theorem rstill_no {b:Nat} {ys:List FV} {m:List (List Rat)} (hm:FrM b ys m) (h1:1≤b) (hb:b≤1000) (hmx:m.length≤140737488355328) (h0:chkM m=0) (ho:oneB m=false) :
  Good Tryz.prog 25 [.fz 1 ys] (.tup [frs [],I 13]):=by
 have hc:=rcheck_w hm h1 (by omega) hmx
 rw [h0] at hc
 obtain ⟨lv,hl⟩:=closed_no hm h1 hb hmx h0 ho
 refine good_of Tryz.func25 rfl (by kernel_rfl) fun X hO hrd=>?_;rw [Tryz.ntmps25,Tryz.results25];simp only [ast0,List.map_cons,List.map_nil,List.length_cons,List.length_nil,Nat.reduceAdd,Nat.reduceSub,List.replicate_succ,List.replicate_zero,List.cons_append,List.nil_append]
 repeat (with_reducible first|refine W_seq fun K hK=>?_|refine J_region ?_ |(refine Kont.go (by assumption) ?_)|(simp (config:={ maxSteps:=3000000 }) (disch:=omega) only [go_sem]))
 refine call_f hc rfl ?_
 repeat (with_reducible first|refine W_seq fun K hK=>?_|refine J_skip ?_|refine J_region ?_ |refine J_c ?_|refine Jc_false ?_|(refine Kont.go (by assumption) ?_)|(simp (config:={ maxSteps:=3000000 }) (disch:=omega) only [go_sem]))
 refine call_f hl rfl ?_
 repeat (with_reducible first|refine W_seq fun K hK=>?_|refine J_ret ?_|refine J_region ?_ |refine J_c ?_|refine Jc_true ?_|(refine Kont.go (by assumption) ?_)|(simp (config:={ maxSteps:=3000000 }) (disch:=omega) only [go_sem]))
 exact ⟨_,rfl,FrzL.cons (.nil _) (FrzL.cons (.f _) (FrzL.nil _))⟩
theorem szQ_le2 {b:Nat} (hb:b≤1000):∀d,d≤5→szQ b d≤10000000∧8≤szQ b d:=by
 intro d hd
 have e:d=0∨d=1∨d=2∨d=3∨d=4∨d=5:=by omega
 rcases e with rfl|rfl|rfl|rfl|rfl|rfl<;>simp only [szQ]<;>omega
def treV (m:List (List Rat)) (l:List Nat) (i:Nat):Rat:=if i∈l then treW l.length (inQ m l) (l.idxOf i) else 0
def wTr (m:List (List Rat)) (l:List Nat) (x:Nat):List FV:=(List.range x).map fun i=>fr (treV m l i)
section
variable {b r : Nat} {ys : List FV} {m : List (List Rat)} {l : List Nat} {p : Nat → Rat} {x : Nat}
theorem wTr_zero:wTr m l 0=[]:=rfl
theorem wTr_len:(wTr m l x).length=x:=by simp [wTr]
theorem wTr_next:wTr m l x++[fr (treV m l x)]=wTr m l (x+1):=by simp [wTr,List.range_succ]
theorem treV_at (hnd:l.Nodup) {c:Nat} (hc:c<l.length):treV m l (l.getD c 0)=treW l.length (inQ m l) c:=by
 have hm:=getD_mem hc
 unfold treV
 rw [if_pos hm]
 congr 1
 have hi:=List.idxOf_lt_length_of_mem hm
 refine nodup_inj hnd hi hc ?_
 rw [List.getElem_idxOf,lget_lt l 0 hc]
theorem treV_sum (h:OneC m m.length b r l p):sumF (treV m l) m.length=sumF (treW l.length (inQ m l)) l.length:=by
 have:=sumF_list (treV m l) h.nd h.lt
 rw [sumF_congr fun c hc=>treV_at h.nd hc] at this
 rw [this]
 refine sumF_congr fun k _=>?_
 by_cases hk:k∈l
 ·rw [if_pos hk]
 ·rw [if_neg hk];unfold treV;rw [if_neg hk]
theorem treV_pos (h:OneC m m.length b r l p):0<sumF (treV m l) m.length:=by
 rw [treV_sum h]
 exact Std.lt_of_lt_of_le (tre_pos h.irr h.l0) (sumF_ge (f:=treW l.length (inQ m l)) (fun k _=>tre_nonneg h.irr.nonneg) h.l0)
theorem treV_p (h:OneC m m.length b r l p) (i:Nat):treV m l i/sumF (treV m l) m.length=p i:=by
 by_cases hi:i∈l
 ·obtain ⟨c,hc,e⟩:=List.getElem_of_mem hi
  have e':l.getD c 0=i:=by rw [lget_lt l 0 hc,e]
  rw [treV_sum h,←e',treV_at h.nd hc]
  exact tree_thm h.irr h.l0 h.pin h.psum c hc
 ·rw [h.pout i hi]
  unfold treV
  rw [if_neg hi,Rat.div_def,Rat.zero_mul]
attribute [go_sem] wTr_zero
set_option maxRecDepth 100000 in
set_option maxHeartbeats 4000000 in
theorem rstill_yes (hm:FrM b ys m) (h1:1≤b) (hb:b≤1000) (hmx:m.length≤5) (h0:chkM m=0) (h:OneC m m.length b r l p) :
  Good Tryz.prog 25 [.fz 1 ys] (.tup [frs ((List.range m.length).map p),I 0]):=by
 have hc:=rcheck_w hm h1 (by omega) (by omega)
 rw [h0] at hc
 have hcl:=closed_yes hm h1 hb (by omega) h0 h
 obtain ⟨hsq,hn1,hch⟩:=chk_sq hm h0
 have hyl:ys.length=m.length:=hm.len
 have hl5:l.length≤5:=Nat.le_trans h.ln hmx
 have hsz:=szQ_le2 hb l.length hl5
 have hqz:∀i k,i<l.length→k<l.length→Fz (inQ m l i k) b:=fun i k hi hk=>hsq.f2 h1 (h.lt _ (getD_mem hi)) (h.lt _ (getD_mem hk))
 have hvz:∀i,Fz (treV m l i) (szQ b l.length):=fun i=>by
  unfold treV
  split
  ·rename_i hi
   rw [←trS_all (List.idxOf_lt_length_of_mem hi) (g:=fun _=>0)]
   exact trS_fz hqz (by omega) (by omega)
  ·exact (Fz.int (n:=0) (by decide)).up (by omega)
 obtain ⟨n,hn⟩:∃n,n=m.length:=⟨_,rfl⟩
 have hrow:Row (szQ b l.length) ((List.range n).map (treV m l)):=fun q hq=>by
  obtain ⟨i,_,rfl⟩:=List.mem_map.1 hq
  exact hvz i
 have hsum:sumR ((List.range n).map (treV m l))=sumF (treV m l) m.length:=by
  unfold sumR
  rw [sumTo_F,List.length_map,List.length_range,←hn]
  exact sumF_congr fun k hk=>by simp [List.getD,hk]
 have hsh:=share_w (Frs.c hrow) (by omega) (by simp;omega) (by omega) (by rw [hsum];exact Rat.ne_of_gt (treV_pos h))
 have hres:FV.fz 3 (shTo ((List.range n).map (treV m l)) (sumR ((List.range n).map (treV m l))) ((List.range n).map (treV m l)).length)=frs ((List.range n).map p):=by
  unfold shTo
  show _=FV.fz 3 (((List.range n).map p).map fr)
  rw [hsum,List.map_map]
  congr 1
  rw [List.length_map,List.length_range]
  refine List.map_congr_left fun i hi=>?_
  have hi:=List.mem_range.1 hi
  show fr (((List.range n).map (treV m l)).getD i 0/_)=fr (p i)
  rw [←treV_p h i]
  simp [List.getD,hi]
 have hwv:FV.fz 3 (wTr m l n)=FV.fz 3 (((List.range n).map (treV m l)).map fr):=by unfold wTr;rw [List.map_map];rfl
 rw [hres,←hwv] at hsh
 rw [←hn] at hyl ⊢
 refine good_of Tryz.func25 rfl (by kernel_rfl) fun X hO hrd=>?_;rw [Tryz.ntmps25,Tryz.results25];simp only [ast0,List.map_cons,List.map_nil,List.length_cons,List.length_nil,Nat.reduceAdd,Nat.reduceSub,List.replicate_succ,List.replicate_zero,List.cons_append,List.nil_append]
 repeat (with_reducible first|refine W_seq fun K hK=>?_|refine J_region ?_ |(refine Kont.go (by assumption) ?_)|(simp (config:={ maxSteps:=3000000 }) (disch:=omega) only [go_sem]))
 refine call_f hc rfl ?_
 repeat (with_reducible first|refine W_seq fun K hK=>?_|refine J_skip ?_|refine J_region ?_ |refine J_c ?_|refine Jc_false ?_|(refine Kont.go (by assumption) ?_)|(simp (config:={ maxSteps:=3000000 }) (disch:=omega) only [go_sem]))
 refine call_f hcl rfl ?_
 repeat (with_reducible first|refine W_seq fun K hK=>?_|refine J_block ?_|refine J_skip ?_|refine J_region ?_ |refine J_c ?_|refine Jc_false ?_|(refine Kont.go (by assumption) ?_)|(simp (config:={ maxSteps:=3000000 }) (disch:=omega) only [go_sem]))
 refine J_reserve ?_
 refine W_loop [7,8,9,10,23,24,25,26,27,28,29,30,31,32,33,34,35,36,37,38,39,40,41] (fun x:Nat=>[(7,sl 0 3 (wTr m l x)),(8,.f (I x))]) (fun x:Nat=>[ob 44 3 (wTr m l x)]) (fun x:Nat=>x≤n) (fun x:Nat=>n-x) (0) (Nat.zero_le _) (by refine weak_of ?_ ?_<;>simp (disch:=omega) only [go_sem]<;>first|rfl|exact ⟨rfl,rfl⟩|exact Or.inl rfl|exact ⟨Or.inl rfl,Or.inl rfl⟩|trivial|assumption|omega|(symm;assumption)|((repeat' apply And.intro)<;>first|rfl|omega|trivial|exact .inr ⟨rfl,rfl⟩|exact .inr rfl|(right;symm;assumption)|(symm;assumption)|assumption)) ?_
 rintro i hi
 simp only [go_sem]
 repeat (with_reducible first|refine W_seq fun K hK=>?_|refine J_region ?_ |refine J_c ?_|(refine Kont.go (by assumption) ?_)|(simp (config:={ maxSteps:=3000000 }) (disch:=omega) only [go_sem,hyl]))
 refine Jc_if (fun hil=>?_) (fun hil=>?_)<;>try simp only [decide_eq_true_eq,decide_eq_false_iff_not] at hil
 ·have hnx:=wTr_next (m:=m) (l:=l) (x:=i)
  have hlt:=wTr_len (m:=m) (l:=l) (x:=i)
  have hin:=rinN_w i l (by omega) (by omega)
  by_cases hm2:i∈l
  ·have ei:l.getD (l.idxOf i) 0=i:=by rw [lget_lt l 0 (List.idxOf_lt_length_of_mem hm2),List.getElem_idxOf]
   have htr:=trees_w hsq h1 hb h.nd h.lt (List.idxOf_lt_length_of_mem hm2) hl5 (d:=l.length) (p:=0) (nx:=[]) (by omega) rfl (fun x hx=>by cases hx)
   have ev:trS l.length (inQ m l) (l.idxOf i) l.length 0 (fun i=>([]:List Nat).getD i 0)=treV m l i:=by
    unfold treV
    rw [if_pos hm2,←trS_all (List.idxOf_lt_length_of_mem hm2) (g:=fun _=>0)];rfl
   rw [ev,ei] at htr
   rw [decide_eq_true hm2] at hin
   repeat (first|(with_reducible first|refine W_seq fun K hK=>?_|refine J_block ?_|refine J_skip ?_|refine J_region ?_ |(refine Kont.go (by assumption) ?_)|(simp (config:={ maxSteps:=3000000 }) (disch:=omega) only [go_sem,↓reduceIte,Nat.reduceAdd]))|refine call_f (rof_frac (by omega) (by omega)) rfl ?_)
   refine call_f hin rfl ?_
   repeat (with_reducible first|refine W_seq fun K hK=>?_|refine J_region ?_ |refine J_c ?_|refine Jc_true ?_|(refine Kont.go (by assumption) ?_)|(simp (config:={ maxSteps:=3000000 }) (disch:=omega) only [go_sem]))
   refine call_fl htr (flat_fr _) (FrzL.cons (.f _) (FrzL.cons (.f _) (FrzL.cons (.f _) (FrzL.cons (.f _) (FrzL.cons (.nil _) (FrzL.nil _)))))) ?_
   repeat (first|(with_reducible first|refine J_region ?_ |refine aApp_sl ?_|(refine Kont.go (by assumption) ?_)|(simp (config:={ maxSteps:=3000000 }) (disch:=omega) only [go_sem,Nat.reduceEqDiff,↓reduceIte,Nat.reduceAdd,Nat.reduceLeDiff,hnx,hlt]))|refine And.intro (by omega) ?_)
   refine ⟨i+1,by omega,by omega,weak_of ?_ ?_⟩<;>(try simp (disch:=omega) only [go_sem])<;>(try first|done|omega|rfl|exact ⟨rfl,rfl⟩|trivial)
  ·have ev:fr ((0:Int):Rat)=fr (treV m l i):=by unfold treV;rw [if_neg hm2];rfl
   rw [decide_eq_false hm2] at hin
   repeat (first|(with_reducible first|refine W_seq fun K hK=>?_|refine J_block ?_|refine J_skip ?_|refine J_region ?_ |(refine Kont.go (by assumption) ?_)|(simp (config:={ maxSteps:=3000000 }) (disch:=omega) only [go_sem,↓reduceIte,Nat.reduceAdd,ev]))|refine call_f (rof_frac (by omega) (by omega)) rfl ?_)
   refine call_f hin rfl ?_
   repeat (first|(with_reducible first|refine W_seq fun K hK=>?_|refine J_skip ?_|refine J_region ?_ |refine aApp_sl ?_|refine J_c ?_|refine Jc_false ?_|(refine Kont.go (by assumption) ?_)|(simp (config:={ maxSteps:=3000000 }) (disch:=omega) only [go_sem,Nat.reduceEqDiff,↓reduceIte,Nat.reduceAdd,Nat.reduceLeDiff,hnx,hlt]))|refine And.intro (by omega) ?_)
   refine ⟨i+1,by omega,by omega,weak_of ?_ ?_⟩<;>(try simp (disch:=omega) only [go_sem])<;>(try first|done|omega|rfl|exact ⟨rfl,rfl⟩|trivial)
 ·have he:i=n:=by omega
  subst he
  refine J_freeze (j:=7) rfl rfl ?_
  repeat (with_reducible first|refine W_seq fun K hK=>?_|refine J_exit ?_|refine J_region ?_ |(refine Kont.go (by assumption) ?_)|(simp (config:={ maxSteps:=3000000 }) (disch:=omega) only [go_sem,↓reduceIte]))
  refine call_f hsh rfl ?_
  repeat (with_reducible first|refine J_ret ?_|(refine Kont.go (by assumption) ?_)|(simp (config:={ maxSteps:=3000000 }) (disch:=omega) only [go_sem]))
  exact ⟨_,rfl,FrzL.fs [_,_]⟩
end
set_option maxRecDepth 100000 in
theorem turns_err {ys:List FV} {v:FV} {e:Int} (he:e≠0) (hst:Good Tryz.prog 24 [.fz 1 ys] (.tup [v,I e])):Good Tryz.prog 30 [.fz 1 ys] (.tup [Bo false,I e]):=by
 refine good_of Tryz.func30 rfl (by kernel_rfl) fun X hO hrd=>?_;rw [Tryz.ntmps30,Tryz.results30];simp only [ast0,List.map_cons,List.map_nil,List.length_cons,List.length_nil,Nat.reduceAdd,Nat.reduceSub,List.replicate_succ,List.replicate_zero,List.cons_append,List.nil_append]
 repeat (with_reducible first|refine W_seq fun K hK=>?_|refine J_region ?_ |(refine Kont.go (by assumption) ?_)|(simp (config:={ maxSteps:=3000000 }) (disch:=omega) only [go_sem]))
 refine call_f hst rfl ?_
 repeat (with_reducible first|refine W_seq fun K hK=>?_|refine J_ret ?_|refine J_region ?_ |refine J_c ?_|refine Jc_true ?_|(refine Kont.go (by assumption) ?_)|(simp (config:={ maxSteps:=3000000 }) (disch:=omega) only [go_sem,he]))
 exact ⟨_,rfl,FrzL.fs [_,_]⟩
set_option maxRecDepth 100000 in
theorem rturns_err {ys:List FV} {v:FV} {e:Int} (he:e≠0) (hst:Good Tryz.prog 25 [.fz 1 ys] (.tup [v,I e])):Good Tryz.prog 31 [.fz 1 ys] (.tup [Bo false,I e]):=by
 refine good_of Tryz.func31 rfl (by kernel_rfl) fun X hO hrd=>?_;rw [Tryz.ntmps31,Tryz.results31];simp only [ast0,List.map_cons,List.map_nil,List.length_cons,List.length_nil,Nat.reduceAdd,Nat.reduceSub,List.replicate_succ,List.replicate_zero,List.cons_append,List.nil_append]
 repeat (with_reducible first|refine W_seq fun K hK=>?_|refine J_region ?_ |(refine Kont.go (by assumption) ?_)|(simp (config:={ maxSteps:=3000000 }) (disch:=omega) only [go_sem]))
 refine call_f hst rfl ?_
 repeat (with_reducible first|refine W_seq fun K hK=>?_|refine J_ret ?_|refine J_region ?_ |refine J_c ?_|refine Jc_true ?_|(refine Kont.go (by assumption) ?_)|(simp (config:={ maxSteps:=3000000 }) (disch:=omega) only [go_sem,he]))
 exact ⟨_,rfl,FrzL.fs [_,_]⟩
def tnR (n:Nat) (p:Nat→Rat) (A:Mx) (i x:Nat):Bool:=(List.range x).all fun k=>decide (p i*A i k=p k*A k i)
def tnU (n:Nat) (p:Nat→Rat) (A:Mx) (x:Nat):Bool:=(List.range x).all fun i=>tnR n p A i n
section
variable {n : Nat} {p : Nat → Rat} {A : Mx} {i x : Nat}
theorem tnR_next:tnR n p A i (x+1)=(tnR n p A i x&&decide (p i*A i x=p x*A x i)):=by unfold tnR;rw [List.range_succ,List.all_append];simp
theorem tnU_next:tnU n p A (x+1)=(tnU n p A x&&tnR n p A x n):=by unfold tnU;rw [List.range_succ,List.all_append];simp
end
set_option maxRecDepth 100000 in
set_option maxHeartbeats 4000000 in
theorem rturns_w {b s:Nat} {ys:List FV} {m:List (List Rat)} {p:Nat→Rat} (hm:SqM b ys m) (h1:1≤b) (hb:b≤1000000) (hs1:s≤10000000) (hp:∀i,i<m.length→Fz (p i) s)
  (hst:Good Tryz.prog 25 [.fz 1 ys] (.tup [frs ((List.range m.length).map p),I 0])):Good Tryz.prog 31 [.fz 1 ys] (.tup [Bo (turnB m.length p (at2 m)),I 0]):=by
 have hn6:=hm.le
 obtain ⟨n,hn⟩:∃n,n=m.length:=⟨_,rfl⟩
 rw [←hn] at hst hp hn6 ⊢
 have hyl:ys.length=n:=hm.fr.len.trans hn.symm
 have hT:turnB n p (at2 m)=tnU n p (at2 m) n:=rfl
 have hpg:∀i,i<n→(((List.range n).map p).map fr)[i]?=some (fr (p i)):=fun i hi=>by simp [hi]
 have hpl:(((List.range n).map p).map fr).length=n:=by simp
 rw [hT]
 refine good_of Tryz.func31 rfl (by kernel_rfl) fun X hO hrd=>?_;rw [Tryz.ntmps31,Tryz.results31];simp only [ast0,List.map_cons,List.map_nil,List.length_cons,List.length_nil,Nat.reduceAdd,Nat.reduceSub,List.replicate_succ,List.replicate_zero,List.cons_append,List.nil_append]
 repeat (with_reducible first|refine W_seq fun K hK=>?_|refine J_region ?_ |(refine Kont.go (by assumption) ?_)|(simp (config:={ maxSteps:=3000000 }) (disch:=omega) only [go_sem]))
 refine call_f hst rfl ?_
 repeat (with_reducible first|refine W_seq fun K hK=>?_|refine J_block ?_|refine J_skip ?_|refine J_region ?_ |refine J_c ?_|refine Jc_false ?_|(refine Kont.go (by assumption) ?_)|(simp (config:={ maxSteps:=3000000 }) (disch:=omega) only [go_sem]))
 refine W_loop [6,7,8,9,10,19,20,21,22,23,24,25,26,27,28,29,30,31,32,33,34,35,36,37,38,39,40,41,42,43,44,45,46,47,48,49,50,51,52,53,54,55,56,57,58,59,60] (fun x:Nat=>[(6,.f (Bo (tnU n p (at2 m) x))),(7,.f (I x))]) (fun x:Nat=>[]) (fun x:Nat=>x≤n) (fun x:Nat=>n-x) (0) (Nat.zero_le _) (by refine weak_of ?_ ?_<;>simp (disch:=omega) only [go_sem]<;>first|rfl|exact ⟨rfl,rfl⟩|exact Or.inl rfl|exact ⟨Or.inl rfl,Or.inl rfl⟩|trivial|assumption|omega|(symm;assumption)|((repeat' apply And.intro)<;>first|rfl|omega|trivial|exact .inr ⟨rfl,rfl⟩|exact .inr rfl|(right;symm;assumption)|(symm;assumption)|assumption)) ?_
 rintro i hi
 simp only [go_sem]
 repeat (with_reducible first|refine W_seq fun K hK=>?_|refine J_region ?_ |refine J_c ?_|(refine Kont.go (by assumption) ?_)|(simp (config:={ maxSteps:=3000000 }) (disch:=omega) only [go_sem,hyl]))
 refine Jc_if (fun hil=>?_) (fun hil=>?_)<;>try simp only [decide_eq_true_eq,decide_eq_false_iff_not] at hil
 ·have e0:tnU n p (at2 m) i=(tnU n p (at2 m) i&&tnR n p (at2 m) i 0):=by simp [tnR]
  repeat (with_reducible first|refine W_seq fun K hK=>?_|refine J_block ?_|refine J_skip ?_|refine J_region ?_ |(refine Kont.go (by assumption) ?_)|(simp (config:={ maxSteps:=3000000 }) (disch:=omega) only [go_sem]))
  rw [e0]
  refine W_loop [6,8,9,10,25,26,27,28,29,30,31,32,33,34,35,36,37,38,39,40,41,42,43,44,45,46,47,48,49,50,51,52,53,54,55,56,57,58,59,60] (fun x:Nat=>[(6,.f (Bo (tnU n p (at2 m) i&&tnR n p (at2 m) i x))),(8,.f (I x))]) (fun x:Nat=>[]) (fun x:Nat=>x≤n) (fun x:Nat=>n-x) (0) (Nat.zero_le _) (by refine weak_of ?_ ?_<;>simp (disch:=omega) only [go_sem]<;>first|rfl|exact ⟨rfl,rfl⟩|exact Or.inl rfl|exact ⟨Or.inl rfl,Or.inl rfl⟩|trivial|assumption|omega|(symm;assumption)|((repeat' apply And.intro)<;>first|rfl|omega|trivial|exact .inr ⟨rfl,rfl⟩|exact .inr rfl|(right;symm;assumption)|(symm;assumption)|assumption)) ?_
  rintro k hk
  simp only [go_sem]
  repeat (with_reducible first|refine W_seq fun K hK=>?_|refine J_region ?_ |refine J_c ?_|(refine Kont.go (by assumption) ?_)|(simp (config:={ maxSteps:=3000000 }) (disch:=omega) only [go_sem,hyl]))
  refine Jc_if (fun hkl=>?_) (fun hkl=>?_)<;>try simp only [decide_eq_true_eq,decide_eq_false_iff_not] at hkl
  ·obtain ⟨xs,g1,n1,d1,y1,x1,f1⟩:=hm.at2 (i:=i) (j:=k) (by omega) (by omega)
   obtain ⟨xt,g2,n2,d2,y2,x2,f2⟩:=hm.at2 (i:=k) (j:=i) (by omega) (by omega)
   have p1:=hpg i hil
   have p2:=hpg k hkl
   have q1:=IsFr.c (hp i hil)
   have q2:=IsFr.c (hp k hkl)
   have hnx:=tnR_next (n:=n) (p:=p) (A:=at2 m) (i:=i) (x:=k)
   obtain ⟨c,hc⟩:∃c,c=(tnU n p (at2 m) i&&tnR n p (at2 m) i k):=⟨_,rfl⟩
   have hc2:(tnU n p (at2 m) i&&tnR n p (at2 m) i (k+1))=(c&&decide (p i*at2 m i k=p k*at2 m k i)):=by rw [hnx,hc,Bool.and_assoc]
   rw [←hc]
   cases c with
   | true =>
    rw [Bool.true_and] at hc2
    repeat (first|(with_reducible first|refine W_seq fun K hK=>?_|refine J_block ?_|refine J_skip ?_|refine J_region ?_ |refine J_drawn mixed (by kernel_rfl) ?_|(refine Kont.go (by assumption) ?_)|(simp (config:={ maxSteps:=3000000 }) (disch:=omega) only [go_sem,↓reduceIte,Nat.reduceAdd,y1,x1,y2,x2,p1,p2,true_and,and_self]))|refine callQ_f (rmul_w (by assumption) (by assumption) (by omega) (by omega)) rfl ?_)
    rw [←hc2]
    refine ⟨k+1,by omega,by omega,weak_of ?_ ?_⟩<;>(try simp (disch:=omega) only [go_sem])<;>(try first|done|omega|rfl|exact ⟨rfl,rfl⟩|trivial)
   | false =>
    rw [Bool.false_and] at hc2
    repeat (first|(with_reducible first|refine W_seq fun K hK=>?_|refine J_block ?_|refine J_skip ?_|refine J_region ?_ |refine J_drawn mixed (by kernel_rfl) ?_|(refine Kont.go (by assumption) ?_)|(simp (config:={ maxSteps:=3000000 }) (disch:=omega) only [go_sem,↓reduceIte,Nat.reduceAdd,y1,x1,y2,x2,p1,p2,true_and,and_self]))|refine callQ_f (rmul_w (by assumption) (by assumption) (by omega) (by omega)) rfl ?_)
    rw [←hc2]
    refine ⟨k+1,by omega,by omega,weak_of ?_ ?_⟩<;>(try simp (disch:=omega) only [go_sem])<;>(try first|done|omega|rfl|exact ⟨rfl,rfl⟩|trivial)
  ·have he:k=n:=by omega
   have hnu:=tnU_next (n:=n) (p:=p) (A:=at2 m) (x:=i)
   rw [he,←hnu]
   repeat (with_reducible first|refine J_exit ?_|refine J_region ?_ |(refine Kont.go (by assumption) ?_)|(simp (config:={ maxSteps:=3000000 }) (disch:=omega) only [go_sem,↓reduceIte]))
   refine ⟨i+1,by omega,by omega,weak_of ?_ ?_⟩<;>(try simp (disch:=omega) only [go_sem])<;>(try first|done|omega|rfl|exact ⟨rfl,rfl⟩|trivial)
 ·have he:i=n:=by omega
  subst he
  repeat (with_reducible first|refine W_seq fun K hK=>?_|refine J_exit ?_|refine J_ret ?_|refine J_region ?_ |(refine Kont.go (by assumption) ?_)|(simp (config:={ maxSteps:=3000000 }) (disch:=omega) only [go_sem,↓reduceIte]))
  exact ⟨_,rfl,FrzL.fs [_,_]⟩
end Go.Proofs.YtcgagiimlkjcpaaGreatDoor
namespace Go.Proofs.YtcgagiimlkjcpaaGreatDoor
open Go Go.ChangeShapes Go.ChangeAt Go.RowKit
variable {H : Type} {enc : TypeId × Value → H} {P : Program}

def relay (cs:Array Value):Obj→Obj
 | .cells _ t frozen=>.cells cs t frozen
 | o=>o
def firstCells:Array Value:=(Go.Pinned.utf8FirstZ.map fun n:Nat=>Value.int .u8 (n:Int)).toArray
def acceptCells:Array Value:=#[.int .u8 128,.int .u8 191,.int .u8 160,.int .u8 191,.int .u8 128,.int .u8 159,.int .u8 144,.int .u8 191,.int .u8 128,.int .u8 143,.int .u8 0,.int .u8 0,.int .u8 0,.int .u8 0,.int .u8 0,.int .u8 0,.int .u8 0,.int .u8 0,.int .u8 0,.int .u8 0,.int .u8 0,.int .u8 0,.int .u8 0,.int .u8 0,.int .u8 0,.int .u8 0,.int .u8 0,.int .u8 0,.int .u8 0,.int .u8 0,.int .u8 0,.int .u8 0]
end Go.Proofs.YtcgagiimlkjcpaaGreatDoor
set_option linter.unusedVariables false
set_option linter.unusedSimpArgs false
namespace Go.Proofs.YtcgagiimlkjcpaaGreatDoor
open Go Go.RowKit Go.ChangeShapes

def Old (w:World):Nat→Prop:=fun b=>b<w.heap.size
section
variable {P : Program} {H : Type}
theorem all_of_each {ts:List TypeId} {ds:List (DataW H)} (h:(DataW.weightsEach P ts ds).all (·≤ reachBytes)=true) {j:Nat} {t:TypeId} {d:DataW H} (ht:ts[j]?=some t) (hd:ds[j]?=some d):(d.weights P t).all (·≤ reachBytes)=true :=
 List.all_eq_true.2 fun n hn=>List.all_eq_true.1 h n (DataW.weights_mem_each ht hd n hn)
theorem mem_weightsAll {e:TypeId} {d:DataW H}:∀{ds:List (DataW H)},d∈ds→∀n∈d.weights P e,n∈DataW.weightsAll P e ds
 | [],h,_,_=>by cases h
 | x::r,h,n,hn=>by
  rw [DataW.weightsAll,List.mem_append]
  rcases List.mem_cons.1 h with rfl|h
  ·exact .inl hn
  ·exact .inr (mem_weightsAll h n hn)
structure Opens (P : Program) (t : TypeId) {α : Type} (F : α → FV) (Ok : α → Prop) : Prop where
  len : ∀ a, (F a).cells.length = P.cellsOf t
  st : ∀ a, (F a).st = true
  rd : ∀ {H : Type} (enc : TypeId × Value → H) (w : World) (fuel : Nat) (cs : List Value) (x : DataW H × List MemPlace), DataW.trod enc P w 0 (fun _ => true) true fuel t cs = some x → (x.1.weights P t).all (· ≤ reachBytes) = true →
    ∃ a, Ok a ∧ cs.length = P.cellsOf t ∧ ∀ (j : Nat) c, (F a).cells[j]? = some c → RepF w (Old w) c (cs.getD j undef)
  up : ∀ (a : α) (w : World) (r : Reach) (b : Nat) (v : Value), Value.okWide P w r b t v → v.cells.toList.length = P.cellsOf t → (∀ (j : Nat) c, (F a).cells[j]? = some c → RepF w (Old w) c (v.cells.toList.getD j undef)) → RepF w (Old w) (F a) v
theorem Opens.arg {t:TypeId} {α:Type} {F:α→FV} {Ok:α→Prop} (h:Opens P t F Ok) {enc:TypeId × Value→H} {w:World} {v:Value} {d:DataW H} {p:List MemPlace} {r:Reach} {b:Nat} (hval:Value.okWide P w r b t v)
  (hT:DataW.Trod enc P w 0 (fun _=>true) true t v d p) (hwt:(d.weights P t).all (·≤ reachBytes)=true):∃a,Ok a∧RepF w (Old w) (F a) v:=by
 obtain ⟨fuel,hf⟩:=hT
 obtain ⟨a,h1,h2,h3⟩:=h.rd enc w fuel _ _ hf hwt
 exact ⟨a,h1,h.up a w r b v hval h2 h3⟩
theorem Opens.map {t:TypeId} {α:Type} {F:α→FV} {Ok Ok':α→Prop} (h:Opens P t F Ok) (hk:∀a,Ok a→Ok' a):Opens P t F Ok' :=
 ⟨h.len,h.st,fun enc w fuel cs x hx hw=>by obtain ⟨a,h1,h2⟩:=h.rd enc w fuel cs x hx hw;exact ⟨a,hk a h1,h2⟩,h.up⟩
theorem one_up {t:TypeId} {w:World} {v:Value} {c:FV} (hn:∀cs,v≠.agg cs) (h:∀(j:Nat) d,[c][j]?=some d→RepF w (Old w) d (v.cells.toList.getD j undef)):RepF w (Old w) c v:=by
 have e:v.cells.toList=[v]:=by cases v<;>first|rfl|exact absurd rfl (hn _)
 have:=h 0 c rfl
 rw [e] at this
 exact this
theorem one_rd {w:World} {c:FV} {v:Value} (h:RepF w (Old w) c v):∀(j:Nat) d,[c][j]?=some d→RepF w (Old w) d ([v].getD j undef):=fun j d hj=>by
 cases j with
 | zero=>simp at hj;subst hj;exact h
 | succ j=>simp at hj
theorem Opens.int {t:TypeId} {k:IntKind} (ht:P.underlying t=some (.int k)) (h1:P.cellsOf t=1):Opens P t (fun n:Int=>.v (.int k n)) (fun n=>(Lit.int k n).wf=true) where
 len a:=by rw [h1];rfl
 st a:=rfl
 rd enc w fuel cs x hx hw:=by
  obtain ⟨n,rfl,rfl,h⟩:=DataW.trod_int ht hx
  exact ⟨n,h,by rw [h1];rfl,one_rd (.v _)⟩
 up a w r b v hv _ h:=one_up (t:=t) (fun cs e=>by subst e;simp [Value.okWide,Cell.okWide,Cell.ok,ht] at hv) h
theorem Opens.bool {t:TypeId} (ht:P.underlying t=some .bool) (h1:P.cellsOf t=1):Opens P t (fun b:Bool=>.v (.bool b)) (fun _=>True) where
 len a:=by rw [h1];rfl
 st a:=rfl
 rd enc w fuel cs x hx hw:=by
  obtain ⟨n,rfl,rfl⟩:=DataW.trod_bool ht hx
  exact ⟨n,trivial,by rw [h1];rfl,one_rd (.v _)⟩
 up a w r b v hv _ h:=one_up (t:=t) (fun cs e=>by subst e;simp [Value.okWide,Cell.okWide,Cell.ok,ht] at hv) h
theorem Opens.string {t:TypeId} (ht:P.underlying t=some .string) (h1:P.cellsOf t=1):Opens P t (fun s:ByteArray=>.v (.string s)) (fun s=>s.size≤reachBytes) where
 len a:=by rw [h1];rfl
 st a:=rfl
 rd enc w fuel cs x hx hw:=by
  obtain ⟨s,rfl,rfl,h⟩:=DataW.trod_string ht hx
  have:=List.all_eq_true.1 hw s.data.toList.length (by simp [DataW.weights])
  rw [bytes_size] at this
  exact ⟨s,by simpa using this,by rw [h1];rfl,one_rd (.v _)⟩
 up a w r b v hv _ h:=one_up (t:=t) (fun cs e=>by subst e;simp [Value.okWide,Cell.okWide,Cell.ok,ht] at hv) h
theorem spot_of_cell {w:World} {a:Addr} {u:Value} (h:w.cell? a=some u):a.spot=none:=by
 unfold World.cell? at h
 split at h
 ·split at h
  ·cases h
  ·rename_i hs;simpa using hs
 ·cases h
theorem add_add {a:Addr} (hs:a.spot=none) (i j:Nat):(a.add i).add j=⟨a.block,a.off+(i+j),none⟩:=by
 obtain ⟨b,o,s⟩:=a
 simp only at hs
 subst hs
 unfold Addr.add
 split<;>split<;>simp_all<;>omega
theorem flatF_at {sz:Nat} {es:List FV} (hu:UniF sz es) (h0:0<sz) {j:Nat} {c:FV} (h:(flatF es)[j]?=some c):∃e,es[j/sz]?=some e∧e.cells[j%sz]?=some c:=by
 have h1:=flat_get (uni_f.2 hu) (i:=j/sz) (Nat.mod_lt j h0)
 rw [Nat.mul_comm,Nat.div_add_mod,flat_f,List.getElem?_map,h,List.getElem?_map] at h1
 cases he:es[j/sz]? with
 | none=>rw [he] at h1;cases h1
 | some e =>
  rw [he] at h1
  simp only [Option.map_some,Option.bind_some,cells_f,List.getElem?_map] at h1
  cases hc:e.cells[j%sz]? with
  | none=>rw [hc] at h1;cases h1
  | some d=>rw [hc] at h1;cases h1;exact ⟨e,rfl,hc⟩
theorem Opens.slice {t e:TypeId} {α:Type} {F:α→FV} {Ok:α→Prop} (h:Opens P e F Ok) {n:Nat} (ht:P.underlying t=some (.slice e)) (hn:P.cellsOf e=n) (h0:0<n) (h1:P.cellsOf t=1) :
  Opens P t (fun l:List α=>.fz n (l.map F)) (fun l=>l.length*P.bytesOf e≤reachBytes∧∀a∈l,Ok a) where
 len a:=by rw [h1];rfl
 st a:=rfl
 rd {H} enc w fuel cs x hx hw:=by
  rcases DataW.trod_slice ht hx with ⟨rfl,rfl⟩|⟨a,len,cap,elems,rest,m,_,rfl,rfl,_,hl,hm,hlen,hel,_,_⟩
  ·exact ⟨[],⟨by simp,by simp⟩,by rw [h1];rfl,one_rd (.fz0 _ _ _ (by simp))⟩
  ·rw [hn] at hel
   have hwa:∀y∈elems,(y.1.weights P e).all (·≤ reachBytes)=true:=fun y hy=>List.all_eq_true.2 fun k hk=>List.all_eq_true.1 hw k (by
    simp only [DataW.weights,ht,List.mem_cons,List.mem_append]
    exact .inr (.inl (mem_weightsAll (List.mem_map.2 ⟨y,hy,rfl⟩) k hk)))
   have hwl:len*P.bytesOf e≤reachBytes:=by
    have:=List.all_eq_true.1 hw ((elems.length+rest.length)*P.bytesOf e) (by simp [DataW.weights,ht])
    have h2:(elems.length+rest.length)*P.bytesOf e≤reachBytes:=by simpa using this
    rw [Nat.add_mul,hlen] at h2
    omega
   have each:∀i:Fin len,∃b:α,Ok b∧∀(j:Nat) c,(F b).cells[j]?=some c→∃u,w.cell? ((a.add (i.1*n)).add j)=some u∧RepF w (Old w) c u:=fun i=>by
    have hi:=hel i.1 i.2
    have hy:elems[i.1]?=some (elems[i.1]'(by rw [hlen];exact i.2)):=List.getElem?_eq_getElem _
    rw [hy] at hi
    obtain ⟨cs',hc,hd⟩:=Option.bind_eq_some_iff.1 hi
    obtain ⟨b,hb1,hb2,hb3⟩:=h.rd enc w m cs' _ hd (hwa _ (List.getElem_mem _))
    refine ⟨b,hb1,fun j c hj=>⟨cs'.getD j undef,?_,hb3 j c hj⟩⟩
    have hjn:j<n:=by rw [←hn,←h.len b];exact glt hj
    rw [(World.cells?_some hc).2.2 j hjn,List.getD_eq_getElem?_getD]
    have:j<cs'.length:=by rw [(World.cells?_some hc).2.1];exact hjn
    rw [List.getElem?_eq_getElem this];rfl
   let A:Fin len→α:=fun i=>Classical.choose (each i)
   have hA:∀i,Ok (A i)∧∀(j:Nat) c,(F (A i)).cells[j]?=some c→∃u,w.cell? ((a.add (i.1*n)).add j)=some u∧RepF w (Old w) c u:=fun i=>Classical.choose_spec (each i)
   refine ⟨List.ofFn A,⟨by rw [List.length_ofFn];exact hwl,fun b hb=>by obtain ⟨i,rfl⟩:=List.mem_ofFn.1 hb;exact (hA i).1⟩,by rw [h1];rfl,one_rd ?_⟩
   by_cases hz:len=0
   ·subst hz
    have:List.ofFn A=[]:=by simp
    rw [this]
    exact .fz0 _ _ _ hm
   ·have hpos:0<len:=by omega
    have hfirst:∃u,w.cell? a=some u:=by
     obtain ⟨_,h3⟩:=hA ⟨0,hpos⟩
     have hl0:0<(F (A ⟨0,hpos⟩)).cells.length:=by rw [h.len,hn];exact h0
     obtain ⟨u,hu,_⟩:=h3 0 _ (List.getElem?_eq_getElem hl0)
     exact ⟨u,by simpa [Addr.add] using hu⟩
    obtain ⟨u0,hu0⟩:=hfirst
    have hs:=spot_of_cell hu0
    have hblk:a.block<w.heap.size:=block_lt_of_cell hu0
    have hel2:∀x∈(List.ofFn A).map F,x.cells.length=n∧x.st=true:=fun x hx=>by
     obtain ⟨b,_,rfl⟩:=List.mem_map.1 hx
     exact ⟨by rw [h.len,hn],h.st b⟩
    have key:∀(j:Nat) c,(flatF ((List.ofFn A).map F))[j]?=some c→∃u,w.cell? ⟨a.block,a.off+j,none⟩=some u∧RepF w (Old w) c u:=fun j c hj=>by
     obtain ⟨e',he1,he2⟩:=flatF_at hel2 h0 hj
     rw [List.getElem?_map] at he1
     cases hb:(List.ofFn A)[j/n]? with
     | none=>rw [hb] at he1;cases he1
     | some b =>
      rw [hb] at he1
      cases he1
      have hjl:j/n<len:=by have:=glt hb;simpa using this
      have hbe:b=A ⟨j/n,hjl⟩:=by
       rw [List.getElem?_eq_getElem (by simpa using hjl)] at hb
       simpa using hb.symm
      subst hbe
      obtain ⟨u,h3,h4⟩:=(hA ⟨j/n,hjl⟩).2 (j%n) c he2
      rw [add_add hs,Nat.mul_comm,Nat.div_add_mod] at h3
      exact ⟨u,h3,h4⟩
    have hval:(Value.slice (some a) len cap)=.slice (some ⟨a.block,a.off,none⟩) ((List.ofFn A).map F).length cap:=by
     obtain ⟨b,o,s⟩:=a
     simp only at hs
     subst hs
     simp
    rw [hval]
    refine .fz n _ a.block a.off cap hblk (by simpa using hl) hm hel2 (fun j=>(w.cell? ⟨a.block,a.off+j,none⟩).getD undef) (fun j c hj=>?_) fun j c hj=>?_
    ·obtain ⟨u,h3,_⟩:=key j c hj
     rw [h3];rfl
    ·obtain ⟨u,h3,h4⟩:=key j c hj
     rw [h3];exact h4
 up a w r b v hv _ h:=one_up (t:=t) (fun cs e=>by subst e;simp [Value.okWide,Cell.okWide,Cell.ok,ht] at hv) h
theorem struct_up {t:TypeId} {fs:Array Field} {cs:List FV} {w:World} {r:Reach} {b:Nat} {v:Value} (ht:P.underlying t=some (.struct fs)) (hv:Value.okWide P w r b t v) (hl:v.cells.toList.length=cs.length) (h:∀(j:Nat) c,cs[j]?=some c→RepF w (Old w) c (v.cells.toList.getD j undef)):RepF w (Old w) (.agg cs) v:=by
 unfold Value.okWide at hv
 rw [ht] at hv
 obtain ⟨us,rfl,hs,_⟩:=hv
 refine .agg cs us (by rw [←hl];simp [Value.cells]) fun j c hj=>?_
 have:=h j c hj
 simpa [Value.cells,List.getD_eq_getElem?_getD,Array.getD_eq_getD_getElem?] using this
theorem field_at {α:Type} {t:TypeId} {F:α→FV} {Ok:α→Prop} (h:Opens P t F Ok) (h1:P.cellsOf t=1) {enc:TypeId × Value→H} {w:World} {fuel:Nat} {cs:List Value} {o:Nat} {x:DataW H × List MemPlace} (hx:DataW.trod enc P w 0 (fun _=>true) true fuel t ((cs.drop o).take (P.cellsOf t))=some x)
  (hw:(x.1.weights P t).all (·≤ reachBytes)=true):∃a,Ok a∧∀c,(F a).cells=[c]→RepF w (Old w) c (cs.getD o undef):=by
 obtain ⟨a,h2,h3,h4⟩:=h.rd enc w fuel _ x hx hw
 refine ⟨a,h2,fun c hc=>?_⟩
 have:=h4 0 c (by rw [hc];rfl)
 rw [h1] at h3 this
 have hlo:o<cs.length:=by simp at h3;omega
 have e:((cs.drop o).take 1).getD 0 undef=cs.getD o undef:=by
  simp [List.getD_eq_getElem?_getD,List.getElem?_drop]
 rwa [e] at this
theorem Opens.struct3 {t t0 t1 t2:TypeId} {f0 f1 f2:Field} {α0 α1 α2:Type} {F0:α0→FV} {F1:α1→FV} {F2:α2→FV} {O0:α0→Prop} {O1:α1→Prop} {O2:α2→Prop} (ht:P.underlying t=some (.struct #[f0,f1,f2])) (hc:P.cellsOf t=3)
  (h0:Opens P t0 F0 O0) (h1:Opens P t1 F1 O1) (h2:Opens P t2 F2 O2) (e:f0.type=t0∧f1.type=t1∧f2.type=t2∧f0.offset=0∧f1.offset=1∧f2.offset=2∧P.cellsOf t0=1∧P.cellsOf t1=1∧P.cellsOf t2=1)
  (g:(∀a,(F0 a).oc=true)∧(∀a,(F1 a).oc=true)∧(∀a,(F2 a).oc=true)) :
  Opens P t (fun a:α0 × α1 × α2=>.agg [F0 a.1,F1 a.2.1,F2 a.2.2]) (fun a=>O0 a.1∧O1 a.2.1∧O2 a.2.2) where
 len a:=by rw [hc];rfl
 st a:=by show [F0 a.1,F1 a.2.1,F2 a.2.2].all FV.oc=true;simp [g.1,g.2]
 rd enc w fuel cs x hx hw:=by
  obtain ⟨rfl,rfl,rfl,o0,o1,o2,c0,c1,c2⟩:=e
  obtain ⟨xs,n,_,rfl,hl,hs,hf⟩:=DataW.trod_struct ht hx
  obtain ⟨x0,x1,x2,rfl⟩:∃x0 x1 x2,xs=[x0,x1,x2]:=by
   match xs,hs with
   | [a,b,c],_=>exact ⟨a,b,c,rfl⟩
  have hw':(DataW.weightsEach P [f0.type,f1.type,f2.type] [x0.1,x1.1,x2.1]).all (·≤ reachBytes)=true:=by simpa [DataW.weights,ht] using hw
  have k0:=hf 0 f0 rfl
  have k1:=hf 1 f1 rfl
  have k2:=hf 2 f2 rfl
  rw [o0] at k0
  rw [o1] at k1
  rw [o2] at k2
  obtain ⟨a0,p0,q0⟩:=field_at h0 c0 k0 (all_of_each hw' (j:=0) rfl rfl)
  obtain ⟨a1,p1,q1⟩:=field_at h1 c1 k1 (all_of_each hw' (j:=1) rfl rfl)
  obtain ⟨a2,p2,q2⟩:=field_at h2 c2 k2 (all_of_each hw' (j:=2) rfl rfl)
  have oc1:∀x:FV,x.oc=true→x.cells=[x]:=fun x hx=>by cases x<;>first|rfl|cases hx
  refine ⟨(a0,a1,a2),⟨p0,p1,p2⟩,hl,fun j c hj=>?_⟩
  match j,hj with
  | 0,hj=>cases hj;exact q0 _ (oc1 _ (g.1 _))
  | 1,hj=>cases hj;exact q1 _ (oc1 _ (g.2.1 _))
  | 2,hj=>cases hj;exact q2 _ (oc1 _ (g.2.2 _))
 up a w r b v hv hl h:=struct_up ht hv (by rw [hl,hc];rfl) h
theorem repFL_nil {w:World} {F:Nat→Prop}:RepFL w F [] #[]:=⟨rfl,fun j x h=>by simp at h⟩
theorem repFL_cons {w:World} {F:Nat→Prop} {c:FV} {v:Value} {cs:List FV} {vs:List Value} (h:RepF w F c v) (hs:RepFL w F cs vs.toArray):RepFL w F (c::cs) (v::vs).toArray :=
 ⟨by simpa using hs.1,fun j x hj=>by
  cases j with
  | zero=>simp at hj;subst hj;simpa [Array.getD_eq_getD_getElem?] using h
  | succ j=>simpa [Array.getD_eq_getD_getElem?] using hs.2 j x (by simpa using hj)⟩
theorem trodAll_below {enc:TypeId × Value→H} {W W':World} (hl:laidOutB P=true) (hb:Below W.heap.size W W'):∀{ts:List TypeId} {vs:List Value} {ds:List (DataW H)} {ps:List MemPlace},ts.all (fun t=>P.readableRec t&&decide (t<P.types.size))=true →
  DataW.TrodAll enc P W 0 (fun _=>true) true ts vs ds ps→(∀x∈ps,x.block<W.heap.size)→DataW.TrodAll enc P W' 0 (fun b=>decide (b<W.heap.size)) true ts vs ds ps
 | [],vs,ds,ps,_,h,_=>by
  obtain ⟨rfl,rfl,rfl⟩:=trodAll_nil h
  rfl
 | t::ts,vs,ds,ps,hr,h,hlt=>by
  obtain ⟨v,vs',d,ds',p,q,rfl,rfl,rfl,hd,hrest⟩:=trodAll_cons h
  simp only [List.all_cons,Bool.and_eq_true,decide_eq_true_eq] at hr
  exact ⟨p,q,Below.trod hl hr.1.1 hr.1.2 hd hb (fun x hx=>hlt x (List.mem_append.2 (.inl hx))),trodAll_below hl hb hr.2 hrest (fun x hx=>hlt x (List.mem_append.2 (.inr hx))),rfl⟩
theorem post_of_below {enc:TypeId × Value→H} {f:Func} {s:ChangeSpec} {apart fresh handsOn:Bool} {W W':World} {args:Array Value} {v:Value} {ds gs:List (DataW H)} {before:List MemPlace} {ts:List TypeId} (hts:f.params.toList=ts) (hl:laidOutB P=true)
  (hrd:ts.all (fun t=>P.readableRec t&&decide (t<P.types.size))=true) (hvars:s.vars=[])
  (hW:DataW.Whole enc P f.params.toList s.vars apart W args.toList ds gs before) (hsa:(s.fn H (ds++gs)).args=ds) (hsv:(s.fn H (ds++gs)).vars=[])
  (hres:∀(b:Nat) (sp:Nat→Bool) (hd:Bool),DataW.TrodAll enc P W' b sp hd f.resultTypes.toList (v.resultList f.resultTypes.size) (s.fn H (ds++gs)).results [])
  (hb:Below W.heap.size W W'):s.post enc P f apart fresh handsOn false W args v W':=by
 have hW0:=hW
 have hold:∀p∈before,p.block<W.heap.size:=fun p hp=>hW.lt p hp
 obtain ⟨p,q,hA,hV,rfl,hfz,hnd⟩:=hW
 have hV0:=hV
 rw [hvars] at hV0
 obtain ⟨hg0,hq0⟩:=trodVars_none hV0
 subst hq0
 subst hts
 have hA':=trodAll_below hl hb hrd hA (fun x hx=>hold x (List.mem_append.2 (.inl hx)))
 refine ⟨ds,gs,p++[],[],p,[],hW0,hres _ _ _,by rw [hsa];exact hA',?_,World.keptBut_mono (fun x hx=>⟨hx,Or.inr (by simpa using hx)⟩) (hb.frame (·∈ p++[])),fun h=>by cases h⟩
 rw [hvars,hsv];rfl
end
end Go.Proofs.YtcgagiimlkjcpaaGreatDoor
set_option linter.unusedVariables false
set_option linter.unusedSimpArgs false
namespace Go.Proofs.YtcgagiimlkjcpaaGreatDoor
open Go Go.RowKit
def OkI (n:Int):Prop:=-9223372036854775808≤n∧n≤9223372036854775807
def OkIs (l:List Int):Prop:=l.length≤140737488355328∧∀x∈l,OkI x
def OkS (s:ByteArray):Prop:=s.size≤140737488351232
abbrev F3:=Bool × ByteArray × ByteArray
def OkF (x:F3):Prop:=x.2.1.size≤140737488351232∧x.2.2.size≤140737488351232
def OkFs (l:List F3):Prop:=l.length≤140737488355328∧∀x∈l,OkF x
abbrev frF (x:F3):FV:=frR x.1 x.2.1 x.2.2
theorem reach_8 {n m:Nat} (h:n*m≤reachBytes) (hm:0<m):n≤140737488351232:=by
 have e:reachBytes=140737488351232:=by decide
 rw [e] at h
 exact Nat.le_trans (Nat.le_mul_of_pos_right n hm) h
theorem oI:Opens Tryz.prog 3 I OkI:=(Opens.int Tryz.underlying3 (by kernel_rfl)).map fun n h=>Go.bounds_i64 h
theorem oB:Opens Tryz.prog 4 Bo (fun _=>True):=Opens.bool Tryz.underlying4 (by kernel_rfl)
theorem oNat:Opens Tryz.prog 42 St OkS:=(Opens.string Tryz.underlying42 (by kernel_rfl)).map fun s h=>h
theorem oIs:Opens Tryz.prog 24 ints OkIs:=(oI.slice Tryz.underlying24 (by kernel_rfl) (by decide) (by kernel_rfl)).map fun l h=>⟨Nat.le_trans (reach_8 h.1 (by decide +kernel)) (by decide),h.2⟩
theorem oF3:Opens Tryz.prog 44 frF OkF:=(Opens.struct3 Tryz.underlying44 (by kernel_rfl) oB oNat oNat ⟨rfl,rfl,rfl,rfl,rfl,rfl,by kernel_rfl,by kernel_rfl,by kernel_rfl⟩ ⟨fun _=>rfl,fun _=>rfl,fun _=>rfl⟩).map fun x h=>⟨h.2.1,h.2.2⟩
theorem oFs:Opens Tryz.prog 23 (fun l:List F3=>.fz 3 (l.map frF)) OkFs:=(oF3.slice Tryz.underlying23 (by kernel_rfl) (by decide) (by kernel_rfl)).map fun l h=>⟨Nat.le_trans (reach_8 h.1 (by decide +kernel)) (by decide),h.2⟩
end Go.Proofs.YtcgagiimlkjcpaaGreatDoor
