/- net.Copy: walked. Conditions: one to eight variables; numbers of 1000 bytes each. -/
import Derived.Test.YtfjgijkhmhhkdaaGreatDoorYB17
import Derived.Test.YtfjgijkhmhhkdaaGreatDoorYB22
import Derived.Test.YtfjgijkhmhhkdaaGreatDoorYB11
set_option linter.unusedVariables false
set_option linter.unusedSimpArgs false
namespace Go.Proofs.YtfjgijkhmhhkdaaGreatDoor
-- NOOWN
open Go Go.RowKit
def cpA (x:Nat):AV:=if x=0 then .f net0 else .agg [.own 3 2 0 x,.own 4 1 0 x,.own 5 1 0 x]
theorem cpA_zero:cpA 0=.f net0:=rfl
theorem cpA_succ (x:Nat):cpA (x+1)=.agg [.own 3 2 0 (x+1),.own 4 1 0 (x+1),.own 5 1 0 (x+1)]:=rfl
theorem take_next {l:List FV} {x:Nat} {y:FV} (h:l[x]?=some y):l.take x++[y]=l.take (x+1):=by rw [List.take_add_one,h];rfl
set_option maxRecDepth 100000 in
set_option maxHeartbeats 8000000 in
theorem copy_w {k N:Nat} {V Pa Rr Rc:List FV} (h1:1≤k) (hk:k≤1000) (hN1:1≤N) (hN:N≤8) (lv:V.length=N) (lp:Pa.length=N) (lr:Rr.length=N) (lc:Rc.length=N)
  (hV:∀i,i<N→∃nm vals,V[i]?=some (.agg [St nm,.fz 1 vals])∧Good Tryz.prog 81 [.fz 1 vals] (.fz 1 vals))
  (hP:∀i,i<N→∃p,Pa[i]?=some p∧Good Tryz.prog 82 [p] p∧p.cells=[p]∧p.st=true)
  (hR:∀i,i<N→∃xs qs,Rr[i]?=some (.fz 3 xs)∧Rc[i]?=some (frs qs)∧Frs k xs qs∧qs.length≤1000) :
  Good Tryz.prog 54 [.agg [.fz 2 V,.fz 1 Pa,.fz 1 Rr]] (.agg [.fz 2 V,.fz 1 Pa,.fz 1 Rc]):=by
 refine good_of Tryz.func54 rfl (by kernel_rfl) fun X hO hrd=>?_;rw [Tryz.ntmps54,Tryz.results54];simp only [ast0,List.map_cons,List.map_nil,List.length_cons,List.length_nil,Nat.reduceAdd,Nat.reduceSub,List.replicate_succ,List.replicate_zero,List.cons_append,List.nil_append]
 (repeat (with_reducible first|refine W_seq fun K hK=>?_|refine J_block ?_|refine J_region ?_|(refine Kont.go (by assumption) ?_)|(simp (config:={ maxSteps:=3000000 }) (disch:=omega) only [go_sem,↓reduceIte,Nat.reduceAdd,lv])))
 refine J_reserve ?_
 refine J_reserve ?_
 refine J_reserve ?_
 simp only [go_sem]
 refine W_loop [4,5,6,8,12,13,14,15,16,17,18,19,20,21,22,23,24,25,26,27,28,29,30,31,32,33,34,35,36,37,38,39,40,41,42,43,44,45,46,47,48,49,50,51,52,53,54,55,56,57,58,59,60,61] (fun x:Nat=>[(12,.f (I x))]) (fun x:Nat=>[some ⟨44,3,[.f (.agg [.fz 2 V,.fz 1 Pa,.fz 1 Rr])]⟩,some ⟨44,3,[.f net0]⟩,some ⟨44,3,[cpA x]⟩,ob 73 2 (V.take x),ob 26 1 (Pa.take x),ob 22 1 (Rc.take x)]) (fun x:Nat=>x≤N) (fun x:Nat=>N-x) (0) (Nat.zero_le _) (by refine weak_of ?_ ?_<;>simp (disch:=omega) only [go_sem,Nat.reduceAdd]<;>first|rfl|exact ⟨rfl,rfl⟩|exact Or.inl rfl|exact ⟨Or.inl rfl,Or.inl rfl⟩|trivial|assumption|omega|(symm;assumption)|((repeat' apply And.intro)<;>first|rfl|omega|trivial|exact .inl rfl|exact .inr ⟨rfl,rfl⟩|exact .inr rfl|(right;symm;assumption)|(symm;assumption)|assumption)) ?_
 rintro x hx
 simp only [go_sem]
 (repeat (with_reducible first|refine W_seq fun K hK=>?_|refine J_region ?_|refine J_c ?_|(refine Kont.go (by assumption) ?_)|(simp (config:={ maxSteps:=3000000 }) (disch:=omega) only [go_sem])))
 refine Jc_if (fun hxN=>?_) (fun hxN=>?_)<;>try simp only [decide_eq_true_eq,decide_eq_false_iff_not] at hxN
 ·obtain ⟨nm,vals,v1,v2⟩:=hV x hxN
  obtain ⟨p,p1,p2,p3,p6⟩:=hP x hxN
  have p4:(AV.f p).cells=[.f p]:=by show p.cells.map AV.f=_;rw [p3];rfl
  have p5:(AV.f p).st=true:=p6
  obtain ⟨xs,qs,r1,r2,r3,r4⟩:=hR x hxN
  have xl:xs.length=qs.length:=r3.len
  by_cases x0:x=0
  ·subst x0
   have e1:ob 73 2 (V.take 0)=none:=rfl
   have e2:ob 26 1 (Pa.take 0)=none:=rfl
   have e3:ob 22 1 (Rc.take 0)=none:=rfl
   have e4:AV.f net0=.f (.agg [nilV,nilV,nilV]):=rfl
   rw [e1,e2,e3,cpA_zero,e4]
   (repeat (with_reducible first|refine W_seq fun K hK=>?_|refine J_block ?_|refine J_skip ?_|refine J_region ?_|refine J_orders (id:=5) [9] (.one 0 (.one 1 (.one 2 (.one 3 (.one 4 (.one 5 (.one 6 (.one 7 (.one 8 (.one 9 (.one 10 (.one 11 .leaf)))))))))))) mixed (by kernel_rfl) ?_|(refine Kont.go (by assumption) ?_)|(simp (config:={ maxSteps:=3000000 }) (disch:=omega) only [go_sem,Nat.reduceEqDiff,↓reduceIte,Nat.reduceAdd,Nat.reduceLeDiff,Int.reduceLE,v1])))
   (first|refine call_f (v2) rfl ?_|refine callQ_f (v2) rfl ?_|refine callHK_f (v2) rfl ?_|refine callH_f (v2) rfl ?_)
   (repeat (first|(with_reducible first|refine W_seq fun K hK=>?_|refine J_orders (id:=6) [9] (.one 0 (.one 1 (.one 2 (.one 3 (.one 4 (.one 5 (.one 6 (.one 7 (.one 8 (.one 9 (.one 10 (.one 11 .leaf)))))))))))) mixed (by kernel_rfl) ?_ |(refine Kont.go (by assumption) ?_)|(simp (config:={ maxSteps:=3000000 }) (disch:=omega) only [go_sem,Nat.reduceEqDiff,↓reduceIte,Nat.reduceAdd,Nat.reduceLeDiff,Int.reduceLE,p1,p3]))|refine And.intro (by omega) ?_))
   (first|refine call_f (p2) rfl ?_|refine callQ_f (p2) rfl ?_|refine callHK_f (p2) rfl ?_|refine callH_f (p2) rfl ?_)
   (repeat (with_reducible first|refine W_seq fun K hK=>?_|refine J_block ?_|refine J_region ?_|(refine Kont.go (by assumption) ?_)|(simp (config:={ maxSteps:=3000000 }) (disch:=omega) only [go_sem,↓reduceIte,Nat.reduceLeDiff,Int.reduceLE,r1,p4,p5,Nat.reduceMul,Nat.le_refl,true_and,and_self])))
   refine J_reserve ?_
   simp only [go_sem]
   refine W_loop [6,8,45,46,47,48,49,50,51,52,53,54] (fun j:Nat=>[(45,.f (I j)),(6,sl 11 3 ((qs.take j).map fr))]) (fun j:Nat=>[some ⟨44,3,[.f (.agg [.fz 2 V,.fz 1 Pa,.fz 1 Rr])]⟩,some ⟨44,3,[.f (.agg [nilV,nilV,nilV])]⟩,some ⟨44,3,[.agg [.own 8 2 0 1,.own 10 1 0 1,.f nilV]]⟩,none,none,none,none,none,some ⟨73,2,[.f (.agg [St nm,.fz 1 vals])]⟩,none,some ⟨26,1,[.f p]⟩,ob 30 3 ((qs.take j).map fr)]) (fun j:Nat=>j≤qs.length) (fun j:Nat=>qs.length-j) (0) (Nat.zero_le _) (by refine weak_of ?_ ?_<;>simp (disch:=omega) only [go_sem,Nat.reduceAdd]<;>first|rfl|exact ⟨rfl,rfl⟩|exact Or.inl rfl|exact ⟨Or.inl rfl,Or.inl rfl⟩|trivial|assumption|omega|(symm;assumption)|((repeat' apply And.intro)<;>first|rfl|omega|trivial|exact .inl rfl|exact .inr ⟨rfl,rfl⟩|exact .inr rfl|(right;symm;assumption)|(symm;assumption)|assumption)) ?_
   rintro j hj
   simp only [go_sem]
   (repeat (with_reducible first|refine W_seq fun K hK=>?_|refine J_region ?_|refine J_c ?_|(refine Kont.go (by assumption) ?_)|(simp (config:={ maxSteps:=3000000 }) (disch:=omega) only [go_sem,xl])))
   refine Jc_if (fun hjl=>?_) (fun hjl=>?_)<;>try simp only [decide_eq_true_eq,decide_eq_false_iff_not] at hjl
   ·obtain ⟨g,n,d,y1,y2⟩:=r3.at3 hjl
    have hnx:(qs.take j).map fr++[fr qs[j]]=(qs.take (j+1)).map fr:=by rw [List.take_add_one,List.getElem?_eq_getElem hjl,List.map_append];rfl
    have hll:((qs.take j).map fr).length=j:=by rw [List.length_map,List.length_take];omega
    have hby:(j+1)*40≤140737488355328:=by omega
    (repeat (first|(with_reducible first|refine W_seq fun K hK=>?_|refine J_block ?_|refine J_skip ?_|refine J_region ?_|refine aApp_sl ?_|(refine Kont.go (by assumption) ?_)|(simp (config:={ maxSteps:=3000000 }) (disch:=omega) only [go_sem,Nat.reduceEqDiff,↓reduceIte,Nat.reduceAdd,Nat.reduceLeDiff,y1,hnx,hll,hby,xl]))|refine call_f (canon_w (by assumption) (by omega)) rfl ?_|refine And.intro (by omega) ?_))
    refine ⟨j+1,by omega,by omega,weak_of ?_ ?_⟩<;>(try simp (disch:=omega) only [go_sem,Nat.reduceAdd])<;>(try first|done|omega|rfl|exact ⟨rfl,rfl⟩|trivial)
   ·have he:j=qs.length:=by omega
    subst he
    rw [List.take_length]
    refine J_freeze (j:=6) rfl rfl ?_

    (repeat (first|(with_reducible first|refine J_exit ?_|refine J_region ?_|refine aApp_old ?_|(refine Kont.go (by assumption) ?_)|(simp (config:={ maxSteps:=3000000 }) (disch:=omega) only [go_sem,Nat.reduceEqDiff,↓reduceIte,Nat.reduceAdd,Nat.reduceLeDiff,Int.reduceAdd]))|refine And.intro (by omega) ?_))
    have t1:=take_next v1
    have t2:=take_next p1
    have t3:=take_next r2
    have f5:ob 73 2 (V.take 1)=some ⟨73,2,[.f (.agg [St nm,.fz 1 vals])]⟩:=by rw [←t1];rfl
    have f6:ob 26 1 (Pa.take 1)=some ⟨26,1,[.f p]⟩:=by rw [←t2];rfl
    have f7:ob 22 1 (Rc.take 1)=some ⟨22,1,[.f (frs qs)]⟩:=by rw [←t3];rfl
    have f8:cpA 1=.agg [.own 3 2 0 1,.own 4 1 0 1,.own 5 1 0 1]:=rfl
    refine ⟨1,by omega,by omega,weak_ren [0,1,2,8,10,13] ⟨by decide,by first|decide|(simp;done)⟩ ?_ ?_⟩<;>(try simp (disch:=omega) only [go_sem,Nat.reduceAdd,f5,f6,f7,f8,e4])<;>(try first|done|omega|rfl|exact ⟨rfl,rfl⟩|trivial)
  ·obtain ⟨u,rfl⟩:∃u,x=u+1:=⟨x-1,by omega⟩
   obtain ⟨W,hW⟩:∃L,L=V.take (u+1):=⟨_,rfl⟩
   obtain ⟨Q,hQ⟩:∃L,L=Pa.take (u+1):=⟨_,rfl⟩
   obtain ⟨Z,hZ⟩:∃L,L=Rc.take (u+1):=⟨_,rfl⟩
   have wl:W.length=u+1:=by rw [hW,List.length_take];omega
   have ql:Q.length=u+1:=by rw [hQ,List.length_take];omega
   have zl:Z.length=u+1:=by rw [hZ,List.length_take];omega
   have e1:ob 73 2 W=some ⟨73,2,W.map .f⟩:=ob_pos fun h=>by rw [h] at wl;simp at wl
   have e2:ob 26 1 Q=some ⟨26,1,Q.map .f⟩:=ob_pos fun h=>by rw [h] at ql;simp at ql
   have e3:ob 22 1 Z=some ⟨22,1,Z.map .f⟩:=ob_pos fun h=>by rw [h] at zl;simp at zl
   have tw:(W.map AV.f).take (u+1)=W.map .f:=List.take_of_length_le (by rw [List.length_map];omega)
   have tq:(Q.map AV.f).take (u+1)=Q.map .f:=List.take_of_length_le (by rw [List.length_map];omega)
   have tz:(Z.map AV.f).take (u+1)=Z.map .f:=List.take_of_length_le (by rw [List.length_map];omega)
   rw [←hW,←hQ,←hZ,e1,e2,e3,cpA_succ]
   (repeat (with_reducible first|refine W_seq fun K hK=>?_|refine J_block ?_|refine J_skip ?_|refine J_region ?_|refine J_orders (id:=5) [9] (.one 0 (.one 1 (.one 2 (.one 3 (.one 4 (.one 5 (.one 6 (.one 7 (.one 8 (.one 9 (.one 10 (.one 11 .leaf)))))))))))) mixed (by kernel_rfl) ?_|(refine Kont.go (by assumption) ?_)|(simp (config:={ maxSteps:=3000000 }) (disch:=omega) only [go_sem,Nat.reduceEqDiff,↓reduceIte,Nat.reduceAdd,Nat.reduceLeDiff,v1,wl,tw,List.length_map])))
   (first|refine call_f (v2) rfl ?_|refine callQ_f (v2) rfl ?_|refine callHK_f (v2) rfl ?_|refine callH_f (v2) rfl ?_)
   (repeat (first|(with_reducible first|refine W_seq fun K hK=>?_|refine J_orders (id:=6) [9] (.one 0 (.one 1 (.one 2 (.one 3 (.one 4 (.one 5 (.one 6 (.one 7 (.one 8 (.one 9 (.one 10 (.one 11 .leaf)))))))))))) mixed (by kernel_rfl) ?_ |(refine Kont.go (by assumption) ?_)|(simp (config:={ maxSteps:=3000000 }) (disch:=omega) only [go_sem,Nat.reduceEqDiff,↓reduceIte,Nat.reduceAdd,Nat.reduceLeDiff,p1,p3,ql,tq,List.length_map]))|refine And.intro (by omega) ?_))
   (first|refine call_f (p2) rfl ?_|refine callQ_f (p2) rfl ?_|refine callHK_f (p2) rfl ?_|refine callH_f (p2) rfl ?_)
   (repeat (first|(with_reducible first|refine W_seq fun K hK=>?_|refine J_block ?_|refine J_region ?_|(refine Kont.go (by assumption) ?_)|(simp (config:={ maxSteps:=3000000 }) (disch:=omega) only [go_sem,↓reduceIte,Nat.reduceLeDiff,r1,p4,p5,Nat.reduceMul,Nat.le_refl,true_and,and_self]))|refine And.intro (by omega) ?_))
   refine J_reserve ?_
   simp only [go_sem]
   refine W_loop [6,8,45,46,47,48,49,50,51,52,53,54] (fun j:Nat=>[(45,.f (I j)),(6,sl 11 3 ((qs.take j).map fr))]) (fun j:Nat=>[some ⟨44,3,[.f (.agg [.fz 2 V,.fz 1 Pa,.fz 1 Rr])]⟩,some ⟨44,3,[.f net0]⟩,some ⟨44,3,[.agg [.own 8 2 0 (u+1+1),.own 10 1 0 (u+1+1),.own 5 1 0 (u+1)]]⟩,none,none,some ⟨22,1,Z.map .f⟩,none,none,some ⟨73,2,W.map .f++[.f (.agg [St nm,.fz 1 vals])]⟩,none,some ⟨26,1,Q.map .f++[.f p]⟩,ob 30 3 ((qs.take j).map fr)]) (fun j:Nat=>j≤qs.length) (fun j:Nat=>qs.length-j) (0) (Nat.zero_le _) (by refine weak_of ?_ ?_<;>simp (disch:=omega) only [go_sem,Nat.reduceAdd]<;>first|rfl|exact ⟨rfl,rfl⟩|exact Or.inl rfl|exact ⟨Or.inl rfl,Or.inl rfl⟩|trivial|assumption|omega|(symm;assumption)|((repeat' apply And.intro)<;>first|rfl|omega|trivial|exact .inl rfl|exact .inr ⟨rfl,rfl⟩|exact .inr rfl|(right;symm;assumption)|(symm;assumption)|assumption)) ?_
   rintro j hj
   simp only [go_sem]
   (repeat (with_reducible first|refine W_seq fun K hK=>?_|refine J_region ?_|refine J_c ?_|(refine Kont.go (by assumption) ?_)|(simp (config:={ maxSteps:=3000000 }) (disch:=omega) only [go_sem,xl])))
   refine Jc_if (fun hjl=>?_) (fun hjl=>?_)<;>try simp only [decide_eq_true_eq,decide_eq_false_iff_not] at hjl
   ·obtain ⟨g,n,d,y1,y2⟩:=r3.at3 hjl
    have hnx:(qs.take j).map fr++[fr qs[j]]=(qs.take (j+1)).map fr:=by rw [List.take_add_one,List.getElem?_eq_getElem hjl,List.map_append];rfl
    have hll:((qs.take j).map fr).length=j:=by rw [List.length_map,List.length_take];omega
    have hby:(j+1)*40≤140737488355328:=by omega
    (repeat (first|(with_reducible first|refine W_seq fun K hK=>?_|refine J_block ?_|refine J_skip ?_|refine J_region ?_|refine aApp_sl ?_|(refine Kont.go (by assumption) ?_)|(simp (config:={ maxSteps:=3000000 }) (disch:=omega) only [go_sem,Nat.reduceEqDiff,↓reduceIte,Nat.reduceAdd,Nat.reduceLeDiff,y1,hnx,hll,hby,xl]))|refine call_f (canon_w (by assumption) (by omega)) rfl ?_|refine And.intro (by omega) ?_))
    refine ⟨j+1,by omega,by omega,weak_of ?_ ?_⟩<;>(try simp (disch:=omega) only [go_sem,Nat.reduceAdd])<;>(try first|done|omega|rfl|exact ⟨rfl,rfl⟩|trivial)
   ·have he:j=qs.length:=by omega
    subst he
    rw [List.take_length]
    refine J_freeze (j:=6) rfl rfl ?_

    (repeat (first|(with_reducible first|refine J_exit ?_|refine J_region ?_|refine aApp_old ?_|(refine Kont.go (by assumption) ?_)|(simp (config:={ maxSteps:=3000000 }) (disch:=omega) only [go_sem,Nat.reduceEqDiff,↓reduceIte,Nat.reduceAdd,Nat.reduceLeDiff,zl,tz,List.length_map]))|refine And.intro (by omega) ?_))
    have t1:=take_next v1
    have t2:=take_next p1
    have t3:=take_next r2
    have f5:ob 73 2 (V.take (u+1+1))=some ⟨73,2,W.map .f++[.f (.agg [St nm,.fz 1 vals])]⟩:=by rw [←t1,←hW,ob_pos (by simp),List.map_append];rfl
    have f6:ob 26 1 (Pa.take (u+1+1))=some ⟨26,1,Q.map .f++[.f p]⟩:=by rw [←t2,←hQ,ob_pos (by simp),List.map_append];rfl
    have f7:ob 22 1 (Rc.take (u+1+1))=some ⟨22,1,Z.map .f++[.f (frs qs)]⟩:=by rw [←t3,←hZ,ob_pos (by simp),List.map_append];rfl
    refine ⟨u+1+1,by omega,by omega,weak_ren [0,1,2,8,10,13] ⟨by decide,by first|decide|(simp;done)⟩ ?_ ?_⟩<;>(try simp (disch:=omega) only [go_sem,Nat.reduceAdd,f5,f6,f7,cpA_succ,map_ren_f,List.map_append,List.map_cons,List.map_nil])<;>(try first|done|omega|rfl|exact ⟨rfl,rfl⟩|trivial)
 ·have he:x=N:=by omega
  subst he
  obtain ⟨u,rfl⟩:∃u,x=u+1:=⟨x-1,by omega⟩
  have a1:V.take (u+1)=V:=List.take_of_length_le (by omega)
  have a2:Pa.take (u+1)=Pa:=List.take_of_length_le (by omega)
  have a3:Rc.take (u+1)=Rc:=List.take_of_length_le (by omega)
  have s1:sl 3 2 V=.own 3 2 0 (u+1):=by rw [sl_pos (fun h=>by rw [h] at lv;simp at lv),lv]
  have s2:sl 4 1 Pa=.own 4 1 0 (u+1):=by rw [sl_pos (fun h=>by rw [h] at lp;simp at lp),lp]
  have s3:sl 5 1 Rc=.own 5 1 0 (u+1):=by rw [sl_pos (fun h=>by rw [h] at lc;simp at lc),lc]
  rw [a1,a2,a3,cpA_succ]
  (repeat (with_reducible first|refine W_seq fun K hK=>?_|refine J_exit ?_|refine J_ret ?_|refine J_region ?_|(refine Kont.go (by assumption) ?_)|(simp (config:={ maxSteps:=3000000 }) (disch:=omega) only [go_sem,↓reduceIte,Nat.reduceAdd])))
  rw [←s1,←s2,←s3]
  exact Frz.aggL (FrzL.cons (Frz.sl rfl) (FrzL.cons (Frz.sl rfl) (FrzL.cons (Frz.sl rfl) (FrzL.nil _))))
end Go.Proofs.YtfjgijkhmhhkdaaGreatDoor
set_option linter.unusedVariables false
set_option linter.unusedSimpArgs false
namespace Go.Proofs.YtfjgijkhmhhkdaaGreatDoor
open Go Go.RowKit
section
variable {X : Cx} {P : Program} {I : Array Oper} {c : Oper}
theorem push_lt {i:Nat} (h:i<I.size):(I.push c)[i]?=I[i]?:=by rw [Array.getElem?_push,if_neg (by omega)]
theorem push_at:(I.push c)[I.size]?=some c:=by simp
theorem pushB_lt {l:Array Bool} {i:Nat} {b d:Bool} (h:i<l.size):(l.push b).getD i d=l.getD i d:=by
 simp [Array.getD_eq_getD_getElem?,Array.getElem?_push,show ¬i=l.size by omega]
theorem pushB_at {l:Array Bool} {b d:Bool}:(l.push b).getD l.size d=b:=by simp [Array.getD_eq_getD_getElem?]
theorem getB {l:Array Bool} {i:Nat} (h:i<l.size) (d e:Bool):l.getD i d=l.getD i e:=by simp [Array.getD_eq_getD_getElem?,h]
theorem aany_last {m:Nat} (hk:∀(i:Nat) o,(I.push c)[i]?=some o→∀j,o.dst=some j→X.kp j=false) {M:List Nat} {K:AS→Prop} {Q:Exit→Act→World→Prop} (hQ:∀s a w,K s→Rel X s a w→Q .normal a w)
  (hg:∀(i:Nat) o,I[i]?=some o→∀j b,o.guard=some (j,b)→j<I.size) (hgc:c.guard=none)
  (hord:∀k o,(I.push c)[k]?=some o→∀e∈o.after,Region.binds .any e=true→e.on<k)
  (hlast:∀i,i<I.size→((waitBits (I.push c).toList []).getD I.size 0).testBit i=true) :
  ∀(n:Nat) (listed:Array Bool) (s:AS) (a:Act) (w:World),listed.size=I.size→Closed I listed→aanyT P I M (fun s=>aop P c K s) n listed s→Rel X s a w→wpAnyIn (fen X.rd) m P .any (I.push c) Q (n+1) (listed.push false) a w:=by
 have rdy:∀{listed:Array Bool} {b:Bool} {i:Nat},listed.size=I.size→i<I.size→(i∈Region.ready .any (I.push c) (listed.push b)↔i∈Region.ready .any I listed):=fun {listed b i} hsz hi=>by
  rw [mem_ready,mem_ready,push_lt hi,pushB_lt (by omega)]
  refine ⟨fun ⟨h1,o,h2,h3⟩=>⟨h1,o,h2,fun e he hb=>?_⟩,fun ⟨h1,o,h2,h3⟩=>⟨h1,o,h2,fun e he hb=>?_⟩⟩
  ·have:=hord i o (by rw [push_lt hi];exact h2) e he hb
   have:=h3 e he hb
   rwa [pushB_lt (by omega)] at this
  ·have:=hord i o (by rw [push_lt hi];exact h2) e he hb
   rw [pushB_lt (by omega)]
   exact h3 e he hb
 have allL:∀{listed:Array Bool},listed.size=I.size→Region.ready .any I listed=[]→∀i,i<I.size→listed.getD i false=true:=fun {listed} hsz hr i=>by
  induction i using Nat.strongRecOn with
  | ind i ih =>
   intro hi
   cases hb:listed.getD i false with
   | true=>rfl
   | false =>
    have:i∈Region.ready .any I listed:=mem_ready.2 ⟨by rw [getB (by omega) true false];exact hb,I[i],by simp [hi],fun e he hbd=>ih e.on (hord i I[i] (by rw [push_lt hi];simp [hi]) e he hbd) (by have:=hord i I[i] (by rw [push_lt hi];simp [hi]) e he hbd;omega)⟩
    rw [hr] at this;cases this
 have fin:∀{n:Nat} {listed:Array Bool} {s:AS} {a:Act} {w:World},listed.size=I.size→Region.ready .any I listed=[]→aop P c K s→Rel X s a w→wpAnyIn (fen X.rd) m P .any (I.push c) Q (n+1) (listed.push false) a w:=fun {n listed s a w} hsz hr hK hR=>by
  have hall:=allL hsz hr
  have hmem:I.size∈Region.ready .any (I.push c) (listed.push false):=mem_ready.2 ⟨by rw [←hsz,pushB_at],c,push_at,fun e he hb=>by
   have:=hord I.size c push_at e he hb
   rw [pushB_lt (by omega)];exact hall _ this⟩
  refine ⟨fun h=>(by rw [h] at hmem;cases hmem),fun i hi=>?_⟩
  have hi':i=I.size:=by
   rcases Nat.lt_trichotomy i I.size with h|h|h
   ·have:=(rdy hsz h).1 hi
    rw [hr] at this;cases this
   ·exact h
   ·obtain ⟨_,o,ho,_⟩:=mem_ready.1 hi
    have:=(Array.getElem?_eq_some_iff.1 ho).1
    simp at this;omega
  subst hi'
  unfold wpOpIn
  rw [push_at]
  simp only
  rw [if_pos (by simp [Region.wanted,hgc])]
  obtain ⟨F,loc,R⟩:=hR
  refine Oper.wpIn_mono ?_ (aop_sound R (hk _ _ push_at) hK)
  rintro a' w' ⟨s',hK',hR'⟩
  have hset:(listed.push false).setIfInBounds I.size true=listed.push true:=by
   rw [←hsz]
   apply Array.ext
   ·simp
   ·intro j h1 h2
    simp at h1
    rw [Array.getElem_setIfInBounds (by simpa using h1),Array.getElem_push,Array.getElem_push]
    by_cases e:j<listed.size
    ·rw [if_neg (by omega),dif_pos e,dif_pos e]
    ·rw [if_pos (by omega),dif_neg e]
  have hnil:Region.ready .any (I.push c) ((listed.push false).setIfInBounds I.size true)=[]:=by
   rw [hset]
   refine List.eq_nil_iff_forall_not_mem.2 fun j hj=>?_
   obtain ⟨hun,o,ho,_⟩:=mem_ready.1 hj
   have hj':=(Array.getElem?_eq_some_iff.1 ho).1
   simp at hj'
   rcases Nat.lt_or_ge j I.size with h|h
   ·rw [pushB_lt (by omega),getB (by omega) true false,hall j h] at hun;cases hun
   ·have e:j=listed.size:=by omega
    subst e
    rw [pushB_at] at hun;cases hun
  cases n with
  | zero=>exact ⟨hnil,hQ _ _ _ hK' hR'⟩
  | succ n=>exact ⟨fun _=>hQ _ _ _ hK' hR',fun j hj=>by rw [hnil] at hj;cases hj⟩
 intro n
 induction n with
 | zero=>intro listed s a w hsz hcl h hR;exact fin hsz h.1 h.2 hR
 | succ n ih =>
  intro listed s a w hsz hcl h hR
  by_cases hr:Region.ready .any I listed=[]
  ·exact fin hsz hr (h.1 hr) hR
  ·obtain ⟨i0,hi0⟩:=List.exists_mem_of_ne_nil _ hr
   have hi0l:i0<I.size:=by obtain ⟨_,o,ho,_⟩:=mem_ready.1 hi0;exact (Array.getElem?_eq_some_iff.1 ho).1
   refine ⟨fun e=>?_,fun i hi=>?_⟩
   ·have:=(rdy (b:=false) hsz hi0l).2 hi0
    rw [e] at this;cases this
   ·have hil:i<I.size:=by
     rcases Nat.lt_trichotomy i I.size with h'|h'|h'
     ·exact h'
     ·exfalso
      subst h'
      obtain ⟨_,o,ho,hall⟩:=mem_ready.1 hi
      have hcl':Closed (I.push c) (listed.push false):=fun j o hj hl e he hb=>by
       have hjl:=(Array.getElem?_eq_some_iff.1 hj).1
       simp at hjl
       rcases Nat.lt_or_ge j I.size with h|h
       ·rw [pushB_lt (by omega)] at hl
        rw [push_lt h] at hj
        have:=hord j o (by rw [push_lt h];exact hj) e he hb
        rw [pushB_lt (by omega)]
        exact hcl j o hj hl e he hb
       ·have e':j=listed.size:=by omega
        subst e'
        rw [pushB_at] at hl;cases hl
      have:=waits_listed hcl' (by simp [hsz]) (I.size+1) I.size o (by omega) ho (fun e he hb=>⟨hall e he hb,hord _ o ho e he hb⟩) hord (hlast i0 hi0l)
      rw [pushB_lt (by omega)] at this
      have h2:=(mem_ready.1 hi0).1
      rw [getB (by omega) true false,this] at h2;cases h2
     ·obtain ⟨_,o,ho,_⟩:=mem_ready.1 hi
      have:=(Array.getElem?_eq_some_iff.1 ho).1
      simp at this;omega
    have hiI:=(rdy hsz hil).1 hi
    obtain ⟨_,o,ho,hoa⟩:=mem_ready.1 hiI
    obtain ⟨s',h1,h2⟩:=h.2 i hiI o ho
    have hkI:=hk i o (by rw [push_lt hil];exact ho)
    have hy:Region.wanted o (yielded (I.push c) a.tmps)=Region.wanted o (yielded I a.tmps):=by
     unfold Region.wanted
     split
     ·rfl
     ·rename_i j b hgd
      have:=hg i o ho j b hgd
      unfold yielded
      rw [push_lt this]
    have hset:(listed.push false).setIfInBounds i true=(listed.setIfInBounds i true).push false:=by
     apply Array.ext
     ·simp
     ·intro j h1 h2
      simp at h1
      rw [Array.getElem_setIfInBounds (by simpa using h1),Array.getElem_push,Array.getElem_push]
      by_cases e:i=j
      ·subst e
       rw [if_pos rfl,dif_pos (by simp;omega),Array.getElem_setIfInBounds (by omega),if_pos rfl]
      ·rw [if_neg e]
       by_cases hj:j<listed.size
       ·rw [dif_pos hj,dif_pos (by simpa using hj),Array.getElem_setIfInBounds (by omega),if_neg e]
       ·rw [dif_neg hj,dif_neg (by simpa using hj)]
    have hcl2:Closed I (listed.setIfInBounds i true):=fun k ok hk hl e he hb=>by
     by_cases hki:k=i
     ·subst hki
      rw [ho] at hk;cases hk
      exact getD_set_true (hoa e he hb)
     ·rw [getD_set_ne true (Ne.symm hki)] at hl
      exact getD_set_true (hcl k ok hk hl e he hb)
    rw [hset]
    unfold wpOpIn
    rw [push_lt hil,ho]
    simp only
    obtain ⟨F,loc,R⟩:=hR
    rcases awant_sound R h1 with ⟨hw,h1⟩|⟨hw,h1⟩
    ·rw [if_pos (by rw [hy];exact hw)]
     cases hM:M.contains i with
     | false =>
      rw [hM,if_neg (by decide)] at h1
      exact (Oper.wpIn_mono (fun a' w' hR'=>ih _ s' a' w' (by simpa using hsz) hcl2 h2 hR') (DStep.sound R hkI h1))
     | true =>
      rw [hM,if_pos rfl] at h1
      refine (Oper.wpIn_mono ?_ (aop_sound R hkI (K:=fun x=>x=s') (amem_to (amem_mono h1 fun v G e=>e.symm))))
      rintro a' w' ⟨s'',rfl,hR'⟩
      exact ih _ _ a' w' (by simpa using hsz) hcl2 h2 hR'
    ·rw [if_neg (by rw [hy,hw];simp)]
     subst h1
     exact ⟨fun _ _=>trivial,ih _ _ _ w (by simpa using hsz) hcl2 h2 ⟨F,loc,R.put _ (.f _ _ (.v _)) hkI⟩⟩
def lastOk (ops:Array Oper):Bool :=
 ordOk ops&&((waitBits ops.toList []).getD (ops.size-1) 0==2^(ops.size-1)-1)&&ops.pop.toList.all fun o=>match o.guard with
  | none=>true
  | some (j,_)=>decide (j<ops.size-1)
theorem J_last {Q:Exit→AS→Prop} {id:Nat} {s:AS} {ops:Array Oper} (M:List Nat) (T:Sch) (hm:P.follows .mixedOrders=true) (hops:ops=I.push c) (hgc:c.guard=none) (hok:allOk I M T=true) (hl:lastOk ops=true) (h:atr P I M (fun s=>aop P c (Q .normal) s) T s):J X P (.region id ops true) Q s:=fun hk a w ⟨F,loc,R⟩=>by
 subst hops
 refine wpIn_region_any hm ?_
 unfold allOk at hok
 rw [Bool.and_eq_true,Bool.and_eq_true] at hok
 obtain ⟨⟨h1,h2⟩,h3⟩:=hok
 unfold lastOk at hl
 rw [Bool.and_eq_true,Bool.and_eq_true] at hl
 obtain ⟨⟨l1,l2⟩,l3⟩:=hl
 have ord:∀{ops:Array Oper},ordOk ops=true→∀k o,ops[k]?=some o→∀e∈o.after,Region.binds .any e=true→e.on<k:=fun {ops} h1 k o hk e he hb=>by
  have:=List.all_eq_true.1 h1 k (List.mem_range.2 (Array.getElem?_eq_some_iff.1 hk).1)
  rw [hk] at this
  have:=List.all_eq_true.1 this e (by simpa using he)
  rw [hb] at this
  simpa using this
 have hcl:Closed I (Array.replicate I.size false):=fun j o hj hl=>by
  have:=(Array.getElem?_eq_some_iff.1 hj).1
  simp [Array.getD_eq_getD_getElem?,this] at hl
 have k1:=(atr_any (ord h1) T I.size _ s (by simp) hcl h3 h).1 h2
 have hsz:(I.push c).size=I.size+1:=by simp
 have hbit:∀i,i<I.size→((waitBits (I.push c).toList []).getD I.size 0).testBit i=true:=fun i hi=>by
  have e:=beq_iff_eq.1 l2
  rw [hsz,Nat.add_sub_cancel] at e
  rw [e]
  simp [Nat.testBit_two_pow_sub_one,hi]
 have hgu:∀(i:Nat) o,I[i]?=some o→∀j b,o.guard=some (j,b)→j<I.size:=fun i o ho j b hgd=>by
  have:=List.all_eq_true.1 l3 o (by simp;exact Array.mem_of_getElem? ho)
  rw [hgd,hsz] at this
  simpa using this
 have:=aany_last (X:=X) (m:=9) (P:=P) (Q:=fun e a w=>∃s,Q e s∧Rel X s a w) (okOps_at hk) (fun s a w hk hR=>⟨s,hk,hR⟩) hgu hgc (ord l1) hbit I.size _ s a w.drew (by simp) hcl k1 ⟨F,loc,R.drew⟩
 rw [hsz,show Array.replicate (I.size+1) false=(Array.replicate I.size false).push false from by apply Array.ext<;>simp [Array.getElem_push]]
 exact this
end
end Go.Proofs.YtfjgijkhmhhkdaaGreatDoor
set_option linter.unusedVariables false
set_option linter.unusedSimpArgs false
namespace Go.Proofs.YtfjgijkhmhhkdaaGreatDoor
open Go Go.RowKit
-- NOOWN
-- BRS
def brS (r:Sch):Sch:=.br r
def sch0:Sch:=(.alt 9 (.one 11 (.one 13 (.one 16 (.one 14 (.one 15 (.one 17 (.one 18 (.one 19 (.one 20 (.one 21 .leaf)))))))))) (.alt 11 (.one 16 (.one 9 (.one 13 (.one 14 (.one 15 (.one 17 (.one 18 (.one 19 (.one 20 (.one 21 .leaf)))))))))) .fin))
theorem atr_sch0 {P:Program} {ops:Array Oper} {M:List Nat} {K:AS→Prop} {s:AS} (h:atr P ops M K (.alt 9 (.one 11 (.one 13 (.one 16 (.one 14 (.one 15 (.one 17 (.one 18 (.one 19 (.one 20 (.one 21 .leaf)))))))))) (.alt 11 (.one 16 (.one 9 (.one 13 (.one 14 (.one 15 (.one 17 (.one 18 (.one 19 (.one 20 (.one 21 .leaf)))))))))) .fin)) s):atr P ops M K (brS sch0) s:=h
def sch1:Sch:=(.alt 8 (brS sch0) (.alt 11 (.one 16 (.one 8 (.one 9 (.one 13 (.one 14 (.one 15 (.one 17 (.one 18 (.one 19 (.one 20 (.one 21 .leaf))))))))))) .fin))
theorem atr_sch1 {P:Program} {ops:Array Oper} {M:List Nat} {K:AS→Prop} {s:AS} (h:atr P ops M K (.alt 8 (brS sch0) (.alt 11 (.one 16 (.one 8 (.one 9 (.one 13 (.one 14 (.one 15 (.one 17 (.one 18 (.one 19 (.one 20 (.one 21 .leaf))))))))))) .fin)) s):atr P ops M K (brS sch1) s:=h
def sch2:Sch:=(.alt 4 (brS sch0) (.alt 11 (.one 4 (.one 16 (.one 9 (.one 13 (.one 14 (.one 15 (.one 17 (.one 18 (.one 19 (.one 20 (.one 21 .leaf))))))))))) .fin))
theorem atr_sch2 {P:Program} {ops:Array Oper} {M:List Nat} {K:AS→Prop} {s:AS} (h:atr P ops M K (.alt 4 (brS sch0) (.alt 11 (.one 4 (.one 16 (.one 9 (.one 13 (.one 14 (.one 15 (.one 17 (.one 18 (.one 19 (.one 20 (.one 21 .leaf))))))))))) .fin)) s):atr P ops M K (brS sch2) s:=h
def sch3:Sch:=(.alt 4 (.one 16 (.one 8 (.one 9 (.one 13 (.one 14 (.one 15 (.one 17 (.one 18 (.one 19 (.one 20 (.one 21 .leaf))))))))))) (.alt 8 (.one 4 (.one 16 (.one 9 (.one 13 (.one 14 (.one 15 (.one 17 (.one 18 (.one 19 (.one 20 (.one 21 .leaf))))))))))) .fin))
theorem atr_sch3 {P:Program} {ops:Array Oper} {M:List Nat} {K:AS→Prop} {s:AS} (h:atr P ops M K (.alt 4 (.one 16 (.one 8 (.one 9 (.one 13 (.one 14 (.one 15 (.one 17 (.one 18 (.one 19 (.one 20 (.one 21 .leaf))))))))))) (.alt 8 (.one 4 (.one 16 (.one 9 (.one 13 (.one 14 (.one 15 (.one 17 (.one 18 (.one 19 (.one 20 (.one 21 .leaf))))))))))) .fin)) s):atr P ops M K (brS sch3) s:=h
def sch4:Sch:=(.alt 4 (brS sch1) (.alt 8 (brS sch2) (.alt 11 (brS sch3) .fin)))
theorem atr_sch4 {P:Program} {ops:Array Oper} {M:List Nat} {K:AS→Prop} {s:AS} (h:atr P ops M K (.alt 4 (brS sch1) (.alt 8 (brS sch2) (.alt 11 (brS sch3) .fin))) s):atr P ops M K (brS sch4) s:=h
def sch5:Sch:=(.alt 4 (.one 6 (.one 16 (.one 9 (.one 13 (.one 14 (.one 15 (.one 17 (.one 18 (.one 19 (.one 20 (.one 21 .leaf))))))))))) (.alt 6 (.one 4 (.one 16 (.one 9 (.one 13 (.one 14 (.one 15 (.one 17 (.one 18 (.one 19 (.one 20 (.one 21 .leaf))))))))))) .fin))
theorem atr_sch5 {P:Program} {ops:Array Oper} {M:List Nat} {K:AS→Prop} {s:AS} (h:atr P ops M K (.alt 4 (.one 6 (.one 16 (.one 9 (.one 13 (.one 14 (.one 15 (.one 17 (.one 18 (.one 19 (.one 20 (.one 21 .leaf))))))))))) (.alt 6 (.one 4 (.one 16 (.one 9 (.one 13 (.one 14 (.one 15 (.one 17 (.one 18 (.one 19 (.one 20 (.one 21 .leaf))))))))))) .fin)) s):atr P ops M K (brS sch5) s:=h
def sch6:Sch:=(.alt 4 (.one 6 (brS sch0)) (.alt 6 (brS sch2) (.alt 11 (brS sch5) .fin)))
theorem atr_sch6 {P:Program} {ops:Array Oper} {M:List Nat} {K:AS→Prop} {s:AS} (h:atr P ops M K (.alt 4 (.one 6 (brS sch0)) (.alt 6 (brS sch2) (.alt 11 (brS sch5) .fin))) s):atr P ops M K (brS sch6) s:=h
def sch7:Sch:=(.alt 4 (.one 6 (.one 16 (.one 8 (.one 9 (.one 13 (.one 14 (.one 15 (.one 17 (.one 18 (.one 19 (.one 20 (.one 21 .leaf)))))))))))) (.alt 6 (brS sch3) (.alt 8 (brS sch5) .fin)))
theorem atr_sch7 {P:Program} {ops:Array Oper} {M:List Nat} {K:AS→Prop} {s:AS} (h:atr P ops M K (.alt 4 (.one 6 (.one 16 (.one 8 (.one 9 (.one 13 (.one 14 (.one 15 (.one 17 (.one 18 (.one 19 (.one 20 (.one 21 .leaf)))))))))))) (.alt 6 (brS sch3) (.alt 8 (brS sch5) .fin))) s):atr P ops M K (brS sch7) s:=h
def sch8:Sch:=(.alt 4 (.one 6 (brS sch1)) (.alt 6 (brS sch4) (.alt 8 (brS sch6) (.alt 11 (brS sch7) .fin))))
theorem atr_sch8 {P:Program} {ops:Array Oper} {M:List Nat} {K:AS→Prop} {s:AS} (h:atr P ops M K (.alt 4 (.one 6 (brS sch1)) (.alt 6 (brS sch4) (.alt 8 (brS sch6) (.alt 11 (brS sch7) .fin)))) s):atr P ops M K (brS sch8) s:=h
def sch9:Sch:=(.alt 3 (brS sch2) (.alt 11 (.one 3 (.one 4 (.one 16 (.one 9 (.one 13 (.one 14 (.one 15 (.one 17 (.one 18 (.one 19 (.one 20 (.one 21 .leaf)))))))))))) .fin))
theorem atr_sch9 {P:Program} {ops:Array Oper} {M:List Nat} {K:AS→Prop} {s:AS} (h:atr P ops M K (.alt 3 (brS sch2) (.alt 11 (.one 3 (.one 4 (.one 16 (.one 9 (.one 13 (.one 14 (.one 15 (.one 17 (.one 18 (.one 19 (.one 20 (.one 21 .leaf)))))))))))) .fin)) s):atr P ops M K (brS sch9) s:=h
def sch10:Sch:=(.alt 3 (brS sch3) (.alt 8 (.one 3 (.one 4 (.one 16 (.one 9 (.one 13 (.one 14 (.one 15 (.one 17 (.one 18 (.one 19 (.one 20 (.one 21 .leaf)))))))))))) .fin))
theorem atr_sch10 {P:Program} {ops:Array Oper} {M:List Nat} {K:AS→Prop} {s:AS} (h:atr P ops M K (.alt 3 (brS sch3) (.alt 8 (.one 3 (.one 4 (.one 16 (.one 9 (.one 13 (.one 14 (.one 15 (.one 17 (.one 18 (.one 19 (.one 20 (.one 21 .leaf)))))))))))) .fin)) s):atr P ops M K (brS sch10) s:=h
def sch11:Sch:=(.alt 3 (brS sch4) (.alt 8 (brS sch9) (.alt 11 (brS sch10) .fin)))
theorem atr_sch11 {P:Program} {ops:Array Oper} {M:List Nat} {K:AS→Prop} {s:AS} (h:atr P ops M K (.alt 3 (brS sch4) (.alt 8 (brS sch9) (.alt 11 (brS sch10) .fin))) s):atr P ops M K (brS sch11) s:=h
def sch12:Sch:=(.alt 3 (brS sch5) (.alt 6 (.one 3 (.one 4 (.one 16 (.one 9 (.one 13 (.one 14 (.one 15 (.one 17 (.one 18 (.one 19 (.one 20 (.one 21 .leaf)))))))))))) .fin))
theorem atr_sch12 {P:Program} {ops:Array Oper} {M:List Nat} {K:AS→Prop} {s:AS} (h:atr P ops M K (.alt 3 (brS sch5) (.alt 6 (.one 3 (.one 4 (.one 16 (.one 9 (.one 13 (.one 14 (.one 15 (.one 17 (.one 18 (.one 19 (.one 20 (.one 21 .leaf)))))))))))) .fin)) s):atr P ops M K (brS sch12) s:=h
def sch13:Sch:=(.alt 3 (brS sch6) (.alt 6 (brS sch9) (.alt 11 (brS sch12) .fin)))
theorem atr_sch13 {P:Program} {ops:Array Oper} {M:List Nat} {K:AS→Prop} {s:AS} (h:atr P ops M K (.alt 3 (brS sch6) (.alt 6 (brS sch9) (.alt 11 (brS sch12) .fin))) s):atr P ops M K (brS sch13) s:=h
def sch14:Sch:=(.alt 3 (brS sch7) (.alt 6 (brS sch10) (.alt 8 (brS sch12) .fin)))
theorem atr_sch14 {P:Program} {ops:Array Oper} {M:List Nat} {K:AS→Prop} {s:AS} (h:atr P ops M K (.alt 3 (brS sch7) (.alt 6 (brS sch10) (.alt 8 (brS sch12) .fin))) s):atr P ops M K (brS sch14) s:=h
def sch15:Sch:=(.alt 3 (brS sch8) (.alt 6 (brS sch11) (.alt 8 (brS sch13) (.alt 11 (brS sch14) .fin))))
theorem atr_sch15 {P:Program} {ops:Array Oper} {M:List Nat} {K:AS→Prop} {s:AS} (h:atr P ops M K (.alt 3 (brS sch8) (.alt 6 (brS sch11) (.alt 8 (brS sch13) (.alt 11 (brS sch14) .fin)))) s):atr P ops M K (brS sch15) s:=h

def opsR (id:Nat):Code→Option (Array Oper)
 | .region i ops _=>if i=id then some ops else none
 | .seq x y=>match opsR id x with|some o=>some o|none=>opsR id y
 | .block _ c=>opsR id c
 | .loop c=>opsR id c
 | .cond _ x y=>match opsR id x with|some o=>some o|none=>opsR id y
 | _=>none
noncomputable def r6:Array Oper:=((Tryz.prog.funcs[51]?.bind (·.body)).bind (opsR 6)).getD #[]
noncomputable def T6:Sch:=(.one 0 (.one 1 (.one 2 (.one 5 (.one 7 (.one 10 (.one 12 (brS sch15))))))))
theorem ok6:allOk r6 [4,9,15] T6=true:=by kernel_rfl
section
variable {P : Program} {m : Bool} {K : AS → Prop} {s : AS}
theorem op6_0 : (opAt r6.toList 0 fun o => as1 P r6 m o K s) = as2 P m ⟨some 26, .fieldAddr 44 (.tmp 4) 0, 0, "", #[], none⟩ K s := by kernel_rfl
theorem op6_1 : (opAt r6.toList 1 fun o => as1 P r6 m o K s) = as2 P m ⟨some 27, .load 41 (.tmp 26), 0, "", #[], none⟩ K s := by kernel_rfl
theorem op6_2 : (opAt r6.toList 2 fun o => as1 P r6 m o K s) = as2 P m ⟨some 28, .load 73 (.tmp 9), 0, "", #[], none⟩ K s := by kernel_rfl
theorem op6_3 : (opAt r6.toList 3 fun o => as1 P r6 m o K s) = as2 P m ⟨some 29, .buildSlice 41 1 #[(0, (.tmp 28))], 0, "", #[], none⟩ K s := by kernel_rfl
theorem op6_4 : (opAt r6.toList 4 fun o => as1 P r6 m o K s) = as2 P m ⟨some 30, .call { callee := .builtin .append, args := #[(.tmp 27), (.tmp 29)], argTypes := #[41, 41] }, 0, "", #[], none⟩ K s := by kernel_rfl
theorem op6_5 : (opAt r6.toList 5 fun o => as1 P r6 m o K s) = as2 P m ⟨some 31, .fieldAddr 44 (.tmp 4) 1, 0, "", #[], none⟩ K s := by kernel_rfl
theorem op6_6 : (opAt r6.toList 6 fun o => as1 P r6 m o K s) = as2 P m ⟨some 32, .load 42 (.tmp 31), 0, "", #[], none⟩ K s := by kernel_rfl
theorem op6_7 : (opAt r6.toList 7 fun o => as1 P r6 m o K s) = as2 P m ⟨some 33, .move (.tmp 2), 0, "", #[], none⟩ K s := by kernel_rfl
theorem op6_8 : (opAt r6.toList 8 fun o => as1 P r6 m o K s) = as2 P m ⟨some 34, .buildSlice 42 1 #[(0, (.tmp 33))], 0, "", #[], none⟩ K s := by kernel_rfl
theorem op6_9 : (opAt r6.toList 9 fun o => as1 P r6 m o K s) = as2 P m ⟨some 35, .call { callee := .builtin .append, args := #[(.tmp 32), (.tmp 34)], argTypes := #[42, 42] }, 0, "", #[], none⟩ K s := by kernel_rfl
theorem op6_10 : (opAt r6.toList 10 fun o => as1 P r6 m o K s) = as2 P m ⟨some 36, .fieldAddr 44 (.tmp 4) 2, 0, "", #[], none⟩ K s := by kernel_rfl
theorem op6_11 : (opAt r6.toList 11 fun o => as1 P r6 m o K s) = as2 P m ⟨some 37, .load 23 (.tmp 36), 0, "", #[], none⟩ K s := by kernel_rfl
theorem op6_12 : (opAt r6.toList 12 fun o => as1 P r6 m o K s) = as2 P m ⟨some 38, .move (.tmp 3), 0, "", #[], none⟩ K s := by kernel_rfl
theorem op6_13 : (opAt r6.toList 13 fun o => as1 P r6 m o K s) = as2 P m ⟨some 39, .call { callee := .value (.func 53), args := #[(.tmp 38)], argTypes := #[23] }, 0, "", #[], none⟩ K s := by kernel_rfl
theorem op6_14 : (opAt r6.toList 14 fun o => as1 P r6 m o K s) = as2 P m ⟨some 40, .buildSlice 23 1 #[(0, (.tmp 39))], 0, "", #[], none⟩ K s := by kernel_rfl
theorem op6_15 : (opAt r6.toList 15 fun o => as1 P r6 m o K s) = as2 P m ⟨some 41, .call { callee := .builtin .append, args := #[(.tmp 37), (.tmp 40)], argTypes := #[23, 23] }, 0, "", #[], none⟩ K s := by kernel_rfl
theorem op6_16 : (opAt r6.toList 16 fun o => as1 P r6 m o K s) = as2 P m ⟨some 42, .fieldAddr 44 (.tmp 4) 0, 0, "", #[], none⟩ K s := by kernel_rfl
theorem op6_17 : (opAt r6.toList 17 fun o => as1 P r6 m o K s) = as2 P m ⟨none, .store 41 (.tmp 42) (.tmp 30), 0, "", #[], none⟩ K s := by kernel_rfl
theorem op6_18 : (opAt r6.toList 18 fun o => as1 P r6 m o K s) = as2 P m ⟨some 43, .fieldAddr 44 (.tmp 4) 1, 0, "", #[], none⟩ K s := by kernel_rfl
theorem op6_19 : (opAt r6.toList 19 fun o => as1 P r6 m o K s) = as2 P m ⟨none, .store 42 (.tmp 43) (.tmp 35), 0, "", #[], none⟩ K s := by kernel_rfl
theorem op6_20 : (opAt r6.toList 20 fun o => as1 P r6 m o K s) = as2 P m ⟨some 44, .fieldAddr 44 (.tmp 4) 2, 0, "", #[], none⟩ K s := by kernel_rfl
theorem op6_21 : (opAt r6.toList 21 fun o => as1 P r6 m o K s) = as2 P m ⟨none, .store 23 (.tmp 44) (.tmp 41), 0, "", #[], none⟩ K s := by kernel_rfl
end
attribute [go_sem] op6_0 op6_1 op6_2 op6_3 op6_4 op6_5 op6_6 op6_7 op6_8 op6_9 op6_10 op6_11 op6_12 op6_13 op6_14 op6_15 op6_16 op6_17 op6_18 op6_19 op6_20 op6_21
end Go.Proofs.YtfjgijkhmhhkdaaGreatDoor
set_option linter.unusedVariables false
set_option linter.unusedSimpArgs false
namespace Go.Proofs.YtfjgijkhmhhkdaaGreatDoor
open Go Go.RowKit
def GoodP (P:Program) (f:FuncId) (zs:List AV) (H0:List AO) (ps:List Nat) (sz:Nat→Nat) (rs:List FV) (Hn:AH):Prop :=
 ∃fn c,P.funcs[f]?=some fn∧fn.body=some c∧enterOk P f=true∧okC (fun j=>ps.contains j) c=true∧∀X:Cx,X.rd=none→J X P c (aendP P fn.results.toList ps sz rs Hn) (ast0M zs H0 fn.ntmps)
theorem goodP_of {P:Program} {f:FuncId} {fn:Func} {c:Code} {zs:List AV} {H0:List AO} {ps:List Nat} {sz:Nat→Nat} {rs:List FV} {Hn:AH} (hf:P.funcs[f]?=some fn) (hb:fn.body=some c) (hok:enterOk P f=true) (hkc:okC (fun j=>ps.contains j) c=true)
  (h:∀X:Cx,X.rd=none→J X P c (aendP P fn.results.toList ps sz rs Hn) (ast0M zs H0 fn.ntmps)):GoodP P f zs H0 ps sz rs Hn:=⟨fn,c,hf,hb,hok,hkc,h⟩
theorem J_flat {X:Cx} {P:Program} {Q:Exit→AS→Prop} {s:AS} {c:Code} {r:Nat} {o o':AO} (hr:s.H[r]?=some (some o)) (he:o'.e=o.e) (hf:flat o'.es=flat o.es) (hu:Uni o'.sz o'.es) (h:J X P c Q ⟨s.t,s.H.set r (some o')⟩):J X P c Q s:=fun hk a w ⟨F,loc,R⟩=>by
 have hrl:=glt hr
 have hget:∀(q:Nat) p,(s.H.set r (some o'))[q]?=some (some p)→(q=r∧p=o')∨(q≠r∧s.H[q]?=some (some p)):=fun q p hq=>by
  by_cases e:q=r
  ·subst e;rw [List.getElem?_set_self hrl] at hq;cases hq;exact .inl ⟨rfl,rfl⟩
  ·rw [List.getElem?_set_ne (Ne.symm e)] at hq;exact .inr ⟨e,hq⟩
 have hany:∀(q:Nat) p,(s.H.set r (some o'))[q]?=some (some p)→∃p',s.H[q]?=some (some p'):=fun q p hq=>by
  rcases hget q p hq with ⟨rfl,_⟩|⟨_,h⟩
  ·exact ⟨o,hr⟩
  ·exact ⟨p,h⟩
 have hl:(s.H.set r (some o')).length=s.H.length:=List.length_set
 refine h hk a w ⟨F,loc,R.hF,R.hG,R.hN,R.below,R.defers,R.len,fun j x hj=>?_,fun q p hq=>?_,fun q p hq=>?_,fun q p hq=>?_,fun q q' p p' hq hq' e=>?_⟩
 ·show Rep w F loc (s.H.set r (some o')).length x _
  rw [hl];exact R.tmps j x hj
 ·show ObjAt w F loc (s.H.set r (some o')).length q p
  rw [hl]
  rcases hget q p hq with ⟨rfl,rfl⟩|⟨_,h⟩
  ·obtain ⟨_,vs,h1,h2,h3⟩:=R.obj q o hr
   exact ⟨hu,vs,by rw [he];exact h1,h2,fun j c hj=>h3 j c (by rw [←hf];exact hj)⟩
  ·exact R.obj q p h
 ·obtain ⟨p',h'⟩:=hany q p hq;exact R.new q p' h'
 ·obtain ⟨p',h'⟩:=hany q p hq;exact R.nF q p' h'
 ·obtain ⟨p1,h1⟩:=hany q p hq;obtain ⟨p2,h2⟩:=hany q' p' hq';exact R.inj q q' p1 p2 h1 h2 e
theorem net_end {t:List AV} {H:AH} {e0 e1 e2 e3:TypeId} {a b d k:Nat} {l1 l2 l3:List FV} (ht:t.getD 4 .any=.ptr 0 3 0 0) (h0:H[0]?=some (some ⟨e0,3,[.agg [.own a 2 0 k,.own b 1 0 k,.own d 1 0 k]]⟩))
  (h1:H[a]?=some (some ⟨e1,2,l1.map .f⟩)) (h2:H[b]?=some (some ⟨e2,1,l2.map .f⟩)) (h3:H[d]?=some (some ⟨e3,1,l3.map .f⟩)) (hn:[0,a,b,d].Nodup) :
  ([]:List AV)=([]:List FV).map .f∧Weak ⟨[t.getD 4 .any],H⟩ ⟨[.ptr 0 3 0 0],[some ⟨e0,3,[.agg [.own 1 2 0 k,.own 2 1 0 k,.own 3 1 0 k]]⟩,some ⟨e1,2,l1.map .f⟩,some ⟨e2,1,l2.map .f⟩,some ⟨e3,1,l3.map .f⟩]⟩:=by
 refine ⟨rfl,weak_ren [0,a,b,d] ⟨hn,by simp⟩ ?_ ?_⟩
 ·rw [ht];simp only [go_sem,Nat.reduceAdd,Nat.reduceLT]
 ·simp only [go_sem,Nat.reduceAdd,h0,h1,h2,h3,map_ren_f]
  exact ⟨rfl,rfl⟩
theorem J_eqR {X:Cx} {P:Program} {Q:Exit→AS→Prop} {s:AS} {id:Nat} {ops ops':Array Oper} (e:ops=ops') (h:J X P (.region id ops' true) Q s):J X P (.region id ops true) Q s:=e▸h
def bxA (nm:ByteArray) (r x:Nat):AV:=if x=0 then .f (.agg [St nm,nilV]) else .agg [.f (St nm),.own r 1 0 x]
theorem bxA_zero {nm:ByteArray} {r:Nat}:bxA nm r 0=.f (.agg [St nm,nilV]):=rfl
theorem bxA_succ {nm:ByteArray} {r x:Nat}:bxA nm r (x+1)=.agg [.f (St nm),.own r 1 0 (x+1)]:=rfl
def ntA (c a b d:Nat):AV:=.agg [.own a 2 0 c,.own b 1 0 c,.own d 1 0 c]
end Go.Proofs.YtfjgijkhmhhkdaaGreatDoor
