/- hidden.Unroll's closure, called again: walked. Conditions: one to four values. -/
import Derived.Test.YtfjgijkhmhhkdaaGreatDoorYB23
set_option linter.unusedVariables false
set_option linter.unusedSimpArgs false
namespace Go.Proofs.YtfjgijkhmhhkdaaGreatDoor
open Go Go.RowKit
-- NOOWN
set_option maxRecDepth 100000 in
set_option maxHeartbeats 8000000 in
theorem add1_j {c n:Nat} {nm:ByteArray} {z:Int} {V Pa Ro:List FV} {R:List (List FV)} (hc1:1≤c) (hc8:c≤8) (hn1:1≤n) (hn4:n≤4) (lv:V.length=c) (lp:Pa.length=c) (lr:Ro.length=c)
  (hR:Good Tryz.prog 53 [.fz 1 (R.map (FV.fz 3))] (.fz 3 R.flatten)) :
  GoodP Tryz.prog 51 [.f (St nm),.f (I n),.own 4 1 0 1,.f (.fz 1 (R.map (FV.fz 3))),.ptr 0 3 0 0]
   [⟨44,3,[ntA c 1 2 3]⟩,⟨73,2,V.map .f⟩,⟨26,1,Pa.map .f⟩,⟨22,1,Ro.map .f⟩,⟨3,1,[.f (I z)]⟩] [4] (fun _=>3) []
   [some ⟨44,3,[ntA (c+1) 1 2 3]⟩,some ⟨73,2,(V++[FV.agg [St nm,.fz 1 (vls n)]]).map .f⟩,some ⟨26,1,(Pa++[ints [z]]).map .f⟩,some ⟨22,1,(Ro++[FV.fz 3 R.flatten]).map .f⟩]:=by
 generalize hHn:([_,_,_,_]:AH)=Hn
 refine goodP_of Tryz.func51 rfl (by kernel_rfl) (by kernel_rfl) fun X hrd=>?_;rw [Tryz.ntmps51,Tryz.results51];simp only [ast0M,List.map_cons,List.map_nil,List.length_cons,List.length_nil,Nat.reduceAdd,Nat.reduceSub,List.replicate_succ,List.replicate_zero,List.cons_append,List.nil_append]
 (repeat (with_reducible first|refine W_seq fun K hK=>?_|refine J_block ?_|refine J_region ?_|(refine Kont.go (by assumption) ?_)|(simp (config:={ maxSteps:=3000000 }) (disch:=omega) only [go_sem,Nat.reduceEqDiff,↓reduceIte,Nat.reduceAdd,Nat.reduceLeDiff])))
 refine J_reserve ?_
 simp only [go_sem]
 refine W_loop [10,14,15,16,17,18,19,20,21,22,23,24,25] (fun x:Nat=>[(14,.f (I x))]) (fun x:Nat=>[some ⟨44,3,[ntA c 1 2 3]⟩,some ⟨73,2,V.map .f⟩,some ⟨26,1,Pa.map .f⟩,some ⟨22,1,Ro.map .f⟩,some ⟨3,1,[.f (I z)]⟩,some ⟨73,2,[bxA nm 6 x]⟩,ob 9 1 (vls x)]) (fun x:Nat=>x≤n) (fun x:Nat=>n-x) (0) (Nat.zero_le _) (by refine weak_of ?_ ?_<;>simp (disch:=omega) only [go_sem,Nat.reduceAdd]<;>first|rfl|exact ⟨rfl,rfl⟩|exact Or.inl rfl|exact ⟨Or.inl rfl,Or.inl rfl⟩|trivial|assumption|omega|(symm;assumption)|((repeat' apply And.intro)<;>first|rfl|omega|trivial|exact .inl rfl|exact .inr ⟨rfl,rfl⟩|exact .inr rfl|(right;symm;assumption)|(symm;assumption)|assumption)) ?_
 rintro x hx
 simp only [go_sem]
 (repeat (with_reducible first|refine W_seq fun K hK=>?_|refine J_region ?_|refine J_c ?_|(refine Kont.go (by assumption) ?_)|(simp (config:={ maxSteps:=3000000 }) (disch:=omega) only [go_sem])))
 refine Jc_if (fun hxn=>?_) (fun hxn=>?_)<;>try simp only [decide_eq_true_eq,decide_eq_false_iff_not] at hxn
 ·have hit:=itoa_w (k:=x) (by omega)
  have hd:(dgt x).size=1:=rfl
  have hnx:vls x++[FV.v (.string (⟨#[118]⟩++dgt x))]=vls (x+1):=vls_next
  by_cases x0:x=0
  ·subst x0
   have e1:ob 9 1 (vls 0)=none:=rfl
   rw [e1,bxA_zero]
   (repeat (with_reducible first|refine W_seq fun K hK=>?_|refine J_block ?_|refine J_skip ?_|refine J_region ?_|refine J_orders (id:=4) [6] (.one 0 (.one 1 (.one 2 (.one 3 (.one 4 (.one 5 (.one 6 (.one 7 (.one 8 .leaf))))))))) mixed (by kernel_rfl) ?_|(refine Kont.go (by assumption) ?_)|(simp (config:={ maxSteps:=3000000 }) (disch:=omega) only [go_sem,Nat.reduceEqDiff,↓reduceIte,Nat.reduceAdd,Nat.reduceLeDiff])))
   (first|refine call_f (hit) rfl ?_|refine callQ_f (hit) rfl ?_|refine callHK_f (hit) rfl ?_|refine callH_f (hit) rfl ?_)
   (repeat (first|(with_reducible first|refine J_region ?_|(refine Kont.go (by assumption) ?_)|(simp (config:={ maxSteps:=3000000 }) (disch:=omega) only [go_sem,↓reduceIte,Nat.reduceAdd,Nat.reduceLeDiff,Int.reduceAdd,hd]))|refine And.intro (by omega) ?_))
   have f1:ob 9 1 (vls 1)=some ⟨9,1,[.f (.v (.string (⟨#[118]⟩++dgt 0)))]⟩:=rfl
   have f2:bxA nm 6 1=.agg [.f (St nm),.own 6 1 0 1]:=rfl
   refine ⟨1,by omega,by omega,weak_ren [0,1,2,3,4,5,8] ⟨by decide,by first|decide|(simp;done)⟩ ?_ ?_⟩<;>(try simp (disch:=omega) only [go_sem,Nat.reduceAdd,f1,f2])<;>(try first|done|omega|rfl|exact ⟨rfl,rfl⟩|trivial)
  ·obtain ⟨u,rfl⟩:∃u,x=u+1:=⟨x-1,by omega⟩
   have vl:(vls (u+1)).length=u+1:=vls_len
   obtain ⟨L,hL⟩:∃L,L=vls (u+1):=⟨_,rfl⟩
   rw [←hL] at vl hnx ⊢
   have e1:ob 9 1 L=some ⟨9,1,L.map .f⟩:=ob_pos fun h=>by rw [h] at vl;simp at vl
   have tl:(L.map AV.f).take (u+1)=L.map .f:=List.take_of_length_le (by rw [List.length_map];omega)
   rw [e1,bxA_succ]
   (repeat (with_reducible first|refine W_seq fun K hK=>?_|refine J_block ?_|refine J_skip ?_|refine J_region ?_|refine J_orders (id:=4) [6] (.one 0 (.one 1 (.one 2 (.one 3 (.one 4 (.one 5 (.one 6 (.one 7 (.one 8 .leaf))))))))) mixed (by kernel_rfl) ?_|(refine Kont.go (by assumption) ?_)|(simp (config:={ maxSteps:=3000000 }) (disch:=omega) only [go_sem,Nat.reduceEqDiff,↓reduceIte,Nat.reduceAdd,Nat.reduceLeDiff,vl,tl,List.length_map])))
   (first|refine call_f (hit) rfl ?_|refine callQ_f (hit) rfl ?_|refine callHK_f (hit) rfl ?_|refine callH_f (hit) rfl ?_)
   (repeat (first|(with_reducible first|refine J_region ?_|(refine Kont.go (by assumption) ?_)|(simp (config:={ maxSteps:=3000000 }) (disch:=omega) only [go_sem,↓reduceIte,Nat.reduceAdd,Nat.reduceLeDiff,hd]))|refine And.intro (by omega) ?_))
   have f1:ob 9 1 (vls (u+1+1))=some ⟨9,1,L.map .f++[.f (.v (.string (⟨#[118]⟩++dgt (u+1))))]⟩:=by rw [←hnx,ob_pos (by simp),List.map_append];rfl
   refine ⟨u+1+1,by omega,by omega,weak_ren [0,1,2,3,4,5,8] ⟨by decide,by first|decide|(simp;done)⟩ ?_ ?_⟩<;>(try simp (disch:=omega) only [go_sem,Nat.reduceAdd,f1,bxA_succ,map_ren_f,List.map_append,List.map_cons,List.map_nil])<;>(try first|done|omega|rfl|exact ⟨rfl,rfl⟩|trivial)
 ·have he:x=n:=by omega
  subst he
  obtain ⟨u,rfl⟩:∃u,x=u+1:=⟨x-1,by omega⟩
  have vl:(vls (u+1)).length=u+1:=vls_len
  have e1:ob 9 1 (vls (u+1))=some ⟨9,1,(vls (u+1)).map .f⟩:=ob_pos fun h=>by rw [h] at vl;simp at vl
  rw [e1,bxA_succ]
  have en:ntA c 1 2 3=.agg [.own 1 2 0 c,.own 2 1 0 c,.own 3 1 0 c]:=rfl
  have tv:(V.map AV.f).take c=V.map .f:=List.take_of_length_le (by rw [List.length_map];omega)
  have tp:(Pa.map AV.f).take c=Pa.map .f:=List.take_of_length_le (by rw [List.length_map];omega)
  have tr:(Ro.map AV.f).take c=Ro.map .f:=List.take_of_length_le (by rw [List.length_map];omega)
  rw [en]
  (repeat (with_reducible first|refine J_exit ?_|(refine Kont.go (by assumption) ?_)|(simp (config:={ maxSteps:=3000000 }) (disch:=omega) only [go_sem,↓reduceIte])))
  refine J_freezeA (r:=6) (sz:=1) (e:=9) (l:=vls (u+1)) (by rfl) ?_
  simp only [go_sem,Nat.reduceEqDiff,vl,if_true]
  refine J_freezeA (r:=4) (sz:=1) (e:=3) (l:=[I z]) (by rfl) ?_
  simp only [go_sem,Nat.reduceEqDiff]
  refine J_flat (r:=5) (o:=⟨73,2,[.agg [.f (St nm),.f (.fz 1 (vls (u+1)))]]⟩) (o':=⟨73,2,[.f (.agg [St nm,.fz 1 (vls (u+1))])]⟩) rfl rfl rfl (fun e he=>by rw [List.mem_singleton.1 he];exact ⟨rfl,rfl⟩) ?_
  simp only [go_sem]
  obtain ⟨E,hE⟩:∃E,E=vls (u+1):=⟨_,rfl⟩
  rw [←hE]
  have q1:V.map AV.f++[.f (.agg [St nm,.fz 1 E])]=(V++[FV.agg [St nm,.fz 1 E]]).map .f:=by rw [List.map_append];rfl
  have q2:Pa.map AV.f++[.f (.fz 1 [I z])]=(Pa++[ints [z]]).map .f:=by rw [List.map_append];rfl
  have q3:Ro.map AV.f++[.f (.fz 3 R.flatten)]=(Ro++[FV.fz 3 R.flatten]).map .f:=by rw [List.map_append];rfl
  have by1:(c+1)*40≤140737488355328:=by omega
  have by2:(c+1)*24≤140737488355328:=by omega
  refine J_eqR (ops':=r6) (by kernel_rfl) ?_
  refine J_orders [4,9,15] T6 mixed ok6 ?_
  have leaf:∀{t:List AV} {H:AH} {a b d:Nat},t.getD 4 .any=.ptr 0 3 0 0→H[0]?=some (some ⟨44,3,[.agg [.own a 2 0 (c+1),.own b 1 0 (c+1),.own d 1 0 (c+1)]]⟩)→H[a]?=some (some ⟨73,2,(V++[FV.agg [St nm,.fz 1 E]]).map .f⟩)→H[b]?=some (some ⟨26,1,(Pa++[ints [z]]).map .f⟩)→H[d]?=some (some ⟨22,1,(Ro++[FV.fz 3 R.flatten]).map .f⟩)→[0,a,b,d].Nodup →
    aendP Tryz.prog [] [4] (fun _=>3) [] Hn .normal ⟨t,H⟩:=fun h0 h1 h2 h3 h4 h5=>by rw [←hHn,←hE];exact net_end h0 h1 h2 h3 h4 h5
  generalize aendP _ _ _ _ _ _ _=K at leaf ⊢
  clear hHn
  unfold T6
  repeat' (first|(with_reducible refine And.intro ?_ ?_)|(with_reducible refine atr_sch0 ?_)|(with_reducible refine atr_sch1 ?_)|(with_reducible refine atr_sch2 ?_)|(with_reducible refine atr_sch3 ?_)|(with_reducible refine atr_sch4 ?_)|(with_reducible refine atr_sch5 ?_)|(with_reducible refine atr_sch6 ?_)|(with_reducible refine atr_sch7 ?_)|(with_reducible refine atr_sch8 ?_)|(with_reducible refine atr_sch9 ?_)|(with_reducible refine atr_sch10 ?_)|(with_reducible refine atr_sch11 ?_)|(with_reducible refine atr_sch12 ?_)|(with_reducible refine atr_sch13 ?_)|(with_reducible refine atr_sch14 ?_)|(with_reducible refine atr_sch15 ?_)|(simp (config:={ maxSteps:=3000000 }) (disch:=omega) only [go_sem,Nat.reduceEqDiff,↓reduceIte,Nat.reduceAdd,Nat.reduceLeDiff,lv,lp,lr,tv,tp,tr,by1,by2,List.length_map,q1,q2,q3,Nat.reduceMul,Nat.le_refl,true_and,and_true,and_self])|(refine callQ_f hR rfl ?_)|(exact leaf rfl rfl rfl rfl rfl (by decide)))
end Go.Proofs.YtfjgijkhmhhkdaaGreatDoor
set_option linter.unusedVariables false
set_option linter.unusedSimpArgs false
namespace Go.Proofs.YtfjgijkhmhhkdaaGreatDoor
open Go Go.RowKit
-- NOOWN
set_option maxRecDepth 100000 in
set_option maxHeartbeats 8000000 in
theorem add0_j {n:Nat} {nm:ByteArray} {xs:List FV} (hn1:1≤n) (hn4:n≤4)
  (hR:Good Tryz.prog 53 [.fz 1 [.fz 3 xs]] (.fz 3 xs)) :
  GoodP Tryz.prog 51 [.f (St nm),.f (I n),.f nilV,.own 1 1 0 1,.ptr 0 3 0 0]
   [⟨44,3,[.f (.agg [nilV,nilV,nilV])]⟩,⟨22,1,[.f (.fz 3 xs)]⟩] [4] (fun _=>3) []
   [some ⟨44,3,[ntA 1 1 2 3]⟩,some ⟨73,2,[FV.agg [St nm,.fz 1 (vls n)]].map .f⟩,some ⟨26,1,[nilV].map .f⟩,some ⟨22,1,[FV.fz 3 xs].map .f⟩]:=by
 generalize hHn:([_,_,_,_]:AH)=Hn
 refine goodP_of Tryz.func51 rfl (by kernel_rfl) (by kernel_rfl) fun X hrd=>?_;rw [Tryz.ntmps51,Tryz.results51];simp only [ast0M,List.map_cons,List.map_nil,List.length_cons,List.length_nil,Nat.reduceAdd,Nat.reduceSub,List.replicate_succ,List.replicate_zero,List.cons_append,List.nil_append]
 (repeat (with_reducible first|refine W_seq fun K hK=>?_|refine J_block ?_|refine J_region ?_|(refine Kont.go (by assumption) ?_)|(simp (config:={ maxSteps:=3000000 }) (disch:=omega) only [go_sem,Nat.reduceEqDiff,↓reduceIte,Nat.reduceAdd,Nat.reduceLeDiff])))
 refine J_reserve ?_
 simp only [go_sem]
 refine W_loop [10,14,15,16,17,18,19,20,21,22,23,24,25] (fun x:Nat=>[(14,.f (I x))]) (fun x:Nat=>[some ⟨44,3,[.f (.agg [nilV,nilV,nilV])]⟩,some ⟨22,1,[.f (.fz 3 xs)]⟩,some ⟨73,2,[bxA nm 3 x]⟩,ob 9 1 (vls x)]) (fun x:Nat=>x≤n) (fun x:Nat=>n-x) (0) (Nat.zero_le _) (by refine weak_of ?_ ?_<;>simp (disch:=omega) only [go_sem,Nat.reduceAdd]<;>first|rfl|exact ⟨rfl,rfl⟩|exact Or.inl rfl|exact ⟨Or.inl rfl,Or.inl rfl⟩|trivial|assumption|omega|(symm;assumption)|((repeat' apply And.intro)<;>first|rfl|omega|trivial|exact .inl rfl|exact .inr ⟨rfl,rfl⟩|exact .inr rfl|(right;symm;assumption)|(symm;assumption)|assumption)) ?_
 rintro x hx
 simp only [go_sem]
 (repeat (with_reducible first|refine W_seq fun K hK=>?_|refine J_region ?_|refine J_c ?_|(refine Kont.go (by assumption) ?_)|(simp (config:={ maxSteps:=3000000 }) (disch:=omega) only [go_sem])))
 refine Jc_if (fun hxn=>?_) (fun hxn=>?_)<;>try simp only [decide_eq_true_eq,decide_eq_false_iff_not] at hxn
 ·have hit:=itoa_w (k:=x) (by omega)
  have hd:(dgt x).size=1:=rfl
  have hnx:vls x++[FV.v (.string (⟨#[118]⟩++dgt x))]=vls (x+1):=vls_next
  by_cases x0:x=0
  ·subst x0
   have e1:ob 9 1 (vls 0)=none:=rfl
   rw [e1,bxA_zero]
   (repeat (with_reducible first|refine W_seq fun K hK=>?_|refine J_block ?_|refine J_skip ?_|refine J_region ?_|refine J_orders (id:=4) [6] (.one 0 (.one 1 (.one 2 (.one 3 (.one 4 (.one 5 (.one 6 (.one 7 (.one 8 .leaf))))))))) mixed (by kernel_rfl) ?_|(refine Kont.go (by assumption) ?_)|(simp (config:={ maxSteps:=3000000 }) (disch:=omega) only [go_sem,Nat.reduceEqDiff,↓reduceIte,Nat.reduceAdd,Nat.reduceLeDiff])))
   (first|refine call_f (hit) rfl ?_|refine callQ_f (hit) rfl ?_|refine callHK_f (hit) rfl ?_|refine callH_f (hit) rfl ?_)
   (repeat (first|(with_reducible first|refine J_region ?_|(refine Kont.go (by assumption) ?_)|(simp (config:={ maxSteps:=3000000 }) (disch:=omega) only [go_sem,↓reduceIte,Nat.reduceAdd,Nat.reduceLeDiff,Int.reduceAdd,hd]))|refine And.intro (by omega) ?_))
   have f1:ob 9 1 (vls 1)=some ⟨9,1,[.f (.v (.string (⟨#[118]⟩++dgt 0)))]⟩:=rfl
   have f2:bxA nm 3 1=.agg [.f (St nm),.own 3 1 0 1]:=rfl
   refine ⟨1,by omega,by omega,weak_ren [0,1,2,5] ⟨by decide,by first|decide|(simp;done)⟩ ?_ ?_⟩<;>(try simp (disch:=omega) only [go_sem,Nat.reduceAdd,f1,f2])<;>(try first|done|omega|rfl|exact ⟨rfl,rfl⟩|trivial)
  ·obtain ⟨u,rfl⟩:∃u,x=u+1:=⟨x-1,by omega⟩
   have vl:(vls (u+1)).length=u+1:=vls_len
   obtain ⟨L,hL⟩:∃L,L=vls (u+1):=⟨_,rfl⟩
   rw [←hL] at vl hnx ⊢
   have e1:ob 9 1 L=some ⟨9,1,L.map .f⟩:=ob_pos fun h=>by rw [h] at vl;simp at vl
   have tl:(L.map AV.f).take (u+1)=L.map .f:=List.take_of_length_le (by rw [List.length_map];omega)
   rw [e1,bxA_succ]
   (repeat (with_reducible first|refine W_seq fun K hK=>?_|refine J_block ?_|refine J_skip ?_|refine J_region ?_|refine J_orders (id:=4) [6] (.one 0 (.one 1 (.one 2 (.one 3 (.one 4 (.one 5 (.one 6 (.one 7 (.one 8 .leaf))))))))) mixed (by kernel_rfl) ?_|(refine Kont.go (by assumption) ?_)|(simp (config:={ maxSteps:=3000000 }) (disch:=omega) only [go_sem,Nat.reduceEqDiff,↓reduceIte,Nat.reduceAdd,Nat.reduceLeDiff,vl,tl,List.length_map])))
   (first|refine call_f (hit) rfl ?_|refine callQ_f (hit) rfl ?_|refine callHK_f (hit) rfl ?_|refine callH_f (hit) rfl ?_)
   (repeat (first|(with_reducible first|refine J_region ?_|(refine Kont.go (by assumption) ?_)|(simp (config:={ maxSteps:=3000000 }) (disch:=omega) only [go_sem,↓reduceIte,Nat.reduceAdd,Nat.reduceLeDiff,hd]))|refine And.intro (by omega) ?_))
   have f1:ob 9 1 (vls (u+1+1))=some ⟨9,1,L.map .f++[.f (.v (.string (⟨#[118]⟩++dgt (u+1))))]⟩:=by rw [←hnx,ob_pos (by simp),List.map_append];rfl
   refine ⟨u+1+1,by omega,by omega,weak_ren [0,1,2,5] ⟨by decide,by first|decide|(simp;done)⟩ ?_ ?_⟩<;>(try simp (disch:=omega) only [go_sem,Nat.reduceAdd,f1,bxA_succ,map_ren_f,List.map_append,List.map_cons,List.map_nil])<;>(try first|done|omega|rfl|exact ⟨rfl,rfl⟩|trivial)
 ·have he:x=n:=by omega
  subst he
  obtain ⟨u,rfl⟩:∃u,x=u+1:=⟨x-1,by omega⟩
  have vl:(vls (u+1)).length=u+1:=vls_len
  have e1:ob 9 1 (vls (u+1))=some ⟨9,1,(vls (u+1)).map .f⟩:=ob_pos fun h=>by rw [h] at vl;simp at vl
  rw [e1,bxA_succ]
  (repeat (with_reducible first|refine J_exit ?_|(refine Kont.go (by assumption) ?_)|(simp (config:={ maxSteps:=3000000 }) (disch:=omega) only [go_sem,↓reduceIte])))
  refine J_freezeA (r:=3) (sz:=1) (e:=9) (l:=vls (u+1)) (by rfl) ?_
  simp only [go_sem,Nat.reduceEqDiff,vl,if_true]
  refine J_freezeA (r:=1) (sz:=1) (e:=22) (l:=[.fz 3 xs]) (by rfl) ?_
  simp only [go_sem,Nat.reduceEqDiff]
  refine J_flat (r:=2) (o:=⟨73,2,[.agg [.f (St nm),.f (.fz 1 (vls (u+1)))]]⟩) (o':=⟨73,2,[.f (.agg [St nm,.fz 1 (vls (u+1))])]⟩) rfl rfl rfl (fun e he=>by rw [List.mem_singleton.1 he];exact ⟨rfl,rfl⟩) ?_
  simp only [go_sem]
  obtain ⟨E,hE⟩:∃E,E=vls (u+1):=⟨_,rfl⟩
  rw [←hE]
  refine J_eqR (ops':=r6) (by kernel_rfl) ?_
  refine J_orders [4,9,15] T6 mixed ok6 ?_
  have leaf:∀{t:List AV} {H:AH} {a b d:Nat},t.getD 4 .any=.ptr 0 3 0 0→H[0]?=some (some ⟨44,3,[.agg [.own a 2 0 1,.own b 1 0 1,.own d 1 0 1]]⟩)→H[a]?=some (some ⟨73,2,[FV.agg [St nm,.fz 1 E]].map .f⟩)→H[b]?=some (some ⟨26,1,[nilV].map .f⟩)→H[d]?=some (some ⟨22,1,[FV.fz 3 xs].map .f⟩)→[0,a,b,d].Nodup →
    aendP Tryz.prog [] [4] (fun _=>3) [] Hn .normal ⟨t,H⟩:=fun h0 h1 h2 h3 h4 h5=>by rw [←hHn,←hE];exact net_end h0 h1 h2 h3 h4 h5
  generalize aendP _ _ _ _ _ _ _=K at leaf ⊢
  clear hHn
  unfold T6
  repeat' (first|(with_reducible refine And.intro ?_ ?_)|(with_reducible refine atr_sch0 ?_)|(with_reducible refine atr_sch1 ?_)|(with_reducible refine atr_sch2 ?_)|(with_reducible refine atr_sch3 ?_)|(with_reducible refine atr_sch4 ?_)|(with_reducible refine atr_sch5 ?_)|(with_reducible refine atr_sch6 ?_)|(with_reducible refine atr_sch7 ?_)|(with_reducible refine atr_sch8 ?_)|(with_reducible refine atr_sch9 ?_)|(with_reducible refine atr_sch10 ?_)|(with_reducible refine atr_sch11 ?_)|(with_reducible refine atr_sch12 ?_)|(with_reducible refine atr_sch13 ?_)|(with_reducible refine atr_sch14 ?_)|(with_reducible refine atr_sch15 ?_)|(simp (config:={ maxSteps:=3000000 }) (disch:=omega) only [go_sem,Nat.reduceEqDiff,↓reduceIte,Nat.reduceAdd,Nat.reduceLeDiff,Nat.reduceMul,Nat.le_refl,true_and,and_true,and_self])|(refine callQ_f hR rfl ?_)|(exact leaf rfl rfl rfl rfl rfl (by decide)))
end Go.Proofs.YtfjgijkhmhhkdaaGreatDoor
set_option linter.unusedVariables false
set_option linter.unusedSimpArgs false
namespace Go.Proofs.YtfjgijkhmhhkdaaGreatDoor
open Go Go.RowKit
def kllH (H:AH) (gl:List Nat):AH:=gl.foldl (fun H r=>H.set r none) H
theorem kllH_len {gl:List Nat}:∀{H:AH},(kllH H gl).length=H.length:=by
 induction gl with
 | nil=>intro H;rfl
 | cons a gl ih=>intro H;show (kllH (H.set a none) gl).length=_;rw [ih,List.length_set]
theorem kllH_get {gl:List Nat}:∀{H:AH} {r:Nat} {p:AO},(kllH H gl)[r]?=some (some p)→H[r]?=some (some p)∧r∉gl:=by
 induction gl with
 | nil=>intro H r p h;exact ⟨h,by simp⟩
 | cons a gl ih =>
  intro H r p h
  obtain ⟨h1,h2⟩:=ih (H:=H.set a none) h
  by_cases e:r=a
  ·subst e
   by_cases hl:r<H.length
   ·rw [List.getElem?_set_self hl] at h1;cases h1
   ·rw [List.getElem?_eq_none (by rw [List.length_set];omega)] at h1;cases h1
  ·rw [List.getElem?_set_ne (Ne.symm e)] at h1
   exact ⟨h1,by simp [e,h2]⟩
theorem nth_mem {gl:List Nat}:∀{i:Nat},i<gl.length→nth gl i∈gl∧gl[i]?=some (nth gl i):=by
 induction gl with
 | nil=>intro i h;simp at h
 | cons a gl ih =>
  intro i h
  cases i with
  | zero=>exact ⟨by simp [nth_zero],rfl⟩
  | succ i =>
   have:=ih (i:=i) (by simpa using h)
   refine ⟨List.mem_cons_of_mem _ ?_,?_⟩
   ·exact this.1
   ·rw [List.getElem?_cons_succ];exact this.2
theorem nth_inj {gl:List Nat} (hn:gl.Nodup) {i j:Nat} (hi:i<gl.length) (hj:j<gl.length) (h:nth gl i=nth gl j):i=j:=by
 have h1:=(nth_mem hi).2
 have h2:=(nth_mem hj).2
 rw [h] at h1
 exact (List.getElem?_inj hi hn).1 (h1.trans h2.symm)
def rhN (p N:Nat) (i:Nat):Nat:=if i<1 then p else N+(i-1)
def leftH (H:AH) (gl:List Nat) (p:Nat) (o0:AO) (Hr:List AO):AH :=
 (kllH H gl).set p (some ⟨o0.e,o0.sz,o0.es.map (AV.ren (rhN p H.length))⟩)++Hr.map fun o=>some ⟨o.e,o.sz,o.es.map (AV.ren (rhN p H.length))⟩
theorem callP_t {P:Program} {f:FuncId} {zs xs:List AV} {H0 Hr:List AO} {p k:Nat} {gl:List Nat} {o0:AO} {s:AS} (hg:GoodP P f zs H0 [p] (fun _=>k) [] (some o0::Hr.map some)) (hp:zs[p]?=some (.ptr 0 k 0 0)) (hl:gl.length=H0.length) (hn:gl.Nodup) (h1:1≤H0.length)
  (hobj:∀(i:Nat) o,H0[i]?=some o→s.H[nth gl i]?=some (some ⟨o.e,o.sz,o.es.map (AV.ren (nth gl))⟩)∧∀e∈o.es,e.lt0 H0.length=true)
  (hxz:zs.map (AV.ren (nth gl))=xs) (hzl:∀z∈zs,z.lt0 H0.length=true)
  (not:s.t.all (AV.noOwn fun r=>r==nth gl 0)=true) (noh:∀(r:Nat) o,s.H[r]?=some (some o)→r∉gl→∀e∈flat o.es,e.noOwn (fun r=>r==nth gl 0)=true)
  (hHn:∀o∈o0::Hr,∀e∈o.es,e.lt0 (Hr.length+1)=true) :
  CallT P f xs s (fun v s'=>v=.f (.v (.tuple #[]))∧s'=⟨s.t,leftH s.H gl (nth gl 0) o0 Hr⟩):=by
 obtain ⟨fn,c,hf,hb,hok,hkc,hJ⟩:=hg
 have hgm:∀r,(∀i,i<H0.length→nth gl i≠r)↔r∉gl:=fun r=>by
  refine ⟨fun h hm=>?_,fun h i hi e=>h (e▸(nth_mem (by omega)).1)⟩
  obtain ⟨i,hi,e⟩:=List.getElem_of_mem hm
  have:=(nth_mem hi).2
  rw [List.getElem?_eq_getElem hi,e] at this
  exact h i (by omega) (Option.some.inj this).symm
 have hg0:nth gl 0<s.H.length:=glt (hobj 0 _ (List.getElem?_eq_getElem h1)).1
 have hm0:nth gl 0∈gl:=(nth_mem (by omega)).1
 refine callT_P (ps:=[p]) (sz:=fun _=>k) (rs:=[]) (Hn:=some o0::Hr.map some) (g:=nth gl) (q:=fun r=>r==nth gl 0) (ρ:=rhN (nth gl 0) s.H.length) hf hb hok hkc (fun x h=>by cases h) (by simp) (fun i p' h=>?_) h1 hJ (fun i i' hi hi' e=>nth_inj hn (by omega) (by omega) e) hobj (by rw [←hxz,List.length_map]) (fun j x z hx hz=>?_) (fun i hi=>?_) (fun r hr=>?_) (List.all_eq_true.1 not) (fun r o hr hh=>noh r o hr ((hgm r).1 hh)) (fun i o hi e he=>?_) (fun i=>?_) (by simp) ?_ (fun r p' hr=>?_)
 ·cases i with
  | zero=>cases h;exact hp
  | succ i=>simp at h
 ·rw [←hxz,List.getElem?_map,hz] at hx
  cases hx
  exact ⟨rfl,hzl z (List.mem_of_getElem? hz)⟩
 ·have:i=0:=by simp at hi;omega
  subst this;simp
 ·exact ⟨0,by simp,(beq_iff_eq.1 hr).symm⟩
 ·have hlen:(some o0::Hr.map some:AH).length=Hr.length+1:=by simp
  rw [hlen]
  refine hHn o ?_ e he
  have:=List.mem_of_getElem? hi
  rcases List.mem_cons.1 this with h|h
  ·cases h;simp
  ·obtain ⟨o',ho',e'⟩:=List.mem_map.1 h
   cases e';exact List.mem_cons_of_mem _ ho'
 ·unfold rhN
  by_cases hi:i<1
  ·rw [if_pos hi,if_pos (by simpa using hi)];congr 1;omega
  ·rw [if_neg hi,if_neg (by simpa using hi)];rfl
 ·unfold leftH
  rw [List.length_append,List.length_set,kllH_len,List.length_map]
  simp
 ·unfold leftH at hr
  rcases Nat.lt_or_ge r s.H.length with h|h
  ·rw [List.getElem?_append_left (by rw [List.length_set,kllH_len];exact h)] at hr
   by_cases e:r=nth gl 0
   ·subst e
    rw [List.getElem?_set_self (by rw [kllH_len];exact h)] at hr
    cases hr
    exact .inr ⟨0,o0,rfl,rfl,rfl⟩
   ·rw [List.getElem?_set_ne (Ne.symm e)] at hr
    obtain ⟨k1,k2⟩:=kllH_get hr
    exact .inl ⟨k1,(hgm r).2 k2⟩
  ·rw [List.getElem?_append_right (by rw [List.length_set,kllH_len];exact h),List.length_set,kllH_len,List.getElem?_map] at hr
   cases hq:Hr[r-s.H.length]? with
   | none=>rw [hq] at hr;cases hr
   | some o =>
    rw [hq] at hr
    cases hr
    refine .inr ⟨r-s.H.length+1,o,by rw [List.getElem?_cons_succ,List.getElem?_map,hq];rfl,?_,rfl⟩
    unfold rhN
    rw [if_neg (by omega)];omega
theorem flat_noOwn {l:List FV} {q:Nat→Bool}:∀e∈flat (l.map AV.f),e.noOwn q=true:=fun e he=>by
 obtain ⟨x,hx,he⟩:=List.mem_flatMap.1 he
 obtain ⟨y,_,rfl⟩:=List.mem_map.1 hx
 obtain ⟨z,_,rfl⟩:=List.mem_map.1 (show e∈y.cells.map AV.f from he)
 rfl
theorem lt0_fs {l:List FV} {n:Nat}:∀e∈l.map AV.f,e.lt0 n=true:=fun e he=>by obtain ⟨y,_,rfl⟩:=List.mem_map.1 he;rfl
end Go.Proofs.YtfjgijkhmhhkdaaGreatDoor
set_option linter.unusedVariables false
set_option linter.unusedSimpArgs false
namespace Go.Proofs.YtfjgijkhmhhkdaaGreatDoor
open Go Go.RowKit
noncomputable def r13:Array Oper:=((Tryz.prog.funcs[20]?.bind (·.body)).bind (opsR 13)).getD #[]
noncomputable def I13:Array Oper:=r13.pop
noncomputable def c13 : Oper := r13.back?.getD ⟨none, .move (.tmp 0), 0, "", #[], none⟩
theorem p13:r13=I13.push c13:=by kernel_rfl
theorem J_r13 {X:Cx} {Q:Exit→AS→Prop} {s:AS} (h:atr Tryz.prog I13 [] (fun s=>aop Tryz.prog c13 (Q .normal) s) (.one 0 (.one 1 (.one 2 (.one 3 (.one 4 (.one 5 (.one 6 (.one 7 (.one 8 (.one 9 (.one 11 (.one 12 (.one 10 .leaf))))))))))))) s):J X Tryz.prog (.region 13 r13 true) Q s:=J_last [] (.one 0 (.one 1 (.one 2 (.one 3 (.one 4 (.one 5 (.one 6 (.one 7 (.one 8 (.one 9 (.one 11 (.one 12 (.one 10 .leaf))))))))))))) mixed p13 (by kernel_rfl) (by kernel_rfl) (by kernel_rfl) h
noncomputable def r14:Array Oper:=((Tryz.prog.funcs[20]?.bind (·.body)).bind (opsR 14)).getD #[]
noncomputable def I14:Array Oper:=r14.pop
noncomputable def c14 : Oper := r14.back?.getD ⟨none, .move (.tmp 0), 0, "", #[], none⟩
theorem p14:r14=I14.push c14:=by kernel_rfl
theorem J_r14 {X:Cx} {Q:Exit→AS→Prop} {s:AS} (h:atr Tryz.prog I14 [] (fun s=>aop Tryz.prog c14 (Q .normal) s) (.one 0 (.one 1 (.one 2 (.one 3 (.one 4 (.one 5 (.one 6 (.one 7 (.one 8 (.one 9 (.one 10 (.one 12 (.one 13 (.one 11 .leaf)))))))))))))) s):J X Tryz.prog (.region 14 r14 true) Q s:=J_last [] (.one 0 (.one 1 (.one 2 (.one 3 (.one 4 (.one 5 (.one 6 (.one 7 (.one 8 (.one 9 (.one 10 (.one 12 (.one 13 (.one 11 .leaf)))))))))))))) mixed p14 (by kernel_rfl) (by kernel_rfl) (by kernel_rfl) h
section
variable {P : Program} {m : Bool} {K : AS → Prop} {s : AS}
theorem op13_0 : (opAt I13.toList 0 fun o => as1 P I13 m o K s) = as2 P m ⟨some 38, .move (.tmp 8), 0, "", #[], none⟩ K s := by kernel_rfl
theorem op13_1 : (opAt I13.toList 1 fun o => as1 P I13 m o K s) = as2 P m ⟨some 39, .move (.tmp 9), 0, "", #[], none⟩ K s := by kernel_rfl
theorem op13_2 : (opAt I13.toList 2 fun o => as1 P I13 m o K s) = as2 P m ⟨some 40, .call { callee := .value (.func 52), args := #[(.tmp 39)], argTypes := #[3] }, 0, "", #[], none⟩ K s := by kernel_rfl
theorem op13_3 : (opAt I13.toList 3 fun o => as1 P I13 m o K s) = as2 P m ⟨some 41, .binOp .add 9 (.const (.string ⟨#[115]⟩)) (.tmp 40) 9, 0, "", #[], none⟩ K s := by kernel_rfl
theorem op13_4 : (opAt I13.toList 4 fun o => as1 P I13 m o K s) = as2 P m ⟨some 42, .fieldAddr 25 (.tmp 2) 0, 0, "", #[], none⟩ K s := by kernel_rfl
theorem op13_5 : (opAt I13.toList 5 fun o => as1 P I13 m o K s) = as2 P m ⟨some 43, .load 22 (.tmp 42), 0, "", #[], none⟩ K s := by kernel_rfl
theorem op13_6 : (opAt I13.toList 6 fun o => as1 P I13 m o K s) = as2 P m ⟨some 44, .call { callee := .builtin .len, args := #[(.tmp 43)], argTypes := #[22] }, 0, "", #[], none⟩ K s := by kernel_rfl
theorem op13_7 : (opAt I13.toList 7 fun o => as1 P I13 m o K s) = as2 P m ⟨some 45, .move (.tmp 9), 0, "", #[], none⟩ K s := by kernel_rfl
theorem op13_8 : (opAt I13.toList 8 fun o => as1 P I13 m o K s) = as2 P m ⟨some 46, .binOp .mul 3 (.const (.int .i64 2)) (.tmp 45) 3, 0, "", #[], none⟩ K s := by kernel_rfl
theorem op13_9 : (opAt I13.toList 9 fun o => as1 P I13 m o K s) = as2 P m ⟨some 47, .binOp .sub 3 (.tmp 46) (.const (.int .i64 2)) 3, 0, "", #[], none⟩ K s := by kernel_rfl
theorem op13_10 : (opAt I13.toList 10 fun o => as1 P I13 m o K s) = as2 P m ⟨some 48, .buildSlice 26 1 #[(0, (.tmp 47))], 0, "", #[], none⟩ K s := by kernel_rfl
theorem op13_11 : (opAt I13.toList 11 fun o => as1 P I13 m o K s) = as2 P m ⟨some 49, .fieldAddr 25 (.tmp 2) 1, 0, "", #[], none⟩ K s := by kernel_rfl
theorem op13_12 : (opAt I13.toList 12 fun o => as1 P I13 m o K s) = as2 P m ⟨some 50, .load 23 (.tmp 49), 0, "", #[], none⟩ K s := by kernel_rfl
theorem l13:aop P c13 K s=acallV P (s.ev (.tmp 38)) [s.ev (.tmp 41),s.ev (.tmp 44),s.ev (.tmp 48),s.ev (.tmp 50)] s (some 51) K:=by kernel_rfl
theorem op14_0 : (opAt I14.toList 0 fun o => as1 P I14 m o K s) = as2 P m ⟨some 52, .move (.tmp 8), 0, "", #[], none⟩ K s := by kernel_rfl
theorem op14_1 : (opAt I14.toList 1 fun o => as1 P I14 m o K s) = as2 P m ⟨some 53, .move (.tmp 9), 0, "", #[], none⟩ K s := by kernel_rfl
theorem op14_2 : (opAt I14.toList 2 fun o => as1 P I14 m o K s) = as2 P m ⟨some 54, .call { callee := .value (.func 52), args := #[(.tmp 53)], argTypes := #[3] }, 0, "", #[], none⟩ K s := by kernel_rfl
theorem op14_3 : (opAt I14.toList 3 fun o => as1 P I14 m o K s) = as2 P m ⟨some 55, .binOp .add 9 (.const (.string ⟨#[111]⟩)) (.tmp 54) 9, 0, "", #[], none⟩ K s := by kernel_rfl
theorem op14_4 : (opAt I14.toList 4 fun o => as1 P I14 m o K s) = as2 P m ⟨some 56, .fieldAddr 25 (.tmp 2) 2, 0, "", #[], none⟩ K s := by kernel_rfl
theorem op14_5 : (opAt I14.toList 5 fun o => as1 P I14 m o K s) = as2 P m ⟨some 57, .load 23 (.tmp 56), 0, "", #[], none⟩ K s := by kernel_rfl
theorem op14_6 : (opAt I14.toList 6 fun o => as1 P I14 m o K s) = as2 P m ⟨some 58, .indexAddr 23 (.tmp 57) (.const (.int .i64 0)), 0, "", #[], none⟩ K s := by kernel_rfl
theorem op14_7 : (opAt I14.toList 7 fun o => as1 P I14 m o K s) = as2 P m ⟨some 59, .load 22 (.tmp 58), 0, "", #[], none⟩ K s := by kernel_rfl
theorem op14_8 : (opAt I14.toList 8 fun o => as1 P I14 m o K s) = as2 P m ⟨some 60, .call { callee := .builtin .len, args := #[(.tmp 59)], argTypes := #[22] }, 0, "", #[], none⟩ K s := by kernel_rfl
theorem op14_9 : (opAt I14.toList 9 fun o => as1 P I14 m o K s) = as2 P m ⟨some 61, .move (.tmp 9), 0, "", #[], none⟩ K s := by kernel_rfl
theorem op14_10 : (opAt I14.toList 10 fun o => as1 P I14 m o K s) = as2 P m ⟨some 62, .binOp .mul 3 (.const (.int .i64 2)) (.tmp 61) 3, 0, "", #[], none⟩ K s := by kernel_rfl
theorem op14_11 : (opAt I14.toList 11 fun o => as1 P I14 m o K s) = as2 P m ⟨some 63, .buildSlice 26 1 #[(0, (.tmp 62))], 0, "", #[], none⟩ K s := by kernel_rfl
theorem op14_12 : (opAt I14.toList 12 fun o => as1 P I14 m o K s) = as2 P m ⟨some 64, .fieldAddr 25 (.tmp 2) 2, 0, "", #[], none⟩ K s := by kernel_rfl
theorem op14_13 : (opAt I14.toList 13 fun o => as1 P I14 m o K s) = as2 P m ⟨some 65, .load 23 (.tmp 64), 0, "", #[], none⟩ K s := by kernel_rfl
theorem l14:aop P c14 K s=acallV P (s.ev (.tmp 52)) [s.ev (.tmp 55),s.ev (.tmp 60),s.ev (.tmp 63),s.ev (.tmp 65)] s (some 66) K:=by kernel_rfl
end
attribute [go_sem] op13_0 op13_1 op13_2 op13_3 op13_4 op13_5 op13_6 op13_7 op13_8 op13_9 op13_10 op13_11 op13_12 l13 op14_0 op14_1 op14_2 op14_3 op14_4 op14_5 op14_6 op14_7 op14_8 op14_9 op14_10 op14_11 op14_12 op14_13 l14
end Go.Proofs.YtfjgijkhmhhkdaaGreatDoor
