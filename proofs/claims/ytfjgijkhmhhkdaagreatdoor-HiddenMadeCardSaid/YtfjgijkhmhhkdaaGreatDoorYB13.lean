/- Hidden chains: may one be, and what is seen of it. Conditions: numbers of 10^7 bytes each. -/
import Derived.Test.YtfjgijkhmhhkdaaGreatDoorYB10
set_option linter.unusedVariables false
set_option linter.unusedSimpArgs false
namespace Go.Proofs.YtfjgijkhmhhkdaaGreatDoor
open Go Go.RowKit
structure HidF (k : Nat) (fs ms ss : List FV) (st : List Rat) (mv sh : List (List Rat)) : Prop where
  ist : Frs k fs st
  imv : FrM k ms mv
  ish : FrM k ss sh
  bst : st.length ≤ 140737488355328
  bmv : mv.length ≤ 140737488355328
  bsh : sh.length ≤ 140737488355328
  bsr : ∀ r ∈ sh, List.length r ≤ 140737488355328
  bmr : ∀ r ∈ mv, List.length r ≤ 140737488355328
abbrev hidV (fs ms ss:List FV):FV:=.agg [.fz 3 fs,.fz 1 ms,.fz 1 ss]
def hidN (sh:List (List Rat)):Nat:=(sh.getD 0 []).length
def hidE (st:List Rat) (mv sh:List (List Rat)):Int :=
 if st.length<1∨4<st.length∨mv.length≠st.length∨sh.length≠st.length then 8
 else if hidN sh<1∨4<hidN sh then 8
 else if ¬∀i,i<st.length→(mv.getD i []).length=st.length∧(sh.getD i []).length=hidN sh then 8
 else if ¬(chancesB st=true∧∀i,i<st.length→chancesB (mv.getD i [])=true∧chancesB (sh.getD i [])=true) then 9 else 0
set_option maxRecDepth 100000 in
set_option maxHeartbeats 4000000 in
theorem hcheck_w {k:Nat} {fs ms ss:List FV} {st:List Rat} {mv sh:List (List Rat)} (h:HidF k fs ms ss st mv sh) (h1:1≤k) (hk:k≤10000000):Good Tryz.prog 8 [hidV fs ms ss] (I (hidE st mv sh)):=by
 have b1:=h.bst
 have b2:=h.bmv
 have b3:=h.bsh
 by_cases c1:(st.length:Int)<1
 ·rw [show hidE st mv sh=8 by unfold hidE;rw [if_pos (.inl (by omega))]]
  refine good_of Tryz.func8 rfl (by kernel_rfl) fun X hO hrd=>?_;rw [Tryz.ntmps8,Tryz.results8];simp only [ast0,List.map_cons,List.map_nil,List.length_cons,List.length_nil,Nat.reduceAdd,Nat.reduceSub,List.replicate_succ,List.replicate_zero,List.cons_append,List.nil_append]
  (repeat (with_reducible first|refine W_seq fun K hK=>?_|refine J_ret ?_|refine J_region ?_ |refine J_c ?_|refine Jc_true ?_|exact Frz.f _|(refine Kont.go (by assumption) ?_)|(simp (config:={ maxSteps:=3000000 }) (disch:=omega) only [go_sem,↓reduceIte,Nat.reduceAdd,h.ist.len,c1])))
 by_cases c2:4<(st.length:Int)
 ·rw [show hidE st mv sh=8 by unfold hidE;rw [if_pos (.inr (.inl (by omega)))]]
  refine good_of Tryz.func8 rfl (by kernel_rfl) fun X hO hrd=>?_;rw [Tryz.ntmps8,Tryz.results8];simp only [ast0,List.map_cons,List.map_nil,List.length_cons,List.length_nil,Nat.reduceAdd,Nat.reduceSub,List.replicate_succ,List.replicate_zero,List.cons_append,List.nil_append]
  (repeat (with_reducible first|refine W_seq fun K hK=>?_|refine J_ret ?_|refine J_region ?_ |refine J_c ?_|refine Jc_true ?_|exact Frz.f _|(refine Kont.go (by assumption) ?_)|(simp (config:={ maxSteps:=3000000 }) (disch:=omega) only [go_sem,↓reduceIte,Nat.reduceAdd,h.ist.len,c1,c2])))
 by_cases c3:mv.length=st.length
 case neg =>
  rw [show hidE st mv sh=8 by unfold hidE;rw [if_pos (.inr (.inr (.inl c3)))]]
  refine good_of Tryz.func8 rfl (by kernel_rfl) fun X hO hrd=>?_;rw [Tryz.ntmps8,Tryz.results8];simp only [ast0,List.map_cons,List.map_nil,List.length_cons,List.length_nil,Nat.reduceAdd,Nat.reduceSub,List.replicate_succ,List.replicate_zero,List.cons_append,List.nil_append]
  (repeat (with_reducible first|refine W_seq fun K hK=>?_|refine J_ret ?_|refine J_region ?_ |refine J_c ?_|refine Jc_true ?_|exact Frz.f _|(refine Kont.go (by assumption) ?_)|(simp (config:={ maxSteps:=3000000 }) (disch:=omega) only [go_sem,↓reduceIte,Nat.reduceAdd,h.ist.len,h.imv.len,c1,c2,c3,Int.natCast_inj])))
 by_cases c4:sh.length=st.length
 case neg =>
  rw [show hidE st mv sh=8 by unfold hidE;rw [if_pos (.inr (.inr (.inr c4)))]]
  refine good_of Tryz.func8 rfl (by kernel_rfl) fun X hO hrd=>?_;rw [Tryz.ntmps8,Tryz.results8];simp only [ast0,List.map_cons,List.map_nil,List.length_cons,List.length_nil,Nat.reduceAdd,Nat.reduceSub,List.replicate_succ,List.replicate_zero,List.cons_append,List.nil_append]
  (repeat (with_reducible first|refine W_seq fun K hK=>?_|refine J_ret ?_|refine J_region ?_ |refine J_c ?_|refine Jc_true ?_|exact Frz.f _|(refine Kont.go (by assumption) ?_)|(simp (config:={ maxSteps:=3000000 }) (disch:=omega) only [go_sem,↓reduceIte,Nat.reduceAdd,h.ist.len,h.imv.len,h.ish.len,c1,c2,c3,c4,Int.natCast_inj])))
 have hs0:0<sh.length:=by omega
 obtain ⟨xs0,x0,y0⟩:=h.ish.at hs0
 have hn0:xs0.length=hidN sh:=by rw [y0.len];unfold hidN;rw [lget_lt sh [] hs0]
 have b4:hidN sh≤140737488355328:=by unfold hidN;rw [lget_lt sh [] hs0];exact h.bsr _ (List.getElem_mem hs0)
 have hE:hidE st mv sh=if hidN sh<1∨4<hidN sh then 8
   else if ¬∀i,i<st.length→(mv.getD i []).length=st.length∧(sh.getD i []).length=hidN sh then 8
   else if ¬(chancesB st=true∧∀i,i<st.length→chancesB (mv.getD i [])=true∧chancesB (sh.getD i [])=true) then 9 else 0:=by
  unfold hidE;rw [if_neg (by omega)]
 rw [hE]
 by_cases d1:(hidN sh:Int)<1
 ·rw [if_pos (.inl (by omega))]
  refine good_of Tryz.func8 rfl (by kernel_rfl) fun X hO hrd=>?_;rw [Tryz.ntmps8,Tryz.results8];simp only [ast0,List.map_cons,List.map_nil,List.length_cons,List.length_nil,Nat.reduceAdd,Nat.reduceSub,List.replicate_succ,List.replicate_zero,List.cons_append,List.nil_append]
  (repeat (with_reducible first|refine W_seq fun K hK=>?_|refine J_skip ?_|refine J_ret ?_|refine J_region ?_ |refine J_c ?_|refine Jc_true ?_|refine Jc_false ?_|exact Frz.f _|(refine Kont.go (by assumption) ?_)|(simp (config:={ maxSteps:=3000000 }) (disch:=omega) only [go_sem,↓reduceIte,Nat.reduceAdd,Int.reduceLE,h.ist.len,h.imv.len,h.ish.len,c1,c2,c3,c4,x0,hn0,d1])))
 by_cases d2:4<(hidN sh:Int)
 ·rw [if_pos (.inr (by omega))]
  refine good_of Tryz.func8 rfl (by kernel_rfl) fun X hO hrd=>?_;rw [Tryz.ntmps8,Tryz.results8];simp only [ast0,List.map_cons,List.map_nil,List.length_cons,List.length_nil,Nat.reduceAdd,Nat.reduceSub,List.replicate_succ,List.replicate_zero,List.cons_append,List.nil_append]
  (repeat (with_reducible first|refine W_seq fun K hK=>?_|refine J_skip ?_|refine J_ret ?_|refine J_region ?_ |refine J_c ?_|refine Jc_true ?_|refine Jc_false ?_|exact Frz.f _|(refine Kont.go (by assumption) ?_)|(simp (config:={ maxSteps:=3000000 }) (disch:=omega) only [go_sem,↓reduceIte,Nat.reduceAdd,Int.reduceLE,h.ist.len,h.imv.len,h.ish.len,c1,c2,c3,c4,x0,hn0,d1,d2])))
 rw [if_neg (by omega)]
 refine good_of Tryz.func8 rfl (by kernel_rfl) fun X hO hrd=>?_;rw [Tryz.ntmps8,Tryz.results8];simp only [ast0,List.map_cons,List.map_nil,List.length_cons,List.length_nil,Nat.reduceAdd,Nat.reduceSub,List.replicate_succ,List.replicate_zero,List.cons_append,List.nil_append]
 (repeat (with_reducible first|refine W_seq fun K hK=>?_|refine J_block ?_|refine J_skip ?_|refine J_region ?_ |refine J_c ?_|refine Jc_false ?_|(refine Kont.go (by assumption) ?_)|(simp (config:={ maxSteps:=3000000 }) (disch:=omega) only [go_sem,↓reduceIte,Nat.reduceAdd,Int.reduceLE,h.ist.len,h.imv.len,h.ish.len,c1,c2,c3,c4,x0,hn0,d1,d2])))
 refine W_loop [2,5,43,44,45,46,47,48,49,50,51,52,53,54,55,56,57,58,59,60,61,62,63,64] (fun x:Nat=>[(43,.f (I x))]) (fun x:Nat=>[some ⟨25,3,[.f (hidV fs ms ss)]⟩]) (fun x:Nat=>x≤st.length∧∀i,i<x→(mv.getD i []).length=st.length∧(sh.getD i []).length=hidN sh) (fun x:Nat=>st.length-x) (0) (⟨Nat.zero_le _,fun j h=>by omega⟩) (by refine weak_of ?_ ?_<;>simp (disch:=omega) only [go_sem]<;>first|rfl|exact ⟨rfl,rfl⟩|exact Or.inl rfl|exact ⟨Or.inl rfl,Or.inl rfl⟩|trivial|assumption|omega|(symm;assumption)|((repeat' apply And.intro)<;>first|rfl|omega|trivial|exact .inl rfl|exact .inr ⟨rfl,rfl⟩|exact .inr rfl|(right;symm;assumption)|(symm;assumption)|assumption)) ?_
 rintro i ⟨hi,hp⟩
 simp only [go_sem]
 (repeat (with_reducible first|refine W_seq fun K hK=>?_|refine J_region ?_ |refine J_c ?_|(refine Kont.go (by assumption) ?_)|(simp (config:={ maxSteps:=3000000 }) (disch:=omega) only [go_sem])))
 refine Jc_if (fun hlt=>?_) (fun hlt=>?_)<;>try simp only [decide_eq_true_eq,decide_eq_false_iff_not] at hlt
 ·have im:i<mv.length:=by omega
  have is_:i<sh.length:=by omega
  obtain ⟨xm,x1,y1⟩:=h.imv.at im
  obtain ⟨xs,x2,y2⟩:=h.ish.at is_
  by_cases e1:mv[i].length=st.length
  case neg =>
   (repeat (with_reducible first|refine W_seq fun K hK=>?_|refine J_block ?_|refine J_skip ?_|refine J_ret ?_|refine J_region ?_ |refine J_c ?_|refine Jc_true ?_|(refine Kont.go (by assumption) ?_)|(simp (config:={ maxSteps:=3000000 }) (disch:=omega) only [go_sem,↓reduceIte,x1,y1.len,e1,Int.natCast_inj])))
   rw [if_pos fun hh=>e1 (by have:=(hh i hlt).1;rwa [lget_lt mv [] im] at this)]
   exact Frz.f _
  by_cases e2:sh[i].length=hidN sh
  case neg =>
   (repeat (with_reducible first|refine W_seq fun K hK=>?_|refine J_block ?_|refine J_skip ?_|refine J_ret ?_|refine J_region ?_ |refine J_c ?_|refine Jc_true ?_|(refine Kont.go (by assumption) ?_)|(simp (config:={ maxSteps:=3000000 }) (disch:=omega) only [go_sem,↓reduceIte,x1,y1.len,e1,Int.natCast_inj,x2,y2.len,e2])))
   rw [if_pos fun hh=>e2 (by have:=(hh i hlt).2;rwa [lget_lt sh [] is_] at this)]
   exact Frz.f _
  (repeat (with_reducible first|refine W_seq fun K hK=>?_|refine J_block ?_|refine J_skip ?_|refine J_region ?_ |refine J_c ?_|refine Jc_false ?_|(refine Kont.go (by assumption) ?_)|(simp (config:={ maxSteps:=3000000 }) (disch:=omega) only [go_sem,↓reduceIte,x1,y1.len,e1,x2,y2.len,e2])))
  refine ⟨i+1,⟨by omega,upto_next (p:=fun i=>(mv.getD i []).length=st.length∧(sh.getD i []).length=hidN sh) hp (by rw [lget_lt mv [] im,lget_lt sh [] is_];exact ⟨e1,e2⟩)⟩,by omega,weak_of ?_ ?_⟩<;>(try simp (disch:=omega) only [go_sem])<;>(try first|done|omega|rfl|exact ⟨rfl,rfl⟩|trivial)
 ·have he:i=st.length:=by omega
  subst he
  (repeat (with_reducible first|refine W_seq fun K hK=>?_|refine J_exit ?_|refine J_region ?_ |(refine Kont.go (by assumption) ?_)|(simp (config:={ maxSteps:=3000000 }) (disch:=omega) only [go_sem,↓reduceIte])))
  refine call_f (chances_w h.ist h1 (by omega) hk) rfl ?_
  (repeat (with_reducible first|refine W_seq fun K hK=>?_|refine J_block ?_|refine J_region ?_ |(refine Kont.go (by assumption) ?_)|(simp (config:={ maxSteps:=3000000 }) (disch:=omega) only [go_sem])))
  refine W_loop [6,7,69,70,71,72,73,74,75,76,77,78,79,80,81,82,83,84,85,86,87,88,89] (fun x:Nat × Bool=>[(69,.f (I x.1)),(6,.f (Bo x.2))]) (fun x:Nat × Bool=>[some ⟨25,3,[.f (hidV fs ms ss)]⟩]) (fun x:Nat × Bool=>x.1≤st.length∧(x.2=true↔(chancesB st=true∧∀i,i<x.1→chancesB (mv.getD i [])=true∧chancesB (sh.getD i [])=true))) (fun x:Nat × Bool=>st.length-x.1) ((0,chancesB st)) (⟨Nat.zero_le _,⟨fun h=>⟨h,fun i hi=>by omega⟩,fun h=>h.1⟩⟩) (by refine weak_of ?_ ?_<;>simp (disch:=omega) only [go_sem]<;>first|rfl|exact ⟨rfl,rfl⟩|exact Or.inl rfl|exact ⟨Or.inl rfl,Or.inl rfl⟩|trivial|assumption|omega|(symm;assumption)|((repeat' apply And.intro)<;>first|rfl|omega|trivial|exact .inl rfl|exact .inr ⟨rfl,rfl⟩|exact .inr rfl|(right;symm;assumption)|(symm;assumption)|assumption)) ?_
  rintro ⟨i,b⟩ ⟨hi,hb⟩
  simp only at hi hb
  simp only [go_sem]
  (repeat (with_reducible first|refine W_seq fun K hK=>?_|refine J_region ?_ |refine J_c ?_|(refine Kont.go (by assumption) ?_)|(simp (config:={ maxSteps:=3000000 }) (disch:=omega) only [go_sem])))
  refine Jc_if (fun hlt=>?_) (fun hlt=>?_)<;>try simp only [decide_eq_true_eq,decide_eq_false_iff_not] at hlt
  ·have im:i<mv.length:=by omega
   have is_:i<sh.length:=by omega
   obtain ⟨xm,x1,y1⟩:=h.imv.at im
   obtain ⟨xs,x2,y2⟩:=h.ish.at is_
   obtain ⟨l1,l2⟩:=hp i hlt
   rw [lget_lt mv [] im] at l1
   rw [lget_lt sh [] is_] at l2
   have nx:∀b',(b'=true↔(b=true∧chancesB mv[i]=true∧chancesB sh[i]=true))→(b'=true↔(chancesB st=true∧∀j,j<i+1→chancesB (mv.getD j [])=true∧chancesB (sh.getD j [])=true)):=fun b' hb'=>by
    rw [hb',hb]
    constructor
    ·rintro ⟨⟨h1,h2⟩,h3⟩
     exact ⟨h1,upto_next (p:=fun j=>chancesB (mv.getD j [])=true∧chancesB (sh.getD j [])=true) h2 (by rw [lget_lt mv [] im,lget_lt sh [] is_];exact h3)⟩
    ·rintro ⟨h1,h2⟩
     have:=h2 i (by omega)
     rw [lget_lt mv [] im,lget_lt sh [] is_] at this
     exact ⟨⟨h1,fun j hj=>h2 j (by omega)⟩,this⟩
   by_cases hbt:b=true
   ·subst hbt
    (repeat (with_reducible first|refine W_seq fun K hK=>?_|refine J_block ?_|refine J_skip ?_|refine J_region ?_ |(refine Kont.go (by assumption) ?_)|(simp (config:={ maxSteps:=3000000 }) (disch:=omega) only [go_sem,↓reduceIte,x1])))
    refine call_f (chances_w y1 h1 (by omega) hk) rfl ?_
    (repeat (with_reducible first|(simp (config:={ maxSteps:=3000000 }) (disch:=omega) only [go_sem])))
    by_cases e1:chancesB mv[i]=true
    ·(repeat (with_reducible first|(simp (config:={ maxSteps:=3000000 }) (disch:=omega) only [go_sem,↓reduceIte,e1,x2])))
     refine call_f (chances_w y2 h1 (by omega) hk) rfl ?_
     (repeat (with_reducible first|refine J_region ?_ |(refine Kont.go (by assumption) ?_)|(simp (config:={ maxSteps:=3000000 }) (disch:=omega) only [go_sem])))
     refine ⟨(i+1,chancesB sh[i]),⟨by simp only;omega,nx _ ⟨fun h=>⟨rfl,e1,h⟩,fun h=>h.2.2⟩⟩,by simp only;omega,weak_of ?_ ?_⟩<;>(try simp (disch:=omega) only [go_sem])<;>(try first|done|omega|rfl|exact ⟨rfl,rfl⟩|trivial)
    ·have e1':chancesB mv[i]=false:=by simpa using e1
     (repeat (with_reducible first|refine J_region ?_ |(refine Kont.go (by assumption) ?_)|(simp (config:={ maxSteps:=3000000 }) (disch:=omega) only [go_sem,e1'])))
     refine ⟨(i+1,false),⟨by simp only;omega,nx _ ⟨fun h=>(by cases h),fun h=>absurd h.2.1 e1⟩⟩,by simp only;omega,weak_of ?_ ?_⟩<;>(try simp (disch:=omega) only [go_sem])<;>(try first|done|omega|rfl|exact ⟨rfl,rfl⟩|trivial)
   ·have hbf:b=false:=by simpa using hbt
    subst hbf
    (repeat (with_reducible first|refine W_seq fun K hK=>?_|refine J_block ?_|refine J_skip ?_|refine J_region ?_ |(refine Kont.go (by assumption) ?_)|(simp (config:={ maxSteps:=3000000 }) (disch:=omega) only [go_sem])))
    refine ⟨(i+1,false),⟨by simp only;omega,nx _ ⟨fun h=>(by cases h),fun h=>absurd h.1 hbt⟩⟩,by simp only;omega,weak_of ?_ ?_⟩<;>(try simp (disch:=omega) only [go_sem])<;>(try first|done|omega|rfl|exact ⟨rfl,rfl⟩|trivial)
  ·have he:i=st.length:=by omega
   subst he
   (repeat (with_reducible first|refine W_seq fun K hK=>?_|refine J_exit ?_|refine J_region ?_ |refine J_c ?_|(refine Kont.go (by assumption) ?_)|(simp (config:={ maxSteps:=3000000 }) (disch:=omega) only [go_sem,↓reduceIte])))
   refine Jc_if (fun hok=>?_) (fun hok=>?_)<;>try simp only [Bool.not_eq_true',Bool.not_eq_false'] at hok
   ·(repeat (with_reducible first|refine W_seq fun K hK=>?_|refine J_ret ?_|refine J_region ?_ |(refine Kont.go (by assumption) ?_)|(simp (config:={ maxSteps:=3000000 }) (disch:=omega) only [go_sem])))
    rw [if_neg fun hh=>hh hp,if_pos (fun hh=>by rw [hb.2 hh] at hok;cases hok)]
    exact Frz.f _
   ·(repeat (with_reducible first|refine W_seq fun K hK=>?_|refine J_skip ?_|refine J_ret ?_|refine J_region ?_ |(refine Kont.go (by assumption) ?_)|(simp (config:={ maxSteps:=3000000 }) (disch:=omega) only [go_sem])))
    rw [if_neg fun hh=>hh hp,if_neg (fun hh=>hh (hb.1 (by simpa using hok)))]
    exact Frz.f _
def mayE (st:List Rat) (mv sh:List (List Rat)) (seen:List Int):Int :=
 if hidE st mv sh≠0 then hidE st mv sh else if 8<seen.length then 2 else if ¬∀i,i<seen.length→0≤seen.getD i 0∧seen.getD i 0<hidN sh then 12 else 0
theorem hidE_ok {st:List Rat} {mv sh:List (List Rat)} (h:hidE st mv sh=0):1≤st.length∧st.length≤4∧mv.length=st.length∧sh.length=st.length∧1≤hidN sh∧hidN sh≤4∧(∀i,i<st.length→(mv.getD i []).length=st.length∧(sh.getD i []).length=hidN sh) ∧
  chancesB st=true∧∀i,i<st.length→chancesB (mv.getD i [])=true∧chancesB (sh.getD i [])=true:=by
 unfold hidE at h
 split at h
 ·cases h
 split at h
 ·cases h
 split at h
 ·cases h
 split at h
 ·cases h
 rename_i a b c d
 have c':=Classical.not_not.1 c
 have d':=Classical.not_not.1 d
 exact ⟨by omega,by omega,by omega,by omega,by omega,by omega,c',d'⟩
set_option maxRecDepth 100000 in
set_option maxHeartbeats 4000000 in
theorem may_w {k:Nat} {fs ms ss:List FV} {st:List Rat} {mv sh:List (List Rat)} (h:HidF k fs ms ss st mv sh) (h1:1≤k) (hk:k≤10000000) (seen:List Int) (hsl:seen.length≤140737488355328) (hs:∀x∈seen,-9223372036854775808≤x∧x≤9223372036854775807) :
  Good Tryz.prog 38 [hidV fs ms ss,ints seen] (I (mayE st mv sh seen)):=by
 by_cases hE:hidE st mv sh=0
 case neg =>
  have e:mayE st mv sh seen=hidE st mv sh:=by unfold mayE;rw [if_pos hE]
  rw [e]
  refine good_of Tryz.func38 rfl (by kernel_rfl) fun X hO hrd=>?_;rw [Tryz.ntmps38,Tryz.results38];simp only [ast0,List.map_cons,List.map_nil,List.length_cons,List.length_nil,Nat.reduceAdd,Nat.reduceSub,List.replicate_succ,List.replicate_zero,List.cons_append,List.nil_append]
  (repeat (with_reducible first|refine W_seq fun K hK=>?_|refine J_region ?_ |(refine Kont.go (by assumption) ?_)|(simp (config:={ maxSteps:=3000000 }) (disch:=omega) only [go_sem,↓reduceIte,Nat.reduceAdd])))
  refine call_f (hcheck_w h h1 hk) rfl ?_
  (repeat (with_reducible first|refine W_seq fun K hK=>?_|refine J_ret ?_|refine J_region ?_ |refine J_c ?_|refine Jc_true ?_|exact Frz.f _|(refine Kont.go (by assumption) ?_)|(simp (config:={ maxSteps:=3000000 }) (disch:=omega) only [go_sem,hE])))
 obtain ⟨a1,a2,a3,a4,a5,a6,_⟩:=hidE_ok hE
 have hs0:0<sh.length:=by omega
 obtain ⟨xs0,x0,y0⟩:=h.ish.at hs0
 have hn0:xs0.length=hidN sh:=by rw [y0.len];unfold hidN;rw [lget_lt sh [] hs0]
 by_cases hl:8<(seen.length:Int)
 ·have e:mayE st mv sh seen=2:=by unfold mayE;rw [if_neg (by omega),if_pos (by omega)]
  rw [e]
  refine good_of Tryz.func38 rfl (by kernel_rfl) fun X hO hrd=>?_;rw [Tryz.ntmps38,Tryz.results38];simp only [ast0,List.map_cons,List.map_nil,List.length_cons,List.length_nil,Nat.reduceAdd,Nat.reduceSub,List.replicate_succ,List.replicate_zero,List.cons_append,List.nil_append]
  (repeat (with_reducible first|refine W_seq fun K hK=>?_|refine J_region ?_ |(refine Kont.go (by assumption) ?_)|(simp (config:={ maxSteps:=3000000 }) (disch:=omega) only [go_sem,↓reduceIte,Nat.reduceAdd])))
  refine call_f (hcheck_w h h1 hk) rfl ?_
  (repeat (with_reducible first|refine W_seq fun K hK=>?_|refine J_skip ?_|refine J_ret ?_|refine J_region ?_ |refine J_c ?_|refine Jc_true ?_|refine Jc_false ?_|exact Frz.f _|(refine Kont.go (by assumption) ?_)|(simp (config:={ maxSteps:=3000000 }) (disch:=omega) only [go_sem,hE,List.length_map,hl])))
 have e0:mayE st mv sh seen=if ¬∀i,i<seen.length→0≤seen.getD i 0∧seen.getD i 0<hidN sh then 12 else 0:=by unfold mayE;rw [if_neg (by omega),if_neg (by omega)]
 rw [e0]
 refine good_of Tryz.func38 rfl (by kernel_rfl) fun X hO hrd=>?_;rw [Tryz.ntmps38,Tryz.results38];simp only [ast0,List.map_cons,List.map_nil,List.length_cons,List.length_nil,Nat.reduceAdd,Nat.reduceSub,List.replicate_succ,List.replicate_zero,List.cons_append,List.nil_append]
 (repeat (with_reducible first|refine W_seq fun K hK=>?_|refine J_region ?_ |(refine Kont.go (by assumption) ?_)|(simp (config:={ maxSteps:=3000000 }) (disch:=omega) only [go_sem,↓reduceIte,Nat.reduceAdd])))
 refine call_f (hcheck_w h h1 hk) rfl ?_
 (repeat (with_reducible first|refine W_seq fun K hK=>?_|refine J_block ?_|refine J_skip ?_|refine J_region ?_ |refine J_c ?_|refine Jc_false ?_|(refine Kont.go (by assumption) ?_)|(simp (config:={ maxSteps:=3000000 }) (disch:=omega) only [go_sem,hE,List.length_map,hl])))
 refine W_loop [4,7,18,19,20,21,22,23,24,25,26,27,28,29,30,31,32,33] (fun x:Nat=>[(18,.f (I x))]) (fun x:Nat=>[some ⟨25,3,[.f (hidV fs ms ss)]⟩]) (fun x:Nat=>x≤seen.length∧∀i,i<x→0≤seen.getD i 0∧seen.getD i 0<hidN sh) (fun x:Nat=>seen.length-x) (0) (⟨Nat.zero_le _,fun j h=>by omega⟩) (by refine weak_of ?_ ?_<;>simp (disch:=omega) only [go_sem]<;>first|rfl|exact ⟨rfl,rfl⟩|exact Or.inl rfl|exact ⟨Or.inl rfl,Or.inl rfl⟩|trivial|assumption|omega|(symm;assumption)|((repeat' apply And.intro)<;>first|rfl|omega|trivial|exact .inl rfl|exact .inr ⟨rfl,rfl⟩|exact .inr rfl|(right;symm;assumption)|(symm;assumption)|assumption)) ?_
 rintro i ⟨hi,hp⟩
 simp only [go_sem]
 (repeat (with_reducible first|refine W_seq fun K hK=>?_|refine J_region ?_ |refine J_c ?_|(refine Kont.go (by assumption) ?_)|(simp (config:={ maxSteps:=3000000 }) (disch:=omega) only [go_sem])))
 refine Jc_if (fun hlt=>?_) (fun hlt=>?_)<;>try simp only [decide_eq_true_eq,decide_eq_false_iff_not] at hlt
 ·have hb:=hs _ (List.getElem_mem hlt)
  by_cases n1:seen[i]<0
  ·(repeat (with_reducible first|refine W_seq fun K hK=>?_|refine J_block ?_|refine J_skip ?_|refine J_ret ?_|refine J_region ?_ |refine J_c ?_|refine Jc_true ?_|(refine Kont.go (by assumption) ?_)|(simp (config:={ maxSteps:=3000000 }) (disch:=omega) only [go_sem,↓reduceIte,map_get I seen hlt,n1])))
   rw [if_pos fun hh=>by have:=(hh i hlt).1;rw [lget_lt seen 0 hlt] at this;omega]
   exact Frz.f _
  by_cases n2:(hidN sh:Int)≤seen[i]
  ·(repeat (with_reducible first|refine W_seq fun K hK=>?_|refine J_block ?_|refine J_skip ?_|refine J_ret ?_|refine J_region ?_ |refine J_c ?_|refine Jc_true ?_|(refine Kont.go (by assumption) ?_)|(simp (config:={ maxSteps:=3000000 }) (disch:=omega) only [go_sem,↓reduceIte,Int.reduceLE,map_get I seen hlt,n1,x0,hn0,n2])))
   rw [if_pos fun hh=>by have:=(hh i hlt).2;rw [lget_lt seen 0 hlt] at this;omega]
   exact Frz.f _
  (repeat (with_reducible first|refine W_seq fun K hK=>?_|refine J_block ?_|refine J_skip ?_|refine J_region ?_ |refine J_c ?_|refine Jc_false ?_|(refine Kont.go (by assumption) ?_)|(simp (config:={ maxSteps:=3000000 }) (disch:=omega) only [go_sem,↓reduceIte,Int.reduceLE,map_get I seen hlt,n1,x0,hn0,n2])))
  refine ⟨i+1,⟨by omega,upto_next (p:=fun i=>0≤seen.getD i 0∧seen.getD i 0<hidN sh) hp (by rw [lget_lt seen 0 hlt];omega)⟩,by omega,weak_of ?_ ?_⟩<;>(try simp (disch:=omega) only [go_sem])<;>(try first|done|omega|rfl|exact ⟨rfl,rfl⟩|trivial)
 ·have he:i=seen.length:=by omega
  subst he
  (repeat (with_reducible first|refine W_seq fun K hK=>?_|refine J_exit ?_|refine J_ret ?_|refine J_region ?_ |(refine Kont.go (by assumption) ?_)|(simp (config:={ maxSteps:=3000000 }) (disch:=omega) only [go_sem,↓reduceIte])))
  rw [if_neg fun hh=>hh hp]
  exact Frz.f _
end Go.Proofs.YtfjgijkhmhhkdaaGreatDoor
set_option linter.unusedVariables false
set_option linter.unusedSimpArgs false
namespace Go.Proofs.YtfjgijkhmhhkdaaGreatDoor
open Go Go.RowKit
def sumF (f:Nat→Rat):Nat→Rat
 | 0=>0
 | n+1=>sumF f n+f n
def grt (a b:Rat):Rat:=if a<b then b else a
def maxF (f:Nat→Rat):Nat→Rat
 | 0=>0
 | n+1=>grt (maxF f n) (f n)
section
variable {f g : Nat → Rat} {n m : Nat}
theorem sumF_congr (h:∀k,k<n→f k=g k):sumF f n=sumF g n:=by
 induction n with
 | zero=>rfl
 | succ n ih=>show sumF f n+f n=sumF g n+g n;rw [ih fun k hk=>h k (by omega),h n (by omega)]
theorem sumF_zero:sumF (fun _=>0) n=0:=by
 induction n with
 | zero=>rfl
 | succ n ih=>show sumF _ n+0=0;rw [ih,Rat.add_zero]
theorem sumF_add:sumF (fun k=>f k+g k) n=sumF f n+sumF g n:=by
 induction n with
 | zero=>exact (Rat.add_zero 0).symm
 | succ n ih=>show sumF _ n+(f n+g n)=(sumF f n+f n)+(sumF g n+g n);rw [ih];grind
theorem sumF_mul (c:Rat):c*sumF f n=sumF (fun k=>c*f k) n:=by
 induction n with
 | zero=>exact Rat.mul_zero c
 | succ n ih=>show c*(sumF f n+f n)=sumF _ n+c*f n;rw [Rat.mul_add,ih]
theorem sumF_mulr (c:Rat):sumF f n*c=sumF (fun k=>f k*c) n:=by rw [Rat.mul_comm,sumF_mul];exact sumF_congr fun k _=>Rat.mul_comm _ _
theorem sumF_swap {h:Nat→Nat→Rat}:sumF (fun i=>sumF (fun k=>h i k) m) n=sumF (fun k=>sumF (fun i=>h i k) n) m:=by
 induction n with
 | zero=>exact sumF_zero.symm
 | succ n ih=>show sumF _ n+sumF _ m=_;rw [ih,←sumF_add];rfl
theorem sumF_nonneg (h:∀k,k<n→0≤f k):0≤sumF f n:=by
 induction n with
 | zero=>exact Rat.le_refl
 | succ n ih=>exact Rat.add_nonneg (ih fun k hk=>h k (by omega)) (h n (by omega))
theorem sumF_eq_zero (h:∀k,k<n→f k=0):sumF f n=0:=by rw [sumF_congr h];exact sumF_zero
theorem maxF_congr (h:∀k,k<n→f k=g k):maxF f n=maxF g n:=by
 induction n with
 | zero=>rfl
 | succ n ih=>show grt (maxF f n) (f n)=grt (maxF g n) (g n);rw [ih fun k hk=>h k (by omega),h n (by omega)]
theorem maxF_nonneg:0≤maxF f n:=by
 induction n with
 | zero=>exact Rat.le_refl
 | succ n ih =>
  show 0≤grt (maxF f n) (f n)
  unfold grt
  split<;>grind
theorem maxF_ge {k:Nat} (h:k<n):f k≤maxF f n:=by
 induction n with
 | zero=>omega
 | succ n ih =>
  show f k≤grt (maxF f n) (f n)
  unfold grt
  by_cases e:k=n
  ·subst e;split<;>grind
  ·have:=ih (by omega);split<;>grind
theorem maxF_att (h:maxF f n≠0):∃k,k<n∧f k=maxF f n:=by
 induction n with
 | zero=>exact absurd rfl h
 | succ n ih =>
  have e:maxF f (n+1)=grt (maxF f n) (f n):=rfl
  rw [e] at h ⊢
  unfold grt at h ⊢
  split
  ·exact ⟨n,by omega,rfl⟩
  ·rename_i hn
   rw [if_neg hn] at h
   obtain ⟨k,hk,hf⟩:=ih h
   exact ⟨k,by omega,hf⟩
theorem maxF_le (h:∀k,k<n→f k≤g k) (h0:∀k,k<n→0≤g k):maxF f n≤sumF g n:=by
 induction n with
 | zero=>exact Rat.le_refl
 | succ n ih =>
  have h1:=ih (fun k hk=>h k (by omega)) fun k hk=>h0 k (by omega)
  have h2:=h n (by omega)
  have h3:=h0 n (by omega)
  have h4:0≤sumF g n:=sumF_nonneg fun k hk=>h0 k (by omega)
  show grt (maxF f n) (f n)≤sumF g n+g n
  unfold grt
  split<;>grind
end
structure HM where
  n : Nat
  a : Nat → Rat
  mv : Nat → Nat → Rat
  sh : Nat → Nat → Rat
  s : Nat → Nat
  T : Nat
structure HM.Ok (h : HM) : Prop where
  a : ∀ i, 0 ≤ h.a i
  mv : ∀ i k, 0 ≤ h.mv i k
  sh : ∀ i k, 0 ≤ h.sh i k
def HM.fw (h:HM):Nat→Nat→Rat
 | 0,i=>h.a i*h.sh i (h.s 0)
 | t+1,i=>sumF (fun k=>HM.fw h t k*h.mv k i) h.n*h.sh i (h.s (t+1))
def HM.bwU (h:HM):Nat→Nat→Rat
 | 0,i=>1
 | u+1,i=>sumF (fun k=>h.mv i k*h.sh k (h.s (h.T-1-u))*HM.bwU h u k) h.n
def HM.mxU (h:HM):Nat→Nat→Rat
 | 0,i=>1
 | u+1,i=>maxF (fun k=>h.mv i k*h.sh k (h.s (h.T-1-u))*HM.mxU h u k) h.n
def HM.bw (h:HM) (t i:Nat):Rat:=h.bwU (h.T-1-t) i
def HM.mx (h:HM) (t i:Nat):Rat:=h.mxU (h.T-1-t) i
def HM.best (h:HM):Rat:=if h.T=0 then 1 else maxF (fun i=>h.a i*h.sh i (h.s 0)*h.mx 0 i) h.n
def HM.lik (h:HM):Rat:=if h.T=0 then 1 else sumF (h.fw (h.T-1)) h.n
def HM.wv (h:HM) (p:Nat→Nat):Nat→Rat
 | 0=>1
 | t+1=>HM.wv h p t*(if t=0 then h.a (p 0) else h.mv (p (t-1)) (p t))*h.sh (p t) (h.s t)
section
variable {h : HM} {t i : Nat}
theorem HM.bw_last (ht:t+1=h.T):h.bw t i=1:=by unfold HM.bw;rw [show h.T-1-t=0 by omega];rfl
theorem HM.bw_next (ht:t+1<h.T):h.bw t i=sumF (fun k=>h.mv i k*h.sh k (h.s (t+1))*h.bw (t+1) k) h.n:=by
 unfold HM.bw
 rw [show h.T-1-t=(h.T-1-(t+1))+1 by omega]
 show sumF _ _=_
 rw [show h.T-1-(h.T-1-(t+1))=t+1 by omega]
theorem HM.mx_last (ht:t+1=h.T):h.mx t i=1:=by unfold HM.mx;rw [show h.T-1-t=0 by omega];rfl
theorem HM.mx_next (ht:t+1<h.T):h.mx t i=maxF (fun k=>h.mv i k*h.sh k (h.s (t+1))*h.mx (t+1) k) h.n:=by
 unfold HM.mx
 rw [show h.T-1-t=(h.T-1-(t+1))+1 by omega]
 show maxF _ _=_
 rw [show h.T-1-(h.T-1-(t+1))=t+1 by omega]
theorem HM.step (ht:t+1<h.T):sumF (fun i=>h.fw t i*h.bw t i) h.n=sumF (fun i=>h.fw (t+1) i*h.bw (t+1) i) h.n:=by
 have e1:sumF (fun i=>h.fw t i*h.bw t i) h.n=sumF (fun i=>sumF (fun k=>h.fw t i*h.mv i k*h.sh k (h.s (t+1))*h.bw (t+1) k) h.n) h.n :=
  sumF_congr fun i _=>by rw [HM.bw_next ht,sumF_mul];exact sumF_congr fun k _=>by simp only [Rat.mul_assoc]
 rw [e1,sumF_swap]
 refine sumF_congr fun k _=>?_
 show _=sumF (fun i=>h.fw t i*h.mv i k) h.n*h.sh k (h.s (t+1))*h.bw (t+1) k
 rw [sumF_mulr,sumF_mulr]
theorem HM.meets (ht:t<h.T):sumF (fun i=>h.fw t i*h.bw t i) h.n=h.lik:=by
 have key:∀u t,t+u+1=h.T→sumF (fun i=>h.fw t i*h.bw t i) h.n=h.lik:=by
  intro u
  induction u with
  | zero =>
   intro t ht
   unfold HM.lik
   rw [if_neg (by omega),show h.T-1=t by omega]
   exact sumF_congr fun i _=>by rw [HM.bw_last (by omega),Rat.mul_one]
  | succ u ih=>intro t ht;rw [HM.step (by omega)];exact ih (t+1) (by omega)
 exact key (h.T-1-t) t (by omega)
theorem HM.bwU_nonneg (ok:h.Ok):∀u i,0≤h.bwU u i:=by
 intro u
 induction u with
 | zero=>intro i;show (0:Rat)≤1;decide
 | succ u ih=>intro i;exact sumF_nonneg fun k _=>Rat.mul_nonneg (Rat.mul_nonneg (ok.mv _ _) (ok.sh _ _)) (ih k)
theorem HM.mxU_nonneg (ok:h.Ok):∀u i,0≤h.mxU u i:=by
 intro u
 cases u with
 | zero=>intro i;show (0:Rat)≤1;decide
 | succ u=>intro i;exact maxF_nonneg
theorem HM.mxU_le (ok:h.Ok):∀u i,h.mxU u i≤h.bwU u i:=by
 intro u
 induction u with
 | zero=>intro i;exact Rat.le_refl
 | succ u ih =>
  intro i
  refine maxF_le (fun k _=>?_) fun k _=>?_
  ·exact Rat.mul_le_mul_of_nonneg_left (ih k) (Rat.mul_nonneg (ok.mv _ _) (ok.sh _ _))
  ·exact Rat.mul_nonneg (Rat.mul_nonneg (ok.mv _ _) (ok.sh _ _)) (HM.bwU_nonneg ok u k)
theorem mul_zero_of {c x y:Rat} (h0:c*x=0) (h:x=0→y=0):c*y=0:=by
 rcases Rat.mul_eq_zero.1 h0 with e|e
 ·rw [e,Rat.zero_mul]
 ·rw [h e,Rat.mul_zero]
theorem max_zero_sum {n:Nat} {c x y:Nat→Rat} (hc:∀k,0≤c k) (hx:∀k,0≤x k) (h0:maxF (fun k=>c k*x k) n=0) (h:∀k,x k=0→y k=0):sumF (fun k=>c k*y k) n=0 :=
 sumF_eq_zero fun k hk=>mul_zero_of (Rat.le_antisymm (by have:=maxF_ge (f:=fun k=>c k*x k) hk;rw [h0] at this;exact this) (Rat.mul_nonneg (hc k) (hx k))) (h k)
theorem HM.bwU_zero (ok:h.Ok):∀u i,h.mxU u i=0→h.bwU u i=0:=by
 intro u
 induction u with
 | zero=>intro i e;exact e
 | succ u ih =>
  intro i e
  exact max_zero_sum (fun k=>Rat.mul_nonneg (ok.mv _ _) (ok.sh _ _)) (fun k=>HM.mxU_nonneg ok u k) e ih
theorem HM.lik_zero (h0:0<h.T):h.lik=sumF (fun i=>h.a i*h.sh i (h.s 0)*h.bw 0 i) h.n:=(HM.meets (t:=0) h0).symm
theorem HM.best_le (ok:h.Ok):h.best≤h.lik:=by
 by_cases h0:h.T=0
 ·unfold HM.best HM.lik;rw [if_pos h0,if_pos h0];exact Rat.le_refl
 ·rw [HM.lik_zero (by omega)]
  unfold HM.best
  rw [if_neg h0]
  exact maxF_le (fun k _=>Rat.mul_le_mul_of_nonneg_left (HM.mxU_le ok _ k) (Rat.mul_nonneg (ok.a _) (ok.sh _ _))) fun k _=>Rat.mul_nonneg (Rat.mul_nonneg (ok.a _) (ok.sh _ _)) (HM.bwU_nonneg ok _ k)
theorem HM.best_nonneg:0≤h.best:=by
 unfold HM.best
 split
 ·decide
 ·exact maxF_nonneg
theorem HM.best_zero (ok:h.Ok):h.best=0↔h.lik=0:=by
 constructor
 ·intro e
  by_cases h0:h.T=0
  ·unfold HM.best at e;rw [if_pos h0] at e;exact absurd e (by decide)
  ·rw [HM.lik_zero (by omega)]
   unfold HM.best at e
   rw [if_neg h0] at e
   exact max_zero_sum (fun k=>Rat.mul_nonneg (ok.a _) (ok.sh _ _)) (fun k=>HM.mxU_nonneg ok _ k) e fun k hk=>HM.bwU_zero ok _ k hk
 ·intro e
  have:=HM.best_le ok
  rw [e] at this
  exact Rat.le_antisymm this HM.best_nonneg
theorem HM.wv_nonneg (ok:h.Ok) {p:Nat→Nat}:∀t,0≤h.wv p t:=by
 intro t
 induction t with
 | zero=>show (0:Rat)≤1;decide
 | succ t ih =>
  refine Rat.mul_nonneg (Rat.mul_nonneg ih ?_) (ok.sh _ _)
  split
  ·exact ok.a _
  ·exact ok.mv _ _
theorem HM.wv_le (ok:h.Ok) {p:Nat→Nat} (hp:∀j,p j<h.n):∀t,t+1≤h.T→h.wv p (t+1)*h.mx t (p t)≤h.best:=by
 intro t
 induction t with
 | zero =>
  intro ht
  unfold HM.best
  rw [if_neg (by omega)]
  show 1*h.a (p 0)*h.sh (p 0) (h.s 0)*h.mx 0 (p 0)≤_
  rw [Rat.one_mul]
  exact maxF_ge (f:=fun i=>h.a i*h.sh i (h.s 0)*h.mx 0 i) (hp 0)
 | succ t ih =>
  intro ht
  refine Rat.le_trans ?_ (ih (by omega))
  show h.wv p (t+1)*(if t+1=0 then h.a (p 0) else h.mv (p (t+1-1)) (p (t+1)))*h.sh (p (t+1)) (h.s (t+1))*h.mx (t+1) (p (t+1))≤_
  rw [if_neg (by omega),show t+1-1=t by omega]
  have e:h.wv p (t+1)*h.mv (p t) (p (t+1))*h.sh (p (t+1)) (h.s (t+1))*h.mx (t+1) (p (t+1))=h.wv p (t+1)*(h.mv (p t) (p (t+1))*h.sh (p (t+1)) (h.s (t+1))*h.mx (t+1) (p (t+1))):=by simp only [Rat.mul_assoc]
  rw [e,HM.mx_next (t:=t) (by omega)]
  exact Rat.mul_le_mul_of_nonneg_left (maxF_ge (f:=fun k=>h.mv (p t) k*h.sh k (h.s (t+1))*h.mx (t+1) k) (hp (t+1))) (HM.wv_nonneg ok _)
theorem HM.way_le (ok:h.Ok) {p:Nat→Nat} (hp:∀j,p j<h.n):h.wv p h.T≤h.best:=by
 by_cases h0:h.T=0
 ·unfold HM.best;rw [if_pos h0,h0];exact Rat.le_refl
 ·have:=HM.wv_le ok hp (h.T-1) (by omega)
  rw [show h.T-1+1=h.T by omega,HM.mx_last (by omega),Rat.mul_one] at this
  exact this
theorem HM.att0 (h0:0<h.T) (hb:h.best≠0):∃k,k<h.n∧1*h.a k*h.sh k (h.s 0)*h.mx 0 k=h.best:=by
 unfold HM.best at hb ⊢
 rw [if_neg (by omega)] at hb ⊢
 obtain ⟨k,hk,e⟩:=maxF_att hb
 exact ⟨k,hk,by rw [Rat.one_mul];exact e⟩
theorem HM.att1 {so:Rat} (ht:t+1<h.T) (hb:h.best≠0) (hs:so*h.mx t i=h.best):∃k,k<h.n∧so*h.mv i k*h.sh k (h.s (t+1))*h.mx (t+1) k=h.best:=by
 rw [HM.mx_next ht] at hs
 have hm:maxF (fun k=>h.mv i k*h.sh k (h.s (t+1))*h.mx (t+1) k) h.n≠0:=fun e=>by rw [e,Rat.mul_zero] at hs;exact hb hs.symm
 obtain ⟨k,hk,e⟩:=maxF_att hm
 refine ⟨k,hk,?_⟩
 rw [←hs,←e]
 simp only [Rat.mul_assoc]
end
end Go.Proofs.YtfjgijkhmhhkdaaGreatDoor
