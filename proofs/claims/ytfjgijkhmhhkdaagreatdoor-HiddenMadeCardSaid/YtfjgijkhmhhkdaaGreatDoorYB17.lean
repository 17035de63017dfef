/- The document's hidden chains: may one be, what is seen, ways: walked. Conditions: numbers of 10^7 bytes each. -/
import Derived.Test.YtfjgijkhmhhkdaaGreatDoorYB14
import Derived.Test.YtfjgijkhmhhkdaaGreatDoorYB16
import Derived.Test.YtfjgijkhmhhkdaaGreatDoorYB15
import Derived.Test.YtfjgijkhmhhkdaaGreatDoorYB12
import Derived.Test.YtfjgijkhmhhkdaaGreatDoorYB09
set_option linter.unusedVariables false
set_option linter.unusedSimpArgs false
namespace Go.Proofs.YtfjgijkhmhhkdaaGreatDoor
open Go Go.RowKit
set_option maxRecDepth 100000 in
set_option maxHeartbeats 4000000 in
theorem rhcheck_w {k:Nat} {fs ms ss:List FV} {st:List Rat} {mv sh:List (List Rat)} (h:HidF k fs ms ss st mv sh) (h1:1≤k) (hk:k≤10000000):Good Tryz.prog 9 [hidV fs ms ss] (I (hidE st mv sh)):=by
 have b1:=h.bst
 have b2:=h.bmv
 have b3:=h.bsh
 by_cases c1:(st.length:Int)<1
 ·rw [show hidE st mv sh=8 by unfold hidE;rw [if_pos (.inl (by omega))]]
  refine good_of Tryz.func9 rfl (by kernel_rfl) fun X hO hrd=>?_;rw [Tryz.ntmps9,Tryz.results9];simp only [ast0,List.map_cons,List.map_nil,List.length_cons,List.length_nil,Nat.reduceAdd,Nat.reduceSub,List.replicate_succ,List.replicate_zero,List.cons_append,List.nil_append]
  (repeat (with_reducible first|refine W_seq fun K hK=>?_|refine J_ret ?_|refine J_region ?_ |refine J_c ?_|refine Jc_true ?_|exact Frz.f _|(refine Kont.go (by assumption) ?_)|(simp (config:={ maxSteps:=3000000 }) (disch:=omega) only [go_sem,↓reduceIte,Nat.reduceAdd,h.ist.len,c1])))
 by_cases c2:4<(st.length:Int)
 ·rw [show hidE st mv sh=8 by unfold hidE;rw [if_pos (.inr (.inl (by omega)))]]
  refine good_of Tryz.func9 rfl (by kernel_rfl) fun X hO hrd=>?_;rw [Tryz.ntmps9,Tryz.results9];simp only [ast0,List.map_cons,List.map_nil,List.length_cons,List.length_nil,Nat.reduceAdd,Nat.reduceSub,List.replicate_succ,List.replicate_zero,List.cons_append,List.nil_append]
  (repeat (with_reducible first|refine W_seq fun K hK=>?_|refine J_ret ?_|refine J_region ?_ |refine J_c ?_|refine Jc_true ?_|exact Frz.f _|(refine Kont.go (by assumption) ?_)|(simp (config:={ maxSteps:=3000000 }) (disch:=omega) only [go_sem,↓reduceIte,Nat.reduceAdd,h.ist.len,c1,c2])))
 by_cases c3:mv.length=st.length
 case neg =>
  rw [show hidE st mv sh=8 by unfold hidE;rw [if_pos (.inr (.inr (.inl c3)))]]
  refine good_of Tryz.func9 rfl (by kernel_rfl) fun X hO hrd=>?_;rw [Tryz.ntmps9,Tryz.results9];simp only [ast0,List.map_cons,List.map_nil,List.length_cons,List.length_nil,Nat.reduceAdd,Nat.reduceSub,List.replicate_succ,List.replicate_zero,List.cons_append,List.nil_append]
  (repeat (with_reducible first|refine W_seq fun K hK=>?_|refine J_ret ?_|refine J_region ?_ |refine J_c ?_|refine Jc_true ?_|exact Frz.f _|(refine Kont.go (by assumption) ?_)|(simp (config:={ maxSteps:=3000000 }) (disch:=omega) only [go_sem,↓reduceIte,Nat.reduceAdd,h.ist.len,h.imv.len,c1,c2,c3,Int.natCast_inj])))
 by_cases c4:sh.length=st.length
 case neg =>
  rw [show hidE st mv sh=8 by unfold hidE;rw [if_pos (.inr (.inr (.inr c4)))]]
  refine good_of Tryz.func9 rfl (by kernel_rfl) fun X hO hrd=>?_;rw [Tryz.ntmps9,Tryz.results9];simp only [ast0,List.map_cons,List.map_nil,List.length_cons,List.length_nil,Nat.reduceAdd,Nat.reduceSub,List.replicate_succ,List.replicate_zero,List.cons_append,List.nil_append]
  (repeat (with_reducible first|refine W_seq fun K hK=>?_|refine J_ret ?_|refine J_region ?_ |refine J_c ?_|refine Jc_true ?_|exact Frz.f _|(refine Kont.go (by assumption) ?_)|(simp (config:={ maxSteps:=3000000 }) (disch:=omega) only [go_sem,↓reduceIte,Nat.reduceAdd,h.ist.len,h.imv.len,h.ish.len,c1,c2,c3,c4,Int.natCast_inj])))
 have hs0:0<sh.length:=by omega
 obtain ⟨xs0,x0,y0⟩:=h.ish.at hs0
 have hn0:xs0.length=hidN sh:=by rw [y0.len];unfold hidN;rw [lget_lt sh [] hs0]
 have b4:hidN sh≤140737488355328:=by unfold hidN;rw [lget_lt sh [] hs0];exact h.bsr _ (List.getElem_mem hs0)
 have hE:hidE st mv sh=if hidN sh<1∨4<hidN sh then 8
   else if ¬∀i,i<st.length→(mv.getD i []).length=st.length∧(sh.getD i []).length=hidN sh then 8
   else if ¬(chancesB st=true∧∀i,i<st.length→chancesB (mv.getD i [])=true∧chancesB (sh.getD i [])=true) then 9 else 0:=by
  unfold hidE;rw [if_neg (by omega)]
 rw [hE]
 by_cases d1:(hidN sh:Int)<1
 ·rw [if_pos (.inl (by omega))]
  refine good_of Tryz.func9 rfl (by kernel_rfl) fun X hO hrd=>?_;rw [Tryz.ntmps9,Tryz.results9];simp only [ast0,List.map_cons,List.map_nil,List.length_cons,List.length_nil,Nat.reduceAdd,Nat.reduceSub,List.replicate_succ,List.replicate_zero,List.cons_append,List.nil_append]
  (repeat (with_reducible first|refine W_seq fun K hK=>?_|refine J_skip ?_|refine J_ret ?_|refine J_region ?_ |refine J_c ?_|refine Jc_true ?_|refine Jc_false ?_|exact Frz.f _|(refine Kont.go (by assumption) ?_)|(simp (config:={ maxSteps:=3000000 }) (disch:=omega) only [go_sem,↓reduceIte,Nat.reduceAdd,Int.reduceLE,h.ist.len,h.imv.len,h.ish.len,c1,c2,c3,c4,x0,hn0,d1])))
 by_cases d2:4<(hidN sh:Int)
 ·rw [if_pos (.inr (by omega))]
  refine good_of Tryz.func9 rfl (by kernel_rfl) fun X hO hrd=>?_;rw [Tryz.ntmps9,Tryz.results9];simp only [ast0,List.map_cons,List.map_nil,List.length_cons,List.length_nil,Nat.reduceAdd,Nat.reduceSub,List.replicate_succ,List.replicate_zero,List.cons_append,List.nil_append]
  (repeat (with_reducible first|refine W_seq fun K hK=>?_|refine J_skip ?_|refine J_ret ?_|refine J_region ?_ |refine J_c ?_|refine Jc_true ?_|refine Jc_false ?_|exact Frz.f _|(refine Kont.go (by assumption) ?_)|(simp (config:={ maxSteps:=3000000 }) (disch:=omega) only [go_sem,↓reduceIte,Nat.reduceAdd,Int.reduceLE,h.ist.len,h.imv.len,h.ish.len,c1,c2,c3,c4,x0,hn0,d1,d2])))
 rw [if_neg (by omega)]
 refine good_of Tryz.func9 rfl (by kernel_rfl) fun X hO hrd=>?_;rw [Tryz.ntmps9,Tryz.results9];simp only [ast0,List.map_cons,List.map_nil,List.length_cons,List.length_nil,Nat.reduceAdd,Nat.reduceSub,List.replicate_succ,List.replicate_zero,List.cons_append,List.nil_append]
 (repeat (with_reducible first|refine W_seq fun K hK=>?_|refine J_block ?_|refine J_skip ?_|refine J_region ?_ |refine J_c ?_|refine Jc_false ?_|(refine Kont.go (by assumption) ?_)|(simp (config:={ maxSteps:=3000000 }) (disch:=omega) only [go_sem,↓reduceIte,Nat.reduceAdd,Int.reduceLE,h.ist.len,h.imv.len,h.ish.len,c1,c2,c3,c4,x0,hn0,d1,d2])))
 refine W_loop [2,5,44,45,46,47,48,49,50,51,52,53,54,55,56,57,58,59,60,61,62,63,64,65,66] (fun x:Nat=>[(5,.f (I x))]) (fun x:Nat=>[some ⟨25,3,[.f (hidV fs ms ss)]⟩]) (fun x:Nat=>x≤st.length∧∀i,i<x→(mv.getD i []).length=st.length∧(sh.getD i []).length=hidN sh) (fun x:Nat=>st.length-x) (0) (⟨Nat.zero_le _,fun j h=>by omega⟩) (by refine weak_of ?_ ?_<;>simp (disch:=omega) only [go_sem]<;>first|rfl|exact ⟨rfl,rfl⟩|exact Or.inl rfl|exact ⟨Or.inl rfl,Or.inl rfl⟩|trivial|assumption|omega|(symm;assumption)|((repeat' apply And.intro)<;>first|rfl|omega|trivial|exact .inl rfl|exact .inr ⟨rfl,rfl⟩|exact .inr rfl|(right;symm;assumption)|(symm;assumption)|assumption)) ?_
 rintro i ⟨hi,hp⟩
 simp only [go_sem]
 (repeat (with_reducible first|refine W_seq fun K hK=>?_|refine J_region ?_ |refine J_c ?_|(refine Kont.go (by assumption) ?_)|(simp (config:={ maxSteps:=3000000 }) (disch:=omega) only [go_sem])))
 refine Jc_if (fun hlt=>?_) (fun hlt=>?_)<;>try simp only [decide_eq_true_eq,decide_eq_false_iff_not] at hlt
 ·have im:i<mv.length:=by omega
  have is_:i<sh.length:=by omega
  obtain ⟨xm,x1,y1⟩:=h.imv.at im
  obtain ⟨xs,x2,y2⟩:=h.ish.at is_
  by_cases e1:mv[i].length=st.length
  case neg =>
   (repeat (with_reducible first|refine W_seq fun K hK=>?_|refine J_block ?_|refine J_skip ?_|refine J_ret ?_|refine J_region ?_ |refine J_c ?_|refine Jc_true ?_|(refine Kont.go (by assumption) ?_)|(simp (config:={ maxSteps:=3000000 }) (disch:=omega) only [go_sem,↓reduceIte,x1,y1.len,e1,Int.natCast_inj])))
   rw [if_pos fun hh=>e1 (by have:=(hh i hlt).1;rwa [lget_lt mv [] im] at this)]
   exact Frz.f _
  by_cases e2:sh[i].length=hidN sh
  case neg =>
   (repeat (with_reducible first|refine W_seq fun K hK=>?_|refine J_block ?_|refine J_skip ?_|refine J_ret ?_|refine J_region ?_ |refine J_c ?_|refine Jc_true ?_|(refine Kont.go (by assumption) ?_)|(simp (config:={ maxSteps:=3000000 }) (disch:=omega) only [go_sem,↓reduceIte,x1,y1.len,e1,Int.natCast_inj,x2,y2.len,e2])))
   rw [if_pos fun hh=>e2 (by have:=(hh i hlt).2;rwa [lget_lt sh [] is_] at this)]
   exact Frz.f _
  (repeat (with_reducible first|refine W_seq fun K hK=>?_|refine J_block ?_|refine J_skip ?_|refine J_region ?_ |refine J_c ?_|refine Jc_false ?_|(refine Kont.go (by assumption) ?_)|(simp (config:={ maxSteps:=3000000 }) (disch:=omega) only [go_sem,↓reduceIte,x1,y1.len,e1,x2,y2.len,e2])))
  refine ⟨i+1,⟨by omega,upto_next (p:=fun i=>(mv.getD i []).length=st.length∧(sh.getD i []).length=hidN sh) hp (by rw [lget_lt mv [] im,lget_lt sh [] is_];exact ⟨e1,e2⟩)⟩,by omega,weak_of ?_ ?_⟩<;>(try simp (disch:=omega) only [go_sem])<;>(try first|done|omega|rfl|exact ⟨rfl,rfl⟩|trivial)
 ·have he:i=st.length:=by omega
  subst he
  (repeat (with_reducible first|refine W_seq fun K hK=>?_|refine J_exit ?_|refine J_region ?_ |(refine Kont.go (by assumption) ?_)|(simp (config:={ maxSteps:=3000000 }) (disch:=omega) only [go_sem,↓reduceIte])))
  refine call_f (rchances_w h.ist h1 (by omega) hk) rfl ?_
  (repeat (with_reducible first|refine W_seq fun K hK=>?_|refine J_block ?_|refine J_region ?_ |(refine Kont.go (by assumption) ?_)|(simp (config:={ maxSteps:=3000000 }) (disch:=omega) only [go_sem])))
  refine W_loop [6,7,8,9,70,71,72,73,74,75,76,77,78,79,80,81,82,83,84,85,86,87,88,89,90,91,92,93] (fun x:Nat × Bool=>[(7,.f (I x.1)),(6,.f (Bo x.2))]) (fun x:Nat × Bool=>[some ⟨25,3,[.f (hidV fs ms ss)]⟩]) (fun x:Nat × Bool=>x.1≤st.length∧(x.2=true↔(chancesB st=true∧∀i,i<x.1→chancesB (mv.getD i [])=true∧chancesB (sh.getD i [])=true))) (fun x:Nat × Bool=>st.length-x.1) ((0,chancesB st)) (⟨Nat.zero_le _,⟨fun h=>⟨h,fun i hi=>by omega⟩,fun h=>h.1⟩⟩) (by refine weak_of ?_ ?_<;>simp (disch:=omega) only [go_sem]<;>first|rfl|exact ⟨rfl,rfl⟩|exact Or.inl rfl|exact ⟨Or.inl rfl,Or.inl rfl⟩|trivial|assumption|omega|(symm;assumption)|((repeat' apply And.intro)<;>first|rfl|omega|trivial|exact .inl rfl|exact .inr ⟨rfl,rfl⟩|exact .inr rfl|(right;symm;assumption)|(symm;assumption)|assumption)) ?_
  rintro ⟨i,b⟩ ⟨hi,hb⟩
  simp only at hi hb
  simp only [go_sem]
  (repeat (with_reducible first|refine W_seq fun K hK=>?_|refine J_region ?_ |refine J_c ?_|(refine Kont.go (by assumption) ?_)|(simp (config:={ maxSteps:=3000000 }) (disch:=omega) only [go_sem])))
  refine Jc_if (fun hlt=>?_) (fun hlt=>?_)<;>try simp only [decide_eq_true_eq,decide_eq_false_iff_not] at hlt
  ·have im:i<mv.length:=by omega
   have is_:i<sh.length:=by omega
   obtain ⟨xm,x1,y1⟩:=h.imv.at im
   obtain ⟨xs,x2,y2⟩:=h.ish.at is_
   obtain ⟨l1,l2⟩:=hp i hlt
   rw [lget_lt mv [] im] at l1
   rw [lget_lt sh [] is_] at l2
   have nx:∀b',(b'=true↔(b=true∧chancesB mv[i]=true∧chancesB sh[i]=true))→(b'=true↔(chancesB st=true∧∀j,j<i+1→chancesB (mv.getD j [])=true∧chancesB (sh.getD j [])=true)):=fun b' hb'=>by
    rw [hb',hb]
    constructor
    ·rintro ⟨⟨h1,h2⟩,h3⟩
     exact ⟨h1,upto_next (p:=fun j=>chancesB (mv.getD j [])=true∧chancesB (sh.getD j [])=true) h2 (by rw [lget_lt mv [] im,lget_lt sh [] is_];exact h3)⟩
    ·rintro ⟨h1,h2⟩
     have:=h2 i (by omega)
     rw [lget_lt mv [] im,lget_lt sh [] is_] at this
     exact ⟨⟨h1,fun j hj=>h2 j (by omega)⟩,this⟩
   (repeat (with_reducible first|refine W_seq fun K hK=>?_|refine J_block ?_|refine J_skip ?_|refine J_region ?_ |(refine Kont.go (by assumption) ?_)|(simp (config:={ maxSteps:=3000000 }) (disch:=omega) only [go_sem,↓reduceIte,x1])))
   refine call_f (rchances_w y1 h1 (by omega) hk) rfl ?_
   (repeat (with_reducible first|refine W_seq fun K hK=>?_|refine J_region ?_ |(refine Kont.go (by assumption) ?_)|(simp (config:={ maxSteps:=3000000 }) (disch:=omega) only [go_sem,↓reduceIte,x2])))
   refine call_f (rchances_w y2 h1 (by omega) hk) rfl ?_
   cases hbt:b with
   | true =>
    cases e1:chancesB mv[i] with
    | true =>
     cases e2:chancesB sh[i] with
     | true =>
      (repeat (with_reducible first|refine J_region ?_ |(refine Kont.go (by assumption) ?_)|(simp (config:={ maxSteps:=3000000 }) (disch:=omega) only [go_sem])))
      refine ⟨(i+1,true),⟨by simp only;omega,nx _ ⟨fun _=>⟨hbt,e1,e2⟩,fun _=>rfl⟩⟩,by simp only;omega,weak_of ?_ ?_⟩<;>(try simp (disch:=omega) only [go_sem])<;>(try first|done|omega|rfl|exact ⟨rfl,rfl⟩|trivial)
     | false =>
      (repeat (with_reducible first|refine J_region ?_ |(refine Kont.go (by assumption) ?_)|(simp (config:={ maxSteps:=3000000 }) (disch:=omega) only [go_sem])))
      refine ⟨(i+1,false),⟨by simp only;omega,nx _ ⟨fun h=>(by cases h),fun h=>by rw [e2] at h;cases h.2.2⟩⟩,by simp only;omega,weak_of ?_ ?_⟩<;>(try simp (disch:=omega) only [go_sem])<;>(try first|done|omega|rfl|exact ⟨rfl,rfl⟩|trivial)
    | false =>
     (repeat (with_reducible first|refine J_region ?_ |(refine Kont.go (by assumption) ?_)|(simp (config:={ maxSteps:=3000000 }) (disch:=omega) only [go_sem])))
     refine ⟨(i+1,false),⟨by simp only;omega,nx _ ⟨fun h=>(by cases h),fun h=>by rw [e1] at h;cases h.2.1⟩⟩,by simp only;omega,weak_of ?_ ?_⟩<;>(try simp (disch:=omega) only [go_sem])<;>(try first|done|omega|rfl|exact ⟨rfl,rfl⟩|trivial)
   | false =>
    (repeat (with_reducible first|refine J_region ?_ |(refine Kont.go (by assumption) ?_)|(simp (config:={ maxSteps:=3000000 }) (disch:=omega) only [go_sem])))
    refine ⟨(i+1,false),⟨by simp only;omega,nx _ ⟨fun h=>(by cases h),fun h=>by rw [hbt] at h;cases h.1⟩⟩,by simp only;omega,weak_of ?_ ?_⟩<;>(try simp (disch:=omega) only [go_sem])<;>(try first|done|omega|rfl|exact ⟨rfl,rfl⟩|trivial)
  ·have he:i=st.length:=by omega
   subst he
   (repeat (with_reducible first|refine W_seq fun K hK=>?_|refine J_exit ?_|refine J_region ?_ |refine J_c ?_|(refine Kont.go (by assumption) ?_)|(simp (config:={ maxSteps:=3000000 }) (disch:=omega) only [go_sem,↓reduceIte])))
   refine Jc_if (fun hok=>?_) (fun hok=>?_)<;>try simp only [Bool.not_eq_true',Bool.not_eq_false'] at hok
   ·(repeat (with_reducible first|refine W_seq fun K hK=>?_|refine J_ret ?_|refine J_region ?_ |(refine Kont.go (by assumption) ?_)|(simp (config:={ maxSteps:=3000000 }) (disch:=omega) only [go_sem])))
    rw [if_neg fun hh=>hh hp,if_pos (fun hh=>by rw [hb.2 hh] at hok;cases hok)]
    exact Frz.f _
   ·(repeat (with_reducible first|refine W_seq fun K hK=>?_|refine J_skip ?_|refine J_ret ?_|refine J_region ?_ |(refine Kont.go (by assumption) ?_)|(simp (config:={ maxSteps:=3000000 }) (disch:=omega) only [go_sem])))
    rw [if_neg fun hh=>hh hp,if_neg (fun hh=>hh (hb.1 (by simpa using hok)))]
    exact Frz.f _
set_option maxRecDepth 100000 in
set_option maxHeartbeats 4000000 in
theorem rseen_w {k:Nat} {fs ms ss:List FV} {st:List Rat} {mv sh:List (List Rat)} (h:HidF k fs ms ss st mv sh) (h1:1≤k) (hk:k≤10000000) (seen:List Int) (hsl:seen.length≤140737488355328) (hs:∀x∈seen,-9223372036854775808≤x∧x≤9223372036854775807) :
  Good Tryz.prog 30 [hidV fs ms ss,ints seen] (I (mayE st mv sh seen)):=by
 by_cases hE:hidE st mv sh=0
 case neg =>
  have e:mayE st mv sh seen=hidE st mv sh:=by unfold mayE;rw [if_pos hE]
  rw [e]
  refine good_of Tryz.func30 rfl (by kernel_rfl) fun X hO hrd=>?_;rw [Tryz.ntmps30,Tryz.results30];simp only [ast0,List.map_cons,List.map_nil,List.length_cons,List.length_nil,Nat.reduceAdd,Nat.reduceSub,List.replicate_succ,List.replicate_zero,List.cons_append,List.nil_append]
  (repeat (with_reducible first|refine W_seq fun K hK=>?_|refine J_region ?_ |(refine Kont.go (by assumption) ?_)|(simp (config:={ maxSteps:=3000000 }) (disch:=omega) only [go_sem,↓reduceIte,Nat.reduceAdd])))
  refine call_f (rhcheck_w h h1 hk) rfl ?_
  (repeat (with_reducible first|refine W_seq fun K hK=>?_|refine J_ret ?_|refine J_region ?_ |refine J_c ?_|refine Jc_true ?_|exact Frz.f _|(refine Kont.go (by assumption) ?_)|(simp (config:={ maxSteps:=3000000 }) (disch:=omega) only [go_sem,hE])))
 obtain ⟨a1,a2,a3,a4,a5,a6,_⟩:=hidE_ok hE
 have hs0:0<sh.length:=by omega
 obtain ⟨xs0,x0,y0⟩:=h.ish.at hs0
 have hn0:xs0.length=hidN sh:=by rw [y0.len];unfold hidN;rw [lget_lt sh [] hs0]
 by_cases hl:8<(seen.length:Int)
 ·have e:mayE st mv sh seen=2:=by unfold mayE;rw [if_neg (by omega),if_pos (by omega)]
  rw [e]
  refine good_of Tryz.func30 rfl (by kernel_rfl) fun X hO hrd=>?_;rw [Tryz.ntmps30,Tryz.results30];simp only [ast0,List.map_cons,List.map_nil,List.length_cons,List.length_nil,Nat.reduceAdd,Nat.reduceSub,List.replicate_succ,List.replicate_zero,List.cons_append,List.nil_append]
  (repeat (with_reducible first|refine W_seq fun K hK=>?_|refine J_region ?_ |(refine Kont.go (by assumption) ?_)|(simp (config:={ maxSteps:=3000000 }) (disch:=omega) only [go_sem,↓reduceIte,Nat.reduceAdd])))
  refine call_f (rhcheck_w h h1 hk) rfl ?_
  (repeat (with_reducible first|refine W_seq fun K hK=>?_|refine J_skip ?_|refine J_ret ?_|refine J_region ?_ |refine J_c ?_|refine Jc_true ?_|refine Jc_false ?_|exact Frz.f _|(refine Kont.go (by assumption) ?_)|(simp (config:={ maxSteps:=3000000 }) (disch:=omega) only [go_sem,hE,List.length_map,hl])))
 have e0:mayE st mv sh seen=if ¬∀i,i<seen.length→0≤seen.getD i 0∧seen.getD i 0<hidN sh then 12 else 0:=by unfold mayE;rw [if_neg (by omega),if_neg (by omega)]
 rw [e0]
 refine good_of Tryz.func30 rfl (by kernel_rfl) fun X hO hrd=>?_;rw [Tryz.ntmps30,Tryz.results30];simp only [ast0,List.map_cons,List.map_nil,List.length_cons,List.length_nil,Nat.reduceAdd,Nat.reduceSub,List.replicate_succ,List.replicate_zero,List.cons_append,List.nil_append]
 (repeat (with_reducible first|refine W_seq fun K hK=>?_|refine J_region ?_ |(refine Kont.go (by assumption) ?_)|(simp (config:={ maxSteps:=3000000 }) (disch:=omega) only [go_sem,↓reduceIte,Nat.reduceAdd])))
 refine call_f (rhcheck_w h h1 hk) rfl ?_
 (repeat (with_reducible first|refine W_seq fun K hK=>?_|refine J_block ?_|refine J_skip ?_|refine J_region ?_ |refine J_c ?_|refine Jc_false ?_|(refine Kont.go (by assumption) ?_)|(simp (config:={ maxSteps:=3000000 }) (disch:=omega) only [go_sem,hE,List.length_map,hl])))
 refine W_loop [4,6,15,16,17,18,19,20,21,22,23,24,25,26,27,28,29,30,31,32,33,34,35,36,37] (fun x:Nat=>[(6,.f (I x))]) (fun x:Nat=>[some ⟨25,3,[.f (hidV fs ms ss)]⟩]) (fun x:Nat=>x≤seen.length∧∀i,i<x→0≤seen.getD i 0∧seen.getD i 0<hidN sh) (fun x:Nat=>seen.length-x) (0) (⟨Nat.zero_le _,fun j h=>by omega⟩) (by refine weak_of ?_ ?_<;>simp (disch:=omega) only [go_sem]<;>first|rfl|exact ⟨rfl,rfl⟩|exact Or.inl rfl|exact ⟨Or.inl rfl,Or.inl rfl⟩|trivial|assumption|omega|(symm;assumption)|((repeat' apply And.intro)<;>first|rfl|omega|trivial|exact .inl rfl|exact .inr ⟨rfl,rfl⟩|exact .inr rfl|(right;symm;assumption)|(symm;assumption)|assumption)) ?_
 rintro i ⟨hi,hp⟩
 simp only [go_sem]
 (repeat (with_reducible first|refine W_seq fun K hK=>?_|refine J_region ?_ |refine J_c ?_|(refine Kont.go (by assumption) ?_)|(simp (config:={ maxSteps:=3000000 }) (disch:=omega) only [go_sem])))
 refine Jc_if (fun hlt=>?_) (fun hlt=>?_)<;>try simp only [decide_eq_true_eq,decide_eq_false_iff_not] at hlt
 ·have hb:=hs _ (List.getElem_mem hlt)
  by_cases n1:seen[i]<0
  ·(repeat (with_reducible first|refine W_seq fun K hK=>?_|refine J_block ?_|refine J_skip ?_|refine J_ret ?_|refine J_region ?_ |refine J_drawn mixed (by kernel_rfl) ?_|refine J_c ?_|refine Jc_true ?_|(refine Kont.go (by assumption) ?_)|(simp (config:={ maxSteps:=3000000 }) (disch:=omega) only [go_sem,↓reduceIte,map_get I seen hlt,n1])))
   rw [if_pos fun hh=>by have:=(hh i hlt).1;rw [lget_lt seen 0 hlt] at this;omega]
   exact Frz.f _
  by_cases n2:(hidN sh:Int)≤seen[i]
  ·(repeat (with_reducible first|refine W_seq fun K hK=>?_|refine J_block ?_|refine J_skip ?_|refine J_ret ?_|refine J_region ?_ |refine J_drawn mixed (by kernel_rfl) ?_|refine J_c ?_|refine Jc_true ?_|(refine Kont.go (by assumption) ?_)|(simp (config:={ maxSteps:=3000000 }) (disch:=omega) only [go_sem,↓reduceIte,Int.reduceLE,map_get I seen hlt,n1,x0,hn0,n2])))
   rw [if_pos fun hh=>by have:=(hh i hlt).2;rw [lget_lt seen 0 hlt] at this;omega]
   exact Frz.f _
  (repeat (with_reducible first|refine W_seq fun K hK=>?_|refine J_block ?_|refine J_skip ?_|refine J_region ?_ |refine J_drawn mixed (by kernel_rfl) ?_|refine J_c ?_|refine Jc_false ?_|(refine Kont.go (by assumption) ?_)|(simp (config:={ maxSteps:=3000000 }) (disch:=omega) only [go_sem,↓reduceIte,Int.reduceLE,map_get I seen hlt,n1,x0,hn0,n2])))
  refine ⟨i+1,⟨by omega,upto_next (p:=fun i=>0≤seen.getD i 0∧seen.getD i 0<hidN sh) hp (by rw [lget_lt seen 0 hlt];omega)⟩,by omega,weak_of ?_ ?_⟩<;>(try simp (disch:=omega) only [go_sem])<;>(try first|done|omega|rfl|exact ⟨rfl,rfl⟩|trivial)
 ·have he:i=seen.length:=by omega
  subst he
  (repeat (with_reducible first|refine W_seq fun K hK=>?_|refine J_exit ?_|refine J_ret ?_|refine J_region ?_ |(refine Kont.go (by assumption) ?_)|(simp (config:={ maxSteps:=3000000 }) (disch:=omega) only [go_sem,↓reduceIte])))
  rw [if_neg fun hh=>hh hp]
  exact Frz.f _
end Go.Proofs.YtfjgijkhmhhkdaaGreatDoor
set_option linter.unusedVariables false
set_option linter.unusedSimpArgs false
namespace Go.Proofs.YtfjgijkhmhhkdaaGreatDoor
open Go Go.RowKit
def vr2 (n k i:Nat):List FV:=[.agg [St (nmd 115 i),.fz 1 (vls n)],.agg [St (nmd 111 i),.fz 1 (vls k)]]
def pa2 (i:Nat):List FV:=if i=0 then [.v (.slice none 0 0),ints [0]] else [ints [2*(i:Int)-2],ints [2*(i:Int)]]
def ro2 (st:List Rat) (mv sh:List (List Rat)) (i:Nat):List FV:=[.fz 3 (if i=0 then flF [st] else flF mv),.fz 3 (flF sh)]
def vrT (n k t:Nat):List FV:=(List.range t).flatMap (vr2 n k)
def paT (t:Nat):List FV:=(List.range t).flatMap pa2
def roT (st:List Rat) (mv sh:List (List Rat)) (t:Nat):List FV:=(List.range t).flatMap (ro2 st mv sh)
section
variable {n k t : Nat} {st : List Rat} {mv sh : List (List Rat)}
theorem vrT_next:vrT n k t++vr2 n k t=vrT n k (t+1):=by simp [vrT,List.range_succ]
theorem paT_next:paT t++pa2 t=paT (t+1):=by simp [paT,List.range_succ]
theorem roT_next:roT st mv sh t++ro2 st mv sh t=roT st mv sh (t+1):=by simp [roT,List.range_succ]
theorem vrT_len:(vrT n k t).length=2*t:=by induction t with|zero=>rfl|succ t ih=>rw [←vrT_next,List.length_append,ih];rfl
theorem paT_len:(paT t).length=2*t:=by
 induction t with
 | zero=>rfl
 | succ t ih=>rw [←paT_next,List.length_append,ih];unfold pa2;split<;>rfl
theorem roT_len:(roT st mv sh t).length=2*t:=by induction t with|zero=>rfl|succ t ih=>rw [←roT_next,List.length_append,ih];rfl
end
def netF (n k t:Nat) (st:List Rat) (mv sh:List (List Rat)):FV:=.agg [.fz 2 (vrT n k t),.fz 1 (paT t),.fz 1 (roT st mv sh t)]
def net0:FV:=.agg [.v (.slice none 0 0),.v (.slice none 0 0),.v (.slice none 0 0)]
def unE (st:List Rat) (mv sh:List (List Rat)) (s:Int):Int:=if hidE st mv sh≠0 then hidE st mv sh else if s<1∨4<s then 2 else 0
def unV (st:List Rat) (mv sh:List (List Rat)) (s:Int):FV:=if unE st mv sh s=0 then netF st.length (hidN sh) s.toNat st mv sh else net0
def unA (t:Nat):AV:=if t=0 then .f net0 else .agg [.own 3 2 0 (2*t),.own 4 1 0 (2*t),.own 5 1 0 (2*t)]
theorem unA_zero:unA 0=.f net0:=rfl
theorem unA_succ (t:Nat):unA (t+1)=.agg [.own 3 2 0 (2*(t+1)),.own 4 1 0 (2*(t+1)),.own 5 1 0 (2*(t+1))]:=rfl
end Go.Proofs.YtfjgijkhmhhkdaaGreatDoor
set_option linter.unusedVariables false
set_option linter.unusedSimpArgs false
namespace Go.Proofs.YtfjgijkhmhhkdaaGreatDoor
open Go Go.RowKit
set_option maxRecDepth 100000 in
theorem sameTexts_w (l:List ByteArray) (hn:l.length≤140737488355328):Good Tryz.prog 60 [.fz 1 (l.map St),.fz 1 (l.map St)] (Bo true):=by
 refine good_of Tryz.func60 rfl (by kernel_rfl) fun X hO hrd=>?_;rw [Tryz.ntmps60,Tryz.results60];simp only [ast0,List.map_cons,List.map_nil,List.length_cons,List.length_nil,Nat.reduceAdd,Nat.reduceSub,List.replicate_succ,List.replicate_zero,List.cons_append,List.nil_append]
 (repeat (with_reducible first|refine W_seq fun K hK=>?_|refine J_block ?_|refine J_skip ?_|refine J_region ?_ |refine J_c ?_|refine Jc_false ?_|(refine Kont.go (by assumption) ?_)|(simp (config:={ maxSteps:=3000000 }) (disch:=omega) only [go_sem,List.length_map])))
 refine W_loop [4,5,11,12,13,14,15,16,17,18,19,20,21,22,23,24,25] (fun x:Nat=>[(5,.f (I x))]) (fun x:Nat=>[]) (fun x:Nat=>x≤l.length) (fun x:Nat=>l.length-x) (0) (Nat.zero_le _) (by refine weak_of ?_ ?_<;>simp (disch:=omega) only [go_sem]<;>first|rfl|exact ⟨rfl,rfl⟩|exact Or.inl rfl|exact ⟨Or.inl rfl,Or.inl rfl⟩|trivial|assumption|omega|(symm;assumption)|((repeat' apply And.intro)<;>first|rfl|omega|trivial|exact .inl rfl|exact .inr ⟨rfl,rfl⟩|exact .inr rfl|(right;symm;assumption)|(symm;assumption)|assumption)) ?_
 rintro i hi
 simp only [go_sem]
 (repeat (with_reducible first|refine W_seq fun K hK=>?_|refine J_region ?_ |refine J_c ?_|(refine Kont.go (by assumption) ?_)|(simp (config:={ maxSteps:=3000000 }) (disch:=omega) only [go_sem,List.length_map])))
 refine Jc_if (fun hlt=>?_) (fun hlt=>?_)<;>try simp only [decide_eq_true_eq,decide_eq_false_iff_not] at hlt
 ·(repeat (with_reducible first|refine W_seq fun K hK=>?_|refine J_block ?_|refine J_skip ?_|refine J_region ?_ |refine J_drawn mixed (by kernel_rfl) ?_|refine J_c ?_|refine Jc_false ?_|(refine Kont.go (by assumption) ?_)|(simp (config:={ maxSteps:=3000000 }) (disch:=omega) only [go_sem,↓reduceIte,map_get St l hlt,hlt])))
  refine ⟨i+1,by omega,by omega,weak_of ?_ ?_⟩<;>(try simp (disch:=omega) only [go_sem])<;>(try first|done|omega|rfl|exact ⟨rfl,rfl⟩|trivial)
 ·(repeat (with_reducible first|refine W_seq fun K hK=>?_|refine J_exit ?_|refine J_ret ?_|refine J_region ?_ |exact Frz.f _|(refine Kont.go (by assumption) ?_)|(simp (config:={ maxSteps:=3000000 }) (disch:=omega) only [go_sem,↓reduceIte])))
def varF (v:ByteArray × List ByteArray):FV:=.agg [St v.1,.fz 1 (v.2.map St)]
set_option maxRecDepth 100000 in
set_option maxHeartbeats 4000000 in
theorem sameNet_w (vs:List (ByteArray × List ByteArray)) (p q:List FV) (hn:vs.length≤140737488355328) (hv:∀v∈vs,v.2.length≤140737488355328) (hP:Good Tryz.prog 59 [.fz 1 p,.fz 1 p] (Bo true)) (hR:Good Tryz.prog 13 [.fz 1 q,.fz 1 q] (Bo true)) :
  Good Tryz.prog 23 [.agg [.fz 2 (vs.map varF),.fz 1 p,.fz 1 q],.agg [.fz 2 (vs.map varF),.fz 1 p,.fz 1 q]] (Bo true):=by
 refine good_of Tryz.func23 rfl (by kernel_rfl) fun X hO hrd=>?_;rw [Tryz.ntmps23,Tryz.results23];simp only [ast0,List.map_cons,List.map_nil,List.length_cons,List.length_nil,Nat.reduceAdd,Nat.reduceSub,List.replicate_succ,List.replicate_zero,List.cons_append,List.nil_append]
 (repeat (with_reducible first|refine W_seq fun K hK=>?_|refine J_region ?_ |(refine Kont.go (by assumption) ?_)|(simp (config:={ maxSteps:=3000000 }) (disch:=omega) only [go_sem,↓reduceIte,Nat.reduceAdd,List.length_map,true_and])))
 (first|refine call_f (hP) rfl ?_|refine callQ_f (hP) rfl ?_|refine callHK_f (hP) rfl ?_|refine callH_f (hP) rfl ?_)
 (repeat (with_reducible first|(simp (config:={ maxSteps:=3000000 }) (disch:=omega) only [go_sem,↓reduceIte])))
 (first|refine call_f (hR) rfl ?_|refine callQ_f (hR) rfl ?_|refine callHK_f (hR) rfl ?_|refine callH_f (hR) rfl ?_)
 (repeat (with_reducible first|refine W_seq fun K hK=>?_|refine J_block ?_|refine J_skip ?_|refine J_region ?_ |refine J_c ?_|refine Jc_false ?_|(refine Kont.go (by assumption) ?_)|(simp (config:={ maxSteps:=3000000 }) (disch:=omega) only [go_sem])))
 refine W_loop [4,5,29,30,31,32,33,34,35,36,37,38,39,40,41,42,43,44,45,46,47,48,49,50,51,52,53,54,55,56,57,58,59,60,61,62,63,64] (fun x:Nat=>[(5,.f (I x))]) (fun x:Nat=>[some ⟨44,3,[.f (.agg [.fz 2 (vs.map varF),.fz 1 p,.fz 1 q])]⟩,some ⟨44,3,[.f (.agg [.fz 2 (vs.map varF),.fz 1 p,.fz 1 q])]⟩]) (fun x:Nat=>x≤vs.length) (fun x:Nat=>vs.length-x) (0) (Nat.zero_le _) (by refine weak_of ?_ ?_<;>simp (disch:=omega) only [go_sem,Nat.reduceAdd]<;>first|rfl|exact ⟨rfl,rfl⟩|exact Or.inl rfl|exact ⟨Or.inl rfl,Or.inl rfl⟩|trivial|assumption|omega|(symm;assumption)|((repeat' apply And.intro)<;>first|rfl|omega|trivial|exact .inl rfl|exact .inr ⟨rfl,rfl⟩|exact .inr rfl|(right;symm;assumption)|(symm;assumption)|assumption)) ?_
 rintro i hi
 simp only [go_sem]
 (repeat (with_reducible first|refine W_seq fun K hK=>?_|refine J_region ?_ |refine J_c ?_|(refine Kont.go (by assumption) ?_)|(simp (config:={ maxSteps:=3000000 }) (disch:=omega) only [go_sem,↓reduceIte,List.length_map])))
 refine Jc_if (fun hlt=>?_) (fun hlt=>?_)<;>try simp only [decide_eq_true_eq,decide_eq_false_iff_not] at hlt
 ·have g1:=map_get varF vs hlt
  obtain ⟨v,hve⟩:∃v,v=vs[i]:=⟨_,rfl⟩
  have hvv:=hv v (by rw [hve];exact List.getElem_mem _)
  have g2:varF v=.agg [St v.1,.fz 1 (v.2.map St)]:=rfl
  rw [←hve,g2] at g1
  have hs:=sameTexts_w v.2 hvv
  (repeat (with_reducible first|refine W_seq fun K hK=>?_|refine J_block ?_|refine J_skip ?_|refine J_drawn mixed (by kernel_rfl) ?_|(refine Kont.go (by assumption) ?_)|(simp (config:={ maxSteps:=3000000 }) (disch:=omega) only [go_sem,↓reduceIte,g1,hlt,true_and])))
  (first|refine call_f (hs) rfl ?_|refine callQ_f (hs) rfl ?_|refine callHK_f (hs) rfl ?_|refine callH_f (hs) rfl ?_)
  (repeat (with_reducible first|refine J_skip ?_|refine J_region ?_ |refine J_c ?_|refine Jc_false ?_|(refine Kont.go (by assumption) ?_)|(simp (config:={ maxSteps:=3000000 }) (disch:=omega) only [go_sem])))
  refine ⟨i+1,by omega,by omega,weak_of ?_ ?_⟩<;>(try simp (disch:=omega) only [go_sem,Nat.reduceAdd])<;>(try first|done|omega|rfl|exact ⟨rfl,rfl⟩|trivial)
 ·(repeat (with_reducible first|refine W_seq fun K hK=>?_|refine J_exit ?_|refine J_ret ?_|refine J_region ?_ |exact Frz.f _|(refine Kont.go (by assumption) ?_)|(simp (config:={ maxSteps:=3000000 }) (disch:=omega) only [go_sem,↓reduceIte])))
end Go.Proofs.YtfjgijkhmhhkdaaGreatDoor
set_option linter.unusedVariables false
set_option linter.unusedSimpArgs false
namespace Go.Proofs.YtfjgijkhmhhkdaaGreatDoor
open Go Go.RowKit
def nlV (l:List FV):FV:=if l=[] then .v (.slice none 0 0) else .fz 1 l
theorem nlV_cells {l:List FV}:(nlV l).cells=[nlV l]:=by unfold nlV;split<;>rfl
theorem flat_nl (rows:List (List FV)):flatF (rows.map nlV)=rows.map nlV:=by
 unfold flatF
 induction rows with
 | nil=>rfl
 | cons r rows ih=>rw [List.map_cons,List.flatMap_cons,ih,nlV_cells];rfl
theorem flat_fz1 (rows:List (List FV)):flatF (rows.map (FV.fz 1))=rows.map (FV.fz 1):=by
 unfold flatF
 induction rows with
 | nil=>rfl
 | cons r rows ih=>rw [List.map_cons,List.flatMap_cons,ih];rfl
theorem RepF.nl {rows:List (List FV)} {w:World} {F:Nat→Prop} {v:Value} (h:RepF w F (.fz 1 (rows.map nlV)) v):RepF w F (.fz 1 (rows.map (FV.fz 1))) v:=by
 generalize he:rows.map nlV=es at h
 cases h with
 | fz0 _ a cap hm =>
  have h0:rows=[]:=List.map_eq_nil_iff.1 he
  subst h0
  exact .fz0 _ _ _ hm
 | fz _ _ b off cap hF hn hm hu g hg hc =>
  subst he
  rw [flat_nl] at hg hc
  have hl:(rows.map nlV).length=(rows.map (FV.fz 1)).length:=by simp
  rw [hl] at hn ⊢
  refine .fz 1 _ b off cap hF hn hm (fun e he=>?_) g (fun j c hj=>?_) (fun j c hj=>?_)
  ·obtain ⟨r,_,rfl⟩:=List.mem_map.1 he;exact ⟨rfl,rfl⟩
  ·rw [flat_fz1,List.getElem?_map] at hj
   cases hr:rows[j]? with
   | none=>rw [hr] at hj;cases hj
   | some r=>exact hg j (nlV r) (by rw [List.getElem?_map,hr];rfl)
  ·rw [flat_fz1,List.getElem?_map] at hj
   cases hr:rows[j]? with
   | none=>rw [hr] at hj;cases hj
   | some r =>
    rw [hr] at hj
    cases hj
    have:=hc j (nlV r) (by rw [List.getElem?_map,hr];rfl)
    unfold nlV at this
    split at this
    ·rename_i h0
     subst h0
     generalize g j=x at this
     cases this
     exact .fz0 _ _ _ (Nat.zero_le _)
    ·exact this
theorem Good.nl2 {P:Program} {f:FuncId} {rows:List (List FV)} {r:FV} (h:Good P f [.fz 1 (rows.map (FV.fz 1)),.fz 1 (rows.map (FV.fz 1))] r):Good P f [.fz 1 (rows.map nlV),.fz 1 (rows.map nlV)] r :=
 ⟨h.1,fun w G ys h1 h2 h3=>h.2 w G ys h1 h2 ⟨h3.1,fun j c hj=>by
  match j,hj with
  | 0,hj=>cases hj;exact (h3.2 0 _ rfl).nl
  | 1,hj=>cases hj;exact (h3.2 1 _ rfl).nl
  | j+2,hj=>simp at hj⟩⟩
def vlB (n:Nat):List ByteArray:=(List.range n).map (nmd 118)
theorem vls_B (n:Nat):vls n=(vlB n).map St:=by unfold vls vlB;rw [List.map_map];rfl
def vsT (n k t:Nat):List (ByteArray × List ByteArray):=(List.range t).flatMap fun i=>[(nmd 115 i,vlB n),(nmd 111 i,vlB k)]
theorem vrT_vs (n k t:Nat):vrT n k t=(vsT n k t).map varF:=by
 unfold vrT vsT
 rw [List.map_flatMap]
 refine congrArg (fun f=>(List.range t).flatMap f) (funext fun i=>?_)
 show vr2 n k i=[varF _,varF _]
 unfold vr2 varF
 rw [vls_B,vls_B]
def paI (t:Nat):List (List Int):=(List.range t).flatMap fun i:Nat=>if i=0 then [[],[0]] else [[2*(i:Int)-2],[2*(i:Int)]]
theorem paT_pa (t:Nat):paT t=((paI t).map fun l=>l.map I).map nlV:=by
 unfold paT paI
 rw [List.map_flatMap,List.map_flatMap]
 refine congrArg (fun f=>(List.range t).flatMap f) (funext fun i=>?_)
 unfold pa2
 split<;>rfl
def roQ (st:List Rat) (mv sh:List (List Rat)) (t:Nat):List (List Rat):=(List.range t).flatMap fun i=>[if i=0 then [st].flatten else mv.flatten,sh.flatten]
theorem roT_q (st:List Rat) (mv sh:List (List Rat)) (t:Nat):roT st mv sh t=(roQ st mv sh t).map frs:=by
 unfold roT roQ
 rw [List.map_flatMap]
 refine congrArg (fun f=>(List.range t).flatMap f) (funext fun i=>?_)
 unfold ro2
 split<;>rfl
theorem same_net {n k t:Nat} {st:List Rat} {mv sh:List (List Rat)} (hn:n≤4) (hk:k≤4) (ht:t≤4) (hm:mv.length≤4) (hs:sh.length≤4) (hst:st.length≤4) (hmr:∀r∈mv,r.length≤4) (hsr:∀r∈sh,r.length≤4) :
  Good Tryz.prog 23 [netF n k t st mv sh,netF n k t st mv sh] (Bo true):=by
 have l1:(vsT n k t).length=2*t:=by have:=vrT_len (n:=n) (k:=k) (t:=t);rw [vrT_vs,List.length_map] at this;exact this
 have l2:(paI t).length=2*t:=by have:=paT_len (t:=t);rw [paT_pa,List.length_map,List.length_map] at this;exact this
 have l3:(roQ st mv sh t).length=2*t:=by have:=roT_len (st:=st) (mv:=mv) (sh:=sh) (t:=t);rw [roT_q,List.length_map] at this;exact this
 have fl:∀{l:List (List Rat)},l.length≤4→(∀r∈l,r.length≤4)→l.flatten.length≤16:=fun {l} h1 h2=>by
  have:=fl1_len (l:=l) (i:=l.length) (j:=0) h2 (Nat.le_refl _)
  rw [fl1_end] at this
  unfold flF at this
  rw [List.length_map] at this
  omega
 have hP:=sameLists_w (paI t) (by omega) (fun r hr=>by
  obtain ⟨i,_,hi⟩:=List.mem_flatMap.1 hr
  split at hi<;>simp only [List.mem_cons,List.not_mem_nil,or_false] at hi<;>rcases hi with rfl|rfl<;>simp)
 have hP2:Good Tryz.prog 59 [.fz 1 (((paI t).map fun l=>l.map I).map (FV.fz 1)),.fz 1 (((paI t).map fun l=>l.map I).map (FV.fz 1))] (Bo true):=by rw [List.map_map];exact hP
 have hP3:=hP2.nl2
 rw [←paT_pa] at hP3
 have hR:=sameRows_w (roQ st mv sh t) (by omega) (fun r hr=>by
  obtain ⟨i,_,hi⟩:=List.mem_flatMap.1 hr
  simp only [List.mem_cons,List.not_mem_nil,or_false] at hi
  rcases hi with rfl|rfl
  ·split
   ·simp;omega
   ·have:=fl hm hmr;omega
  ·have:=fl hs hsr;omega)
 rw [←roT_q] at hR
 have h:=sameNet_w (vsT n k t) (paT t) (roT st mv sh t) (by omega) (fun v hv=>by
  obtain ⟨i,_,hi⟩:=List.mem_flatMap.1 hv
  simp only [List.mem_cons,List.not_mem_nil,or_false] at hi
  rcases hi with rfl|rfl<;>simp [vlB]<;>omega) hP3 hR
 rw [←vrT_vs] at h
 exact h
set_option maxRecDepth 100000 in
set_option maxHeartbeats 4000000 in
theorem same_net0:Good Tryz.prog 23 [net0,net0] (Bo true):=by
 have hP:=sameLists_w [] (by simp) (fun r hr=>by cases hr)
 have hR:=sameRows_w [] (by simp) (fun r hr=>by cases hr)
 have e:net0=.agg [.v (.slice none 0 0),.v (.slice none 0 0),.v (.slice none 0 0)]:=rfl
 rw [e]
 refine good_of Tryz.func23 rfl (by kernel_rfl) fun X hO hrd=>?_;rw [Tryz.ntmps23,Tryz.results23];simp only [ast0,List.map_cons,List.map_nil,List.length_cons,List.length_nil,Nat.reduceAdd,Nat.reduceSub,List.replicate_succ,List.replicate_zero,List.cons_append,List.nil_append]
 (repeat (with_reducible first|refine W_seq fun K hK=>?_|refine J_region ?_ |(refine Kont.go (by assumption) ?_)|(simp (config:={ maxSteps:=3000000 }) (disch:=omega) only [go_sem,↓reduceIte,Nat.reduceAdd,true_and])))
 refine call_ff (vs:=[_,_]) hP (FrzL.cons (.nil _) (FrzL.cons (.nil _) (FrzL.nil _))) ?_
 (repeat (with_reducible first|(simp (config:={ maxSteps:=3000000 }) (disch:=omega) only [go_sem,↓reduceIte])))
 refine call_ff (vs:=[_,_]) hR (FrzL.cons (.nil _) (FrzL.cons (.nil _) (FrzL.nil _))) ?_
 (repeat (with_reducible first|refine W_seq fun K hK=>?_|refine J_block ?_|refine J_skip ?_|refine J_region ?_ |refine J_c ?_|refine Jc_false ?_|(refine Kont.go (by assumption) ?_)|(simp (config:={ maxSteps:=3000000 }) (disch:=omega) only [go_sem])))
 refine W_loop [4,5,29,30,31,32,33,34,35,36,37,38,39,40,41,42,43,44,45,46,47,48,49,50,51,52,53,54,55,56,57,58,59,60,61,62,63,64] (fun x:Nat=>[(5,.f (I 0))]) (fun x:Nat=>[some ⟨44,3,[.f (.agg [.v (.slice none 0 0),.v (.slice none 0 0),.v (.slice none 0 0)])]⟩,some ⟨44,3,[.f (.agg [.v (.slice none 0 0),.v (.slice none 0 0),.v (.slice none 0 0)])]⟩]) (fun x:Nat=>True) (fun x:Nat=>0) (0) (trivial) (by refine weak_of ?_ ?_<;>simp (disch:=omega) only [go_sem,Nat.reduceAdd]<;>first|rfl|exact ⟨rfl,rfl⟩|exact Or.inl rfl|exact ⟨Or.inl rfl,Or.inl rfl⟩|trivial|assumption|omega|(symm;assumption)|((repeat' apply And.intro)<;>first|rfl|omega|trivial|exact .inl rfl|exact .inr ⟨rfl,rfl⟩|exact .inr rfl|(right;symm;assumption)|(symm;assumption)|assumption)) ?_
 rintro i _
 simp only [go_sem,Nat.reduceLT]
 (repeat (with_reducible first|refine W_seq fun K hK=>?_|refine J_exit ?_|refine J_ret ?_|refine J_region ?_ |refine J_c ?_|refine Jc_false ?_|exact Frz.f _|(refine Kont.go (by assumption) ?_)|(simp (config:={ maxSteps:=3000000 }) (disch:=omega) only [go_sem,↓reduceIte])))
end Go.Proofs.YtfjgijkhmhhkdaaGreatDoor
set_option linter.unusedVariables false
set_option linter.unusedSimpArgs false
namespace Go.Proofs.YtfjgijkhmhhkdaaGreatDoor
open Go Go.RowKit
theorem getD_nonneg {l:List Rat} (h:∀q∈l,0≤q) (i:Nat):0≤l.getD i 0:=by
 by_cases hi:i<l.length
 ·rw [lget_lt l 0 hi];exact h _ (List.getElem_mem hi)
 ·rw [List.getD_eq_getElem?_getD,List.getElem?_eq_none (by omega)];exact Rat.le_refl
theorem chances_nn {l:List Rat} (h:chancesB l=true):∀q∈l,0≤q:=(of_decide_eq_true h).1
theorem at2_nonneg {q:List (List Rat)} (h:∀i,i<q.length→chancesB (q.getD i [])=true) (i k:Nat):0≤at2 q i k:=by
 unfold at2
 by_cases hi:i<q.length
 ·exact getD_nonneg (chances_nn (h i hi)) k
 ·rw [List.getD_eq_getElem?_getD (l:=q),List.getElem?_eq_none (by omega)]
  exact getD_nonneg (fun q hq=>by cases hq) k
theorem hm_ok {st:List Rat} {mv sh:List (List Rat)} {seen:List Int} (h:mayE st mv sh seen=0):(hm st mv sh seen).Ok:=by
 have h0:hidE st mv sh=0:=by
  unfold mayE at h
  split at h
  ·rename_i h1;exact absurd h h1
  ·rename_i h1;exact Classical.not_not.1 h1
 obtain ⟨_,_,a3,a4,_,_,_,a8,a9⟩:=hidE_ok h0
 exact ⟨fun i=>getD_nonneg (chances_nn a8) i,fun i k=>at2_nonneg (fun j hj=>(a9 j (by omega)).1) i k,fun i k=>at2_nonneg (fun j hj=>(a9 j (by omega)).2) i k⟩
end Go.Proofs.YtfjgijkhmhhkdaaGreatDoor
set_option linter.unusedVariables false
set_option linter.unusedSimpArgs false
namespace Go.Proofs.YtfjgijkhmhhkdaaGreatDoor
open Go Go.RowKit
theorem eqR_nn:eqR false ⟨#[]⟩ ⟨#[]⟩ false ⟨#[]⟩ ⟨#[]⟩=true:=by decide
set_option maxRecDepth 100000 in
theorem noughtN_w:Good Tryz.prog 37 [frN] (Bo true):=by
 refine good_of Tryz.func37 rfl (by kernel_rfl) fun X hO hrd=>?_;rw [Tryz.ntmps37,Tryz.results37];simp only [ast0,List.map_cons,List.map_nil,List.length_cons,List.length_nil,Nat.reduceAdd,Nat.reduceSub,List.replicate_succ,List.replicate_zero,List.cons_append,List.nil_append]
 (repeat (with_reducible first|refine W_seq fun K hK=>?_|refine J_ret ?_|refine J_region ?_ |refine J_drawn mixed (by kernel_rfl) ?_|exact Frz.f _|(refine Kont.go (by assumption) ?_)|(simp (config:={ maxSteps:=3000000 }) (disch:=omega) only [go_sem,↓reduceIte,Nat.reduceAdd,eqR_nn,true_and,and_self])))
set_option maxRecDepth 100000 in
theorem oneFracN_err {e:Int} (he:e≠0):Good Tryz.prog 10 [frN,I e,frN,I e] (Bo true):=by
 refine good_of Tryz.func10 rfl (by kernel_rfl) fun X hO hrd=>?_;rw [Tryz.ntmps10,Tryz.results10];simp only [ast0,List.map_cons,List.map_nil,List.length_cons,List.length_nil,Nat.reduceAdd,Nat.reduceSub,List.replicate_succ,List.replicate_zero,List.cons_append,List.nil_append]
 (repeat (with_reducible first|refine W_seq fun K hK=>?_|refine J_region ?_ |(refine Kont.go (by assumption) ?_)|(simp (config:={ maxSteps:=3000000 }) (disch:=omega) only [go_sem,↓reduceIte,Nat.reduceAdd,he])))
 refine call_f noughtN_w rfl ?_
 (repeat (with_reducible first|refine J_ret ?_|exact Frz.f _|(refine Kont.go (by assumption) ?_)|(simp (config:={ maxSteps:=3000000 }) (disch:=omega) only [go_sem])))
set_option maxRecDepth 100000 in
theorem oneFracN_ok {q:Rat}:Good Tryz.prog 10 [fr q,I 0,fr q,I 0] (Bo true):=by
 refine good_of Tryz.func10 rfl (by kernel_rfl) fun X hO hrd=>?_;rw [Tryz.ntmps10,Tryz.results10];simp only [ast0,List.map_cons,List.map_nil,List.length_cons,List.length_nil,Nat.reduceAdd,Nat.reduceSub,List.replicate_succ,List.replicate_zero,List.cons_append,List.nil_append]
 (repeat (with_reducible first|refine W_seq fun K hK=>?_|refine J_ret ?_|refine J_region ?_ |exact Frz.f _|(refine Kont.go (by assumption) ?_)|(simp (config:={ maxSteps:=3000000 }) (disch:=omega) only [go_sem,↓reduceIte,Nat.reduceAdd,decide_true])))
end Go.Proofs.YtfjgijkhmhhkdaaGreatDoor
