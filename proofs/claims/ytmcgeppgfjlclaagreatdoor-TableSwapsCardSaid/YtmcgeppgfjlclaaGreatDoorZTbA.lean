/- Tables: Fit, rising, Count, count, Check: walked, the program's way and the document's. Conditions: what slices may hold. -/
import Derived.Test.YtmcgeppgfjlclaaGreatDoorZB11
set_option linter.unusedVariables false
set_option linter.unusedSimpArgs false
namespace Go.Proofs.YtmcgeppgfjlclaaGreatDoor
open Go Go.RowKit
theorem fitB_iff {s:List Int}:fitB s=true↔(1≤s.length∧s.length≤8)∧∀j,j<s.length→1≤s.getD j 0∧s.getD j 0≤4:=by
 unfold fitB
 rw [Bool.and_eq_true,decide_eq_true_iff,List.all_eq_true]
 refine ⟨fun ⟨h,ha⟩=>⟨h,fun j hj=>?_⟩,fun ⟨h,ha⟩=>⟨h,fun x hx=>?_⟩⟩
 ·rw [lget_lt s 0 hj];exact of_decide_eq_true (ha _ (List.getElem_mem _))
 ·obtain ⟨j,hj,rfl⟩:=List.getElem_of_mem hx
  have:=ha j hj
  rw [lget_lt s 0 hj] at this
  exact decide_eq_true this
theorem fitB_no {s:List Int} (h:¬((1≤s.length∧s.length≤8)∧∀j,j<s.length→1≤s.getD j 0∧s.getD j 0≤4)):fitB s=false:=by
 cases hb:fitB s with
 | false=>rfl
 | true=>exact absurd (fitB_iff.1 hb) h
set_option maxRecDepth 100000 in
set_option maxHeartbeats 4000000 in
theorem fit_w (s:List Int) (hs:s.length≤140737488355328):Good Tryz.prog 86 [ints s] (Bo (fitB s)):=by
 refine good_of Tryz.func86 rfl (by kernel_rfl) fun X hO hrd=>?_;rw [Tryz.ntmps86,Tryz.results86];simp only [ast0,List.map_cons,List.map_nil,List.length_cons,List.length_nil,Nat.reduceAdd,Nat.reduceSub,List.replicate_succ,List.replicate_zero,List.cons_append,List.nil_append]
 (repeat (first|(with_reducible first|refine W_seq fun K hK=>?_|refine J_block ?_|refine J_skip ?_|refine J_exit ?_|refine J_ret ?_|refine J_region ?_ |refine J_drawn mixed (by kernel_rfl) ?_|refine aApp_sl ?_|refine aApp_old ?_|refine J_c ?_|refine Jc_true ?_|refine Jc_false ?_|exact Frz.f _|(refine Kont.go (by assumption) ?_)|(simp (config:={ maxSteps:=3000000 }) (disch:=omega) only [go_sem,Nat.reduceEqDiff,↓reduceIte,Nat.reduceAdd,Nat.reduceLT,Nat.reduceLeDiff,Int.reduceLT,Int.reduceLE,Int.reduceEq,Int.reduceNe,Int.reduceAdd,Int.reduceSub,Int.reduceMul,Int.reduceNeg,Int.reduceToNat,List.length_map]))|refine And.intro (by omega) ?_|refine And.intro (And.intro (by omega) (by omega)) ?_))
 refine W_loop [2,4,7,8,9,10,11,12,13,14,15,16,17] (fun x:Nat=>[(7,.f (I x))]) (fun x:Nat=>[]) (fun x:Nat=>x≤s.length∧∀j,j<x→1≤s.getD j 0∧s.getD j 0≤4) (fun x:Nat=>s.length-x) (0) (⟨Nat.zero_le _,fun j h=>by omega⟩) (by refine weak_of ?_ ?_<;>simp (disch:=omega) only [go_sem,Nat.reduceAdd,Nat.reduceLT,Nat.reduceEqDiff]<;>first|rfl|exact ⟨rfl,rfl⟩|exact Or.inl rfl|exact ⟨Or.inl rfl,Or.inl rfl⟩|trivial|assumption|omega|(symm;assumption)|((repeat' apply And.intro)<;>first|rfl|omega|trivial|exact .inl rfl|exact .inr ⟨rfl,rfl⟩|exact .inr rfl|(right;symm;assumption)|(symm;assumption)|assumption)) ?_
 rintro x ⟨hx,hp⟩
 simp only [go_sem,Nat.reduceAdd,Nat.reduceLT,Nat.reduceEqDiff]
 (repeat (first|(with_reducible first|refine W_seq fun K hK=>?_|refine J_block ?_|refine J_skip ?_|refine J_exit ?_|refine J_ret ?_|refine J_region ?_ |refine J_drawn mixed (by kernel_rfl) ?_|refine aApp_sl ?_|refine aApp_old ?_|refine J_c ?_|refine Jc_true ?_|refine Jc_false ?_|exact Frz.f _|(refine Kont.go (by assumption) ?_)|(simp (config:={ maxSteps:=3000000 }) (disch:=omega) only [go_sem,Nat.reduceEqDiff,↓reduceIte,Nat.reduceAdd,Nat.reduceLT,Nat.reduceLeDiff,Int.reduceLT,Int.reduceLE,Int.reduceEq,Int.reduceNe,Int.reduceAdd,Int.reduceSub,Int.reduceMul,Int.reduceNeg,Int.reduceToNat,List.length_map]))|refine And.intro (by omega) ?_|refine And.intro (And.intro (by omega) (by omega)) ?_))
 refine Jc_if (fun hxl=>?_) (fun hxl=>?_)<;>try simp only [decide_eq_true_eq,decide_eq_false_iff_not,Bool.not_eq_true',Bool.not_eq_false',Bool.not_true,Bool.not_false,Int.ofNat_lt,Int.ofNat_le,Int.natCast_inj,Classical.not_not] at hxl
 ·have g1:=map_get I s hxl
  have g3:s.getD x 0=s[x]:=lget_lt s 0 hxl
  by_cases c1:s[x]<1
  ·have e:fitB s=false:=fitB_no fun h=>by have:=(h.2 x hxl).1;omega
   (repeat (first|(with_reducible first|refine W_seq fun K hK=>?_|refine J_block ?_|refine J_skip ?_|refine J_exit ?_|refine J_ret ?_|refine J_region ?_ |refine J_drawn mixed (by kernel_rfl) ?_|refine aApp_sl ?_|refine aApp_old ?_|refine J_c ?_|refine Jc_true ?_|refine Jc_false ?_|exact Frz.f _|(refine Kont.go (by assumption) ?_)|(simp (config:={ maxSteps:=3000000 }) (disch:=omega) only [go_sem,Nat.reduceEqDiff,↓reduceIte,Nat.reduceAdd,Nat.reduceLT,Nat.reduceLeDiff,Int.reduceLT,Int.reduceLE,Int.reduceEq,Int.reduceNe,Int.reduceAdd,Int.reduceSub,Int.reduceMul,Int.reduceNeg,Int.reduceToNat,List.length_map,g1,c1]))|refine And.intro (by omega) ?_|refine And.intro (And.intro (by omega) (by omega)) ?_))
   rw [e]
   exact Frz.f _
  ·by_cases c2:4<s[x]
   ·have e:fitB s=false:=fitB_no fun h=>by have:=(h.2 x hxl).2;omega
    (repeat (first|(with_reducible first|refine W_seq fun K hK=>?_|refine J_block ?_|refine J_skip ?_|refine J_exit ?_|refine J_ret ?_|refine J_region ?_ |refine J_drawn mixed (by kernel_rfl) ?_|refine aApp_sl ?_|refine aApp_old ?_|refine J_c ?_|refine Jc_true ?_|refine Jc_false ?_|exact Frz.f _|(refine Kont.go (by assumption) ?_)|(simp (config:={ maxSteps:=3000000 }) (disch:=omega) only [go_sem,Nat.reduceEqDiff,↓reduceIte,Nat.reduceAdd,Nat.reduceLT,Nat.reduceLeDiff,Int.reduceLT,Int.reduceLE,Int.reduceEq,Int.reduceNe,Int.reduceAdd,Int.reduceSub,Int.reduceMul,Int.reduceNeg,Int.reduceToNat,List.length_map,g1,c1,c2]))|refine And.intro (by omega) ?_|refine And.intro (And.intro (by omega) (by omega)) ?_))
    rw [e]
    exact Frz.f _
   ·(repeat (first|(with_reducible first|refine W_seq fun K hK=>?_|refine J_block ?_|refine J_skip ?_|refine J_exit ?_|refine J_ret ?_|refine J_region ?_ |refine J_drawn mixed (by kernel_rfl) ?_|refine aApp_sl ?_|refine aApp_old ?_|refine J_c ?_|refine Jc_true ?_|refine Jc_false ?_|exact Frz.f _|(refine Kont.go (by assumption) ?_)|(simp (config:={ maxSteps:=3000000 }) (disch:=omega) only [go_sem,Nat.reduceEqDiff,↓reduceIte,Nat.reduceAdd,Nat.reduceLT,Nat.reduceLeDiff,Int.reduceLT,Int.reduceLE,Int.reduceEq,Int.reduceNe,Int.reduceAdd,Int.reduceSub,Int.reduceMul,Int.reduceNeg,Int.reduceToNat,List.length_map,g1,c1,c2]))|refine And.intro (by omega) ?_|refine And.intro (And.intro (by omega) (by omega)) ?_))
    refine ⟨x+1,⟨by omega,upto_next (p:=fun j=>1≤s.getD j 0∧s.getD j 0≤4) hp ⟨by omega,by omega⟩⟩,by omega,weak_of ?_ ?_⟩<;>(try simp (disch:=omega) only [go_sem,Nat.reduceAdd,Nat.reduceLT,Nat.reduceEqDiff])<;>(try first|done|omega|rfl|exact ⟨rfl,rfl⟩|trivial)
 ·have he:x=s.length:=by omega
  subst he
  by_cases h1:(1:Int)≤(s.length:Int)
  ·by_cases h8:(s.length:Int)≤8
   ·have e:fitB s=true:=fitB_iff.2 ⟨⟨by omega,by omega⟩,hp⟩
    (repeat (first|(with_reducible first|refine W_seq fun K hK=>?_|refine J_block ?_|refine J_skip ?_|refine J_exit ?_|refine J_ret ?_|refine J_region ?_ |refine J_drawn mixed (by kernel_rfl) ?_|refine aApp_sl ?_|refine aApp_old ?_|refine J_c ?_|refine Jc_true ?_|refine Jc_false ?_|exact Frz.f _|(refine Kont.go (by assumption) ?_)|(simp (config:={ maxSteps:=3000000 }) (disch:=omega) only [go_sem,Nat.reduceEqDiff,↓reduceIte,Nat.reduceAdd,Nat.reduceLT,Nat.reduceLeDiff,Int.reduceLT,Int.reduceLE,Int.reduceEq,Int.reduceNe,Int.reduceAdd,Int.reduceSub,Int.reduceMul,Int.reduceNeg,Int.reduceToNat,List.length_map,h1,h8]))|refine And.intro (by omega) ?_|refine And.intro (And.intro (by omega) (by omega)) ?_))
    rw [e]
    exact Frz.f _
   ·have e:fitB s=false:=fitB_no fun h=>by omega
    (repeat (first|(with_reducible first|refine W_seq fun K hK=>?_|refine J_block ?_|refine J_skip ?_|refine J_exit ?_|refine J_ret ?_|refine J_region ?_ |refine J_drawn mixed (by kernel_rfl) ?_|refine aApp_sl ?_|refine aApp_old ?_|refine J_c ?_|refine Jc_true ?_|refine Jc_false ?_|exact Frz.f _|(refine Kont.go (by assumption) ?_)|(simp (config:={ maxSteps:=3000000 }) (disch:=omega) only [go_sem,Nat.reduceEqDiff,↓reduceIte,Nat.reduceAdd,Nat.reduceLT,Nat.reduceLeDiff,Int.reduceLT,Int.reduceLE,Int.reduceEq,Int.reduceNe,Int.reduceAdd,Int.reduceSub,Int.reduceMul,Int.reduceNeg,Int.reduceToNat,List.length_map,h1,h8]))|refine And.intro (by omega) ?_|refine And.intro (And.intro (by omega) (by omega)) ?_))
    rw [e]
    exact Frz.f _
  ·have e:fitB s=false:=fitB_no fun h=>by omega
   (repeat (first|(with_reducible first|refine W_seq fun K hK=>?_|refine J_block ?_|refine J_skip ?_|refine J_exit ?_|refine J_ret ?_|refine J_region ?_ |refine J_drawn mixed (by kernel_rfl) ?_|refine aApp_sl ?_|refine aApp_old ?_|refine J_c ?_|refine Jc_true ?_|refine Jc_false ?_|exact Frz.f _|(refine Kont.go (by assumption) ?_)|(simp (config:={ maxSteps:=3000000 }) (disch:=omega) only [go_sem,Nat.reduceEqDiff,↓reduceIte,Nat.reduceAdd,Nat.reduceLT,Nat.reduceLeDiff,Int.reduceLT,Int.reduceLE,Int.reduceEq,Int.reduceNe,Int.reduceAdd,Int.reduceSub,Int.reduceMul,Int.reduceNeg,Int.reduceToNat,List.length_map,h1]))|refine And.intro (by omega) ?_|refine And.intro (And.intro (by omega) (by omega)) ?_))
   rw [e]
   exact Frz.f _
set_option maxRecDepth 100000 in
set_option maxHeartbeats 4000000 in
theorem rfit_w (s:List Int) (hs:s.length≤140737488355328):Good Tryz.prog 54 [ints s] (Bo (fitB s)):=by
 refine good_of Tryz.func54 rfl (by kernel_rfl) fun X hO hrd=>?_;rw [Tryz.ntmps54,Tryz.results54];simp only [ast0,List.map_cons,List.map_nil,List.length_cons,List.length_nil,Nat.reduceAdd,Nat.reduceSub,List.replicate_succ,List.replicate_zero,List.cons_append,List.nil_append]
 by_cases h1:(s.length:Int)<1
 ·have e:fitB s=false:=fitB_no fun h=>by omega
  (repeat (first|(with_reducible first|refine W_seq fun K hK=>?_|refine J_block ?_|refine J_skip ?_|refine J_exit ?_|refine J_ret ?_|refine J_region ?_ |refine J_drawn mixed (by kernel_rfl) ?_|refine aApp_sl ?_|refine aApp_old ?_|refine J_c ?_|refine Jc_true ?_|refine Jc_false ?_|exact Frz.f _|(refine Kont.go (by assumption) ?_)|(simp (config:={ maxSteps:=3000000 }) (disch:=omega) only [go_sem,Nat.reduceEqDiff,↓reduceIte,Nat.reduceAdd,Nat.reduceLT,Nat.reduceLeDiff,Int.reduceLT,Int.reduceLE,Int.reduceEq,Int.reduceNe,Int.reduceAdd,Int.reduceSub,Int.reduceMul,Int.reduceNeg,Int.reduceToNat,List.length_map,h1]))|refine And.intro (by omega) ?_|refine And.intro (And.intro (by omega) (by omega)) ?_))
  rw [e]
  exact Frz.f _
 by_cases h8:8<(s.length:Int)
 ·have e:fitB s=false:=fitB_no fun h=>by omega
  (repeat (first|(with_reducible first|refine W_seq fun K hK=>?_|refine J_block ?_|refine J_skip ?_|refine J_exit ?_|refine J_ret ?_|refine J_region ?_ |refine J_drawn mixed (by kernel_rfl) ?_|refine aApp_sl ?_|refine aApp_old ?_|refine J_c ?_|refine Jc_true ?_|refine Jc_false ?_|exact Frz.f _|(refine Kont.go (by assumption) ?_)|(simp (config:={ maxSteps:=3000000 }) (disch:=omega) only [go_sem,Nat.reduceEqDiff,↓reduceIte,Nat.reduceAdd,Nat.reduceLT,Nat.reduceLeDiff,Int.reduceLT,Int.reduceLE,Int.reduceEq,Int.reduceNe,Int.reduceAdd,Int.reduceSub,Int.reduceMul,Int.reduceNeg,Int.reduceToNat,List.length_map,h1,h8]))|refine And.intro (by omega) ?_|refine And.intro (And.intro (by omega) (by omega)) ?_))
  rw [e]
  exact Frz.f _
 (repeat (first|(with_reducible first|refine W_seq fun K hK=>?_|refine J_block ?_|refine J_skip ?_|refine J_exit ?_|refine J_ret ?_|refine J_region ?_ |refine J_drawn mixed (by kernel_rfl) ?_|refine aApp_sl ?_|refine aApp_old ?_|refine J_c ?_|refine Jc_true ?_|refine Jc_false ?_|exact Frz.f _|(refine Kont.go (by assumption) ?_)|(simp (config:={ maxSteps:=3000000 }) (disch:=omega) only [go_sem,Nat.reduceEqDiff,↓reduceIte,Nat.reduceAdd,Nat.reduceLT,Nat.reduceLeDiff,Int.reduceLT,Int.reduceLE,Int.reduceEq,Int.reduceNe,Int.reduceAdd,Int.reduceSub,Int.reduceMul,Int.reduceNeg,Int.reduceToNat,List.length_map,h1,h8]))|refine And.intro (by omega) ?_|refine And.intro (And.intro (by omega) (by omega)) ?_))
 refine W_loop [2,3,12,13,14,15,16,17,18,19,20,21,22,23,24,25,26,27,28,29] (fun x:Nat=>[(3,.f (I x))]) (fun x:Nat=>[]) (fun x:Nat=>x≤s.length∧∀j,j<x→1≤s.getD j 0∧s.getD j 0≤4) (fun x:Nat=>s.length-x) (0) (⟨Nat.zero_le _,fun j h=>by omega⟩) (by refine weak_of ?_ ?_<;>simp (disch:=omega) only [go_sem,Nat.reduceAdd,Nat.reduceLT,Nat.reduceEqDiff]<;>first|rfl|exact ⟨rfl,rfl⟩|exact Or.inl rfl|exact ⟨Or.inl rfl,Or.inl rfl⟩|trivial|assumption|omega|(symm;assumption)|((repeat' apply And.intro)<;>first|rfl|omega|trivial|exact .inl rfl|exact .inr ⟨rfl,rfl⟩|exact .inr rfl|(right;symm;assumption)|(symm;assumption)|assumption)) ?_
 rintro x ⟨hx,hp⟩
 simp only [go_sem,Nat.reduceAdd,Nat.reduceLT,Nat.reduceEqDiff]
 (repeat (first|(with_reducible first|refine W_seq fun K hK=>?_|refine J_block ?_|refine J_skip ?_|refine J_exit ?_|refine J_ret ?_|refine J_region ?_ |refine J_drawn mixed (by kernel_rfl) ?_|refine aApp_sl ?_|refine aApp_old ?_|refine J_c ?_|refine Jc_true ?_|refine Jc_false ?_|exact Frz.f _|(refine Kont.go (by assumption) ?_)|(simp (config:={ maxSteps:=3000000 }) (disch:=omega) only [go_sem,Nat.reduceEqDiff,↓reduceIte,Nat.reduceAdd,Nat.reduceLT,Nat.reduceLeDiff,Int.reduceLT,Int.reduceLE,Int.reduceEq,Int.reduceNe,Int.reduceAdd,Int.reduceSub,Int.reduceMul,Int.reduceNeg,Int.reduceToNat,List.length_map]))|refine And.intro (by omega) ?_|refine And.intro (And.intro (by omega) (by omega)) ?_))
 refine Jc_if (fun hxl=>?_) (fun hxl=>?_)<;>try simp only [decide_eq_true_eq,decide_eq_false_iff_not,Bool.not_eq_true',Bool.not_eq_false',Bool.not_true,Bool.not_false,Int.ofNat_lt,Int.ofNat_le,Int.natCast_inj,Classical.not_not] at hxl
 ·have g1:=map_get I s hxl
  have g3:s.getD x 0=s[x]:=lget_lt s 0 hxl
  by_cases c1:s[x]<1
  ·have e:fitB s=false:=fitB_no fun h=>by have:=(h.2 x hxl).1;omega
   (repeat (first|(with_reducible first|refine W_seq fun K hK=>?_|refine J_block ?_|refine J_skip ?_|refine J_exit ?_|refine J_ret ?_|refine J_region ?_ |refine J_drawn mixed (by kernel_rfl) ?_|refine aApp_sl ?_|refine aApp_old ?_|refine J_c ?_|refine Jc_true ?_|refine Jc_false ?_|exact Frz.f _|(refine Kont.go (by assumption) ?_)|(simp (config:={ maxSteps:=3000000 }) (disch:=omega) only [go_sem,Nat.reduceEqDiff,↓reduceIte,Nat.reduceAdd,Nat.reduceLT,Nat.reduceLeDiff,Int.reduceLT,Int.reduceLE,Int.reduceEq,Int.reduceNe,Int.reduceAdd,Int.reduceSub,Int.reduceMul,Int.reduceNeg,Int.reduceToNat,List.length_map,g1,c1]))|refine And.intro (by omega) ?_|refine And.intro (And.intro (by omega) (by omega)) ?_))
   rw [e]
   exact Frz.f _
  ·by_cases c2:4<s[x]
   ·have e:fitB s=false:=fitB_no fun h=>by have:=(h.2 x hxl).2;omega
    (repeat (first|(with_reducible first|refine W_seq fun K hK=>?_|refine J_block ?_|refine J_skip ?_|refine J_exit ?_|refine J_ret ?_|refine J_region ?_ |refine J_drawn mixed (by kernel_rfl) ?_|refine aApp_sl ?_|refine aApp_old ?_|refine J_c ?_|refine Jc_true ?_|refine Jc_false ?_|exact Frz.f _|(refine Kont.go (by assumption) ?_)|(simp (config:={ maxSteps:=3000000 }) (disch:=omega) only [go_sem,Nat.reduceEqDiff,↓reduceIte,Nat.reduceAdd,Nat.reduceLT,Nat.reduceLeDiff,Int.reduceLT,Int.reduceLE,Int.reduceEq,Int.reduceNe,Int.reduceAdd,Int.reduceSub,Int.reduceMul,Int.reduceNeg,Int.reduceToNat,List.length_map,g1,c1,c2]))|refine And.intro (by omega) ?_|refine And.intro (And.intro (by omega) (by omega)) ?_))
    rw [e]
    exact Frz.f _
   ·(repeat (first|(with_reducible first|refine W_seq fun K hK=>?_|refine J_block ?_|refine J_skip ?_|refine J_exit ?_|refine J_ret ?_|refine J_region ?_ |refine J_drawn mixed (by kernel_rfl) ?_|refine aApp_sl ?_|refine aApp_old ?_|refine J_c ?_|refine Jc_true ?_|refine Jc_false ?_|exact Frz.f _|(refine Kont.go (by assumption) ?_)|(simp (config:={ maxSteps:=3000000 }) (disch:=omega) only [go_sem,Nat.reduceEqDiff,↓reduceIte,Nat.reduceAdd,Nat.reduceLT,Nat.reduceLeDiff,Int.reduceLT,Int.reduceLE,Int.reduceEq,Int.reduceNe,Int.reduceAdd,Int.reduceSub,Int.reduceMul,Int.reduceNeg,Int.reduceToNat,List.length_map,g1,c1,c2]))|refine And.intro (by omega) ?_|refine And.intro (And.intro (by omega) (by omega)) ?_))
    refine ⟨x+1,⟨by omega,upto_next (p:=fun j=>1≤s.getD j 0∧s.getD j 0≤4) hp ⟨by omega,by omega⟩⟩,by omega,weak_of ?_ ?_⟩<;>(try simp (disch:=omega) only [go_sem,Nat.reduceAdd,Nat.reduceLT,Nat.reduceEqDiff])<;>(try first|done|omega|rfl|exact ⟨rfl,rfl⟩|trivial)
 ·have he:x=s.length:=by omega
  subst he
  have e:fitB s=true:=fitB_iff.2 ⟨⟨by omega,by omega⟩,hp⟩
  (repeat (first|(with_reducible first|refine W_seq fun K hK=>?_|refine J_block ?_|refine J_skip ?_|refine J_exit ?_|refine J_ret ?_|refine J_region ?_ |refine J_drawn mixed (by kernel_rfl) ?_|refine aApp_sl ?_|refine aApp_old ?_|refine J_c ?_|refine Jc_true ?_|refine Jc_false ?_|exact Frz.f _|(refine Kont.go (by assumption) ?_)|(simp (config:={ maxSteps:=3000000 }) (disch:=omega) only [go_sem,Nat.reduceEqDiff,↓reduceIte,Nat.reduceAdd,Nat.reduceLT,Nat.reduceLeDiff,Int.reduceLT,Int.reduceLE,Int.reduceEq,Int.reduceNe,Int.reduceAdd,Int.reduceSub,Int.reduceMul,Int.reduceNeg,Int.reduceToNat]))|refine And.intro (by omega) ?_|refine And.intro (And.intro (by omega) (by omega)) ?_))
  rw [e]
  exact Frz.f _
set_option maxRecDepth 100000 in
set_option maxHeartbeats 4000000 in
theorem trising_w (s l:List Int) (hs:s.length≤140737488355328) (hw:∀x∈l,-9223372036854775808≤x∧x≤9223372036854775807) (hl:l.length≤140737488355328) :
  Good Tryz.prog 53 [ints s,ints l] (Bo (okB s l)):=by
 have hfit:=fit_w s hs
 refine good_of Tryz.func53 rfl (by kernel_rfl) fun X hO hrd=>?_;rw [Tryz.ntmps53,Tryz.results53];simp only [ast0,List.map_cons,List.map_nil,List.length_cons,List.length_nil,Nat.reduceAdd,Nat.reduceSub,List.replicate_succ,List.replicate_zero,List.cons_append,List.nil_append]
 (repeat (first|(with_reducible first|refine W_seq fun K hK=>?_|refine J_block ?_|refine J_skip ?_|refine J_exit ?_|refine J_ret ?_|refine J_region ?_ |refine J_drawn mixed (by kernel_rfl) ?_|refine aApp_sl ?_|refine aApp_old ?_|refine J_c ?_|refine Jc_true ?_|refine Jc_false ?_|exact Frz.f _|(refine Kont.go (by assumption) ?_)|(simp (config:={ maxSteps:=3000000 }) (disch:=omega) only [go_sem,Nat.reduceEqDiff,↓reduceIte,Nat.reduceAdd,Nat.reduceLT,Nat.reduceLeDiff,Int.reduceLT,Int.reduceLE,Int.reduceEq,Int.reduceNe,Int.reduceAdd,Int.reduceSub,Int.reduceMul,Int.reduceNeg,Int.reduceToNat,List.length_map]))|refine And.intro (by omega) ?_|refine And.intro (And.intro (by omega) (by omega)) ?_))
 refine W_loop [4,5,7,10,11,12,13,14,15,16,17,18,19,20,21,22,23,24] (fun x:Nat=>[(5,.f (I (prevI l x))),(10,.f (I x))]) (fun x:Nat=>[]) (fun x:Nat=>x≤l.length∧∀j,j<x→prevI l j<l.getD j 0∧l.getD j 0<(s.length:Int)) (fun x:Nat=>l.length-x) (0) (⟨Nat.zero_le _,fun j h=>by omega⟩) (by refine weak_of ?_ ?_<;>simp (disch:=omega) only [go_sem,Nat.reduceAdd,Nat.reduceLT,Nat.reduceEqDiff]<;>first|rfl|exact ⟨rfl,rfl⟩|exact Or.inl rfl|exact ⟨Or.inl rfl,Or.inl rfl⟩|trivial|assumption|omega|(symm;assumption)|((repeat' apply And.intro)<;>first|rfl|omega|trivial|exact .inl rfl|exact .inr ⟨rfl,rfl⟩|exact .inr rfl|(right;symm;assumption)|(symm;assumption)|assumption)) ?_
 rintro x ⟨hx,hp⟩
 simp only [go_sem,Nat.reduceAdd,Nat.reduceLT,Nat.reduceEqDiff]
 (repeat (first|(with_reducible first|refine W_seq fun K hK=>?_|refine J_block ?_|refine J_skip ?_|refine J_exit ?_|refine J_ret ?_|refine J_region ?_ |refine J_drawn mixed (by kernel_rfl) ?_|refine aApp_sl ?_|refine aApp_old ?_|refine J_c ?_|refine Jc_true ?_|refine Jc_false ?_|exact Frz.f _|(refine Kont.go (by assumption) ?_)|(simp (config:={ maxSteps:=3000000 }) (disch:=omega) only [go_sem,Nat.reduceEqDiff,↓reduceIte,Nat.reduceAdd,Nat.reduceLT,Nat.reduceLeDiff,Int.reduceLT,Int.reduceLE,Int.reduceEq,Int.reduceNe,Int.reduceAdd,Int.reduceSub,Int.reduceMul,Int.reduceNeg,Int.reduceToNat,List.length_map]))|refine And.intro (by omega) ?_|refine And.intro (And.intro (by omega) (by omega)) ?_))
 refine Jc_if (fun hxl=>?_) (fun hxl=>?_)<;>try simp only [decide_eq_true_eq,decide_eq_false_iff_not,Bool.not_eq_true',Bool.not_eq_false',Bool.not_true,Bool.not_false,Int.ofNat_lt,Int.ofNat_le,Int.natCast_inj,Classical.not_not] at hxl
 ·have g1:=map_get I l hxl
  have g2:=prevI_next (l:=l) (x:=x)
  have g3:l.getD x 0=l[x]:=lget_lt l 0 hxl
  have hno:¬(prevI l x<l[x]∧l[x]<(s.length:Int))→okB s l=false:=fun hh=>by
   cases hb:risB s.length l with
   | false=>unfold okB;rw [hb,Bool.and_false]
   | true=>exact absurd (risB_iff.1 hb x hxl) (by rw [g3];exact hh)
  by_cases c1:l[x]≤prevI l x
  ·have e:okB s l=false:=hno fun h=>by omega
   (repeat (first|(with_reducible first|refine W_seq fun K hK=>?_|refine J_block ?_|refine J_skip ?_|refine J_exit ?_|refine J_ret ?_|refine J_region ?_ |refine J_drawn mixed (by kernel_rfl) ?_|refine aApp_sl ?_|refine aApp_old ?_|refine J_c ?_|refine Jc_true ?_|refine Jc_false ?_|exact Frz.f _|(refine Kont.go (by assumption) ?_)|(simp (config:={ maxSteps:=3000000 }) (disch:=omega) only [go_sem,Nat.reduceEqDiff,↓reduceIte,Nat.reduceAdd,Nat.reduceLT,Nat.reduceLeDiff,Int.reduceLT,Int.reduceLE,Int.reduceEq,Int.reduceNe,Int.reduceAdd,Int.reduceSub,Int.reduceMul,Int.reduceNeg,Int.reduceToNat,List.length_map,g1,c1]))|refine And.intro (by omega) ?_|refine And.intro (And.intro (by omega) (by omega)) ?_))
   rw [e]
   exact Frz.f _
  ·by_cases c2:(s.length:Int)≤l[x]
   ·have e:okB s l=false:=hno fun h=>by omega
    (repeat (first|(with_reducible first|refine W_seq fun K hK=>?_|refine J_block ?_|refine J_skip ?_|refine J_exit ?_|refine J_ret ?_|refine J_region ?_ |refine J_drawn mixed (by kernel_rfl) ?_|refine aApp_sl ?_|refine aApp_old ?_|refine J_c ?_|refine Jc_true ?_|refine Jc_false ?_|exact Frz.f _|(refine Kont.go (by assumption) ?_)|(simp (config:={ maxSteps:=3000000 }) (disch:=omega) only [go_sem,Nat.reduceEqDiff,↓reduceIte,Nat.reduceAdd,Nat.reduceLT,Nat.reduceLeDiff,Int.reduceLT,Int.reduceLE,Int.reduceEq,Int.reduceNe,Int.reduceAdd,Int.reduceSub,Int.reduceMul,Int.reduceNeg,Int.reduceToNat,List.length_map,g1,c1,c2]))|refine And.intro (by omega) ?_|refine And.intro (And.intro (by omega) (by omega)) ?_))
    rw [e]
    exact Frz.f _
   ·rw [g3] at g2
    (repeat (first|(with_reducible first|refine W_seq fun K hK=>?_|refine J_block ?_|refine J_skip ?_|refine J_exit ?_|refine J_ret ?_|refine J_region ?_ |refine J_drawn mixed (by kernel_rfl) ?_|refine aApp_sl ?_|refine aApp_old ?_|refine J_c ?_|refine Jc_true ?_|refine Jc_false ?_|exact Frz.f _|(refine Kont.go (by assumption) ?_)|(simp (config:={ maxSteps:=3000000 }) (disch:=omega) only [go_sem,Nat.reduceEqDiff,↓reduceIte,Nat.reduceAdd,Nat.reduceLT,Nat.reduceLeDiff,Int.reduceLT,Int.reduceLE,Int.reduceEq,Int.reduceNe,Int.reduceAdd,Int.reduceSub,Int.reduceMul,Int.reduceNeg,Int.reduceToNat,List.length_map,g1,c1,c2,g2]))|refine And.intro (by omega) ?_|refine And.intro (And.intro (by omega) (by omega)) ?_))
    refine ⟨x+1,⟨by omega,upto_next (p:=fun j=>prevI l j<l.getD j 0∧l.getD j 0<(s.length:Int)) hp ⟨by omega,by omega⟩⟩,by omega,weak_of ?_ ?_⟩<;>(try simp (disch:=omega) only [go_sem,Nat.reduceAdd,Nat.reduceLT,Nat.reduceEqDiff])<;>(try first|done|omega|rfl|exact ⟨rfl,rfl⟩|trivial)
 ·have he:x=l.length:=by omega
  subst he
  have e:okB s l=fitB s:=by unfold okB;rw [risB_iff.2 hp,Bool.and_true]
  (repeat (first|(with_reducible first|refine W_seq fun K hK=>?_|refine J_block ?_|refine J_skip ?_|refine J_exit ?_|refine J_ret ?_|refine J_region ?_ |refine J_drawn mixed (by kernel_rfl) ?_|refine aApp_sl ?_|refine aApp_old ?_|refine J_c ?_|refine Jc_true ?_|refine Jc_false ?_|exact Frz.f _|(refine Kont.go (by assumption) ?_)|(simp (config:={ maxSteps:=3000000 }) (disch:=omega) only [go_sem,Nat.reduceEqDiff,↓reduceIte,Nat.reduceAdd,Nat.reduceLT,Nat.reduceLeDiff,Int.reduceLT,Int.reduceLE,Int.reduceEq,Int.reduceNe,Int.reduceAdd,Int.reduceSub,Int.reduceMul,Int.reduceNeg,Int.reduceToNat]))|refine And.intro (by omega) ?_|refine And.intro (And.intro (by omega) (by omega)) ?_))
  (first|refine call_f (hfit) rfl ?_|refine callQ_f (hfit) rfl ?_|refine callHK_f (hfit) rfl ?_|refine callH_f (hfit) rfl ?_)
  (repeat (first|(with_reducible first|refine W_seq fun K hK=>?_|refine J_block ?_|refine J_skip ?_|refine J_exit ?_|refine J_ret ?_|refine J_region ?_ |refine J_drawn mixed (by kernel_rfl) ?_|refine aApp_sl ?_|refine aApp_old ?_|refine J_c ?_|refine Jc_true ?_|refine Jc_false ?_|exact Frz.f _|(refine Kont.go (by assumption) ?_)|(simp (config:={ maxSteps:=3000000 }) (disch:=omega) only [go_sem,Nat.reduceEqDiff,↓reduceIte,Nat.reduceAdd,Nat.reduceLT,Nat.reduceLeDiff,Int.reduceLT,Int.reduceLE,Int.reduceEq,Int.reduceNe,Int.reduceAdd,Int.reduceSub,Int.reduceMul,Int.reduceNeg,Int.reduceToNat]))|refine And.intro (by omega) ?_|refine And.intro (And.intro (by omega) (by omega)) ?_))
  rw [e]
  exact Frz.f _
set_option maxRecDepth 100000 in
set_option maxHeartbeats 4000000 in
theorem tcount_w {Z l:List Nat} (h:OkT Z l):Good Tryz.prog 45 [.fz 1 (Ns Z),.fz 1 (Ns l)] (I (cntS (szT Z) l:Nat)):=by
 have hl8:=h.len
 refine good_of Tryz.func45 rfl (by kernel_rfl) fun X hO hrd=>?_;rw [Tryz.ntmps45,Tryz.results45];simp only [ast0,List.map_cons,List.map_nil,List.length_cons,List.length_nil,Nat.reduceAdd,Nat.reduceSub,List.replicate_succ,List.replicate_zero,List.cons_append,List.nil_append]
 (repeat (first|(with_reducible first|refine W_seq fun K hK=>?_|refine J_block ?_|refine J_skip ?_|refine J_exit ?_|refine J_ret ?_|refine J_region ?_ |refine J_drawn mixed (by kernel_rfl) ?_|refine aApp_sl ?_|refine aApp_old ?_|refine J_c ?_|refine Jc_true ?_|refine Jc_false ?_|exact Frz.f _|(refine Kont.go (by assumption) ?_)|(simp (config:={ maxSteps:=3000000 }) (disch:=omega) only [go_sem,Nat.reduceEqDiff,↓reduceIte,Nat.reduceAdd,Nat.reduceLT,Nat.reduceLeDiff,Int.reduceLT,Int.reduceLE,Int.reduceEq,Int.reduceNe,Int.reduceAdd,Int.reduceSub,Int.reduceMul,Int.reduceNeg,Int.reduceToNat,Ns_len]))|refine And.intro (by omega) ?_|refine And.intro (And.intro (by omega) (by omega)) ?_))
 refine W_loop [5,7,10,11,12,13,14,15,16,17,18,19,20] (fun x:Nat=>[(5,.f (I (cntS (szT Z) (l.take x):Nat))),(10,.f (I x))]) (fun x:Nat=>[]) (fun x:Nat=>x≤l.length) (fun x:Nat=>l.length-x) (0) (Nat.zero_le _) (by refine weak_of ?_ ?_<;>simp (disch:=omega) only [go_sem,Nat.reduceAdd,Nat.reduceLT,Nat.reduceEqDiff]<;>first|rfl|exact ⟨rfl,rfl⟩|exact Or.inl rfl|exact ⟨Or.inl rfl,Or.inl rfl⟩|trivial|assumption|omega|(symm;assumption)|((repeat' apply And.intro)<;>first|rfl|omega|trivial|exact .inl rfl|exact .inr ⟨rfl,rfl⟩|exact .inr rfl|(right;symm;assumption)|(symm;assumption)|assumption)) ?_
 rintro x hx
 simp only [go_sem,Nat.reduceAdd,Nat.reduceLT,Nat.reduceEqDiff]
 (repeat (first|(with_reducible first|refine W_seq fun K hK=>?_|refine J_block ?_|refine J_skip ?_|refine J_exit ?_|refine J_ret ?_|refine J_region ?_ |refine J_drawn mixed (by kernel_rfl) ?_|refine aApp_sl ?_|refine aApp_old ?_|refine J_c ?_|refine Jc_true ?_|refine Jc_false ?_|exact Frz.f _|(refine Kont.go (by assumption) ?_)|(simp (config:={ maxSteps:=3000000 }) (disch:=omega) only [go_sem,Nat.reduceEqDiff,↓reduceIte,Nat.reduceAdd,Nat.reduceLT,Nat.reduceLeDiff,Int.reduceLT,Int.reduceLE,Int.reduceEq,Int.reduceNe,Int.reduceAdd,Int.reduceSub,Int.reduceMul,Int.reduceNeg,Int.reduceToNat,Ns_len]))|refine And.intro (by omega) ?_|refine And.intro (And.intro (by omega) (by omega)) ?_))
 refine Jc_if (fun hxl=>?_) (fun hxl=>?_)<;>try simp only [decide_eq_true_eq,decide_eq_false_iff_not,Bool.not_eq_true',Bool.not_eq_false',Bool.not_true,Bool.not_false,Int.ofNat_lt,Int.ofNat_le,Int.natCast_inj,Classical.not_not] at hxl
 ·have g1:=Ns_get hxl
  have g2:=Ns_get (l:=Z) (h.get hxl)
  have hz:=h.z8
  have hgl:=h.get hxl
  have hn:=cnt_take (Z:=Z) hxl
  have hb:=(h.ztake (x+1)).cnt
  have e:((cntS (szT Z) (l.take x):Nat):Int)*((Z.getD (l.getD x 0) 0:Nat):Int)=((cntS (szT Z) (l.take (x+1)):Nat):Int):=by rw [hn];show _=((_*_:Nat):Int);rw [Int.natCast_mul];rfl
  (repeat (first|(with_reducible first|refine W_seq fun K hK=>?_|refine J_block ?_|refine J_skip ?_|refine J_exit ?_|refine J_ret ?_|refine J_region ?_ |refine J_drawn mixed (by kernel_rfl) ?_|refine aApp_sl ?_|refine aApp_old ?_|refine J_c ?_|refine Jc_true ?_|refine Jc_false ?_|exact Frz.f _|(refine Kont.go (by assumption) ?_)|(simp (config:={ maxSteps:=3000000 }) (disch:=omega) only [go_sem,Nat.reduceEqDiff,↓reduceIte,Nat.reduceAdd,Nat.reduceLT,Nat.reduceLeDiff,Int.reduceLT,Int.reduceLE,Int.reduceEq,Int.reduceNe,Int.reduceAdd,Int.reduceSub,Int.reduceMul,Int.reduceNeg,Int.reduceToNat,Ns_len,g1,g2,e]))|refine And.intro (by omega) ?_|refine And.intro (And.intro (by omega) (by omega)) ?_))
  refine ⟨x+1,by omega,by omega,weak_of ?_ ?_⟩<;>(try simp (disch:=omega) only [go_sem,Nat.reduceAdd,Nat.reduceLT,Nat.reduceEqDiff])<;>(try first|done|omega|rfl|exact ⟨rfl,rfl⟩|trivial)
 ·have he:x=l.length:=by omega
  subst he
  rw [List.take_length]
  (repeat (first|(with_reducible first|refine W_seq fun K hK=>?_|refine J_block ?_|refine J_skip ?_|refine J_exit ?_|refine J_ret ?_|refine J_region ?_ |refine J_drawn mixed (by kernel_rfl) ?_|refine aApp_sl ?_|refine aApp_old ?_|refine J_c ?_|refine Jc_true ?_|refine Jc_false ?_|exact Frz.f _|(refine Kont.go (by assumption) ?_)|(simp (config:={ maxSteps:=3000000 }) (disch:=omega) only [go_sem,Nat.reduceEqDiff,↓reduceIte,Nat.reduceAdd,Nat.reduceLT,Nat.reduceLeDiff,Int.reduceLT,Int.reduceLE,Int.reduceEq,Int.reduceNe,Int.reduceAdd,Int.reduceSub,Int.reduceMul,Int.reduceNeg,Int.reduceToNat]))|refine And.intro (by omega) ?_|refine And.intro (And.intro (by omega) (by omega)) ?_))
set_option maxRecDepth 100000 in
set_option maxHeartbeats 4000000 in
theorem tcountT_w {Z l:List Nat} (h:OkT Z l):Good Tryz.prog 16 [.fz 1 (Ns Z),.fz 1 (Ns l)] (.tup [I (cntS (szT Z) l:Nat),I 0]):=by
 have hl8:=h.len
 have hz8:=h.z8
 have hr:=trising_w (Z.map Int.ofNat) (l.map Int.ofNat) (by rw [List.length_map];omega) (fun x hx=>by obtain ⟨n,hn,rfl⟩:=List.mem_map.1 hx;have:=h.lt n hn;show _≤(n:Int)∧(n:Int)≤_;omega) (by rw [List.length_map];omega)
 rw [ints_Ns,ints_Ns,okB_of h] at hr
 have hc:=tcount_w h
 refine good_of Tryz.func16 rfl (by kernel_rfl) fun X hO hrd=>?_;rw [Tryz.ntmps16,Tryz.results16];simp only [ast0,List.map_cons,List.map_nil,List.length_cons,List.length_nil,Nat.reduceAdd,Nat.reduceSub,List.replicate_succ,List.replicate_zero,List.cons_append,List.nil_append]
 (repeat (first|(with_reducible first|refine W_seq fun K hK=>?_|refine J_block ?_|refine J_skip ?_|refine J_exit ?_|refine J_ret ?_|refine J_region ?_ |refine J_drawn mixed (by kernel_rfl) ?_|refine aApp_sl ?_|refine aApp_old ?_|refine J_c ?_|refine Jc_true ?_|refine Jc_false ?_|exact Frz.f _|(refine Kont.go (by assumption) ?_)|(simp (config:={ maxSteps:=3000000 }) (disch:=omega) only [go_sem,Nat.reduceEqDiff,↓reduceIte,Nat.reduceAdd,Nat.reduceLT,Nat.reduceLeDiff,Int.reduceLT,Int.reduceLE,Int.reduceEq,Int.reduceNe,Int.reduceAdd,Int.reduceSub,Int.reduceMul,Int.reduceNeg,Int.reduceToNat]))|refine And.intro (by omega) ?_|refine And.intro (And.intro (by omega) (by omega)) ?_))
 (first|refine call_f (hr) rfl ?_|refine callQ_f (hr) rfl ?_|refine callHK_f (hr) rfl ?_|refine callH_f (hr) rfl ?_)
 (repeat (first|(with_reducible first|refine W_seq fun K hK=>?_|refine J_block ?_|refine J_skip ?_|refine J_exit ?_|refine J_ret ?_|refine J_region ?_ |refine J_drawn mixed (by kernel_rfl) ?_|refine aApp_sl ?_|refine aApp_old ?_|refine J_c ?_|refine Jc_true ?_|refine Jc_false ?_|exact Frz.f _|(refine Kont.go (by assumption) ?_)|(simp (config:={ maxSteps:=3000000 }) (disch:=omega) only [go_sem,Nat.reduceEqDiff,↓reduceIte,Nat.reduceAdd,Nat.reduceLT,Nat.reduceLeDiff,Int.reduceLT,Int.reduceLE,Int.reduceEq,Int.reduceNe,Int.reduceAdd,Int.reduceSub,Int.reduceMul,Int.reduceNeg,Int.reduceToNat]))|refine And.intro (by omega) ?_|refine And.intro (And.intro (by omega) (by omega)) ?_))
 (first|refine call_f (hc) rfl ?_|refine callQ_f (hc) rfl ?_|refine callHK_f (hc) rfl ?_|refine callH_f (hc) rfl ?_)
 (repeat (first|(with_reducible first|refine W_seq fun K hK=>?_|refine J_block ?_|refine J_skip ?_|refine J_exit ?_|refine J_ret ?_|refine J_region ?_ |refine J_drawn mixed (by kernel_rfl) ?_|refine aApp_sl ?_|refine aApp_old ?_|refine J_c ?_|refine Jc_true ?_|refine Jc_false ?_|exact Frz.f _|(refine Kont.go (by assumption) ?_)|(simp (config:={ maxSteps:=3000000 }) (disch:=omega) only [go_sem,Nat.reduceEqDiff,↓reduceIte,Nat.reduceAdd,Nat.reduceLT,Nat.reduceLeDiff,Int.reduceLT,Int.reduceLE,Int.reduceEq,Int.reduceNe,Int.reduceAdd,Int.reduceSub,Int.reduceMul,Int.reduceNeg,Int.reduceToNat]))|refine And.intro (by omega) ?_|refine And.intro (And.intro (by omega) (by omega)) ?_))
 exact ⟨_,rfl,FrzL.fs [_,_]⟩
set_option maxRecDepth 100000 in
set_option maxHeartbeats 4000000 in
theorem rcountT_w {Z l:List Nat} (h:OkT Z l):Good Tryz.prog 17 [.fz 1 (Ns Z),.fz 1 (Ns l)] (.tup [I (cntS (szT Z) l:Nat),I 0]):=by
 have hl8:=h.len
 have hz8:=h.z8
 have ho:=okB_of h
 unfold okB at ho
 rw [Bool.and_eq_true] at ho
 have hf:=rfit_w (Z.map Int.ofNat) (by rw [List.length_map];omega)
 have hr:=rising_w (l.map Int.ofNat) (n:=Z.length) (by omega) (fun x hx=>by obtain ⟨n,hn,rfl⟩:=List.mem_map.1 hx;have:=h.lt n hn;show _≤(n:Int)∧(n:Int)≤_;omega) (by rw [List.length_map];omega)
 rw [List.length_map] at ho
 rw [ints_Ns,ho.1] at hf
 rw [ints_Ns,ho.2] at hr
 refine good_of Tryz.func17 rfl (by kernel_rfl) fun X hO hrd=>?_;rw [Tryz.ntmps17,Tryz.results17];simp only [ast0,List.map_cons,List.map_nil,List.length_cons,List.length_nil,Nat.reduceAdd,Nat.reduceSub,List.replicate_succ,List.replicate_zero,List.cons_append,List.nil_append]
 (repeat (first|(with_reducible first|refine W_seq fun K hK=>?_|refine J_block ?_|refine J_skip ?_|refine J_exit ?_|refine J_ret ?_|refine J_region ?_ |refine J_drawn mixed (by kernel_rfl) ?_|refine aApp_sl ?_|refine aApp_old ?_|refine J_c ?_|refine Jc_true ?_|refine Jc_false ?_|exact Frz.f _|(refine Kont.go (by assumption) ?_)|(simp (config:={ maxSteps:=3000000 }) (disch:=omega) only [go_sem,Nat.reduceEqDiff,↓reduceIte,Nat.reduceAdd,Nat.reduceLT,Nat.reduceLeDiff,Int.reduceLT,Int.reduceLE,Int.reduceEq,Int.reduceNe,Int.reduceAdd,Int.reduceSub,Int.reduceMul,Int.reduceNeg,Int.reduceToNat]))|refine And.intro (by omega) ?_|refine And.intro (And.intro (by omega) (by omega)) ?_))
 (first|refine call_f (hf) rfl ?_|refine callQ_f (hf) rfl ?_|refine callHK_f (hf) rfl ?_|refine callH_f (hf) rfl ?_)
 (repeat (first|(with_reducible first|refine W_seq fun K hK=>?_|refine J_block ?_|refine J_skip ?_|refine J_exit ?_|refine J_ret ?_|refine J_region ?_ |refine J_drawn mixed (by kernel_rfl) ?_|refine aApp_sl ?_|refine aApp_old ?_|refine J_c ?_|refine Jc_true ?_|refine Jc_false ?_|exact Frz.f _|(refine Kont.go (by assumption) ?_)|(simp (config:={ maxSteps:=3000000 }) (disch:=omega) only [go_sem,Nat.reduceEqDiff,↓reduceIte,Nat.reduceAdd,Nat.reduceLT,Nat.reduceLeDiff,Int.reduceLT,Int.reduceLE,Int.reduceEq,Int.reduceNe,Int.reduceAdd,Int.reduceSub,Int.reduceMul,Int.reduceNeg,Int.reduceToNat,Ns_len]))|refine And.intro (by omega) ?_|refine And.intro (And.intro (by omega) (by omega)) ?_))
 (first|refine call_f (hr) rfl ?_|refine callQ_f (hr) rfl ?_|refine callHK_f (hr) rfl ?_|refine callH_f (hr) rfl ?_)
 (repeat (first|(with_reducible first|refine W_seq fun K hK=>?_|refine J_block ?_|refine J_skip ?_|refine J_exit ?_|refine J_ret ?_|refine J_region ?_ |refine J_drawn mixed (by kernel_rfl) ?_|refine aApp_sl ?_|refine aApp_old ?_|refine J_c ?_|refine Jc_true ?_|refine Jc_false ?_|exact Frz.f _|(refine Kont.go (by assumption) ?_)|(simp (config:={ maxSteps:=3000000 }) (disch:=omega) only [go_sem,Nat.reduceEqDiff,↓reduceIte,Nat.reduceAdd,Nat.reduceLT,Nat.reduceLeDiff,Int.reduceLT,Int.reduceLE,Int.reduceEq,Int.reduceNe,Int.reduceAdd,Int.reduceSub,Int.reduceMul,Int.reduceNeg,Int.reduceToNat]))|refine And.intro (by omega) ?_|refine And.intro (And.intro (by omega) (by omega)) ?_))
 refine W_loop [8,9,22,23,24,25,26,27,28,29,30,31,32,33,34,35,36] (fun x:Nat=>[(8,.f (I (cntS (szT Z) (l.take x):Nat))),(9,.f (I x))]) (fun x:Nat=>[]) (fun x:Nat=>x≤l.length) (fun x:Nat=>l.length-x) (0) (Nat.zero_le _) (by refine weak_of ?_ ?_<;>simp (disch:=omega) only [go_sem,Nat.reduceAdd,Nat.reduceLT,Nat.reduceEqDiff]<;>first|rfl|exact ⟨rfl,rfl⟩|exact Or.inl rfl|exact ⟨Or.inl rfl,Or.inl rfl⟩|trivial|assumption|omega|(symm;assumption)|((repeat' apply And.intro)<;>first|rfl|omega|trivial|exact .inl rfl|exact .inr ⟨rfl,rfl⟩|exact .inr rfl|(right;symm;assumption)|(symm;assumption)|assumption)) ?_
 rintro x hx
 simp only [go_sem,Nat.reduceAdd,Nat.reduceLT,Nat.reduceEqDiff]
 (repeat (first|(with_reducible first|refine W_seq fun K hK=>?_|refine J_block ?_|refine J_skip ?_|refine J_exit ?_|refine J_ret ?_|refine J_region ?_ |refine J_drawn mixed (by kernel_rfl) ?_|refine aApp_sl ?_|refine aApp_old ?_|refine J_c ?_|refine Jc_true ?_|refine Jc_false ?_|exact Frz.f _|(refine Kont.go (by assumption) ?_)|(simp (config:={ maxSteps:=3000000 }) (disch:=omega) only [go_sem,Nat.reduceEqDiff,↓reduceIte,Nat.reduceAdd,Nat.reduceLT,Nat.reduceLeDiff,Int.reduceLT,Int.reduceLE,Int.reduceEq,Int.reduceNe,Int.reduceAdd,Int.reduceSub,Int.reduceMul,Int.reduceNeg,Int.reduceToNat,Ns_len]))|refine And.intro (by omega) ?_|refine And.intro (And.intro (by omega) (by omega)) ?_))
 refine Jc_if (fun hxl=>?_) (fun hxl=>?_)<;>try simp only [decide_eq_true_eq,decide_eq_false_iff_not,Bool.not_eq_true',Bool.not_eq_false',Bool.not_true,Bool.not_false,Int.ofNat_lt,Int.ofNat_le,Int.natCast_inj,Classical.not_not] at hxl
 ·have g1:=Ns_get hxl
  have g2:=Ns_get (l:=Z) (h.get hxl)
  have hgl:=h.get hxl
  have hn:=cnt_take (Z:=Z) hxl
  have hb:=(h.ztake (x+1)).cnt
  have e:((cntS (szT Z) (l.take x):Nat):Int)*((Z.getD (l.getD x 0) 0:Nat):Int)=((cntS (szT Z) (l.take (x+1)):Nat):Int):=by rw [hn];show _=((_*_:Nat):Int);rw [Int.natCast_mul];rfl
  (repeat (first|(with_reducible first|refine W_seq fun K hK=>?_|refine J_block ?_|refine J_skip ?_|refine J_exit ?_|refine J_ret ?_|refine J_region ?_ |refine J_drawn mixed (by kernel_rfl) ?_|refine aApp_sl ?_|refine aApp_old ?_|refine J_c ?_|refine Jc_true ?_|refine Jc_false ?_|exact Frz.f _|(refine Kont.go (by assumption) ?_)|(simp (config:={ maxSteps:=3000000 }) (disch:=omega) only [go_sem,Nat.reduceEqDiff,↓reduceIte,Nat.reduceAdd,Nat.reduceLT,Nat.reduceLeDiff,Int.reduceLT,Int.reduceLE,Int.reduceEq,Int.reduceNe,Int.reduceAdd,Int.reduceSub,Int.reduceMul,Int.reduceNeg,Int.reduceToNat,Ns_len,g1,g2,e]))|refine And.intro (by omega) ?_|refine And.intro (And.intro (by omega) (by omega)) ?_))
  refine ⟨x+1,by omega,by omega,weak_of ?_ ?_⟩<;>(try simp (disch:=omega) only [go_sem,Nat.reduceAdd,Nat.reduceLT,Nat.reduceEqDiff])<;>(try first|done|omega|rfl|exact ⟨rfl,rfl⟩|trivial)
 ·have he:x=l.length:=by omega
  subst he
  rw [List.take_length]
  (repeat (first|(with_reducible first|refine W_seq fun K hK=>?_|refine J_block ?_|refine J_skip ?_|refine J_exit ?_|refine J_ret ?_|refine J_region ?_ |refine J_drawn mixed (by kernel_rfl) ?_|refine aApp_sl ?_|refine aApp_old ?_|refine J_c ?_|refine Jc_true ?_|refine Jc_false ?_|exact Frz.f _|(refine Kont.go (by assumption) ?_)|(simp (config:={ maxSteps:=3000000 }) (disch:=omega) only [go_sem,Nat.reduceEqDiff,↓reduceIte,Nat.reduceAdd,Nat.reduceLT,Nat.reduceLeDiff,Int.reduceLT,Int.reduceLE,Int.reduceEq,Int.reduceNe,Int.reduceAdd,Int.reduceSub,Int.reduceMul,Int.reduceNeg,Int.reduceToNat]))|refine And.intro (by omega) ?_|refine And.intro (And.intro (by omega) (by omega)) ?_))
  exact ⟨_,rfl,FrzL.fs [_,_]⟩
end Go.Proofs.YtmcgeppgfjlclaaGreatDoor
