/- Tables: Fit, rising, Count, count, Check: walked, the program's way and the document's. Conditions: what slices may hold. -/
import Derived.Test.YthehegidpamldaaGreatDoorZB14
import Derived.Test.YthehegidpamldaaGreatDoorZB06
import Derived.RangeFuncIn
import Derived.RangeFuncRecord
import Derived.RangeFuncSeq
set_option linter.unusedVariables false
set_option linter.unusedSimpArgs false
namespace Go.Proofs.YthehegidpamldaaGreatDoor
open Go Go.RowKit
theorem fitB_iff {s:List Int}:fitB s=true↔(1≤s.length∧s.length≤8)∧∀j,j<s.length→1≤s.getD j 0∧s.getD j 0≤4:=by
 unfold fitB
 rw [Bool.and_eq_true,decide_eq_true_iff,List.all_eq_true]
 refine ⟨fun ⟨h,ha⟩=>⟨h,fun j hj=>?_⟩,fun ⟨h,ha⟩=>⟨h,fun x hx=>?_⟩⟩
 ·rw [lget_lt s 0 hj];exact of_decide_eq_true (ha _ (List.getElem_mem _))
 ·obtain ⟨j,hj,rfl⟩:=List.getElem_of_mem hx
  have:=ha j hj
  rw [lget_lt s 0 hj] at this
  exact decide_eq_true this
theorem fitB_no {s:List Int} (h:¬((1≤s.length∧s.length≤8)∧∀j,j<s.length→1≤s.getD j 0∧s.getD j 0≤4)):fitB s=false:=by
 cases hb:fitB s with
 | false=>rfl
 | true=>exact absurd (fitB_iff.1 hb) h
set_option maxRecDepth 100000 in
set_option maxHeartbeats 4000000 in
theorem fit_w (s:List Int) (hs:s.length≤140737488355328):Good Tryz.prog 122 [ints s] (Bo (fitB s)):=by
 refine good_of Tryz.func122 rfl (by kernel_rfl) fun X hO hrd=>?_;rw [Tryz.ntmps122,Tryz.results122];simp only [ast0,List.map_cons,List.map_nil,List.length_cons,List.length_nil,Nat.reduceAdd,Nat.reduceSub,List.replicate_succ,List.replicate_zero,List.cons_append,List.nil_append]
 (repeat (with_reducible first|refine W_seq fun K hK=>?_|refine J_block ?_|refine J_region ?_ |(refine Kont.go (by assumption) ?_)|(simp (config:={ maxSteps:=3000000 }) (disch:=omega) only [go_sem,List.length_map])))
 refine W_loop [2,4,7,8,9,10,11,12,13,14,15,16,17] (fun x:Nat=>[(7,.f (I x))]) (fun x:Nat=>[]) (fun x:Nat=>x≤s.length∧∀j,j<x→1≤s.getD j 0∧s.getD j 0≤4) (fun x:Nat=>s.length-x) (0) (⟨Nat.zero_le _,fun j h=>by omega⟩) (by refine weak_of ?_ ?_<;>simp (disch:=omega) only [go_sem]<;>first|rfl|exact ⟨rfl,rfl⟩|exact Or.inl rfl|exact ⟨Or.inl rfl,Or.inl rfl⟩|trivial|assumption|omega|(symm;assumption)|((repeat' apply And.intro)<;>first|rfl|omega|trivial|exact .inl rfl|exact .inr ⟨rfl,rfl⟩|exact .inr rfl|(right;symm;assumption)|(symm;assumption)|assumption)) ?_
 rintro x ⟨hx,hp⟩
 simp only [go_sem]
 (repeat (with_reducible first|refine W_seq fun K hK=>?_|refine J_region ?_ |refine J_c ?_|(refine Kont.go (by assumption) ?_)|(simp (config:={ maxSteps:=3000000 }) (disch:=omega) only [go_sem])))
 refine Jc_if (fun hxl=>?_) (fun hxl=>?_)<;>try simp only [decide_eq_true_eq,decide_eq_false_iff_not] at hxl
 ·have g1:=map_get I s hxl
  have g3:s.getD x 0=s[x]:=lget_lt s 0 hxl
  by_cases c1:s[x]<1
  ·have e:fitB s=false:=fitB_no fun h=>by have:=(h.2 x hxl).1;omega
   (repeat (with_reducible first|refine W_seq fun K hK=>?_|refine J_block ?_|refine J_skip ?_|refine J_ret ?_|refine J_region ?_ |refine J_c ?_|refine Jc_true ?_|(refine Kont.go (by assumption) ?_)|(simp (config:={ maxSteps:=3000000 }) (disch:=omega) only [go_sem,↓reduceIte,g1,c1])))
   rw [e]
   exact Frz.f _
  ·by_cases c2:4<s[x]
   ·have e:fitB s=false:=fitB_no fun h=>by have:=(h.2 x hxl).2;omega
    (repeat (with_reducible first|refine W_seq fun K hK=>?_|refine J_block ?_|refine J_skip ?_|refine J_ret ?_|refine J_region ?_ |refine J_c ?_|refine Jc_true ?_|(refine Kont.go (by assumption) ?_)|(simp (config:={ maxSteps:=3000000 }) (disch:=omega) only [go_sem,↓reduceIte,g1,c1,c2])))
    rw [e]
    exact Frz.f _
   ·(repeat (with_reducible first|refine W_seq fun K hK=>?_|refine J_block ?_|refine J_skip ?_|refine J_region ?_ |refine J_c ?_|refine Jc_false ?_|(refine Kont.go (by assumption) ?_)|(simp (config:={ maxSteps:=3000000 }) (disch:=omega) only [go_sem,↓reduceIte,g1,c1,c2])))
    refine ⟨x+1,⟨by omega,upto_next (p:=fun j=>1≤s.getD j 0∧s.getD j 0≤4) hp ⟨by omega,by omega⟩⟩,by omega,weak_of ?_ ?_⟩<;>(try simp (disch:=omega) only [go_sem])<;>(try first|done|omega|rfl|exact ⟨rfl,rfl⟩|trivial)
 ·have he:x=s.length:=by omega
  subst he
  by_cases h1:(1:Int)≤(s.length:Int)
  ·by_cases h8:(s.length:Int)≤8
   ·have e:fitB s=true:=fitB_iff.2 ⟨⟨by omega,by omega⟩,hp⟩
    (repeat (with_reducible first|refine W_seq fun K hK=>?_|refine J_exit ?_|refine J_ret ?_|refine J_region ?_ |(refine Kont.go (by assumption) ?_)|(simp (config:={ maxSteps:=3000000 }) (disch:=omega) only [go_sem,↓reduceIte,List.length_map,h1,h8])))
    rw [e]
    exact Frz.f _
   ·have e:fitB s=false:=fitB_no fun h=>by omega
    (repeat (with_reducible first|refine W_seq fun K hK=>?_|refine J_exit ?_|refine J_ret ?_|refine J_region ?_ |(refine Kont.go (by assumption) ?_)|(simp (config:={ maxSteps:=3000000 }) (disch:=omega) only [go_sem,↓reduceIte,List.length_map,h1,h8])))
    rw [e]
    exact Frz.f _
  ·have e:fitB s=false:=fitB_no fun h=>by omega
   (repeat (with_reducible first|refine W_seq fun K hK=>?_|refine J_exit ?_|refine J_ret ?_|refine J_region ?_ |(refine Kont.go (by assumption) ?_)|(simp (config:={ maxSteps:=3000000 }) (disch:=omega) only [go_sem,↓reduceIte,List.length_map,h1])))
   rw [e]
   exact Frz.f _
set_option maxRecDepth 100000 in
set_option maxHeartbeats 4000000 in
theorem rfit_w (s:List Int) (hs:s.length≤140737488355328):Good Tryz.prog 63 [ints s] (Bo (fitB s)):=by
 refine good_of Tryz.func63 rfl (by kernel_rfl) fun X hO hrd=>?_;rw [Tryz.ntmps63,Tryz.results63];simp only [ast0,List.map_cons,List.map_nil,List.length_cons,List.length_nil,Nat.reduceAdd,Nat.reduceSub,List.replicate_succ,List.replicate_zero,List.cons_append,List.nil_append]
 by_cases h1:(s.length:Int)<1
 ·have e:fitB s=false:=fitB_no fun h=>by omega
  (repeat (with_reducible first|refine W_seq fun K hK=>?_|refine J_ret ?_|refine J_region ?_ |refine J_c ?_|refine Jc_true ?_|(refine Kont.go (by assumption) ?_)|(simp (config:={ maxSteps:=3000000 }) (disch:=omega) only [go_sem,List.length_map,h1])))
  rw [e]
  exact Frz.f _
 by_cases h8:8<(s.length:Int)
 ·have e:fitB s=false:=fitB_no fun h=>by omega
  (repeat (with_reducible first|refine W_seq fun K hK=>?_|refine J_ret ?_|refine J_region ?_ |refine J_c ?_|refine Jc_true ?_|(refine Kont.go (by assumption) ?_)|(simp (config:={ maxSteps:=3000000 }) (disch:=omega) only [go_sem,List.length_map,h1,h8])))
  rw [e]
  exact Frz.f _
 (repeat (with_reducible first|refine W_seq fun K hK=>?_|refine J_block ?_|refine J_skip ?_|refine J_region ?_ |refine J_c ?_|refine Jc_false ?_|(refine Kont.go (by assumption) ?_)|(simp (config:={ maxSteps:=3000000 }) (disch:=omega) only [go_sem,List.length_map,h1,h8])))
 refine W_loop [2,3,12,13,14,15,16,17,18,19,20,21,22,23,24,25,26,27,28,29] (fun x:Nat=>[(3,.f (I x))]) (fun x:Nat=>[]) (fun x:Nat=>x≤s.length∧∀j,j<x→1≤s.getD j 0∧s.getD j 0≤4) (fun x:Nat=>s.length-x) (0) (⟨Nat.zero_le _,fun j h=>by omega⟩) (by refine weak_of ?_ ?_<;>simp (disch:=omega) only [go_sem]<;>first|rfl|exact ⟨rfl,rfl⟩|exact Or.inl rfl|exact ⟨Or.inl rfl,Or.inl rfl⟩|trivial|assumption|omega|(symm;assumption)|((repeat' apply And.intro)<;>first|rfl|omega|trivial|exact .inl rfl|exact .inr ⟨rfl,rfl⟩|exact .inr rfl|(right;symm;assumption)|(symm;assumption)|assumption)) ?_
 rintro x ⟨hx,hp⟩
 simp only [go_sem]
 (repeat (with_reducible first|refine W_seq fun K hK=>?_|refine J_region ?_ |refine J_c ?_|(refine Kont.go (by assumption) ?_)|(simp (config:={ maxSteps:=3000000 }) (disch:=omega) only [go_sem,List.length_map])))
 refine Jc_if (fun hxl=>?_) (fun hxl=>?_)<;>try simp only [decide_eq_true_eq,decide_eq_false_iff_not] at hxl
 ·have g1:=map_get I s hxl
  have g3:s.getD x 0=s[x]:=lget_lt s 0 hxl
  by_cases c1:s[x]<1
  ·have e:fitB s=false:=fitB_no fun h=>by have:=(h.2 x hxl).1;omega
   (repeat (with_reducible first|refine W_seq fun K hK=>?_|refine J_block ?_|refine J_skip ?_|refine J_ret ?_|refine J_region ?_ |refine J_c ?_|refine Jc_true ?_|(refine Kont.go (by assumption) ?_)|(simp (config:={ maxSteps:=3000000 }) (disch:=omega) only [go_sem,↓reduceIte,g1,c1])))
   rw [e]
   exact Frz.f _
  ·by_cases c2:4<s[x]
   ·have e:fitB s=false:=fitB_no fun h=>by have:=(h.2 x hxl).2;omega
    (repeat (with_reducible first|refine W_seq fun K hK=>?_|refine J_block ?_|refine J_skip ?_|refine J_ret ?_|refine J_region ?_ |refine J_c ?_|refine Jc_true ?_|(refine Kont.go (by assumption) ?_)|(simp (config:={ maxSteps:=3000000 }) (disch:=omega) only [go_sem,↓reduceIte,g1,c1,c2])))
    rw [e]
    exact Frz.f _
   ·(repeat (with_reducible first|refine W_seq fun K hK=>?_|refine J_block ?_|refine J_skip ?_|refine J_region ?_ |refine J_c ?_|refine Jc_false ?_|(refine Kont.go (by assumption) ?_)|(simp (config:={ maxSteps:=3000000 }) (disch:=omega) only [go_sem,↓reduceIte,g1,c1,c2])))
    refine ⟨x+1,⟨by omega,upto_next (p:=fun j=>1≤s.getD j 0∧s.getD j 0≤4) hp ⟨by omega,by omega⟩⟩,by omega,weak_of ?_ ?_⟩<;>(try simp (disch:=omega) only [go_sem])<;>(try first|done|omega|rfl|exact ⟨rfl,rfl⟩|trivial)
 ·have he:x=s.length:=by omega
  subst he
  have e:fitB s=true:=fitB_iff.2 ⟨⟨by omega,by omega⟩,hp⟩
  (repeat (with_reducible first|refine W_seq fun K hK=>?_|refine J_exit ?_|refine J_ret ?_|refine J_region ?_ |(refine Kont.go (by assumption) ?_)|(simp (config:={ maxSteps:=3000000 }) (disch:=omega) only [go_sem,↓reduceIte])))
  rw [e]
  exact Frz.f _
set_option maxRecDepth 100000 in
set_option maxHeartbeats 4000000 in
theorem trising_w (s l:List Int) (hs:s.length≤140737488355328) (hw:∀x∈l,-9223372036854775808≤x∧x≤9223372036854775807) (hl:l.length≤140737488355328) :
  Good Tryz.prog 80 [ints s,ints l] (Bo (okB s l)):=by
 have hfit:=fit_w s hs
 refine good_of Tryz.func80 rfl (by kernel_rfl) fun X hO hrd=>?_;rw [Tryz.ntmps80,Tryz.results80];simp only [ast0,List.map_cons,List.map_nil,List.length_cons,List.length_nil,Nat.reduceAdd,Nat.reduceSub,List.replicate_succ,List.replicate_zero,List.cons_append,List.nil_append]
 (repeat (with_reducible first|refine W_seq fun K hK=>?_|refine J_block ?_|refine J_region ?_ |(refine Kont.go (by assumption) ?_)|(simp (config:={ maxSteps:=3000000 }) (disch:=omega) only [go_sem,Int.reduceNeg,List.length_map])))
 refine W_loop [4,5,7,10,11,12,13,14,15,16,17,18,19,20,21,22,23,24] (fun x:Nat=>[(5,.f (I (prevI l x))),(10,.f (I x))]) (fun x:Nat=>[]) (fun x:Nat=>x≤l.length∧∀j,j<x→prevI l j<l.getD j 0∧l.getD j 0<(s.length:Int)) (fun x:Nat=>l.length-x) (0) (⟨Nat.zero_le _,fun j h=>by omega⟩) (by refine weak_of ?_ ?_<;>simp (disch:=omega) only [go_sem]<;>first|rfl|exact ⟨rfl,rfl⟩|exact Or.inl rfl|exact ⟨Or.inl rfl,Or.inl rfl⟩|trivial|assumption|omega|(symm;assumption)|((repeat' apply And.intro)<;>first|rfl|omega|trivial|exact .inl rfl|exact .inr ⟨rfl,rfl⟩|exact .inr rfl|(right;symm;assumption)|(symm;assumption)|assumption)) ?_
 rintro x ⟨hx,hp⟩
 simp only [go_sem]
 (repeat (with_reducible first|refine W_seq fun K hK=>?_|refine J_region ?_ |refine J_c ?_|(refine Kont.go (by assumption) ?_)|(simp (config:={ maxSteps:=3000000 }) (disch:=omega) only [go_sem])))
 refine Jc_if (fun hxl=>?_) (fun hxl=>?_)<;>try simp only [decide_eq_true_eq,decide_eq_false_iff_not] at hxl
 ·have g1:=map_get I l hxl
  have g2:=prevI_next (l:=l) (x:=x)
  have g3:l.getD x 0=l[x]:=lget_lt l 0 hxl
  have hno:¬(prevI l x<l[x]∧l[x]<(s.length:Int))→okB s l=false:=fun hh=>by
   cases hb:risB s.length l with
   | false=>unfold okB;rw [hb,Bool.and_false]
   | true=>exact absurd (risB_iff.1 hb x hxl) (by rw [g3];exact hh)
  by_cases c1:l[x]≤prevI l x
  ·have e:okB s l=false:=hno fun h=>by omega
   (repeat (with_reducible first|refine W_seq fun K hK=>?_|refine J_block ?_|refine J_skip ?_|refine J_ret ?_|refine J_region ?_ |refine J_c ?_|refine Jc_true ?_|(refine Kont.go (by assumption) ?_)|(simp (config:={ maxSteps:=3000000 }) (disch:=omega) only [go_sem,↓reduceIte,g1,c1])))
   rw [e]
   exact Frz.f _
  ·by_cases c2:(s.length:Int)≤l[x]
   ·have e:okB s l=false:=hno fun h=>by omega
    (repeat (with_reducible first|refine W_seq fun K hK=>?_|refine J_block ?_|refine J_skip ?_|refine J_ret ?_|refine J_region ?_ |refine J_c ?_|refine Jc_true ?_|(refine Kont.go (by assumption) ?_)|(simp (config:={ maxSteps:=3000000 }) (disch:=omega) only [go_sem,↓reduceIte,List.length_map,g1,c1,c2])))
    rw [e]
    exact Frz.f _
   ·rw [g3] at g2
    (repeat (with_reducible first|refine W_seq fun K hK=>?_|refine J_block ?_|refine J_skip ?_|refine J_region ?_ |refine J_c ?_|refine Jc_false ?_|(refine Kont.go (by assumption) ?_)|(simp (config:={ maxSteps:=3000000 }) (disch:=omega) only [go_sem,↓reduceIte,List.length_map,g1,c1,c2])))
    refine ⟨x+1,⟨by omega,upto_next (p:=fun j=>prevI l j<l.getD j 0∧l.getD j 0<(s.length:Int)) hp ⟨by omega,by omega⟩⟩,by omega,weak_of ?_ ?_⟩<;>(try simp (disch:=omega) only [go_sem])<;>(try first|done|omega|rfl|exact ⟨rfl,rfl⟩|trivial)
 ·have he:x=l.length:=by omega
  subst he
  have e:okB s l=fitB s:=by unfold okB;rw [risB_iff.2 hp,Bool.and_true]
  (repeat (with_reducible first|refine W_seq fun K hK=>?_|refine J_exit ?_|refine J_region ?_ |(refine Kont.go (by assumption) ?_)|(simp (config:={ maxSteps:=3000000 }) (disch:=omega) only [go_sem,↓reduceIte])))
  (first|refine call_f (hfit) rfl ?_|refine callQ_f (hfit) rfl ?_|refine callHK_f (hfit) rfl ?_|refine callH_f (hfit) rfl ?_)
  (repeat (with_reducible first|refine J_ret ?_|(refine Kont.go (by assumption) ?_)|(simp (config:={ maxSteps:=3000000 }) (disch:=omega) only [go_sem])))
  rw [e]
  exact Frz.f _
set_option maxRecDepth 100000 in
set_option maxHeartbeats 4000000 in
theorem tcount_w {Z l:List Nat} (h:OkT Z l):Good Tryz.prog 81 [.fz 1 (Ns Z),.fz 1 (Ns l)] (I (cntS (szT Z) l:Nat)):=by
 have hl8:=h.len
 refine good_of Tryz.func81 rfl (by kernel_rfl) fun X hO hrd=>?_;rw [Tryz.ntmps81,Tryz.results81];simp only [ast0,List.map_cons,List.map_nil,List.length_cons,List.length_nil,Nat.reduceAdd,Nat.reduceSub,List.replicate_succ,List.replicate_zero,List.cons_append,List.nil_append]
 (repeat (with_reducible first|refine W_seq fun K hK=>?_|refine J_block ?_|refine J_region ?_ |(refine Kont.go (by assumption) ?_)|(simp (config:={ maxSteps:=3000000 }) (disch:=omega) only [go_sem,Ns_len])))
 refine W_loop [5,7,10,11,12,13,14,15,16,17,18,19,20] (fun x:Nat=>[(5,.f (I (cntS (szT Z) (l.take x):Nat))),(10,.f (I x))]) (fun x:Nat=>[]) (fun x:Nat=>x≤l.length) (fun x:Nat=>l.length-x) (0) (Nat.zero_le _) (by refine weak_of ?_ ?_<;>simp (disch:=omega) only [go_sem]<;>first|rfl|exact ⟨rfl,rfl⟩|exact Or.inl rfl|exact ⟨Or.inl rfl,Or.inl rfl⟩|trivial|assumption|omega|(symm;assumption)|((repeat' apply And.intro)<;>first|rfl|omega|trivial|exact .inl rfl|exact .inr ⟨rfl,rfl⟩|exact .inr rfl|(right;symm;assumption)|(symm;assumption)|assumption)) ?_
 rintro x hx
 simp only [go_sem]
 (repeat (with_reducible first|refine W_seq fun K hK=>?_|refine J_region ?_ |refine J_c ?_|(refine Kont.go (by assumption) ?_)|(simp (config:={ maxSteps:=3000000 }) (disch:=omega) only [go_sem])))
 refine Jc_if (fun hxl=>?_) (fun hxl=>?_)<;>try simp only [decide_eq_true_eq,decide_eq_false_iff_not] at hxl
 ·have g1:=Ns_get hxl
  have g2:=Ns_get (l:=Z) (h.get hxl)
  have hz:=h.z8
  have hgl:=h.get hxl
  have hn:=cnt_take (Z:=Z) hxl
  have hb:=(h.ztake (x+1)).cnt
  have e:((cntS (szT Z) (l.take x):Nat):Int)*((Z.getD (l.getD x 0) 0:Nat):Int)=((cntS (szT Z) (l.take (x+1)):Nat):Int):=by rw [hn];show _=((_*_:Nat):Int);rw [Int.natCast_mul];rfl
  (repeat (with_reducible first|refine W_seq fun K hK=>?_|refine J_block ?_|refine J_skip ?_|refine J_region ?_ |(refine Kont.go (by assumption) ?_)|(simp (config:={ maxSteps:=3000000 }) (disch:=omega) only [go_sem,↓reduceIte,g1,g2,e])))
  refine ⟨x+1,by omega,by omega,weak_of ?_ ?_⟩<;>(try simp (disch:=omega) only [go_sem])<;>(try first|done|omega|rfl|exact ⟨rfl,rfl⟩|trivial)
 ·have he:x=l.length:=by omega
  subst he
  rw [List.take_length]
  (repeat (with_reducible first|refine W_seq fun K hK=>?_|refine J_exit ?_|refine J_ret ?_|refine J_region ?_ |exact Frz.f _|(refine Kont.go (by assumption) ?_)|(simp (config:={ maxSteps:=3000000 }) (disch:=omega) only [go_sem,↓reduceIte])))
set_option maxRecDepth 100000 in
set_option maxHeartbeats 4000000 in
theorem tcountT_w {Z l:List Nat} (h:OkT Z l):Good Tryz.prog 38 [.fz 1 (Ns Z),.fz 1 (Ns l)] (.tup [I (cntS (szT Z) l:Nat),I 0]):=by
 have hl8:=h.len
 have hz8:=h.z8
 have hr:=trising_w (Z.map Int.ofNat) (l.map Int.ofNat) (by rw [List.length_map];omega) (fun x hx=>by obtain ⟨n,hn,rfl⟩:=List.mem_map.1 hx;have:=h.lt n hn;show _≤(n:Int)∧(n:Int)≤_;omega) (by rw [List.length_map];omega)
 rw [ints_Ns,ints_Ns,okB_of h] at hr
 have hc:=tcount_w h
 refine good_of Tryz.func38 rfl (by kernel_rfl) fun X hO hrd=>?_;rw [Tryz.ntmps38,Tryz.results38];simp only [ast0,List.map_cons,List.map_nil,List.length_cons,List.length_nil,Nat.reduceAdd,Nat.reduceSub,List.replicate_succ,List.replicate_zero,List.cons_append,List.nil_append]
 (repeat (with_reducible first|refine W_seq fun K hK=>?_|refine J_region ?_ |(refine Kont.go (by assumption) ?_)|(simp (config:={ maxSteps:=3000000 }) (disch:=omega) only [go_sem])))
 (first|refine call_f (hr) rfl ?_|refine callQ_f (hr) rfl ?_|refine callHK_f (hr) rfl ?_|refine callH_f (hr) rfl ?_)
 (repeat (with_reducible first|refine W_seq fun K hK=>?_|refine J_skip ?_|refine J_region ?_ |refine J_c ?_|refine Jc_false ?_|(refine Kont.go (by assumption) ?_)|(simp (config:={ maxSteps:=3000000 }) (disch:=omega) only [go_sem])))
 (first|refine call_f (hc) rfl ?_|refine callQ_f (hc) rfl ?_|refine callHK_f (hc) rfl ?_|refine callH_f (hc) rfl ?_)
 (repeat (with_reducible first|refine J_ret ?_|(refine Kont.go (by assumption) ?_)|(simp (config:={ maxSteps:=3000000 }) (disch:=omega) only [go_sem])))
 exact ⟨_,rfl,FrzL.fs [_,_]⟩
set_option maxRecDepth 100000 in
set_option maxHeartbeats 4000000 in
theorem rcountT_w {Z l:List Nat} (h:OkT Z l):Good Tryz.prog 21 [.fz 1 (Ns Z),.fz 1 (Ns l)] (.tup [I (cntS (szT Z) l:Nat),I 0]):=by
 have hl8:=h.len
 have hz8:=h.z8
 have ho:=okB_of h
 unfold okB at ho
 rw [Bool.and_eq_true] at ho
 have hf:=rfit_w (Z.map Int.ofNat) (by rw [List.length_map];omega)
 have hr:=rising_w (l.map Int.ofNat) (n:=Z.length) (by omega) (fun x hx=>by obtain ⟨n,hn,rfl⟩:=List.mem_map.1 hx;have:=h.lt n hn;show _≤(n:Int)∧(n:Int)≤_;omega) (by rw [List.length_map];omega)
 rw [List.length_map] at ho
 rw [ints_Ns,ho.1] at hf
 rw [ints_Ns,ho.2] at hr
 refine good_of Tryz.func21 rfl (by kernel_rfl) fun X hO hrd=>?_;rw [Tryz.ntmps21,Tryz.results21];simp only [ast0,List.map_cons,List.map_nil,List.length_cons,List.length_nil,Nat.reduceAdd,Nat.reduceSub,List.replicate_succ,List.replicate_zero,List.cons_append,List.nil_append]
 (repeat (with_reducible first|refine W_seq fun K hK=>?_|refine J_region ?_ |(refine Kont.go (by assumption) ?_)|(simp (config:={ maxSteps:=3000000 }) (disch:=omega) only [go_sem])))
 (first|refine call_f (hf) rfl ?_|refine callQ_f (hf) rfl ?_|refine callHK_f (hf) rfl ?_|refine callH_f (hf) rfl ?_)
 (repeat (with_reducible first|refine W_seq fun K hK=>?_|refine J_region ?_ |(refine Kont.go (by assumption) ?_)|(simp (config:={ maxSteps:=3000000 }) (disch:=omega) only [go_sem,Ns_len])))
 (first|refine call_f (hr) rfl ?_|refine callQ_f (hr) rfl ?_|refine callHK_f (hr) rfl ?_|refine callH_f (hr) rfl ?_)
 (repeat (with_reducible first|refine W_seq fun K hK=>?_|refine J_block ?_|refine J_skip ?_|refine J_region ?_ |refine J_c ?_|refine Jc_false ?_|(refine Kont.go (by assumption) ?_)|(simp (config:={ maxSteps:=3000000 }) (disch:=omega) only [go_sem])))
 refine W_loop [8,9,22,23,24,25,26,27,28,29,30,31,32,33,34,35,36] (fun x:Nat=>[(8,.f (I (cntS (szT Z) (l.take x):Nat))),(9,.f (I x))]) (fun x:Nat=>[]) (fun x:Nat=>x≤l.length) (fun x:Nat=>l.length-x) (0) (Nat.zero_le _) (by refine weak_of ?_ ?_<;>simp (disch:=omega) only [go_sem]<;>first|rfl|exact ⟨rfl,rfl⟩|exact Or.inl rfl|exact ⟨Or.inl rfl,Or.inl rfl⟩|trivial|assumption|omega|(symm;assumption)|((repeat' apply And.intro)<;>first|rfl|omega|trivial|exact .inl rfl|exact .inr ⟨rfl,rfl⟩|exact .inr rfl|(right;symm;assumption)|(symm;assumption)|assumption)) ?_
 rintro x hx
 simp only [go_sem]
 (repeat (with_reducible first|refine W_seq fun K hK=>?_|refine J_region ?_ |refine J_c ?_|(refine Kont.go (by assumption) ?_)|(simp (config:={ maxSteps:=3000000 }) (disch:=omega) only [go_sem,Ns_len])))
 refine Jc_if (fun hxl=>?_) (fun hxl=>?_)<;>try simp only [decide_eq_true_eq,decide_eq_false_iff_not] at hxl
 ·have g1:=Ns_get hxl
  have g2:=Ns_get (l:=Z) (h.get hxl)
  have hgl:=h.get hxl
  have hn:=cnt_take (Z:=Z) hxl
  have hb:=(h.ztake (x+1)).cnt
  have e:((cntS (szT Z) (l.take x):Nat):Int)*((Z.getD (l.getD x 0) 0:Nat):Int)=((cntS (szT Z) (l.take (x+1)):Nat):Int):=by rw [hn];show _=((_*_:Nat):Int);rw [Int.natCast_mul];rfl
  (repeat (with_reducible first|refine W_seq fun K hK=>?_|refine J_block ?_|refine J_skip ?_|refine J_region ?_ |(refine Kont.go (by assumption) ?_)|(simp (config:={ maxSteps:=3000000 }) (disch:=omega) only [go_sem,↓reduceIte,g1,g2,e])))
  refine ⟨x+1,by omega,by omega,weak_of ?_ ?_⟩<;>(try simp (disch:=omega) only [go_sem])<;>(try first|done|omega|rfl|exact ⟨rfl,rfl⟩|trivial)
 ·have he:x=l.length:=by omega
  subst he
  rw [List.take_length]
  (repeat (with_reducible first|refine W_seq fun K hK=>?_|refine J_exit ?_|refine J_ret ?_|refine J_region ?_ |(refine Kont.go (by assumption) ?_)|(simp (config:={ maxSteps:=3000000 }) (disch:=omega) only [go_sem,↓reduceIte])))
  exact ⟨_,rfl,FrzL.fs [_,_]⟩
end Go.Proofs.YthehegidpamldaaGreatDoor
set_option linter.unusedVariables false
set_option linter.unusedSimpArgs false
namespace Go.Proofs.YthehegidpamldaaGreatDoor
open Go Go.RowKit
def rpost (T:List AV) (H:AH) (Qr:AS→Prop):Exit→AS→Prop
 | .normal,s=>Weak s ⟨T,H⟩
 | .ret,s=>∃H',Weak s ⟨T,H'⟩∧Qr ⟨T,H'⟩
 | _,_=>False
section
variable {P : Program} {X : Cx} {w : World} {F : Nat → Prop} {loc : Nat → Nat × Nat} {s : AS} {a : Act}
theorem RelF.enter (R:RelF X F loc s a w) (a':Act) (rd:Option Nat) (kp:Nat→Bool) (tm:Array Value) {s':AS} (hH:s'.H=s.H) (hlen:s'.t.length=a'.tmps.size) (hd:a'.defers=[])
  (hk:∀j,kp j=true→a'.tmps.getD j undef=tm.getD j undef) (ht:∀(j:Nat) x,s'.t[j]?=some x→Rep w F loc s.H.length x (a'.tmps.getD j undef)) :
  RelF ⟨w,F,fun b=>Live s loc b,rd,kp,tm,X.hold⟩ F loc s' a' w:=by
 refine ⟨R.hF,fun _ h=>h,fun _ h=>.inl h,Beyond.refl _ _,⟨by rw [hd];exact DefOk.nil,hk,fun _=>hd,⟨R.tabW,fun t ht ⟨r,o,hr,e⟩=>R.tabO t ht r o hr e⟩,R.defers.2.2.2.2⟩,hlen,fun j x h=>by rw [hH];exact ht j x h,fun r o h=>by rw [hH] at h ⊢;exact R.obj r o h,fun r o h=>?_,fun r o h=>by rw [hH] at h;exact R.nF r o h,fun r r' o o' h h' e=>by rw [hH] at h h';exact R.inj r r' o o' h h' e⟩
 rw [hH] at h
 exact .inr ⟨r,o,h,rfl⟩
theorem own_cells (R:RelF X F loc s a w) {r:Nat} {o:AO} (h:s.H[r]?=some (some o)):∃vs,w.heap[(loc r).1]?=some (.cells vs o.e (0,0)):=by
 obtain ⟨_,vs,hv,_⟩:=R.obj r o h
 exact ⟨vs,hv⟩
theorem RelF.leave (R:RelF X F loc s a w) {rd:Option Nat} {kp:Nat→Bool} {F':Nat→Prop} {loc':Nat→Nat × Nat} {s':AS} {a':Act} {w0 w':World} {G:Nat→Prop} {l:Nat} (hl:X.w0.heap.size≤l) (hFl:¬F l) (hb:Beyond (fun b=>Live s loc b∨w.heap.size≤b∨b=l) w w')
  (hG:∀b,F b→G b) (hGw:∀b,G b→F b∨Live s loc b∨w.heap.size≤b) {O:Nat→Prop} (hO:∀b,O b→Live s loc b∨w.heap.size≤b) (hw0:w.heap.size≤w0.heap.size)
  (R':RelF ⟨w0,G,O,rd,kp,a.tmps,X.hold⟩ F' loc' s' a' w') (ht:∀(j:Nat) x,s'.t[j]?=some x→x=.any∨kp j=true) (hlen:s'.t.length=a.tmps.size):RelF X F' loc' s' a w':=by
 have hnl:∀b,F b→¬Live s loc b:=fun b hf ⟨r,o,h,e⟩=>R.nF r o h (e▸hf)
 have hback:∀b,(G b∨O b∨w0.heap.size≤b)→X.G b∨X.O b∨X.w0.heap.size≤b:=fun b h=>by
  have hbig:=R.below.size
  rcases h with h|h|h
  ·rcases hGw b h with h|⟨r,o,hr,e⟩|h
   ·exact R.hN b h
   ·rw [←e];exact .inr (R.new r o hr).symm
   ·exact .inr (.inr (by omega))
  ·rcases hO b h with ⟨r,o,hr,e⟩|h
   ·rw [←e];exact .inr (R.new r o hr).symm
   ·exact .inr (.inr (by omega))
  ·exact .inr (.inr (by omega))
 refine ⟨R'.hF,fun b h=>R'.hG b (hG b (R.hG b h)),fun b h=>hback b (R'.hN b h),R.below.trans ⟨hb.os,hb.tape,hb.output,hb.size,fun k hk hno=>hb.block k hk fun h=>?_⟩,R.defers.mono (fun b h=>R'.hG b (hG b h)) (fun b h=>hb.block b (R.hF b h) fun h'=>?_),hlen,fun j x h=>?_,R'.obj,fun r o h=>?_,R'.nF,R'.inj⟩
 ·rcases h with ⟨r,o,hr,e⟩|h|h
  ·refine hno ?_
   rw [←e]
   exact (R.new r o hr).symm
  ·omega
  ·exact hno (.inr (by rw [h];exact hl))
 ·rcases h' with h'|h'|h'
  ·exact hnl b h h'
  ·have:=R.hF b h;omega
  ·rw [h'] at h;exact hFl h
 ·rcases ht j x h with rfl|hk
  ·exact .any _
  ·have:=R'.tmps j x h
   rwa [R'.defers.2.1 j hk] at this
 ·have hbig:=R.below.size
  rcases R'.new r o h with h'|h'
  ·exact .inl (by have:w0.heap.size≤(loc' r).1:=h';omega)
  ·rcases hO _ h' with ⟨r0,o0,hr0,e⟩|h''
   ·rw [←e];exact R.new r0 o0 hr0
   ·exact .inl (by omega)
theorem RelF.poke (R:RelF X F loc s a w) {l:Nat} {o0 o:Obj} (h:w.heap[l]?=some o0) (ho:o0.isCells=false) (hnm:∀es c,o0≠.map es c) (hrd:X.rd.isSome=true):RelF ⟨w.putObj l o,F,fun b=>Live s loc b,X.rd,X.kp,X.tm,X.hold⟩ F loc s a (w.putObj l o):=by
 have hoth:∀b,b≠l→(w.putObj l o).heap[b]?=w.heap[b]?:=fun b h=>World.putObj_heap_other h
 have T:Tr F loc s.H.length w F loc s.H.length (w.putObj l o):=⟨fun _ h=>h,fun b q u hf hc=>by
  by_cases eb:b=l
  ·subst eb
   unfold World.cell? at hc
   rw [h] at hc
   cases o0<;>simp_all [Obj.isCells]
  ·rw [cell_of_block (hoth b eb)];exact hc,Nat.le_refl _,fun _ _=>rfl⟩
 refine ⟨fun b h=>by rw [World.putObj_size];exact R.hF b h,fun _ h=>h,fun _ h=>.inl h,Beyond.refl _ _,⟨by rw [R.defers.2.2.1 hrd];exact DefOk.nil,R.defers.2.1,R.defers.2.2.1,⟨fun t ht=>⟨(R.tabW t ht).1,fun j v hv=>by
  have hc:=(R.tabW t ht).2 j v hv
  by_cases eb:t.1=l
  ·rw [eb] at hc
   unfold World.cell? at hc
   rw [h] at hc
   cases o0<;>simp_all [Obj.isCells]
  ·rw [cell_of_block (hoth t.1 eb)];exact hc⟩,fun t ht ⟨r,q,hr,e⟩=>R.tabO t ht r q hr e⟩,R.defers.2.2.2.2.mono (fun _ h=>h) fun b o' _ h1 ⟨es,c,h2⟩=>hoth b fun e=>by rw [e,h] at h1;cases h1;exact hnm es c h2⟩,R.len,fun j x hj=>(R.tmps j x hj).tr T,fun r q hr=>?_,fun r q hr=>.inr ⟨r,q,hr,rfl⟩,R.nF,R.inj⟩
 obtain ⟨vs,hv⟩:=own_cells R hr
 exact (R.obj r q hr).tr T (hlt hr) (hoth _ fun e=>by rw [e,h] at hv;cases hv;cases ho)
theorem RelF.marked (R:RelF X F loc s a w) {l D:Nat} {o0 o:Obj} (h:w.heap[l]?=some o0) (ho:o0.isCells=false) (hl:X.w0.heap.size≤l) (hFl:¬F l) (hk:w.heap[D]?=some (.deferred (some []))) (hFD:F D) (hDX:X.w0.heap.size≤D) (hne:D≠l)
  (hnew:∀d∈a.defers,d≠{ target:=.collected D,args:=#[] }) (hrd:X.rd=none):RelF X F loc s { a with defers:=[{ target:=.collected D,args:=#[] }]++a.defers } (w.putObj l o):=by
 have hoth:∀b,b≠l→(w.putObj l o).heap[b]?=w.heap[b]?:=fun b h=>World.putObj_heap_other h
 have hnF:∀b,F b→b≠l:=fun b hb e=>hFl (e▸hb)
 have T:Tr F loc s.H.length w F loc s.H.length (w.putObj l o):=⟨fun _ h=>h,fun b q u hf hc=>by rw [cell_of_block (hoth b (hnF b hf))];exact hc,Nat.le_refl _,fun _ _=>rfl⟩
 refine ⟨fun b h=>by rw [World.putObj_size];exact R.hF b h,R.hG,R.hN,R.below.trans ⟨rfl,rfl,rfl,by rw [World.putObj_size];exact Nat.le_refl _,fun k _ hno=>hoth k fun e=>hno (.inr (by rw [e];exact hl))⟩,⟨⟨fun d hd=>?_,List.pairwise_cons.2 ⟨fun d hd=>Ne.symm (hnew d hd),R.defers.1.2⟩⟩,R.defers.2.1,(fun h=>by rw [hrd] at h;cases h),R.defers.2.2.2.1,R.defers.2.2.2.2.mono (fun _ h=>h) fun b _ hb _ _=>hoth b (hnF b hb)⟩,R.len,fun j x hj=>(R.tmps j x hj).tr T,fun r q hr=>?_,R.new,R.nF,R.inj⟩
 ·rcases List.mem_cons.1 hd with rfl|hd
  ·exact ⟨D,rfl,hFD,hDX,(hoth D hne).trans hk⟩
  ·obtain ⟨D',e,hf,hB,hD'⟩:=R.defers.1.1 d hd
   exact ⟨D',e,hf,hB,(hoth D' (hnF D' hf)).trans hD'⟩
 ·obtain ⟨vs,hv⟩:=own_cells R hr
  exact (R.obj r q hr).tr T (hlt hr) (hoth _ fun e=>by rw [e,h] at hv;cases hv;cases ho)
theorem wpIn_any {r:Option Nat} {n m:Nat} {c:Code} {Q:Exit→Act→World→Prop} (h:c.wpIn (fen r) n P Q a w):c.wpIn (fen r) m P Q a w :=
 fun b k cs hro hb _=>h b k cs hro hb (fun _ h=>by cases h)
theorem fen_wide (h:X.rd=none):fen X.rd=Fence.wide:=by rw [h];rfl
def kpOf (ws:List Nat):Nat→Bool:=fun j=>!ws.contains j
theorem msk_get (ws:List Nat):∀(t:List AV) (j:Nat) x,(msk ws t)[j]?=some x→x=.any∨kpOf ws j=true:=by
 suffices h:∀(ws:List Nat) (t:List AV) (j:Nat) x,(msk ws t)[j]?=some x→(j∈ws→x=.any)∧(t[j]?=some .any→x=.any) from fun t j x hx=>by
  by_cases hj:j∈ws
  ·exact .inl ((h ws t j x hx).1 hj)
  ·exact .inr (by unfold kpOf;simpa using hj)
 intro ws
 induction ws with
 | nil=>intro t j x hx;refine ⟨fun h=>(by cases h),fun h=>?_⟩;rw [msk_nil,h] at hx;cases hx;rfl
 | cons i ws ih =>
  intro t j x hx
  rw [msk_cons] at hx
  obtain ⟨h1,h2⟩:=ih (t.set i .any) j x hx
  refine ⟨fun hj=>?_,fun hj=>h2 ?_⟩
  ·rcases List.mem_cons.1 hj with rfl|hj
   ·refine h2 ?_
    by_cases hl:j<t.length
    ·exact List.getElem?_set_self hl
    ·have hlen:∀(ws:List Nat) (t:List AV),(msk ws t).length=t.length:=by
      intro ws
      induction ws with
      | nil=>intro t;rfl
      | cons i ws ih=>intro t;rw [msk_cons,ih,List.length_set]
     rw [List.getElem?_eq_none (by rw [hlen,List.length_set];omega)] at hx
     cases hx
   ·exact h1 hj
  ·by_cases e:i=j
   ·subst e
    exact List.getElem?_set_self (List.getElem?_eq_some_iff.1 hj).1
   ·rw [List.getElem?_set_ne e];exact hj
theorem rpost_n {T:List AV} {H:AH} {Qr:AS→Prop} {s:AS} (h:Weak s ⟨T,H⟩):rpost T H Qr .normal s:=h
theorem stepR_scope {b:Frame} {k:List Item} {cs:List Frame} {c:Code}:step P (lone (b.atR a (.code (.scope c)::k)) cs w)=.next (lone (b.atR a (.code c::.inScope c::k)) cs w) :=
 step_lone_go (by simp [stepG,stepG.exec,Frame.atR])
theorem stepR_inScope {b:Frame} {k:List Item} {cs:List Frame} {c:Code}:step P (lone (b.atR a (.inScope c::k)) cs w)=.next (lone (b.atR a k) cs w) :=
 step_lone_go (by simp [stepG,stepG.exec,Frame.atR])
theorem wpIn_scope {F:Fence} {n:Nat} {c:Code} {Q:Exit→Act→World→Prop} (h:c.wpIn F n P (fun e a w=>match e with|.goto _=>False|e=>Q e a w) a w):(Code.scope c).wpIn F n P Q a w:=by
 intro b k cs hro hb hr
 have h0:(lone (b.atR a (.code (.scope c)::k)) cs w).fenced P F:=fenced_calm hb hr rfl
 obtain ⟨e,a₁,w₁,hq,harr⟩:=h b (.inScope c::k) cs hro hb hr
 cases e with
 | normal=>exact ⟨.normal,a₁,w₁,hq,.head h0 stepR_scope (StepsIn.trans harr (.one (fenced_calm hb hr rfl) stepR_inScope))⟩
 | exit id =>
  have hx:exitTo id (.inScope c::k)=exitTo id k:=by simp [exitTo]
  exact ⟨_,a₁,w₁,hq,fun k' hk=>.head h0 stepR_scope (harr.1 k' (by rw [hx];exact hk)),
   fun hr' hk=>let ⟨k₁,h1,h2⟩:=harr.2 hr' (by rw [hx];exact hk);⟨k₁,h1,.head h0 stepR_scope h2⟩⟩
 | goto l=>exact hq.elim
 | ret=>exact ⟨_,a₁,w₁,hq,.of_steps (.one h0 stepR_scope) harr⟩
 | panic ch=>exact ⟨_,a₁,w₁,hq,.of_steps (.one h0 stepR_scope) harr⟩
 | outgrown=>exact ⟨_,a₁,w₁,hq,.of_steps (.one h0 stepR_scope) harr⟩
def ascope (Q:Exit→AS→Prop):Exit→AS→Prop
 | .goto _,_=>False
 | e,s=>Q e s
theorem J_scope {c:Code} {Q:Exit→AS→Prop} (h:J X P c (ascope Q) s):J X P (.scope c) Q s:=fun hk a w R=>by
 refine wpIn_scope (wpIn_mono (h hk a w R) ?_)
 rintro e a' w' ⟨s',hq,hR⟩
 cases e with
 | goto l=>exact hq.elim
 | _=>exact ⟨s',hq,hR⟩
theorem J_label {l:Nat} {Q:Exit→AS→Prop} (h:Q .normal s):J X P (.label l) Q s:=fun _ a w R=>wpIn_label ⟨s,h,R⟩
end
end Go.Proofs.YthehegidpamldaaGreatDoor
