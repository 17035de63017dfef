/- slices.Concat at whole numbers: walked. Conditions: at most 1000 in all, and one at least. -/
import Derived.Test.YtmcgeppgfjlclaaGreatDoorZB18
import Derived.Test.YtmcgeppgfjlclaaGreatDoorZB15
set_option linter.unusedVariables false
set_option linter.unusedSimpArgs false
namespace Go.Proofs.YtmcgeppgfjlclaaGreatDoor
open Go Go.RowKit
set_option maxRecDepth 100000 in
set_option maxHeartbeats 1000000 in
theorem grow0_calls (w:World):Calls Tryz.prog 83 #[.slice none 0 0,.int .i64 0] w fun e w'=>e=.returned (.slice none 0 0)∧w'=w:=by
 go_enter Tryz.func83,Tryz.ntmps83
 go_wp2
 go_ret
 exact ⟨rfl,rfl⟩
theorem grow0_w:Good Tryz.prog 83 [.v (.slice none 0 0),I 0] (.v (.slice none 0 0)):=by
 refine ⟨by kernel_rfl,fun w G ys hT hG hys=>?_⟩
 obtain ⟨hl,hr⟩:=hys
 have h1:ys.size=2:=hl.symm
 have r0:=hr 0 _ rfl
 have r1:=hr 1 _ rfl
 obtain ⟨u,v,rfl⟩:∃u v,ys=#[u,v]:=by
  match ys,h1 with
  | ⟨[u,v]⟩,_=>exact ⟨u,v,rfl⟩
 replace r0:RepF w G (.v (.slice none 0 0)) u:=r0
 replace r1:RepF w G (I 0) v:=r1
 cases r0
 cases r1
 refine (grow0_calls w).mono ?_
 rintro e w' ⟨rfl,rfl⟩
 exact ⟨_,rfl,Beyond.refl _ _,.v _⟩
set_option maxRecDepth 100000 in
set_option maxHeartbeats 4000000 in
theorem concatZ_w (R:List (List FV)) (hR:R.length≤1000) (h0:1≤R.flatten.length) (hn:R.flatten.length≤1000) (hf:∀x∈R.flatten,FlatF x) :
  GoodO Tryz.prog 49 [.fz 1 (R.map (FV.fz 1))] (.own 3 1 R.flatten):=by
 have hfl:∀i (hi:i<R.length),(R.take (i+1)).flatten=(R.take i).flatten++R[i]:=fun i hi=>by
  rw [List.take_add_one,List.getElem?_eq_getElem hi,List.flatten_append];simp
 have hle:∀i,(R.take i).flatten.length≤1000:=fun i=>by
  have:(R.take i).flatten.length≤R.flatten.length:=by
   conv=>rhs;rw [←List.take_append_drop i R,List.flatten_append,List.length_append]
   omega
  omega
 obtain ⟨Z,hZ⟩:∃Z,Z=R.flatten:=⟨_,rfl⟩
 have hg:=growZ_w (n:=R.flatten.length) h0 hn
 rw [←hZ] at hg hf h0 ⊢
 refine goodO_of Tryz.func49 rfl (by kernel_rfl) fun X hO hrd=>?_;rw [Tryz.ntmps49,Tryz.results49];simp only [ast0,List.map_cons,List.map_nil,List.length_cons,List.length_nil,Nat.reduceAdd,Nat.reduceSub,List.replicate_succ,List.replicate_zero,List.cons_append,List.nil_append]
 (repeat (first|(with_reducible first|refine W_seq fun K hK=>?_|refine J_block ?_|refine J_skip ?_|refine J_exit ?_|refine J_ret ?_|refine J_region ?_ |refine J_drawn mixed (by kernel_rfl) ?_|refine aApp_sl ?_|refine aApp_old ?_|refine J_c ?_|refine Jc_true ?_|refine Jc_false ?_|exact Frz.f _|(refine Kont.go (by assumption) ?_)|(simp (config:={ maxSteps:=3000000 }) (disch:=omega) only [go_sem,Nat.reduceEqDiff,↓reduceIte,Nat.reduceAdd,Nat.reduceLT,Nat.reduceLeDiff,Int.reduceLT,Int.reduceLE,Int.reduceEq,Int.reduceNe,Int.reduceAdd,Int.reduceSub,Int.reduceMul,Int.reduceNeg,Int.reduceToNat,List.length_map]))|refine And.intro (by omega) ?_|refine And.intro (And.intro (by omega) (by omega)) ?_))
 refine W_loop [3,5,11,12,13,14,15,16,17,18,19,20,21,22] (fun i:Nat=>[(3,.f (I (((R.take i).flatten.length:Nat):Int))),(11,.f (I i))]) (fun i:Nat=>[]) (fun i:Nat=>i≤R.length) (fun i:Nat=>R.length-i) (0) (Nat.zero_le _) (by refine weak_of ?_ ?_<;>simp (disch:=omega) only [go_sem,Nat.reduceAdd,Nat.reduceLT,Nat.reduceEqDiff]<;>first|rfl|exact ⟨rfl,rfl⟩|exact Or.inl rfl|exact ⟨Or.inl rfl,Or.inl rfl⟩|trivial|assumption|omega|(symm;assumption)|((repeat' apply And.intro)<;>first|rfl|omega|trivial|exact .inl rfl|exact .inr ⟨rfl,rfl⟩|exact .inr rfl|(right;symm;assumption)|(symm;assumption)|assumption)) ?_
 rintro i hi
 simp only [go_sem,Nat.reduceAdd,Nat.reduceLT,Nat.reduceEqDiff]
 (repeat (first|(with_reducible first|refine W_seq fun K hK=>?_|refine J_block ?_|refine J_skip ?_|refine J_exit ?_|refine J_ret ?_|refine J_region ?_ |refine J_drawn mixed (by kernel_rfl) ?_|refine aApp_sl ?_|refine aApp_old ?_|refine J_c ?_|refine Jc_true ?_|refine Jc_false ?_|exact Frz.f _|(refine Kont.go (by assumption) ?_)|(simp (config:={ maxSteps:=3000000 }) (disch:=omega) only [go_sem,Nat.reduceEqDiff,↓reduceIte,Nat.reduceAdd,Nat.reduceLT,Nat.reduceLeDiff,Int.reduceLT,Int.reduceLE,Int.reduceEq,Int.reduceNe,Int.reduceAdd,Int.reduceSub,Int.reduceMul,Int.reduceNeg,Int.reduceToNat,List.length_map]))|refine And.intro (by omega) ?_|refine And.intro (And.intro (by omega) (by omega)) ?_))
 refine Jc_if (fun hil=>?_) (fun hil=>?_)<;>try simp only [decide_eq_true_eq,decide_eq_false_iff_not,Bool.not_eq_true',Bool.not_eq_false',Bool.not_true,Bool.not_false,Int.ofNat_lt,Int.ofNat_le,Int.natCast_inj,Classical.not_not] at hil
 ·have gi:=map_get (FV.fz 1) R hil
  have hnx:=hfl i hil
  have h1:=hle i
  have h2:=hle (i+1)
  have hlen:(R.take i).flatten.length+R[i].length=(R.take (i+1)).flatten.length:=by rw [hnx,List.length_append]
  have hsum:(((R.take i).flatten.length:Nat):Int)+((R[i].length:Nat):Int)=(((R.take (i+1)).flatten.length:Nat):Int):=by omega
  have hng:¬((((R.take i).flatten.length:Nat):Int)+((R[i].length:Nat):Int)<0):=by omega
  (repeat (first|(with_reducible first|refine W_seq fun K hK=>?_|refine J_block ?_|refine J_skip ?_|refine J_exit ?_|refine J_ret ?_|refine J_region ?_ |refine J_drawn mixed (by kernel_rfl) ?_|refine aApp_sl ?_|refine aApp_old ?_|refine J_c ?_|refine Jc_true ?_|refine Jc_false ?_|exact Frz.f _|(refine Kont.go (by assumption) ?_)|(simp (config:={ maxSteps:=3000000 }) (disch:=omega) only [go_sem,Nat.reduceEqDiff,↓reduceIte,Nat.reduceAdd,Nat.reduceLT,Nat.reduceLeDiff,Int.reduceLT,Int.reduceLE,Int.reduceEq,Int.reduceNe,Int.reduceAdd,Int.reduceSub,Int.reduceMul,Int.reduceNeg,Int.reduceToNat,gi,hng,List.length_map]))|refine And.intro (by omega) ?_|refine And.intro (And.intro (by omega) (by omega)) ?_))
  refine ⟨i+1,by omega,by omega,weak_of ?_ ?_⟩<;>(try simp (disch:=omega) only [go_sem,Nat.reduceAdd,Nat.reduceLT,Nat.reduceEqDiff,hsum])<;>(try first|done|omega|rfl|exact ⟨rfl,rfl⟩|trivial)
 ·have he:i=R.length:=by omega
  rw [he,List.take_length,←hZ]
  (repeat (first|(with_reducible first|refine W_seq fun K hK=>?_|refine J_block ?_|refine J_skip ?_|refine J_exit ?_|refine J_ret ?_|refine J_region ?_ |refine J_drawn mixed (by kernel_rfl) ?_|refine aApp_sl ?_|refine aApp_old ?_|refine J_c ?_|refine Jc_true ?_|refine Jc_false ?_|exact Frz.f _|(refine Kont.go (by assumption) ?_)|(simp (config:={ maxSteps:=3000000 }) (disch:=omega) only [go_sem,Nat.reduceEqDiff,↓reduceIte,Nat.reduceAdd,Nat.reduceLT,Nat.reduceLeDiff,Int.reduceLT,Int.reduceLE,Int.reduceEq,Int.reduceNe,Int.reduceAdd,Int.reduceSub,Int.reduceMul,Int.reduceNeg,Int.reduceToNat]))|refine And.intro (by omega) ?_|refine And.intro (And.intro (by omega) (by omega)) ?_))
  refine call_o hg (FrzL.fs [_,_]) ?_
  (repeat (first|(with_reducible first|refine W_seq fun K hK=>?_|refine J_block ?_|refine J_skip ?_|refine J_exit ?_|refine J_ret ?_|refine J_region ?_ |refine J_drawn mixed (by kernel_rfl) ?_|refine aApp_sl ?_|refine aApp_old ?_|refine J_c ?_|refine Jc_true ?_|refine Jc_false ?_|exact Frz.f _|(refine Kont.go (by assumption) ?_)|(simp (config:={ maxSteps:=3000000 }) (disch:=omega) only [go_sem,Nat.reduceEqDiff,↓reduceIte,Nat.reduceAdd,Nat.reduceLT,Nat.reduceLeDiff,Int.reduceLT,Int.reduceLE,Int.reduceEq,Int.reduceNe,Int.reduceAdd,Int.reduceSub,Int.reduceMul,Int.reduceNeg,Int.reduceToNat,List.length_map]))|refine And.intro (by omega) ?_|refine And.intro (And.intro (by omega) (by omega)) ?_))
  refine J_mask [24] (by refine weak_of ?_ ?_<;>simp (disch:=omega) only [go_sem,Nat.reduceAdd,Nat.reduceLT,Nat.reduceEqDiff]<;>first|rfl|exact ⟨rfl,rfl⟩|trivial|((repeat' apply And.intro)<;>first|rfl|omega|trivial|exact .inl rfl|exact .inr ⟨rfl,rfl⟩|exact .inr rfl)) ?_
  simp only [go_sem,Nat.reduceAdd,Nat.reduceLT,Nat.reduceEqDiff]
  have e0:([]:List AV)=(R.take 0).flatten.map AV.f:=rfl
  refine W_loop [6,8,27,28,29,30,31,32,33,34] (fun j:Nat=>[(6,.own 0 1 0 (R.take j).flatten.length),(27,.f (I j))]) (fun j:Nat=>[some ⟨3,1,(R.take j).flatten.map .f⟩]) (fun j:Nat=>j≤R.length) (fun j:Nat=>R.length-j) (0) (Nat.zero_le _) (by refine weak_of ?_ ?_<;>simp (disch:=omega) only [go_sem,Nat.reduceAdd,Nat.reduceLT,Nat.reduceEqDiff]<;>first|rfl|exact ⟨rfl,rfl⟩|exact Or.inl rfl|exact ⟨Or.inl rfl,Or.inl rfl⟩|trivial|assumption|omega|(symm;assumption)|((repeat' apply And.intro)<;>first|rfl|omega|trivial|exact .inl rfl|exact .inr ⟨rfl,rfl⟩|exact .inr rfl|(right;symm;assumption)|(symm;assumption)|assumption)) ?_
  rintro j hj
  simp only [go_sem,Nat.reduceAdd,Nat.reduceLT,Nat.reduceEqDiff]
  (repeat (first|(with_reducible first|refine W_seq fun K hK=>?_|refine J_block ?_|refine J_skip ?_|refine J_exit ?_|refine J_ret ?_|refine J_region ?_ |refine J_drawn mixed (by kernel_rfl) ?_|refine aApp_sl ?_|refine aApp_old ?_|refine J_c ?_|refine Jc_true ?_|refine Jc_false ?_|exact Frz.f _|(refine Kont.go (by assumption) ?_)|(simp (config:={ maxSteps:=3000000 }) (disch:=omega) only [go_sem,Nat.reduceEqDiff,↓reduceIte,Nat.reduceAdd,Nat.reduceLT,Nat.reduceLeDiff,Int.reduceLT,Int.reduceLE,Int.reduceEq,Int.reduceNe,Int.reduceAdd,Int.reduceSub,Int.reduceMul,Int.reduceNeg,Int.reduceToNat,List.length_map]))|refine And.intro (by omega) ?_|refine And.intro (And.intro (by omega) (by omega)) ?_))
  refine Jc_if (fun hjl=>?_) (fun hjl=>?_)<;>try simp only [decide_eq_true_eq,decide_eq_false_iff_not,Bool.not_eq_true',Bool.not_eq_false',Bool.not_true,Bool.not_false,Int.ofNat_lt,Int.ofNat_le,Int.natCast_inj,Classical.not_not] at hjl
  ·have gj:=map_get (FV.fz 1) R hjl
   have hnx:=hfl j hjl
   have h2:=hle (j+1)
   have hlen:(R.take j).flatten.length+R[j].length=(R.take (j+1)).flatten.length:=by rw [hnx,List.length_append]
   have htk:((R.take j).flatten.map AV.f).take (R.take j).flatten.length=(R.take j).flatten.map .f:=List.take_of_length_le (by rw [List.length_map];omega)
   have hap:(R.take j).flatten.map AV.f++R[j].map AV.f=(R.take (j+1)).flatten.map .f:=by rw [hnx,List.map_append]
   have hby:((R.take j).flatten.length+R[j].length)*8≤140737488355328:=by omega
   (repeat (first|(with_reducible first|refine W_seq fun K hK=>?_|refine J_block ?_|refine J_skip ?_|refine J_exit ?_|refine J_ret ?_|refine J_region ?_ |refine J_drawn mixed (by kernel_rfl) ?_|refine aApp_sl ?_|refine aApp_old ?_|refine J_c ?_|refine Jc_true ?_|refine Jc_false ?_|exact Frz.f _|(refine Kont.go (by assumption) ?_)|(simp (config:={ maxSteps:=3000000 }) (disch:=omega) only [go_sem,Nat.reduceEqDiff,↓reduceIte,Nat.reduceAdd,Nat.reduceLT,Nat.reduceLeDiff,Int.reduceLT,Int.reduceLE,Int.reduceEq,Int.reduceNe,Int.reduceAdd,Int.reduceSub,Int.reduceMul,Int.reduceNeg,Int.reduceToNat,gj,htk,hap,hby,List.length_map]))|refine And.intro (by omega) ?_|refine And.intro (And.intro (by omega) (by omega)) ?_))
   refine ⟨j+1,by omega,by omega,weak_ren [1] ⟨by decide,by first|decide|(simp;done)⟩ ?_ ?_⟩<;>(try simp (disch:=omega) only [go_sem,Nat.reduceAdd,Nat.reduceLT,Nat.reduceEqDiff,hlen])<;>(try first|done|omega|rfl|exact ⟨rfl,rfl⟩|trivial)
  ·have he:j=R.length:=by omega
   rw [he,List.take_length,←hZ]
   (repeat (first|(with_reducible first|refine W_seq fun K hK=>?_|refine J_block ?_|refine J_skip ?_|refine J_exit ?_|refine J_ret ?_|refine J_region ?_ |refine J_drawn mixed (by kernel_rfl) ?_|refine aApp_sl ?_|refine aApp_old ?_|refine J_c ?_|refine Jc_true ?_|refine Jc_false ?_|exact Frz.f _|(refine Kont.go (by assumption) ?_)|(simp (config:={ maxSteps:=3000000 }) (disch:=omega) only [go_sem,Nat.reduceEqDiff,↓reduceIte,Nat.reduceAdd,Nat.reduceLT,Nat.reduceLeDiff,Int.reduceLT,Int.reduceLE,Int.reduceEq,Int.reduceNe,Int.reduceAdd,Int.reduceSub,Int.reduceMul,Int.reduceNeg,Int.reduceToNat]))|refine And.intro (by omega) ?_|refine And.intro (And.intro (by omega) (by omega)) ?_))
   exact ⟨0,rfl,rfl,hf⟩
set_option maxRecDepth 100000 in
set_option maxHeartbeats 4000000 in
theorem concat0_w (R:List (List FV)) (hR:R.length≤1000) (h0:∀r∈R,r=[]):Good Tryz.prog 49 [.fz 1 (R.map (FV.fz 1))] (.v (.slice none 0 0)):=by
 have hg:=grow0_w
 refine good_of Tryz.func49 rfl (by kernel_rfl) fun X hO hrd=>?_;rw [Tryz.ntmps49,Tryz.results49];simp only [ast0,List.map_cons,List.map_nil,List.length_cons,List.length_nil,Nat.reduceAdd,Nat.reduceSub,List.replicate_succ,List.replicate_zero,List.cons_append,List.nil_append]
 (repeat (first|(with_reducible first|refine W_seq fun K hK=>?_|refine J_block ?_|refine J_skip ?_|refine J_exit ?_|refine J_ret ?_|refine J_region ?_ |refine J_drawn mixed (by kernel_rfl) ?_|refine aApp_sl ?_|refine aApp_old ?_|refine J_c ?_|refine Jc_true ?_|refine Jc_false ?_|exact Frz.f _|(refine Kont.go (by assumption) ?_)|(simp (config:={ maxSteps:=3000000 }) (disch:=omega) only [go_sem,Nat.reduceEqDiff,↓reduceIte,Nat.reduceAdd,Nat.reduceLT,Nat.reduceLeDiff,Int.reduceLT,Int.reduceLE,Int.reduceEq,Int.reduceNe,Int.reduceAdd,Int.reduceSub,Int.reduceMul,Int.reduceNeg,Int.reduceToNat,List.length_map]))|refine And.intro (by omega) ?_|refine And.intro (And.intro (by omega) (by omega)) ?_))
 refine W_loop [3,5,11,12,13,14,15,16,17,18,19,20,21,22] (fun i:Nat=>[(3,.f (I 0)),(11,.f (I i))]) (fun i:Nat=>[]) (fun i:Nat=>i≤R.length) (fun i:Nat=>R.length-i) (0) (Nat.zero_le _) (by refine weak_of ?_ ?_<;>simp (disch:=omega) only [go_sem,Nat.reduceAdd,Nat.reduceLT,Nat.reduceEqDiff]<;>first|rfl|exact ⟨rfl,rfl⟩|exact Or.inl rfl|exact ⟨Or.inl rfl,Or.inl rfl⟩|trivial|assumption|omega|(symm;assumption)|((repeat' apply And.intro)<;>first|rfl|omega|trivial|exact .inl rfl|exact .inr ⟨rfl,rfl⟩|exact .inr rfl|(right;symm;assumption)|(symm;assumption)|assumption)) ?_
 rintro i hi
 simp only [go_sem,Nat.reduceAdd,Nat.reduceLT,Nat.reduceEqDiff]
 (repeat (first|(with_reducible first|refine W_seq fun K hK=>?_|refine J_block ?_|refine J_skip ?_|refine J_exit ?_|refine J_ret ?_|refine J_region ?_ |refine J_drawn mixed (by kernel_rfl) ?_|refine aApp_sl ?_|refine aApp_old ?_|refine J_c ?_|refine Jc_true ?_|refine Jc_false ?_|exact Frz.f _|(refine Kont.go (by assumption) ?_)|(simp (config:={ maxSteps:=3000000 }) (disch:=omega) only [go_sem,Nat.reduceEqDiff,↓reduceIte,Nat.reduceAdd,Nat.reduceLT,Nat.reduceLeDiff,Int.reduceLT,Int.reduceLE,Int.reduceEq,Int.reduceNe,Int.reduceAdd,Int.reduceSub,Int.reduceMul,Int.reduceNeg,Int.reduceToNat,List.length_map]))|refine And.intro (by omega) ?_|refine And.intro (And.intro (by omega) (by omega)) ?_))
 refine Jc_if (fun hil=>?_) (fun hil=>?_)<;>try simp only [decide_eq_true_eq,decide_eq_false_iff_not,Bool.not_eq_true',Bool.not_eq_false',Bool.not_true,Bool.not_false,Int.ofNat_lt,Int.ofNat_le,Int.natCast_inj,Classical.not_not] at hil
 ·have gi:=map_get (FV.fz 1) R hil
  have hr:=h0 _ (List.getElem_mem hil)
  rw [hr] at gi
  (repeat (first|(with_reducible first|refine W_seq fun K hK=>?_|refine J_block ?_|refine J_skip ?_|refine J_exit ?_|refine J_ret ?_|refine J_region ?_ |refine J_drawn mixed (by kernel_rfl) ?_|refine aApp_sl ?_|refine aApp_old ?_|refine J_c ?_|refine Jc_true ?_|refine Jc_false ?_|exact Frz.f _|(refine Kont.go (by assumption) ?_)|(simp (config:={ maxSteps:=3000000 }) (disch:=omega) only [go_sem,Nat.reduceEqDiff,↓reduceIte,Nat.reduceAdd,Nat.reduceLT,Nat.reduceLeDiff,Int.reduceLT,Int.reduceLE,Int.reduceEq,Int.reduceNe,Int.reduceAdd,Int.reduceSub,Int.reduceMul,Int.reduceNeg,Int.reduceToNat,gi,List.length_map,List.length_nil]))|refine And.intro (by omega) ?_|refine And.intro (And.intro (by omega) (by omega)) ?_))
  refine ⟨i+1,by omega,by omega,weak_of ?_ ?_⟩<;>(try simp (disch:=omega) only [go_sem,Nat.reduceAdd,Nat.reduceLT,Nat.reduceEqDiff])<;>(try first|done|omega|rfl|exact ⟨rfl,rfl⟩|trivial)
 ·have he:i=R.length:=by omega
  (repeat (first|(with_reducible first|refine W_seq fun K hK=>?_|refine J_block ?_|refine J_skip ?_|refine J_exit ?_|refine J_ret ?_|refine J_region ?_ |refine J_drawn mixed (by kernel_rfl) ?_|refine aApp_sl ?_|refine aApp_old ?_|refine J_c ?_|refine Jc_true ?_|refine Jc_false ?_|exact Frz.f _|(refine Kont.go (by assumption) ?_)|(simp (config:={ maxSteps:=3000000 }) (disch:=omega) only [go_sem,Nat.reduceEqDiff,↓reduceIte,Nat.reduceAdd,Nat.reduceLT,Nat.reduceLeDiff,Int.reduceLT,Int.reduceLE,Int.reduceEq,Int.reduceNe,Int.reduceAdd,Int.reduceSub,Int.reduceMul,Int.reduceNeg,Int.reduceToNat]))|refine And.intro (by omega) ?_|refine And.intro (And.intro (by omega) (by omega)) ?_))
  (first|refine call_f (hg) rfl ?_|refine callQ_f (hg) rfl ?_|refine callHK_f (hg) rfl ?_|refine callH_f (hg) rfl ?_)
  (repeat (first|(with_reducible first|refine W_seq fun K hK=>?_|refine J_block ?_|refine J_skip ?_|refine J_exit ?_|refine J_ret ?_|refine J_region ?_ |refine J_drawn mixed (by kernel_rfl) ?_|refine aApp_sl ?_|refine aApp_old ?_|refine J_c ?_|refine Jc_true ?_|refine Jc_false ?_|exact Frz.f _|(refine Kont.go (by assumption) ?_)|(simp (config:={ maxSteps:=3000000 }) (disch:=omega) only [go_sem,Nat.reduceEqDiff,↓reduceIte,Nat.reduceAdd,Nat.reduceLT,Nat.reduceLeDiff,Int.reduceLT,Int.reduceLE,Int.reduceEq,Int.reduceNe,Int.reduceAdd,Int.reduceSub,Int.reduceMul,Int.reduceNeg,Int.reduceToNat,List.length_map]))|refine And.intro (by omega) ?_|refine And.intro (And.intro (by omega) (by omega)) ?_))
  refine J_mask [24] (by refine weak_of ?_ ?_<;>simp (disch:=omega) only [go_sem,Nat.reduceAdd,Nat.reduceLT,Nat.reduceEqDiff]<;>first|rfl|exact ⟨rfl,rfl⟩|exact Or.inl rfl|exact ⟨Or.inl rfl,Or.inl rfl⟩|trivial|assumption|omega|(symm;assumption)|((repeat' apply And.intro)<;>first|rfl|omega|trivial|exact .inr ⟨rfl,rfl⟩|exact .inr rfl|(right;symm;assumption)|(symm;assumption)|assumption)) ?_;simp only [go_sem,Nat.reduceAdd,Nat.reduceLT,Nat.reduceEqDiff]
  refine W_loop [6,8,27,28,29,30,31,32,33,34] (fun j:Nat=>[(6,.f (.v (.slice none 0 0))),(27,.f (I j))]) (fun j:Nat=>[]) (fun j:Nat=>j≤R.length) (fun j:Nat=>R.length-j) (0) (Nat.zero_le _) (by refine weak_of ?_ ?_<;>simp (disch:=omega) only [go_sem,Nat.reduceAdd,Nat.reduceLT,Nat.reduceEqDiff]<;>first|rfl|exact ⟨rfl,rfl⟩|exact Or.inl rfl|exact ⟨Or.inl rfl,Or.inl rfl⟩|trivial|assumption|omega|(symm;assumption)|((repeat' apply And.intro)<;>first|rfl|omega|trivial|exact .inl rfl|exact .inr ⟨rfl,rfl⟩|exact .inr rfl|(right;symm;assumption)|(symm;assumption)|assumption)) ?_
  rintro j hj
  simp only [go_sem,Nat.reduceAdd,Nat.reduceLT,Nat.reduceEqDiff]
  (repeat (first|(with_reducible first|refine W_seq fun K hK=>?_|refine J_block ?_|refine J_skip ?_|refine J_exit ?_|refine J_ret ?_|refine J_region ?_ |refine J_drawn mixed (by kernel_rfl) ?_|refine aApp_sl ?_|refine aApp_old ?_|refine J_c ?_|refine Jc_true ?_|refine Jc_false ?_|exact Frz.f _|(refine Kont.go (by assumption) ?_)|(simp (config:={ maxSteps:=3000000 }) (disch:=omega) only [go_sem,Nat.reduceEqDiff,↓reduceIte,Nat.reduceAdd,Nat.reduceLT,Nat.reduceLeDiff,Int.reduceLT,Int.reduceLE,Int.reduceEq,Int.reduceNe,Int.reduceAdd,Int.reduceSub,Int.reduceMul,Int.reduceNeg,Int.reduceToNat,List.length_map]))|refine And.intro (by omega) ?_|refine And.intro (And.intro (by omega) (by omega)) ?_))
  refine Jc_if (fun hjl=>?_) (fun hjl=>?_)<;>try simp only [decide_eq_true_eq,decide_eq_false_iff_not,Bool.not_eq_true',Bool.not_eq_false',Bool.not_true,Bool.not_false,Int.ofNat_lt,Int.ofNat_le,Int.natCast_inj,Classical.not_not] at hjl
  ·have gj:=map_get (FV.fz 1) R hjl
   have hr:=h0 _ (List.getElem_mem hjl)
   rw [hr] at gj
   (repeat (first|(with_reducible first|refine W_seq fun K hK=>?_|refine J_block ?_|refine J_skip ?_|refine J_exit ?_|refine J_ret ?_|refine J_region ?_ |refine J_drawn mixed (by kernel_rfl) ?_|refine J_c ?_|refine Jc_true ?_|refine Jc_false ?_|exact Frz.f _|(refine Kont.go (by assumption) ?_)|(simp (config:={ maxSteps:=3000000 }) (disch:=omega) only [go_sem,Nat.reduceEqDiff,↓reduceIte,Nat.reduceAdd,Nat.reduceLT,Nat.reduceLeDiff,Int.reduceLT,Int.reduceLE,Int.reduceEq,Int.reduceNe,Int.reduceAdd,Int.reduceSub,Int.reduceMul,Int.reduceNeg,Int.reduceToNat,gj,List.length_map]))|refine And.intro (by omega) ?_|refine And.intro (And.intro (by omega) (by omega)) ?_))
   refine aApp_nothing ⟨⟨rfl,rfl⟩,rfl,?_⟩
   (repeat (first|(with_reducible first|refine W_seq fun K hK=>?_|refine J_block ?_|refine J_skip ?_|refine J_exit ?_|refine J_ret ?_|refine J_region ?_ |refine J_drawn mixed (by kernel_rfl) ?_|refine aApp_sl ?_|refine aApp_old ?_|refine J_c ?_|refine Jc_true ?_|refine Jc_false ?_|exact Frz.f _|(refine Kont.go (by assumption) ?_)|(simp (config:={ maxSteps:=3000000 }) (disch:=omega) only [go_sem,Nat.reduceEqDiff,↓reduceIte,Nat.reduceAdd,Nat.reduceLT,Nat.reduceLeDiff,Int.reduceLT,Int.reduceLE,Int.reduceEq,Int.reduceNe,Int.reduceAdd,Int.reduceSub,Int.reduceMul,Int.reduceNeg,Int.reduceToNat]))|refine And.intro (by omega) ?_|refine And.intro (And.intro (by omega) (by omega)) ?_))
   refine ⟨j+1,by omega,by omega,weak_of ?_ ?_⟩<;>(try simp (disch:=omega) only [go_sem,Nat.reduceAdd,Nat.reduceLT,Nat.reduceEqDiff])<;>(try first|done|omega|rfl|exact ⟨rfl,rfl⟩|trivial)
  ·(repeat (first|(with_reducible first|refine W_seq fun K hK=>?_|refine J_block ?_|refine J_skip ?_|refine J_exit ?_|refine J_ret ?_|refine J_region ?_ |refine J_drawn mixed (by kernel_rfl) ?_|refine aApp_sl ?_|refine aApp_old ?_|refine J_c ?_|refine Jc_true ?_|refine Jc_false ?_|exact Frz.f _|(refine Kont.go (by assumption) ?_)|(simp (config:={ maxSteps:=3000000 }) (disch:=omega) only [go_sem,Nat.reduceEqDiff,↓reduceIte,Nat.reduceAdd,Nat.reduceLT,Nat.reduceLeDiff,Int.reduceLT,Int.reduceLE,Int.reduceEq,Int.reduceNe,Int.reduceAdd,Int.reduceSub,Int.reduceMul,Int.reduceNeg,Int.reduceToNat]))|refine And.intro (by omega) ?_|refine And.intro (And.intro (by omega) (by omega)) ?_))
end Go.Proofs.YtmcgeppgfjlclaaGreatDoor
