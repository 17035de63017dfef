/- augurref.Pick, by the abstract machine. Conditions: none. -/
import Derived.Test.YtmcgeppgfjlclaaGreatDoorZB15
import Derived.Test.YtmcgeppgfjlclaaGreatDoorZB10
import Derived.Test.YtmcgeppgfjlclaaGreatDoorZB09
set_option linter.unusedVariables false
set_option linter.unusedSimpArgs false
namespace Go.Proofs.YtmcgeppgfjlclaaGreatDoor
open Go Go.RowKit
def pickN (c:Int) (n:Nat):Nat:=(if c<0 then -(c+1) else c).toNat%n
theorem tmod_nat {c:Int} {n:Nat} (h:0≤c):c.tmod (n:Int)=((c.toNat%n:Nat):Int):=by
 rw [Int.tmod_eq_emod_of_nonneg h,Int.natCast_emod,Int.toNat_of_nonneg h]
theorem pickN_lt (c:Int) {n:Nat} (h:0<n):pickN c n<n:=Nat.mod_lt _ h
set_option maxRecDepth 100000 in
theorem pick_good (c:Int) (n:Nat) (h1:-9223372036854775808≤c) (h2:c≤9223372036854775807) (h0:0<n) (hn:n≤9223372036854775807):Good Tryz.prog 6 [I c,I n] (I (pickN c n)):=by
 unfold pickN
 refine good_of Tryz.func6 rfl (by kernel_rfl) fun X hO hrd=>?_;rw [Tryz.ntmps6,Tryz.results6];simp only [ast0,List.map_cons,List.map_nil,List.length_cons,List.length_nil,Nat.reduceAdd,Nat.reduceSub,List.replicate_succ,List.replicate_zero,List.cons_append,List.nil_append]
 (repeat (first|(with_reducible first|refine W_seq fun K hK=>?_|refine J_block ?_|refine J_skip ?_|refine J_exit ?_|refine J_ret ?_|refine J_region ?_ |refine J_drawn mixed (by kernel_rfl) ?_|refine aApp_sl ?_|refine aApp_old ?_|refine J_c ?_|refine Jc_true ?_|refine Jc_false ?_|exact Frz.f _|(refine Kont.go (by assumption) ?_)|(simp (config:={ maxSteps:=3000000 }) (disch:=omega) only [go_sem,Nat.reduceEqDiff,↓reduceIte,Nat.reduceAdd,Nat.reduceLT,Nat.reduceLeDiff,Int.reduceLT,Int.reduceLE,Int.reduceEq,Int.reduceNe,Int.reduceAdd,Int.reduceSub,Int.reduceMul,Int.reduceNeg,Int.reduceToNat]))|refine And.intro (by omega) ?_|refine And.intro (And.intro (by omega) (by omega)) ?_))
 refine Jc_if (fun hc=>?_) (fun hc=>?_)<;>try simp only [decide_eq_true_eq,decide_eq_false_iff_not,Bool.not_eq_true',Bool.not_eq_false',Bool.not_true,Bool.not_false,Int.ofNat_lt,Int.ofNat_le,Int.natCast_inj,Classical.not_not] at hc
 ·(repeat (first|(with_reducible first|refine W_seq fun K hK=>?_|refine J_block ?_|refine J_skip ?_|refine J_exit ?_|refine J_ret ?_|refine J_region ?_ |refine J_drawn mixed (by kernel_rfl) ?_|refine aApp_sl ?_|refine aApp_old ?_|refine J_c ?_|refine Jc_true ?_|refine Jc_false ?_|exact Frz.f _|(refine Kont.go (by assumption) ?_)|(simp (config:={ maxSteps:=3000000 }) (disch:=omega) only [go_sem,Nat.reduceEqDiff,↓reduceIte,Nat.reduceAdd,Nat.reduceLT,Nat.reduceLeDiff,Int.reduceLT,Int.reduceLE,Int.reduceEq,Int.reduceNe,Int.reduceAdd,Int.reduceSub,Int.reduceMul,Int.reduceNeg,Int.reduceToNat,Int.zero_sub]))|refine And.intro (by omega) ?_|refine And.intro (And.intro (by omega) (by omega)) ?_))
  rw [if_pos hc,←tmod_nat (by omega)]
  exact Frz.f _
 ·(repeat (first|(with_reducible first|refine W_seq fun K hK=>?_|refine J_block ?_|refine J_skip ?_|refine J_exit ?_|refine J_ret ?_|refine J_region ?_ |refine J_drawn mixed (by kernel_rfl) ?_|refine aApp_sl ?_|refine aApp_old ?_|refine J_c ?_|refine Jc_true ?_|refine Jc_false ?_|exact Frz.f _|(refine Kont.go (by assumption) ?_)|(simp (config:={ maxSteps:=3000000 }) (disch:=omega) only [go_sem,Nat.reduceEqDiff,↓reduceIte,Nat.reduceAdd,Nat.reduceLT,Nat.reduceLeDiff,Int.reduceLT,Int.reduceLE,Int.reduceEq,Int.reduceNe,Int.reduceAdd,Int.reduceSub,Int.reduceMul,Int.reduceNeg,Int.reduceToNat]))|refine And.intro (by omega) ?_|refine And.intro (And.intro (by omega) (by omega)) ?_))
  rw [if_neg hc,←tmod_nat (by omega)]
  exact Frz.f _
theorem pickI (c n:Int) (h1:-9223372036854775808≤c) (h2:c≤9223372036854775807) (h0:0<n) (hn:n≤9223372036854775807):Good Tryz.prog 6 [I c,I n] (I (pickN c n.toNat)):=by
 have:=pick_good c n.toNat h1 h2 (by omega) (by omega)
 rwa [Int.toNat_of_nonneg (by omega)] at this
end Go.Proofs.YtmcgeppgfjlclaaGreatDoor
set_option linter.unusedVariables false
set_option linter.unusedSimpArgs false
namespace Go.Proofs.YtmcgeppgfjlclaaGreatDoor
open Go Go.RowKit
theorem i64_get {w:List Int} (hw:∀x∈w,-9223372036854775808≤x∧x≤9223372036854775807) {i:Nat} (h:i<w.length):-9223372036854775808≤w[i]∧w[i]≤9223372036854775807:=hw _ (List.getElem_mem h)
end Go.Proofs.YtmcgeppgfjlclaaGreatDoor
set_option linter.unusedVariables false
set_option linter.unusedSimpArgs false
namespace Go.Proofs.YtmcgeppgfjlclaaGreatDoor
open Go Go.RowKit
def hasP (l:List Int) (n v x:Nat):Bool:=(l.take x).any fun c=>decide (pickN c n=v)
def someL (l:List Int) (n x:Nat):List Nat:=(List.range x).filter fun v=>hasP l n v l.length
section
variable {l : List Int} {n v x : Nat}
theorem hasP_next (h:x<l.length):hasP l n v (x+1)=(hasP l n v x||decide (pickN l[x] n=v)):=by
 unfold hasP
 rw [List.take_succ_eq_append_getElem h,List.any_append]
 simp
theorem someL_yes (h:hasP l n x l.length=true):Ns (someL l n x)++[I (x:Int)]=Ns (someL l n (x+1)):=by
 rw [Ns_snoc];congr 1;unfold someL;rw [List.range_succ,List.filter_append];simp [h]
theorem someL_no (h:hasP l n x l.length=false):Ns (someL l n x)=Ns (someL l n (x+1)):=by
 congr 1;unfold someL;rw [List.range_succ,List.filter_append];simp [h]
theorem someL_len:(Ns (someL l n x)).length≤x:=by
 rw [Ns_len];unfold someL;exact Nat.le_trans (List.length_filter_le _ _) (by simp)
end
set_option maxRecDepth 100000 in
set_option maxHeartbeats 4000000 in
theorem rsome_w (l:List Int) (n:Nat) (hw:∀x∈l,-9223372036854775808≤x∧x≤9223372036854775807) (h1:1≤n) (hn:n≤1000) (hl:l.length≤140737488355328) :
  Good Tryz.prog 10 [ints l,I n] (.fz 1 (Ns (someL l n n))):=by
 refine good_of Tryz.func10 rfl (by kernel_rfl) fun X hO hrd=>?_;rw [Tryz.ntmps10,Tryz.results10];simp only [ast0,List.map_cons,List.map_nil,List.length_cons,List.length_nil,Nat.reduceAdd,Nat.reduceSub,List.replicate_succ,List.replicate_zero,List.cons_append,List.nil_append]
 (repeat (first|(with_reducible first|refine W_seq fun K hK=>?_|refine J_block ?_|refine J_skip ?_|refine J_exit ?_|refine J_ret ?_|refine J_region ?_ |refine J_drawn mixed (by kernel_rfl) ?_|refine aApp_sl ?_|refine aApp_old ?_|refine J_c ?_|refine Jc_true ?_|refine Jc_false ?_|exact Frz.f _|(refine Kont.go (by assumption) ?_)|(simp (config:={ maxSteps:=3000000 }) (disch:=omega) only [go_sem,Nat.reduceEqDiff,↓reduceIte,Nat.reduceAdd,Nat.reduceLT,Nat.reduceLeDiff,Int.reduceLT,Int.reduceLE,Int.reduceEq,Int.reduceNe,Int.reduceAdd,Int.reduceSub,Int.reduceMul,Int.reduceNeg,Int.reduceToNat]))|refine call_f (pickI _ _ (by omega) (by omega) (by omega) (by omega)) rfl ?_|refine callQ_f (pickI _ _ (by omega) (by omega) (by omega) (by omega)) rfl ?_|refine And.intro (by omega) ?_|refine And.intro (And.intro (by omega) (by omega)) ?_))
 refine J_reserve ?_
 refine W_loop [5,6,7,8,9,10,11,12,13,14,15,16,17,18,19,20,21,22,23,24,25,26,27,28,29,30,31,32,33,34,35] (fun x:Nat=>[(5,sl 0 1 (Ns (someL l n x))),(6,.f (I x))]) (fun x:Nat=>[ob 3 1 (Ns (someL l n x))]) (fun x:Nat=>x≤n) (fun x:Nat=>n-x) (0) (Nat.zero_le _) (by refine weak_of ?_ ?_<;>simp (disch:=omega) only [go_sem,Nat.reduceAdd,Nat.reduceLT,Nat.reduceEqDiff]<;>first|rfl|exact ⟨rfl,rfl⟩|exact Or.inl rfl|exact ⟨Or.inl rfl,Or.inl rfl⟩|trivial|assumption|omega|(symm;assumption)|((repeat' apply And.intro)<;>first|rfl|omega|trivial|exact .inl rfl|exact .inr ⟨rfl,rfl⟩|exact .inr rfl|(right;symm;assumption)|(symm;assumption)|assumption)) ?_
 rintro v hv
 simp only [go_sem,Nat.reduceAdd,Nat.reduceLT,Nat.reduceEqDiff]
 (repeat (first|(with_reducible first|refine W_seq fun K hK=>?_|refine J_block ?_|refine J_skip ?_|refine J_exit ?_|refine J_ret ?_|refine J_region ?_ |refine J_drawn mixed (by kernel_rfl) ?_|refine aApp_sl ?_|refine aApp_old ?_|refine J_c ?_|refine Jc_true ?_|refine Jc_false ?_|exact Frz.f _|(refine Kont.go (by assumption) ?_)|(simp (config:={ maxSteps:=3000000 }) (disch:=omega) only [go_sem,Nat.reduceEqDiff,↓reduceIte,Nat.reduceAdd,Nat.reduceLT,Nat.reduceLeDiff,Int.reduceLT,Int.reduceLE,Int.reduceEq,Int.reduceNe,Int.reduceAdd,Int.reduceSub,Int.reduceMul,Int.reduceNeg,Int.reduceToNat]))|refine call_f (pickI _ _ (by omega) (by omega) (by omega) (by omega)) rfl ?_|refine callQ_f (pickI _ _ (by omega) (by omega) (by omega) (by omega)) rfl ?_|refine And.intro (by omega) ?_|refine And.intro (And.intro (by omega) (by omega)) ?_))
 refine Jc_if (fun hvl=>?_) (fun hvl=>?_)<;>try simp only [decide_eq_true_eq,decide_eq_false_iff_not,Bool.not_eq_true',Bool.not_eq_false',Bool.not_true,Bool.not_false,Int.ofNat_lt,Int.ofNat_le,Int.natCast_inj,Classical.not_not] at hvl
 ·(repeat (first|(with_reducible first|refine W_seq fun K hK=>?_|refine J_block ?_|refine J_skip ?_|refine J_exit ?_|refine J_ret ?_|refine J_region ?_ |refine J_drawn mixed (by kernel_rfl) ?_|refine aApp_sl ?_|refine aApp_old ?_|refine J_c ?_|refine Jc_true ?_|refine Jc_false ?_|exact Frz.f _|(refine Kont.go (by assumption) ?_)|(simp (config:={ maxSteps:=3000000 }) (disch:=omega) only [go_sem,Nat.reduceEqDiff,↓reduceIte,Nat.reduceAdd,Nat.reduceLT,Nat.reduceLeDiff,Int.reduceLT,Int.reduceLE,Int.reduceEq,Int.reduceNe,Int.reduceAdd,Int.reduceSub,Int.reduceMul,Int.reduceNeg,Int.reduceToNat]))|refine call_f (pickI _ _ (by omega) (by omega) (by omega) (by omega)) rfl ?_|refine callQ_f (pickI _ _ (by omega) (by omega) (by omega) (by omega)) rfl ?_|refine And.intro (by omega) ?_|refine And.intro (And.intro (by omega) (by omega)) ?_))
  refine W_loop [7,8,14,15,16,17,18,19,20,21,22,23,24,25,26,27,28,29,30] (fun x:Nat=>[(7,.f (Bo (hasP l n v x))),(8,.f (I x))]) (fun x:Nat=>[ob 3 1 (Ns (someL l n v))]) (fun x:Nat=>x≤l.length) (fun x:Nat=>l.length-x) (0) (Nat.zero_le _) (by refine weak_of ?_ ?_<;>simp (disch:=omega) only [go_sem,Nat.reduceAdd,Nat.reduceLT,Nat.reduceEqDiff]<;>first|rfl|exact ⟨rfl,rfl⟩|exact Or.inl rfl|exact ⟨Or.inl rfl,Or.inl rfl⟩|trivial|assumption|omega|(symm;assumption)|((repeat' apply And.intro)<;>first|rfl|omega|trivial|exact .inl rfl|exact .inr ⟨rfl,rfl⟩|exact .inr rfl|(right;symm;assumption)|(symm;assumption)|assumption)) ?_
  rintro i hi
  simp only [go_sem,Nat.reduceAdd,Nat.reduceLT,Nat.reduceEqDiff]
  (repeat (first|(with_reducible first|refine W_seq fun K hK=>?_|refine J_block ?_|refine J_skip ?_|refine J_exit ?_|refine J_ret ?_|refine J_region ?_ |refine J_drawn mixed (by kernel_rfl) ?_|refine aApp_sl ?_|refine aApp_old ?_|refine J_c ?_|refine Jc_true ?_|refine Jc_false ?_|exact Frz.f _|(refine Kont.go (by assumption) ?_)|(simp (config:={ maxSteps:=3000000 }) (disch:=omega) only [go_sem,Nat.reduceEqDiff,↓reduceIte,Nat.reduceAdd,Nat.reduceLT,Nat.reduceLeDiff,Int.reduceLT,Int.reduceLE,Int.reduceEq,Int.reduceNe,Int.reduceAdd,Int.reduceSub,Int.reduceMul,Int.reduceNeg,Int.reduceToNat,List.length_map]))|refine call_f (pickI _ _ (by omega) (by omega) (by omega) (by omega)) rfl ?_|refine callQ_f (pickI _ _ (by omega) (by omega) (by omega) (by omega)) rfl ?_|refine And.intro (by omega) ?_|refine And.intro (And.intro (by omega) (by omega)) ?_))
  refine Jc_if (fun hil=>?_) (fun hil=>?_)<;>try simp only [decide_eq_true_eq,decide_eq_false_iff_not,Bool.not_eq_true',Bool.not_eq_false',Bool.not_true,Bool.not_false,Int.ofNat_lt,Int.ofNat_le,Int.natCast_inj,Classical.not_not] at hil
  ·have hx:=i64_get hw hil
   have hg:=map_get I l hil
   have hnx:=hasP_next (n:=n) (v:=v) hil
   have hp:=pickN_lt l[i] (n:=n) (by omega)
   cases hb:hasP l n v i with
   | true =>
    rw [hb,Bool.true_or] at hnx
    (repeat (first|(with_reducible first|refine W_seq fun K hK=>?_|refine J_block ?_|refine J_skip ?_|refine J_exit ?_|refine J_ret ?_|refine J_region ?_ |refine J_drawn mixed (by kernel_rfl) ?_|refine aApp_sl ?_|refine aApp_old ?_|refine J_c ?_|refine Jc_true ?_|refine Jc_false ?_|exact Frz.f _|(refine Kont.go (by assumption) ?_)|(simp (config:={ maxSteps:=3000000 }) (disch:=omega) only [go_sem,Nat.reduceEqDiff,↓reduceIte,Nat.reduceAdd,Nat.reduceLT,Nat.reduceLeDiff,Int.reduceLT,Int.reduceLE,Int.reduceEq,Int.reduceNe,Int.reduceAdd,Int.reduceSub,Int.reduceMul,Int.reduceNeg,Int.reduceToNat,List.length_map,hg,hb]))|refine call_f (pickI _ _ (by omega) (by omega) (by omega) (by omega)) rfl ?_|refine callQ_f (pickI _ _ (by omega) (by omega) (by omega) (by omega)) rfl ?_|refine And.intro (by omega) ?_|refine And.intro (And.intro (by omega) (by omega)) ?_))
    rw [←hnx]
    refine ⟨i+1,by omega,by omega,weak_of ?_ ?_⟩<;>(try simp (disch:=omega) only [go_sem,Nat.reduceAdd,Nat.reduceLT,Nat.reduceEqDiff])<;>(try first|done|omega|rfl|exact ⟨rfl,rfl⟩|trivial)
   | false =>
    rw [hb,Bool.false_or] at hnx
    (repeat (first|(with_reducible first|refine W_seq fun K hK=>?_|refine J_block ?_|refine J_skip ?_|refine J_exit ?_|refine J_ret ?_|refine J_region ?_ |refine J_drawn mixed (by kernel_rfl) ?_|refine aApp_sl ?_|refine aApp_old ?_|refine J_c ?_|refine Jc_true ?_|refine Jc_false ?_|exact Frz.f _|(refine Kont.go (by assumption) ?_)|(simp (config:={ maxSteps:=3000000 }) (disch:=omega) only [go_sem,Nat.reduceEqDiff,↓reduceIte,Nat.reduceAdd,Nat.reduceLT,Nat.reduceLeDiff,Int.reduceLT,Int.reduceLE,Int.reduceEq,Int.reduceNe,Int.reduceAdd,Int.reduceSub,Int.reduceMul,Int.reduceNeg,Int.reduceToNat,List.length_map,hg,hb,Int.natCast_inj]))|refine call_f (pickI _ _ (by omega) (by omega) (by omega) (by omega)) rfl ?_|refine callQ_f (pickI _ _ (by omega) (by omega) (by omega) (by omega)) rfl ?_|refine And.intro (by omega) ?_|refine And.intro (And.intro (by omega) (by omega)) ?_))
    rw [←hnx]
    refine ⟨i+1,by omega,by omega,weak_of ?_ ?_⟩<;>(try simp (disch:=omega) only [go_sem,Nat.reduceAdd,Nat.reduceLT,Nat.reduceEqDiff])<;>(try first|done|omega|rfl|exact ⟨rfl,rfl⟩|trivial)
  ·have he:i=l.length:=by omega
   subst he
   have hsl:=someL_len (l:=l) (n:=n) (x:=v)
   cases hb:hasP l n v l.length with
   | true =>
    (repeat (first|(with_reducible first|refine W_seq fun K hK=>?_|refine J_block ?_|refine J_skip ?_|refine J_exit ?_|refine J_ret ?_|refine J_region ?_ |refine J_drawn mixed (by kernel_rfl) ?_|refine aApp_sl ?_|refine aApp_old ?_|refine J_c ?_|refine Jc_true ?_|refine Jc_false ?_|exact Frz.f _|(refine Kont.go (by assumption) ?_)|(simp (config:={ maxSteps:=3000000 }) (disch:=omega) only [go_sem,Nat.reduceEqDiff,↓reduceIte,Nat.reduceAdd,Nat.reduceLT,Nat.reduceLeDiff,Int.reduceLT,Int.reduceLE,Int.reduceEq,Int.reduceNe,Int.reduceAdd,Int.reduceSub,Int.reduceMul,Int.reduceNeg,Int.reduceToNat,hb,someL_yes hb]))|refine call_f (pickI _ _ (by omega) (by omega) (by omega) (by omega)) rfl ?_|refine callQ_f (pickI _ _ (by omega) (by omega) (by omega) (by omega)) rfl ?_|refine And.intro (by omega) ?_|refine And.intro (And.intro (by omega) (by omega)) ?_))
    refine ⟨v+1,by omega,by omega,weak_of ?_ ?_⟩<;>(try simp (disch:=omega) only [go_sem,Nat.reduceAdd,Nat.reduceLT,Nat.reduceEqDiff])<;>(try first|done|omega|rfl|exact ⟨rfl,rfl⟩|trivial)
   | false =>
    (repeat (first|(with_reducible first|refine W_seq fun K hK=>?_|refine J_block ?_|refine J_skip ?_|refine J_exit ?_|refine J_ret ?_|refine J_region ?_ |refine J_drawn mixed (by kernel_rfl) ?_|refine aApp_sl ?_|refine aApp_old ?_|refine J_c ?_|refine Jc_true ?_|refine Jc_false ?_|exact Frz.f _|(refine Kont.go (by assumption) ?_)|(simp (config:={ maxSteps:=3000000 }) (disch:=omega) only [go_sem,Nat.reduceEqDiff,↓reduceIte,Nat.reduceAdd,Nat.reduceLT,Nat.reduceLeDiff,Int.reduceLT,Int.reduceLE,Int.reduceEq,Int.reduceNe,Int.reduceAdd,Int.reduceSub,Int.reduceMul,Int.reduceNeg,Int.reduceToNat,hb]))|refine call_f (pickI _ _ (by omega) (by omega) (by omega) (by omega)) rfl ?_|refine callQ_f (pickI _ _ (by omega) (by omega) (by omega) (by omega)) rfl ?_|refine And.intro (by omega) ?_|refine And.intro (And.intro (by omega) (by omega)) ?_))
    rw [someL_no hb]
    refine ⟨v+1,by omega,by omega,weak_of ?_ ?_⟩<;>(try simp (disch:=omega) only [go_sem,Nat.reduceAdd,Nat.reduceLT,Nat.reduceEqDiff])<;>(try first|done|omega|rfl|exact ⟨rfl,rfl⟩|trivial)
 ·have he:v=n:=by omega
  subst he
  (repeat (first|(with_reducible first|refine W_seq fun K hK=>?_|refine J_block ?_|refine J_skip ?_|refine J_exit ?_|refine J_ret ?_|refine J_region ?_ |refine J_drawn mixed (by kernel_rfl) ?_|refine aApp_sl ?_|refine aApp_old ?_|refine J_c ?_|refine Jc_true ?_|refine Jc_false ?_|exact Frz.f _|(refine Kont.go (by assumption) ?_)|(simp (config:={ maxSteps:=3000000 }) (disch:=omega) only [go_sem,Nat.reduceEqDiff,↓reduceIte,Nat.reduceAdd,Nat.reduceLT,Nat.reduceLeDiff,Int.reduceLT,Int.reduceLE,Int.reduceEq,Int.reduceNe,Int.reduceAdd,Int.reduceSub,Int.reduceMul,Int.reduceNeg,Int.reduceToNat]))|refine call_f (pickI _ _ (by omega) (by omega) (by omega) (by omega)) rfl ?_|refine callQ_f (pickI _ _ (by omega) (by omega) (by omega) (by omega)) rfl ?_|refine And.intro (by omega) ?_|refine And.intro (And.intro (by omega) (by omega)) ?_))
  exact Frz.sl rfl
end Go.Proofs.YtmcgeppgfjlclaaGreatDoor
