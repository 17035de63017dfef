/- augurref.RowOf, by the abstract machine. Conditions: none. -/
import Derived.Test.YtcgagiimlkjcpaaGreatDoorZB20
import Derived.Test.YtcgagiimlkjcpaaGreatDoorZB18
import Derived.Test.YtcgagiimlkjcpaaGreatDoorZB14
import Derived.Test.YtcgagiimlkjcpaaGreatDoorZB19
set_option linter.unusedVariables false
set_option linter.unusedSimpArgs false
namespace Go.Proofs.YtcgagiimlkjcpaaGreatDoor
open Go Go.RowKit
def rowX (w:List Int) (k i:Nat):Nat:=if w=[] then 1 else pickN (w.getD ((k+i)%w.length) 0) 7
def rowL (w:List Int) (k n:Nat):List Nat:=(List.range n).map (rowX w k)
theorem rowX_lt (w:List Int) (k i:Nat):rowX w k i<7:=by
 unfold rowX pickN
 split
 ·omega
 ·exact Nat.mod_lt _ (by omega)
theorem rowL_succ (w:List Int) (k n:Nat):rowL w k (n+1)=rowL w k n++[rowX w k n]:=by simp [rowL,List.range_succ]
theorem rowL_len (w:List Int) (k n:Nat):(rowL w k n).length=n:=by simp [rowL]
theorem rowL_sum (w:List Int) (k n:Nat):(rowL w k n).sum≤n*6:=by
 induction n with
 | zero=>simp [rowL]
 | succ n ih=>rw [rowL_succ,List.sum_append];have:=rowX_lt w k n;simp;omega
def rowS (w:List Int) (k n:Nat):Nat:=if (rowL w k n).sum=0 then 1 else (rowL w k n).sum
def rowM (w:List Int) (k n:Nat):List Nat:=if (rowL w k n).sum=0 then (rowL w k n).set 0 1 else rowL w k n
def rowOf (w:List Int) (k n:Nat):List Rat:=(rowM w k n).map fun x:Nat=>((x:Int):Rat)/((rowS w k n:Int):Rat)
abbrev nI (n:Nat):FV:=I (n:Int)
theorem i64_get {w:List Int} (hw:∀x∈w,-9223372036854775808≤x∧x≤9223372036854775807) {i:Nat} (h:i<w.length):-9223372036854775808≤w[i]∧w[i]≤9223372036854775807:=hw _ (List.getElem_mem h)
theorem rowM_len (w:List Int) (k n:Nat):(rowM w k n).length=n:=by unfold rowM;split<;>simp [rowL_len]
theorem rowM_lt (w:List Int) (k n:Nat):∀x∈rowM w k n,x<7:=by
 have h:∀x∈rowL w k n,x<7:=fun x hx=>by
  obtain ⟨i,_,rfl⟩:=List.mem_map.1 hx
  exact rowX_lt w k i
 intro x hx
 unfold rowM at hx
 split at hx
 ·rcases List.mem_or_eq_of_mem_set hx with hx|rfl
  ·exact h x hx
  ·omega
 ·exact h x hx
set_option maxRecDepth 100000 in
set_option maxHeartbeats 2000000 in
theorem rowOf_good (w:List Int) (k n:Nat) (hw:∀x∈w,-9223372036854775808≤x∧x≤9223372036854775807) (hk:k≤1000000000) (h1:1≤n) (hn:n≤1000) (hwl:w.length≤140737488355328):Good Tryz.prog 125 [ints w,I k,I n] (frs (rowOf w k n)):=by
 have hsn:=rowL_sum w k n
 refine good_of Tryz.func125 rfl (by kernel_rfl) fun X hO hrd=>?_;rw [Tryz.ntmps125,Tryz.results125];simp only [ast0,List.map_cons,List.map_nil,List.length_cons,List.length_nil,Nat.reduceAdd,Nat.reduceSub,List.replicate_succ,List.replicate_zero,List.cons_append,List.nil_append]
 repeat (with_reducible first|refine W_seq fun K hK=>?_|refine J_block ?_|refine J_region ?_ |(refine Kont.go (by assumption) ?_)|(simp (config:={ maxSteps:=3000000 }) (disch:=omega) only [go_sem]))
 refine J_reserve ?_
 refine W_loop [7,8,9,10,15,16,17,18,19,20,21,22,23,24,25,26,27,28,29,30,31,32,33,34,35,36,37,38,39] (fun x:Nat=>[(9,.f (I x)),(8,.f (I ((rowL w k x).sum:Nat))),(7,sl 0 1 ((rowL w k x).map nI))]) (fun x:Nat=>[ob 3 1 ((rowL w k x).map nI)]) (fun x:Nat=>x≤n) (fun x:Nat=>n-x) (0) (Nat.zero_le _) (by refine weak_of ?_ ?_<;>simp (disch:=omega) only [go_sem]<;>first|rfl|exact ⟨rfl,rfl⟩|exact Or.inl rfl|exact ⟨Or.inl rfl,Or.inl rfl⟩|trivial|assumption|omega|(symm;assumption)|((repeat' apply And.intro)<;>first|rfl|omega|trivial|exact .inr ⟨rfl,rfl⟩|exact .inr rfl|(right;symm;assumption)|(symm;assumption)|assumption)) ?_
 rintro i hi
 simp only [go_sem]
 repeat (with_reducible first|refine W_seq fun K hK=>?_|refine J_region ?_ |refine J_c ?_|(refine Kont.go (by assumption) ?_)|(simp (config:={ maxSteps:=3000000 }) (disch:=omega) only [go_sem]))
 refine Jc_if (fun hlt=>?_) (fun hlt=>?_)<;>try simp only [decide_eq_true_eq,decide_eq_false_iff_not] at hlt
 ·have hsum:=rowL_sum w k i
  have hsi:=rowL_sum w k (i+1)
  have hx7:=rowX_lt w k i
  have hs2:(rowL w k (i+1)).sum=(rowL w k i).sum+rowX w k i:=by rw [rowL_succ,List.sum_append];simp
  have hmap:(rowL w k i).map nI++[I (rowX w k i:Nat)]=(rowL w k (i+1)).map nI:=by rw [rowL_succ,List.map_append];rfl
  by_cases hw0:w=[]
  ·have hx1:rowX w k i=1:=by unfold rowX;rw [if_pos hw0]
   rw [hx1] at hs2 hmap
   have hwl0:w.length=0:=by rw [hw0];rfl
   have hmap1:(rowL w k i).map nI++[.v (.int .i64 1)]=(rowL w k (i+1)).map nI:=hmap
   repeat (first|(with_reducible first|refine W_seq fun K hK=>?_|refine J_block ?_|refine J_skip ?_|refine J_region ?_ |refine aApp_sl ?_|refine J_c ?_|refine Jc_false ?_|(refine Kont.go (by assumption) ?_)|(simp (config:={ maxSteps:=3000000 }) (disch:=omega) only [go_sem,Nat.reduceEqDiff,↓reduceIte,Nat.reduceLeDiff,List.length_map,rowL_len,hwl0,hmap1]))|refine And.intro (by omega) ?_)
   refine ⟨i+1,by omega,by omega,weak_of ?_ ?_⟩<;>(try simp (disch:=omega) only [go_sem])<;>(try first|done|omega|rfl|exact ⟨rfl,rfl⟩|trivial)
  ·have hwp:0<w.length:=List.length_pos_iff.2 hw0
   have hm:(k+i)%w.length<w.length:=Nat.mod_lt _ hwp
   have hx:=i64_get hw hm
   have hxx:rowX w k i=pickN w[(k+i)%w.length] 7:=by unfold rowX;rw [if_neg hw0,lget_lt w 0 hm]
   have hmod:((k:Int)+(i:Int)).tmod (w.length:Int)=(((k+i)%w.length:Nat):Int):=tmod_nat (by omega)
   rw [hxx] at hs2 hmap hx7
   repeat (first|(with_reducible first|refine W_seq fun K hK=>?_|refine J_block ?_|refine J_skip ?_|refine J_region ?_ |refine aApp_sl ?_|refine J_c ?_|refine Jc_true ?_|(refine Kont.go (by assumption) ?_)|(simp (config:={ maxSteps:=3000000 }) (disch:=omega) only [go_sem,Nat.reduceEqDiff,↓reduceIte,Nat.reduceLeDiff,Int.reduceToNat,List.length_map,rowL_len,hwp,hmod,map_get I w hm,hmap]))|refine call_f (pickI _ _ (by omega) (by omega) (by omega) (by omega)) rfl ?_|refine And.intro (by omega) ?_)
   refine ⟨i+1,by omega,by omega,weak_of ?_ ?_⟩<;>(try simp (disch:=omega) only [go_sem])<;>(try first|done|omega|rfl|exact ⟨rfl,rfl⟩|trivial)
 ·have he:i=n:=by omega
  subst he
  have hlen:((rowL w k i).map nI)≠[]:=fun h=>by have:=congrArg List.length h;simp [rowL_len] at this;omega
  have hlen2:((rowM w k i).map nI)≠[]:=fun h=>by have:=congrArg List.length h;simp [rowM_len] at this;omega
  repeat (with_reducible first|refine W_seq fun K hK=>?_|refine J_exit ?_|refine J_region ?_ |refine J_c ?_|(refine Kont.go (by assumption) ?_)|(simp (config:={ maxSteps:=3000000 }) (disch:=omega) only [go_sem,↓reduceIte]))
  refine Jc_join (by assumption) [7,8,40,41,42,43] (fun z:Unit=>[(7,sl 0 1 ((rowM w k i).map nI)),(8,.f (I (rowS w k i)))]) (fun z:Unit=>[ob 3 1 ((rowM w k i).map nI)]) (fun z:Unit=>True) ?_ ?_
  ·by_cases hz:(rowL w k i).sum=0
   ·have hM:rowM w k i=(rowL w k i).set 0 1:=by unfold rowM;rw [if_pos hz]
    have hS:rowS w k i=1:=by unfold rowS;rw [if_pos hz]
    have h0:=mm_get nI (rowL w k i) (i:=0) (by rw [rowL_len];omega)
    repeat (first|(with_reducible first|refine W_seq fun K hK=>?_|refine J_region ?_ |refine Jc_true ?_|(refine Kont.go (by assumption) ?_)|(simp (config:={ maxSteps:=3000000 }) (disch:=omega) only [go_sem,↓reduceIte,Int.reduceLE,hz,List.length_map,rowL_len,h0]))|refine And.intro (by omega) ?_)
    refine weak_of ?_ ?_<;>simp only [go_sem]
    ·rw [sl_pos hlen,sl_pos hlen2];simp [rowL_len,rowM_len,hS]
    ·rw [ob_pos hlen2,hM];right;simp [List.map_set];rfl
   ·have hM:rowM w k i=rowL w k i:=by unfold rowM;rw [if_neg hz]
    have hS:rowS w k i=(rowL w k i).sum:=by unfold rowS;rw [if_neg hz]
    repeat (with_reducible first|refine J_skip ?_|refine Jc_false ?_|(simp (config:={ maxSteps:=3000000 }) (disch:=omega) only [go_sem,hz]))
    rw [hM,hS]
    refine weak_of ?_ ?_<;>simp only [go_sem]
  ·rintro _ _
   simp only [go_sem]
   have hS1:1≤rowS w k i:=by unfold rowS;split<;>omega
   have hS2:rowS w k i≤6000:=by unfold rowS;split<;>omega
   have hRl:(rowOf w k i).length=i:=by simp [rowOf,rowM_len]
   repeat (with_reducible first|refine W_seq fun K hK=>?_|refine J_block ?_|refine J_region ?_ |(refine Kont.go (by assumption) ?_)|(simp (config:={ maxSteps:=3000000 }) (disch:=omega) only [go_sem]))
   refine J_reserve ?_
   refine W_loop [11,12,13,14,44,45,46,47,48,49,50,51,52,53,54,55,56,57,58,59,60,61,62,63] (fun x:Nat=>[(12,.f (I x)),(11,sl 1 3 (((rowOf w k i).take x).map fr))]) (fun x:Nat=>[ob 3 1 ((rowM w k i).map nI),ob 44 3 (((rowOf w k i).take x).map fr)]) (fun x:Nat=>x≤i) (fun x:Nat=>i-x) (0) (Nat.zero_le _) (by refine weak_of ?_ ?_<;>simp (disch:=omega) only [go_sem,Nat.reduceAdd]<;>first|rfl|exact ⟨rfl,rfl⟩|exact Or.inl rfl|exact ⟨Or.inl rfl,Or.inl rfl⟩|trivial|assumption|omega|(symm;assumption)|((repeat' apply And.intro)<;>first|rfl|omega|trivial|exact .inr ⟨rfl,rfl⟩|exact .inr rfl|(right;symm;assumption)|(symm;assumption)|assumption)) ?_
   rintro j hj
   simp only [go_sem]
   repeat (with_reducible first|refine W_seq fun K hK=>?_|refine J_region ?_ |refine J_c ?_|(refine Kont.go (by assumption) ?_)|(simp (config:={ maxSteps:=3000000 }) (disch:=omega) only [go_sem]))
   refine Jc_if (fun hlt2=>?_) (fun hlt2=>?_)<;>try simp only [decide_eq_true_eq,decide_eq_false_iff_not] at hlt2
   ·have hjm:j<(rowM w k i).length:=by rw [rowM_len];exact hlt2
    have hx7:=rowM_lt w k i _ (List.getElem_mem hjm)
    have hjr:j<(rowOf w k i).length:=by rw [hRl];exact hlt2
    have hrj:(rowOf w k i)[j]=(((rowM w k i)[j]:Int):Rat)/((rowS w k i:Int):Rat):=by simp [rowOf]
    repeat (first|(with_reducible first|refine W_seq fun K hK=>?_|refine J_block ?_|refine J_skip ?_|refine J_region ?_ |(refine Kont.go (by assumption) ?_)|(simp (config:={ maxSteps:=3000000 }) (disch:=omega) only [go_sem,↓reduceIte,List.length_map,rowM_len,mm_get nI (rowM w k i) hjm,hlt2]))|refine call_f (rof_frac (by omega) (by omega)) rfl ?_|refine And.intro (by omega) ?_)
    refine call_f (rdiv_w (IsFr.int (by omega) (by omega)) (IsFr.int (by omega) (by omega)) (by omega) (by omega) (fun h=>by have:=Rat.intCast_eq_zero_iff.1 h;omega)) rfl ?_
    rw [←hrj]
    repeat (first|(with_reducible first|refine J_region ?_ |refine aApp_sl ?_|(refine Kont.go (by assumption) ?_)|(simp (config:={ maxSteps:=3000000 }) (disch:=omega) only [go_sem,Nat.reduceEqDiff,↓reduceIte,Nat.reduceAdd,Nat.reduceLeDiff,List.length_map,List.length_take,tk_next fr (rowOf w k i) hjr]))|refine And.intro (by omega) ?_)
    refine ⟨j+1,by omega,by omega,weak_of ?_ ?_⟩<;>(try simp (disch:=omega) only [go_sem,Nat.reduceAdd])<;>(try first|done|omega|rfl|exact ⟨rfl,rfl⟩|trivial)
    done
   ·have he:j=i:=by omega
    subst he
    repeat (with_reducible first|refine W_seq fun K hK=>?_|refine J_exit ?_|refine J_ret ?_|refine J_region ?_ |(refine Kont.go (by assumption) ?_)|(simp (config:={ maxSteps:=3000000 }) (disch:=omega) only [go_sem,↓reduceIte]))
    rw [tk_all fr _ (by omega)]
    exact Frz.sl rfl
theorem rowI {w:List Int} {k n:Int} {k' n':Nat} (hk':k=k') (hn':n=n') (hw:∀x∈w,-9223372036854775808≤x∧x≤9223372036854775807) (hk:k'≤1000000000) (h1:1≤n') (hn:n'≤1000) (hwl:w.length≤140737488355328):Good Tryz.prog 125 [ints w,I k,I n] (frs (rowOf w k' n')):=by
 subst hk';subst hn';exact rowOf_good w k' n' hw hk h1 hn hwl
theorem rowOf_len (w:List Int) (k n:Nat):(rowOf w k n).length=n:=by simp [rowOf,rowM_len]
theorem rowS_le (w:List Int) (k n:Nat) (h:1≤n):rowS w k n≤n*6:=by have:=rowL_sum w k n;unfold rowS;split<;>omega
end Go.Proofs.YtcgagiimlkjcpaaGreatDoor
set_option linter.unusedVariables false
set_option linter.unusedSimpArgs false
namespace Go.Proofs.YtcgagiimlkjcpaaGreatDoor
open Go Go.RowKit
def hasP (l:List Int) (n v x:Nat):Bool:=(l.take x).any fun c=>decide (pickN c n=v)
def someL (l:List Int) (n x:Nat):List Nat:=(List.range x).filter fun v=>hasP l n v l.length
section
variable {l : List Int} {n v x : Nat}
theorem hasP_next (h:x<l.length):hasP l n v (x+1)=(hasP l n v x||decide (pickN l[x] n=v)):=by
 unfold hasP
 rw [List.take_succ_eq_append_getElem h,List.any_append]
 simp
theorem someL_yes (h:hasP l n x l.length=true):Ns (someL l n x)++[I (x:Int)]=Ns (someL l n (x+1)):=by
 rw [Ns_snoc];congr 1;unfold someL;rw [List.range_succ,List.filter_append];simp [h]
theorem someL_no (h:hasP l n x l.length=false):Ns (someL l n x)=Ns (someL l n (x+1)):=by
 congr 1;unfold someL;rw [List.range_succ,List.filter_append];simp [h]
theorem someL_len:(Ns (someL l n x)).length≤x:=by
 rw [Ns_len];unfold someL;exact Nat.le_trans (List.length_filter_le _ _) (by simp)
end
set_option maxRecDepth 100000 in
set_option maxHeartbeats 4000000 in
theorem rsome_w (l:List Int) (n:Nat) (hw:∀x∈l,-9223372036854775808≤x∧x≤9223372036854775807) (h1:1≤n) (hn:n≤1000) (hl:l.length≤140737488355328) :
  Good Tryz.prog 35 [ints l,I n] (.fz 1 (Ns (someL l n n))):=by
 refine good_of Tryz.func35 rfl (by kernel_rfl) fun X hO hrd=>?_;rw [Tryz.ntmps35,Tryz.results35];simp only [ast0,List.map_cons,List.map_nil,List.length_cons,List.length_nil,Nat.reduceAdd,Nat.reduceSub,List.replicate_succ,List.replicate_zero,List.cons_append,List.nil_append]
 repeat (with_reducible first|refine W_seq fun K hK=>?_|refine J_block ?_|refine J_region ?_ |(refine Kont.go (by assumption) ?_)|(simp (config:={ maxSteps:=3000000 }) (disch:=omega) only [go_sem]))
 refine J_reserve ?_
 refine W_loop [5,6,7,8,9,10,11,12,13,14,15,16,17,18,19,20,21,22,23,24,25,26,27,28,29,30,31,32,33,34,35] (fun x:Nat=>[(5,sl 0 1 (Ns (someL l n x))),(6,.f (I x))]) (fun x:Nat=>[ob 3 1 (Ns (someL l n x))]) (fun x:Nat=>x≤n) (fun x:Nat=>n-x) (0) (Nat.zero_le _) (by refine weak_of ?_ ?_<;>simp (disch:=omega) only [go_sem]<;>first|rfl|exact ⟨rfl,rfl⟩|exact Or.inl rfl|exact ⟨Or.inl rfl,Or.inl rfl⟩|trivial|assumption|omega|(symm;assumption)|((repeat' apply And.intro)<;>first|rfl|omega|trivial|exact .inr ⟨rfl,rfl⟩|exact .inr rfl|(right;symm;assumption)|(symm;assumption)|assumption)) ?_
 rintro v hv
 simp only [go_sem]
 repeat (with_reducible first|refine W_seq fun K hK=>?_|refine J_region ?_ |refine J_c ?_|(refine Kont.go (by assumption) ?_)|(simp (config:={ maxSteps:=3000000 }) (disch:=omega) only [go_sem]))
 refine Jc_if (fun hvl=>?_) (fun hvl=>?_)<;>try simp only [decide_eq_true_eq,decide_eq_false_iff_not] at hvl
 ·repeat (with_reducible first|refine W_seq fun K hK=>?_|refine J_block ?_|refine J_skip ?_|refine J_region ?_ |(refine Kont.go (by assumption) ?_)|(simp (config:={ maxSteps:=3000000 }) (disch:=omega) only [go_sem]))
  refine W_loop [7,8,14,15,16,17,18,19,20,21,22,23,24,25,26,27,28,29,30] (fun x:Nat=>[(7,.f (Bo (hasP l n v x))),(8,.f (I x))]) (fun x:Nat=>[ob 3 1 (Ns (someL l n v))]) (fun x:Nat=>x≤l.length) (fun x:Nat=>l.length-x) (0) (Nat.zero_le _) (by refine weak_of ?_ ?_<;>simp (disch:=omega) only [go_sem]<;>first|rfl|exact ⟨rfl,rfl⟩|exact Or.inl rfl|exact ⟨Or.inl rfl,Or.inl rfl⟩|trivial|assumption|omega|(symm;assumption)|((repeat' apply And.intro)<;>first|rfl|omega|trivial|exact .inr ⟨rfl,rfl⟩|exact .inr rfl|(right;symm;assumption)|(symm;assumption)|assumption)) ?_
  rintro i hi
  simp only [go_sem]
  repeat (with_reducible first|refine W_seq fun K hK=>?_|refine J_region ?_ |refine J_c ?_|(refine Kont.go (by assumption) ?_)|(simp (config:={ maxSteps:=3000000 }) (disch:=omega) only [go_sem,List.length_map]))
  refine Jc_if (fun hil=>?_) (fun hil=>?_)<;>try simp only [decide_eq_true_eq,decide_eq_false_iff_not] at hil
  ·have hx:=i64_get hw hil
   have hg:=map_get I l hil
   have hnx:=hasP_next (n:=n) (v:=v) hil
   have hp:=pickN_lt l[i] (n:=n) (by omega)
   cases hb:hasP l n v i with
   | true =>
    rw [hb,Bool.true_or] at hnx
    repeat (with_reducible first|refine W_seq fun K hK=>?_|refine J_block ?_|refine J_skip ?_|refine J_region ?_ |(refine Kont.go (by assumption) ?_)|(simp (config:={ maxSteps:=3000000 }) (disch:=omega) only [go_sem]))
    rw [←hnx]
    refine ⟨i+1,by omega,by omega,weak_of ?_ ?_⟩<;>(try simp (disch:=omega) only [go_sem])<;>(try first|done|omega|rfl|exact ⟨rfl,rfl⟩|trivial)
   | false =>
    rw [hb,Bool.false_or] at hnx
    repeat (first|(with_reducible first|refine W_seq fun K hK=>?_|refine J_block ?_|refine J_skip ?_|refine J_region ?_ |(refine Kont.go (by assumption) ?_)|(simp (config:={ maxSteps:=3000000 }) (disch:=omega) only [go_sem,↓reduceIte,hg,Int.natCast_inj]))|refine call_f (pickI _ _ (by omega) (by omega) (by omega) (by omega)) rfl ?_)
    rw [←hnx]
    refine ⟨i+1,by omega,by omega,weak_of ?_ ?_⟩<;>(try simp (disch:=omega) only [go_sem])<;>(try first|done|omega|rfl|exact ⟨rfl,rfl⟩|trivial)
  ·have he:i=l.length:=by omega
   subst he
   have hsl:=someL_len (l:=l) (n:=n) (x:=v)
   cases hb:hasP l n v l.length with
   | true =>
    repeat (first|(with_reducible first|refine W_seq fun K hK=>?_|refine J_exit ?_|refine J_region ?_ |refine aApp_sl ?_|refine J_c ?_|refine Jc_true ?_|(refine Kont.go (by assumption) ?_)|(simp (config:={ maxSteps:=3000000 }) (disch:=omega) only [go_sem,Nat.reduceEqDiff,↓reduceIte,Nat.reduceLeDiff,someL_yes hb]))|refine And.intro (by omega) ?_)
    refine ⟨v+1,by omega,by omega,weak_of ?_ ?_⟩<;>(try simp (disch:=omega) only [go_sem])<;>(try first|done|omega|rfl|exact ⟨rfl,rfl⟩|trivial)
   | false =>
    repeat (with_reducible first|refine W_seq fun K hK=>?_|refine J_skip ?_|refine J_exit ?_|refine J_region ?_ |refine J_c ?_|refine Jc_false ?_|(refine Kont.go (by assumption) ?_)|(simp (config:={ maxSteps:=3000000 }) (disch:=omega) only [go_sem,↓reduceIte]))
    rw [someL_no hb]
    refine ⟨v+1,by omega,by omega,weak_of ?_ ?_⟩<;>(try simp (disch:=omega) only [go_sem])<;>(try first|done|omega|rfl|exact ⟨rfl,rfl⟩|trivial)
 ·have he:v=n:=by omega
  subst he
  repeat (with_reducible first|refine W_seq fun K hK=>?_|refine J_exit ?_|refine J_ret ?_|refine J_region ?_ |(refine Kont.go (by assumption) ?_)|(simp (config:={ maxSteps:=3000000 }) (disch:=omega) only [go_sem,↓reduceIte]))
  exact Frz.sl rfl
end Go.Proofs.YtcgagiimlkjcpaaGreatDoor
set_option linter.unusedVariables false
set_option linter.unusedSimpArgs false
namespace Go.Proofs.YtcgagiimlkjcpaaGreatDoor
open Go Go.RowKit
theorem cmp_edg {m:List (List Rat)} {i k:Nat}:decide (0<cmpR (at2 m i k) ((0:Int):Rat))=edg m i k:=by
 unfold edg
 congr 1
 exact propext (cmpR_gt.trans (by rw [show ((0:Int):Rat)=0 from rfl]))
set_option maxRecDepth 100000 in
set_option maxHeartbeats 8000000 in
theorem rcomes_w {b:Nat} {ys:List FV} {m:List (List Rat)} {i:Nat} (hm:SqM b ys m) (h1:1≤b) (hb:b≤1000000) (hi:i<m.length) :
  Good Tryz.prog 100 [.fz 1 ys,I (i:Int)] (.fz 1 (Ns (comL m.length (edg m) i))):=by
 have hn6:=hm.le
 obtain ⟨n,hn⟩:∃n,n=m.length:=⟨_,rfl⟩
 have hyl:ys.length=n:=hm.fr.len.trans hn.symm
 rw [←hn] at hi hn6 ⊢
 obtain ⟨E,hE⟩:∃E,E=edg m:=⟨_,rfl⟩
 rw [←hE]
 have hI:[I (i:Int)]=Ns [i]:=rfl
 have stop:∀f l k,¬k<l.length→bfsN n E f l k=l:=fun f l k h=>by
  cases f with
  | zero=>rfl
  | succ f=>exact if_neg h
 have hS:sl 0 1 (Ns [i])=.own 0 1 0 1:=rfl
 have hOb:ob 3 1 (Ns [i])=some ⟨3,1,[.f (I i)]⟩:=rfl
 have h0f:IsFr (fr ((0:Int):Rat)) ((0:Int):Rat) 8:=IsFr.int (by omega) (by omega)
 refine good_of Tryz.func100 rfl (by kernel_rfl) fun X hO hrd=>?_;rw [Tryz.ntmps100,Tryz.results100];simp only [ast0,List.map_cons,List.map_nil,List.length_cons,List.length_nil,Nat.reduceAdd,Nat.reduceSub,List.replicate_succ,List.replicate_zero,List.cons_append,List.nil_append]
 repeat (first|(with_reducible first|refine W_seq fun K hK=>?_|refine J_block ?_|refine J_region ?_ |(refine Kont.go (by assumption) ?_)|(simp (config:={ maxSteps:=3000000 }) (disch:=omega) only [go_sem,↓reduceIte]))|refine And.intro (by omega) ?_)
 refine W_loop [5,6,7,8,9,12,13,14,15,16,17,18,19,20,21,22,23,24,25,26,27,28,29,30,31,32,33,34,35,36,37,38,39,40,41,42,43,44,45,46,47,48] (fun x:List Nat × Nat=>[(5,sl 0 1 (Ns x.1)),(6,.f (I x.2)),(11,.any),(13,.any)]) (fun x:List Nat × Nat=>[ob 3 1 (Ns x.1)]) (fun x:List Nat × Nat=>Bfs n E i x.1 x.2∧bfsN n E (n+1-x.2) x.1 x.2=comL n E i∧x.2≤x.1.length) (fun x:List Nat × Nat=>n-x.2) (([i],0)) (⟨Bfs.first hi,rfl,Nat.zero_le _⟩) (by refine weak_of ?_ ?_<;>simp (disch:=omega) only [go_sem]<;>first|rfl|exact ⟨rfl,rfl⟩|exact Or.inl rfl|exact ⟨Or.inl rfl,Or.inl rfl⟩|trivial|assumption|omega|(symm;assumption)|((repeat' apply And.intro)<;>first|rfl|omega|trivial|exact .inr ⟨rfl,rfl⟩|exact .inr rfl|(right;symm;assumption)|(symm;assumption)|assumption)) ?_
 rintro ⟨l,k⟩ ⟨hB,hC,hk⟩
 replace hB:Bfs n E i l k:=hB
 replace hC:bfsN n E (n+1-k) l k=comL n E i:=hC
 replace hk:k≤l.length:=hk
 have hll:=hB.len
 simp only [go_sem]
 have hkn6:k≤6:=by omega
 have hne:Ns l≠[]:=fun e=>by
  have:=List.length_pos_of_mem hB.at0
  have e2:=congrArg List.length e
  rw [Ns_len] at e2
  simp at e2
  rw [e2] at this
  simp at this
 repeat (with_reducible first|refine W_seq fun K hK=>?_|refine J_region ?_ |refine J_c ?_|(refine Kont.go (by assumption) ?_)|(simp (config:={ maxSteps:=3000000 }) (disch:=omega) only [go_sem,sl_pos hne,ob_pos hne,Ns_len]))
 refine Jc_if (fun hkl=>?_) (fun hkl=>?_)<;>try simp only [decide_eq_true_eq,decide_eq_false_iff_not] at hkl
 ·have hkn:l.getD k 0<n:=by rw [lget_lt l 0 hkl];exact hB.lt _ (List.getElem_mem _)
  have hS2:sl 0 1 (Ns (bPart E l k 0))=.own 0 1 0 l.length:=by show sl 0 1 (Ns l)=_;rw [sl_pos hne,Ns_len]
  have hO2:ob 3 1 (Ns (bPart E l k 0))=some ⟨3,1,(Ns l).map .f⟩:=ob_pos hne
  repeat (with_reducible first|refine W_seq fun K hK=>?_|refine J_block ?_|refine J_skip ?_|refine J_region ?_ |(refine Kont.go (by assumption) ?_)|(simp (config:={ maxSteps:=3000000 }) (disch:=omega) only [go_sem]))
  refine W_loop [5,7,8,9,18,19,20,21,22,23,24,25,26,27,28,29,30,31,32,33,34,35,36,37,38,39,40,41,42,43,44,45,46,47,48] (fun x:Nat=>[(5,sl 0 1 (Ns (bPart E l k x))),(7,.f (I x)),(13,.any)]) (fun x:Nat=>[ob 3 1 (Ns (bPart E l k x))]) (fun x:Nat=>x≤n) (fun x:Nat=>n-x) (0) (Nat.zero_le _) (by refine weak_of ?_ ?_<;>simp (disch:=omega) only [go_sem]<;>first|rfl|exact ⟨rfl,rfl⟩|exact Or.inl rfl|exact ⟨Or.inl rfl,Or.inl rfl⟩|trivial|assumption|omega|(symm;assumption)|((repeat' apply And.intro)<;>first|rfl|omega|trivial|exact .inr ⟨rfl,rfl⟩|exact .inr rfl|(right;symm;assumption)|(symm;assumption)|assumption)) ?_
  rintro j hj
  simp only [go_sem]
  obtain ⟨hP,_,hPg,hPl⟩:=bPart_spec hB hkl hj
  have hPk:(bPart E l k j).getD k 0=l.getD k 0:=hPg k hkl
  have hPn:=hP.len
  have hne2:Ns (bPart E l k j)≠[]:=fun e=>by
   have e2:=congrArg List.length e
   rw [Ns_len] at e2
   simp at e2
   rw [e2] at hPl
   simp at hPl
   rw [hPl] at hkl
   simp at hkl
  have hg1:((Ns (bPart E l k j)).map AV.f)[k]?=some (.f (I (l.getD k 0:Nat))):=by rw [List.getElem?_map,Ns_get (by omega),hPk];rfl
  repeat (with_reducible first|refine W_seq fun K hK=>?_|refine J_region ?_ |refine J_c ?_|(refine Kont.go (by assumption) ?_)|(simp (config:={ maxSteps:=3000000 }) (disch:=omega) only [go_sem,hyl]))
  refine Jc_if (fun hjn=>?_) (fun hjn=>?_)<;>try simp only [decide_eq_true_eq,decide_eq_false_iff_not] at hjn
  ·obtain ⟨xs,gg,nn,dd,z1,z2,z3⟩:=hm.at2 (i:=l.getD k 0) (j:=j) (by omega) (by omega)
   have hin:=rinN_w j (bPart E l k j) (by omega) (by omega)
   repeat (first|(with_reducible first|refine W_seq fun K hK=>?_|refine J_block ?_|refine J_skip ?_|refine J_region ?_ |refine J_drawn mixed (by kernel_rfl) ?_|(refine Kont.go (by assumption) ?_)|(simp (config:={ maxSteps:=3000000 }) (disch:=omega) only [go_sem,↓reduceIte,Nat.reduceAdd,sl_pos hne2,ob_pos hne2,Ns_len,hg1,z1,z2,true_and,and_self]))|refine callQ_f (rof_frac (by omega) (by omega)) rfl ?_|refine callQ_f (rcmp_w (by assumption) (by assumption) (by omega) (by omega)) rfl ?_|refine And.intro (by omega) ?_)
   refine call_fl hin (.v _) (FrzL.cons (.f _) (FrzL.cons (Frz.own0 rfl (by rw [Ns_len])) (FrzL.nil _))) ?_
   have hcm:decide (0<cmpR (at2 m (l.getD k 0) j) ((0:Int):Rat))=E (l.getD k 0) j:=by rw [hE];exact cmp_edg
   have hcm':(0<cmpR (at2 m (l.getD k 0) j) ((0:Int):Rat))=(E (l.getD k 0) j=true):=by rw [←hcm];simp
   by_cases hc:E (l.getD k 0) j=true∧j∉bPart E l k j
   ·have e:bPart E l k (j+1)=bPart E l k j++[j]:=if_pos hc
    have hcT:(E (l.getD k 0) j=true)=True:=eq_true hc.1
    have hcF:decide (j∈bPart E l k j)=false:=decide_eq_false hc.2
    have hnx:Ns (bPart E l k j)++[I (j:Int)]=Ns (bPart E l k (j+1)):=by rw [e,Ns_snoc]
    have hne3:Ns (bPart E l k (j+1))≠[]:=by rw [←hnx];simp
    have hln:(bPart E l k (j+1)).length=(bPart E l k j).length+1:=by rw [e];simp
    have hsl1:sl 2 1 (Ns (bPart E l k (j+1)))=.own 2 1 0 ((bPart E l k j).length+1):=by rw [sl_pos hne3,Ns_len,hln]
    have hob1:ob 3 1 (Ns (bPart E l k (j+1)))=some ⟨3,1,(Ns (bPart E l k (j+1))).map .f⟩:=ob_pos hne3
    have htk:((Ns (bPart E l k j)).map AV.f).take (bPart E l k j).length++[AV.f (I (j:Int))]=(Ns (bPart E l k (j+1))).map AV.f:=by rw [List.take_of_length_le (by rw [List.length_map,Ns_len];omega),←hnx,List.map_append];rfl
    repeat (first|(with_reducible first|refine W_seq fun K hK=>?_|refine J_region ?_ |refine aApp_old ?_|refine J_c ?_|refine Jc_true ?_|(refine Kont.go (by assumption) ?_)|(simp (config:={ maxSteps:=3000000 }) (disch:=omega) only [go_sem,↓reduceIte,Nat.reduceAdd,Nat.reduceLeDiff,hcm',hcT,hcF,Ns_len,decide_true,htk,Nat.reduceMul,Nat.le_refl,true_and,and_self]))|refine And.intro (by omega) ?_)
    refine ⟨j+1,by omega,by omega,weak_ren [2] ⟨by decide,by first|decide|(simp;done)⟩ ?_ ?_⟩<;>(try simp (disch:=omega) only [go_sem,hsl1,hob1])<;>(try first|done|omega|rfl|exact ⟨rfl,rfl⟩|trivial)
   ·have e:bPart E l k (j+1)=bPart E l k j:=if_neg hc
    have hslA:sl 0 1 (Ns (bPart E l k (j+1)))=.own 0 1 0 (bPart E l k j).length:=by rw [e,sl_pos hne2,Ns_len]
    have hobA:ob 3 1 (Ns (bPart E l k (j+1)))=some ⟨3,1,(Ns (bPart E l k j)).map .f⟩:=by rw [e];exact ob_pos hne2
    by_cases hc1:E (l.getD k 0) j=true
    ·have hcT:(E (l.getD k 0) j=true)=True:=eq_true hc1
     have hcF:decide (j∈bPart E l k j)=true:=decide_eq_true (Classical.byContradiction fun h=>hc ⟨hc1,h⟩)
     repeat (with_reducible first|refine W_seq fun K hK=>?_|refine J_skip ?_|refine J_region ?_ |refine J_c ?_|refine Jc_false ?_|(refine Kont.go (by assumption) ?_)|(simp (config:={ maxSteps:=3000000 }) (disch:=omega) only [go_sem,hcm',hcT,hcF,decide_true]))
     refine ⟨j+1,by omega,by omega,weak_ren [0] ⟨by decide,by first|decide|(simp;done)⟩ ?_ ?_⟩<;>(try simp (disch:=omega) only [go_sem,hslA,hobA])<;>(try first|done|omega|rfl|exact ⟨rfl,rfl⟩|trivial)
    ·have hcT:(E (l.getD k 0) j=true)=False:=eq_false hc1
     repeat (with_reducible first|refine W_seq fun K hK=>?_|refine J_skip ?_|refine J_region ?_ |refine J_c ?_|refine Jc_false ?_|(refine Kont.go (by assumption) ?_)|(simp (config:={ maxSteps:=3000000 }) (disch:=omega) only [go_sem,hcm',hcT,decide_false]))
     refine ⟨j+1,by omega,by omega,weak_ren [0] ⟨by decide,by first|decide|(simp;done)⟩ ?_ ?_⟩<;>(try simp (disch:=omega) only [go_sem,hslA,hobA])<;>(try first|done|omega|rfl|exact ⟨rfl,rfl⟩|trivial)
  ·have he:j=n:=by omega
   subst he
   repeat (with_reducible first|refine J_exit ?_|refine J_region ?_ |(refine Kont.go (by assumption) ?_)|(simp (config:={ maxSteps:=3000000 }) (disch:=omega) only [go_sem,↓reduceIte]))
   have hB2:=bPart_next hB hkl
   have hC2:bfsN j E (j+1-(k+1)) (bPart E l k j) (k+1)=comL j E i:=by
    rw [←hC,show j+1-k=(j+1-(k+1))+1 by omega]
    exact (if_pos hkl).symm
   refine ⟨(bPart E l k j,k+1),⟨hB2,hC2,(by show k+1≤(bPart E l k j).length;omega)⟩,by show j-(k+1)<j-k;omega,weak_of ?_ ?_⟩<;>(try simp (disch:=omega) only [go_sem])<;>(try first|done|omega|rfl|exact ⟨rfl,rfl⟩|trivial)
 ·rw [stop _ _ _ hkl] at hC
  repeat (with_reducible first|refine W_seq fun K hK=>?_|refine J_exit ?_|refine J_ret ?_|refine J_region ?_ |(refine Kont.go (by assumption) ?_)|(simp (config:={ maxSteps:=3000000 }) (disch:=omega) only [go_sem,↓reduceIte]))
  rw [←hC]
  exact Frz.own0 rfl (by rw [Ns_len])
end Go.Proofs.YtcgagiimlkjcpaaGreatDoor
set_option linter.unusedVariables false
set_option linter.unusedSimpArgs false
namespace Go.Proofs.YtcgagiimlkjcpaaGreatDoor
open Go Go.RowKit
def prodF (f:Nat→Rat):Nat→Rat
 | 0=>1
 | n+1=>prodF f n*f n
section
variable {n : Nat} {f g : Nat → Rat} {A : Mx} {p w : Nat → Rat}
theorem prodF_congr (h:∀k,k<n→f k=g k):prodF f n=prodF g n:=by
 induction n with
 | zero=>rfl
 | succ n ih=>show prodF f n*f n=prodF g n*g n;rw [ih fun k hk=>h k (by omega),h n (by omega)]
theorem prodF_pos (h:∀k,k<n→0<f k):0<prodF f n:=by
 induction n with
 | zero=>show (0:Rat)<1;decide
 | succ n ih=>exact Rat.mul_pos (ih fun k hk=>h k (by omega)) (h n (by omega))
def evS (n:Nat) (A:Mx) (i:Nat):Rat:=sumF (fun j=>A i j+A j i) n
def evM (n:Nat) (A:Mx):Mx:=fun i k=>(A i k+A k i)/evS n A i
end
section
variable {n : Nat} {R : Bx}
end
end Go.Proofs.YtcgagiimlkjcpaaGreatDoor
