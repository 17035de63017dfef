/- Sums and chances, of the program and of the document, over numbers as they are told. Conditions: at most 1000 numbers, of 10^7 bytes each. -/
import Derived.Test.YtcgagiimlkjcpaaGreatDoorZB11
import Derived.Test.YtcgagiimlkjcpaaGreatDoorZAmO
set_option linter.unusedVariables false
set_option linter.unusedSimpArgs false
namespace Go.Proofs.YtcgagiimlkjcpaaGreatDoor
open Go Go.RowKit
abbrev oF (x:FV):Option AO:=some ⟨44,3,[.f x]⟩
theorem sum_bound {k i n:Nat} (hi:i≤n) (hn:n≤1000) (hk:k≤10000000):8+i*(k+1)≤11000000000:=by
 have:=Nat.mul_le_mul (show i≤1000 by omega) (show k+1≤10000001 by omega);omega
set_option maxRecDepth 100000 in
theorem sum_w {xs:List FV} {l:List Rat} {k:Nat} (hl:Frs k xs l) (h1:1≤k) (hn:l.length≤1000) (hk:k≤10000000):Good Tryz.prog 136 [.fz 3 xs] (fr (sumR l)):=by
 have hr:=hl.row h1
 refine good_of Tryz.func136 rfl (by kernel_rfl) fun X hO hrd=>?_;rw [Tryz.ntmps136,Tryz.results136];simp only [ast0,List.map_cons,List.map_nil,List.length_cons,List.length_nil,Nat.reduceAdd,Nat.reduceSub,List.replicate_succ,List.replicate_zero,List.cons_append,List.nil_append]
 repeat (first|(with_reducible first|refine W_seq fun K hK=>?_|refine J_block ?_|refine J_region ?_ |(refine Kont.go (by assumption) ?_)|(simp (config:={ maxSteps:=3000000 }) (disch:=omega) only [go_sem,↓reduceIte,Nat.reduceAdd,hl.len]))|refine call_f (of_good (by omega) (by omega)) rfl ?_)
 refine W_loop [5,9,10,11,12,13,14,15,16] (fun x:Nat=>[(9,.f (I x))]) (fun x:Nat=>[oF frN,oF (fr (sumTo l x))]) (fun x:Nat=>x≤l.length) (fun x:Nat=>l.length-x) (0) (Nat.zero_le _) (by refine weak_of ?_ ?_<;>simp (disch:=omega) only [go_sem,Nat.reduceAdd]<;>first|rfl|exact ⟨rfl,rfl⟩|exact Or.inl rfl|exact ⟨Or.inl rfl,Or.inl rfl⟩|trivial|assumption|omega|(symm;assumption)|((repeat' apply And.intro)<;>first|rfl|omega|trivial|exact .inr ⟨rfl,rfl⟩|exact .inr rfl|(right;symm;assumption)|(symm;assumption)|assumption)) ?_
 rintro i hi
 simp only [go_sem]
 repeat (with_reducible first|refine W_seq fun K hK=>?_|refine J_region ?_ |refine J_c ?_|(refine Kont.go (by assumption) ?_)|(simp (config:={ maxSteps:=3000000 }) (disch:=omega) only [go_sem]))
 refine Jc_if (fun hlt=>?_) (fun hlt=>?_)<;>try simp only [decide_eq_true_eq,decide_eq_false_iff_not] at hlt
 ·have hsz:=sum_bound hi hn hk
  have hd:=IsFr.c (sumTo_fz hr i hi)
  obtain ⟨g,n,d,hx,his⟩:=hl.at3 hlt
  repeat (first|(with_reducible first|refine W_seq fun K hK=>?_|refine J_block ?_|refine J_skip ?_|refine J_region ?_ |(refine Kont.go (by assumption) ?_)|(simp (config:={ maxSteps:=3000000 }) (disch:=omega) only [go_sem,↓reduceIte,Nat.reduceAdd,hx,hlt,sumTo_next hlt]))|refine call_f (add_w (by assumption) (by assumption) (by omega) (by omega)) rfl ?_)
  refine ⟨i+1,by omega,by omega,weak_of ?_ ?_⟩<;>(try simp (disch:=omega) only [go_sem,Nat.reduceAdd])<;>(try first|done|omega|rfl|exact ⟨rfl,rfl⟩|trivial)
 ·have he:i=l.length:=by omega
  subst he
  repeat (with_reducible first|refine W_seq fun K hK=>?_|refine J_exit ?_|refine J_ret ?_|refine J_region ?_ |(refine Kont.go (by assumption) ?_)|(simp (config:={ maxSteps:=3000000 }) (disch:=omega) only [go_sem,↓reduceIte,Nat.reduceAdd]))
  exact Frz.f _
set_option maxRecDepth 100000 in
theorem rsum_w {xs:List FV} {l:List Rat} {k:Nat} (hl:Frs k xs l) (h1:1≤k) (hn:l.length≤1000) (hk:k≤10000000):Good Tryz.prog 194 [.fz 3 xs] (fr (sumR l)):=by
 have hr:=hl.row h1
 refine good_of Tryz.func194 rfl (by kernel_rfl) fun X hO hrd=>?_;rw [Tryz.ntmps194,Tryz.results194];simp only [ast0,List.map_cons,List.map_nil,List.length_cons,List.length_nil,Nat.reduceAdd,Nat.reduceSub,List.replicate_succ,List.replicate_zero,List.cons_append,List.nil_append]
 repeat (first|(with_reducible first|refine W_seq fun K hK=>?_|refine J_block ?_|refine J_region ?_ |(refine Kont.go (by assumption) ?_)|(simp (config:={ maxSteps:=3000000 }) (disch:=omega) only [go_sem,↓reduceIte,Nat.reduceAdd]))|refine call_f (rof_frac (by omega) (by omega)) rfl ?_)
 refine W_loop [4,6,7,8,9,10,11,12,13,14,15,16,17] (fun x:Nat=>[(4,.f (I x))]) (fun x:Nat=>[oF frN,oF (fr (sumTo l x))]) (fun x:Nat=>x≤l.length) (fun x:Nat=>l.length-x) (0) (Nat.zero_le _) (by refine weak_of ?_ ?_<;>simp (disch:=omega) only [go_sem,Nat.reduceAdd]<;>first|rfl|exact ⟨rfl,rfl⟩|exact Or.inl rfl|exact ⟨Or.inl rfl,Or.inl rfl⟩|trivial|assumption|omega|(symm;assumption)|((repeat' apply And.intro)<;>first|rfl|omega|trivial|exact .inr ⟨rfl,rfl⟩|exact .inr rfl|(right;symm;assumption)|(symm;assumption)|assumption)) ?_
 rintro i hi
 simp only [go_sem]
 repeat (with_reducible first|refine W_seq fun K hK=>?_|refine J_region ?_ |refine J_c ?_|(refine Kont.go (by assumption) ?_)|(simp (config:={ maxSteps:=3000000 }) (disch:=omega) only [go_sem,hl.len]))
 refine Jc_if (fun hlt=>?_) (fun hlt=>?_)<;>try simp only [decide_eq_true_eq,decide_eq_false_iff_not] at hlt
 ·have hsz:=sum_bound hi hn hk
  have hd:=IsFr.c (sumTo_fz hr i hi)
  obtain ⟨g,n,d,hx,his⟩:=hl.at3 hlt
  repeat (first|(with_reducible first|refine W_seq fun K hK=>?_|refine J_block ?_|refine J_skip ?_|refine J_region ?_ |refine J_drawn mixed (by kernel_rfl) ?_|(refine Kont.go (by assumption) ?_)|(simp (config:={ maxSteps:=3000000 }) (disch:=omega) only [go_sem,↓reduceIte,Nat.reduceAdd,hx,hlt,sumTo_next hlt]))|refine callQ_f (radd_w (by assumption) (by assumption) (by omega) (by omega)) rfl ?_)
  refine ⟨i+1,by omega,by omega,weak_of ?_ ?_⟩<;>(try simp (disch:=omega) only [go_sem,Nat.reduceAdd])<;>(try first|done|omega|rfl|exact ⟨rfl,rfl⟩|trivial)
 ·have he:i=l.length:=by omega
  subst he
  repeat (with_reducible first|refine W_seq fun K hK=>?_|refine J_exit ?_|refine J_ret ?_|refine J_region ?_ |(refine Kont.go (by assumption) ?_)|(simp (config:={ maxSteps:=3000000 }) (disch:=omega) only [go_sem,↓reduceIte,Nat.reduceAdd]))
  exact Frz.f _
def chancesB (l:List Rat):Bool:=decide ((∀q∈l,0≤q)∧sumR l=1)
theorem chances_neg {l:List Rat} {i:Nat} (h:i<l.length) (hn:cmpR l[i] ((0:Int):Rat)<0):chancesB l=false :=
 decide_eq_false fun hh=>Rat.not_lt.2 (hh.1 _ (List.getElem_mem h)) (by simpa using cmpR_lt.1 hn)
theorem chances_end {l:List Rat} (hp:∀j (h:j<l.length),j<l.length→¬cmpR l[j] ((0:Int):Rat)<0):chancesB l=decide (sumR l=((1:Int):Rat)):=by
 unfold chancesB
 rw [decide_eq_decide]
 refine ⟨fun h=>by rw [h.2];rfl,fun h=>⟨fun q hq=>?_,by rw [h];rfl⟩⟩
 obtain ⟨j,hj,rfl⟩:=List.getElem_of_mem hq
 exact Rat.not_lt.1 fun hh=>hp j hj hj (cmpR_lt.2 (by simpa using hh))
theorem upto_next {p:Nat→Prop} {i:Nat} (h:∀j,j<i→p j) (hi:p i):∀j,j<i+1→p j:=fun j hj=>by
 by_cases e:j=i
 ·subst e;exact hi
 ·exact h j (by omega)
theorem uptoL_next {α:Type} {l:List α} {p:α→Prop} {i:Nat} (h:∀j (hj:j<l.length),j<i→p l[j]) (hi:∀hj:i<l.length,p l[i]):∀j (hj:j<l.length),j<i+1→p l[j]:=fun j hj hji=>by
 by_cases e:j=i
 ·subst e;exact hi hj
 ·exact h j hj (by omega)
set_option maxRecDepth 100000 in
theorem chances_w {xs:List FV} {l:List Rat} {k:Nat} (hl:Frs k xs l) (h1:1≤k) (hn:l.length≤1000) (hk:k≤10000000):Good Tryz.prog 140 [.fz 3 xs] (Bo (chancesB l)):=by
 have hr:=hl.row h1
 have h0:IsFr (fr ((0:Int):Rat)) ((0:Int):Rat) 8:=IsFr.int (by omega) (by omega)
 have h2:IsFr (fr ((1:Int):Rat)) ((1:Int):Rat) 8:=IsFr.int (by omega) (by omega)
 have hsz:=sum_bound (Nat.le_refl _) hn hk
 have hd:IsFr (fr (sumR l)) (sumR l) _:=IsFr.c (sumTo_fz hr _ (Nat.le_refl _))
 refine good_of Tryz.func140 rfl (by kernel_rfl) fun X hO hrd=>?_;rw [Tryz.ntmps140,Tryz.results140];simp only [ast0,List.map_cons,List.map_nil,List.length_cons,List.length_nil,Nat.reduceAdd,Nat.reduceSub,List.replicate_succ,List.replicate_zero,List.cons_append,List.nil_append]
 repeat (with_reducible first|refine W_seq fun K hK=>?_|refine J_block ?_|refine J_region ?_ |(refine Kont.go (by assumption) ?_)|(simp (config:={ maxSteps:=3000000 }) (disch:=omega) only [go_sem,hl.len]))
 refine W_loop [2,4,7,8,9,10,11,12,13,14,15] (fun x:Nat=>[(7,.f (I x))]) (fun x:Nat=>[]) (fun x:Nat=>x≤l.length∧∀j (h:j<l.length),j<x→¬cmpR l[j] ((0:Int):Rat)<0) (fun x:Nat=>l.length-x) (0) (⟨Nat.zero_le _,fun j _ h=>by omega⟩) (by refine weak_of ?_ ?_<;>simp (disch:=omega) only [go_sem]<;>first|rfl|exact ⟨rfl,rfl⟩|exact Or.inl rfl|exact ⟨Or.inl rfl,Or.inl rfl⟩|trivial|assumption|omega|(symm;assumption)|((repeat' apply And.intro)<;>first|rfl|omega|trivial|exact .inr ⟨rfl,rfl⟩|exact .inr rfl|(right;symm;assumption)|(symm;assumption)|assumption)) ?_
 rintro i ⟨hi,hp⟩
 simp only [go_sem]
 repeat (with_reducible first|refine W_seq fun K hK=>?_|refine J_region ?_ |refine J_c ?_|(refine Kont.go (by assumption) ?_)|(simp (config:={ maxSteps:=3000000 }) (disch:=omega) only [go_sem]))
 refine Jc_if (fun hlt=>?_) (fun hlt=>?_)<;>try simp only [decide_eq_true_eq,decide_eq_false_iff_not] at hlt
 ·obtain ⟨g,n,d,hx,his⟩:=hl.at3 hlt
  repeat (first|(with_reducible first|refine W_seq fun K hK=>?_|refine J_block ?_|refine J_skip ?_|refine J_region ?_ |refine J_drawn mixed (by kernel_rfl) ?_|refine J_c ?_|(refine Kont.go (by assumption) ?_)|(simp (config:={ maxSteps:=3000000 }) (disch:=omega) only [go_sem,↓reduceIte,Nat.reduceAdd,hx,hlt]))|refine callQ_f (of_good (by omega) (by omega)) rfl ?_|refine callQ_f (cmp_w (by assumption) (by assumption) (by omega) (by omega)) rfl ?_)
  refine Jc_if (fun hneg=>?_) (fun hneg=>?_)<;>try simp only [decide_eq_true_eq,decide_eq_false_iff_not] at hneg
  ·repeat (with_reducible first|refine W_seq fun K hK=>?_|refine J_ret ?_|refine J_region ?_ |(refine Kont.go (by assumption) ?_)|(simp (config:={ maxSteps:=3000000 }) (disch:=omega) only [go_sem]))
   rw [chances_neg hlt hneg]
   exact Frz.f _
  ·repeat (with_reducible first|refine J_skip ?_|refine J_region ?_ |(refine Kont.go (by assumption) ?_)|(simp (config:={ maxSteps:=3000000 }) (disch:=omega) only [go_sem]))
   refine ⟨i+1,⟨by omega,uptoL_next (p:=fun q=>¬cmpR q ((0:Int):Rat)<0) hp fun _=>hneg⟩,by omega,weak_of ?_ ?_⟩<;>(try simp (disch:=omega) only [go_sem])<;>(try first|done|omega|rfl|exact ⟨rfl,rfl⟩|trivial)
 ·have he:i=l.length:=by omega
  subst he
  repeat (with_reducible first|refine W_seq fun K hK=>?_|refine J_exit ?_|refine J_region ?_ |(refine Kont.go (by assumption) ?_)|(simp (config:={ maxSteps:=3000000 }) (disch:=omega) only [go_sem,↓reduceIte]))
  refine call_f (sum_w hl h1 hn hk) rfl ?_
  repeat (first|(with_reducible first|refine J_ret ?_|(refine Kont.go (by assumption) ?_)|(simp (config:={ maxSteps:=3000000 }) (disch:=omega) only [go_sem,cmpR_zero]))|refine call_f (of_good (by omega) (by omega)) rfl ?_|refine call_f (cmp_w (by assumption) (by assumption) (by omega) (by omega)) rfl ?_)
  rw [chances_end hp]
  exact Frz.f _
set_option maxRecDepth 100000 in
theorem rchances_w {xs:List FV} {l:List Rat} {k:Nat} (hl:Frs k xs l) (h1:1≤k) (hn:l.length≤1000) (hk:k≤10000000):Good Tryz.prog 141 [.fz 3 xs] (Bo (chancesB l)):=by
 have hr:=hl.row h1
 have h0:IsFr (fr ((0:Int):Rat)) ((0:Int):Rat) 8:=IsFr.int (by omega) (by omega)
 refine good_of Tryz.func141 rfl (by kernel_rfl) fun X hO hrd=>?_;rw [Tryz.ntmps141,Tryz.results141];simp only [ast0,List.map_cons,List.map_nil,List.length_cons,List.length_nil,Nat.reduceAdd,Nat.reduceSub,List.replicate_succ,List.replicate_zero,List.cons_append,List.nil_append]
 repeat (with_reducible first|refine W_seq fun K hK=>?_|refine J_block ?_|refine J_region ?_ |(refine Kont.go (by assumption) ?_)|(simp (config:={ maxSteps:=3000000 }) (disch:=omega) only [go_sem]))
 refine W_loop [2,3,4,6,7,8,9,10,11,12,13,14,15,16,17,18,19] (fun x:Nat=>[(3,.f (I x))]) (fun x:Nat=>[]) (fun x:Nat=>x≤l.length∧∀j (h:j<l.length),j<x→¬cmpR l[j] ((0:Int):Rat)<0) (fun x:Nat=>l.length-x) (0) (⟨Nat.zero_le _,fun j _ h=>by omega⟩) (by refine weak_of ?_ ?_<;>simp (disch:=omega) only [go_sem]<;>first|rfl|exact ⟨rfl,rfl⟩|exact Or.inl rfl|exact ⟨Or.inl rfl,Or.inl rfl⟩|trivial|assumption|omega|(symm;assumption)|((repeat' apply And.intro)<;>first|rfl|omega|trivial|exact .inr ⟨rfl,rfl⟩|exact .inr rfl|(right;symm;assumption)|(symm;assumption)|assumption)) ?_
 rintro i ⟨hi,hp⟩
 simp only [go_sem]
 repeat (with_reducible first|refine W_seq fun K hK=>?_|refine J_region ?_ |refine J_c ?_|(refine Kont.go (by assumption) ?_)|(simp (config:={ maxSteps:=3000000 }) (disch:=omega) only [go_sem,hl.len]))
 refine Jc_if (fun hlt=>?_) (fun hlt=>?_)<;>try simp only [decide_eq_true_eq,decide_eq_false_iff_not] at hlt
 ·obtain ⟨g,n,d,hx,his⟩:=hl.at3 hlt
  repeat (first|(with_reducible first|refine W_seq fun K hK=>?_|refine J_block ?_|refine J_skip ?_|refine J_region ?_ |refine J_drawn mixed (by kernel_rfl) ?_|refine J_c ?_|(refine Kont.go (by assumption) ?_)|(simp (config:={ maxSteps:=3000000 }) (disch:=omega) only [go_sem,↓reduceIte,Nat.reduceAdd,hx,hlt]))|refine callQ_f (rof_frac (by omega) (by omega)) rfl ?_|refine callQ_f (rcmp_w (by assumption) (by assumption) (by omega) (by omega)) rfl ?_)
  refine Jc_if (fun hneg=>?_) (fun hneg=>?_)<;>try simp only [decide_eq_true_eq,decide_eq_false_iff_not] at hneg
  ·repeat (with_reducible first|refine W_seq fun K hK=>?_|refine J_ret ?_|refine J_region ?_ |(refine Kont.go (by assumption) ?_)|(simp (config:={ maxSteps:=3000000 }) (disch:=omega) only [go_sem]))
   rw [chances_neg hlt hneg]
   exact Frz.f _
  ·repeat (with_reducible first|refine J_skip ?_|refine J_region ?_ |(refine Kont.go (by assumption) ?_)|(simp (config:={ maxSteps:=3000000 }) (disch:=omega) only [go_sem]))
   refine ⟨i+1,⟨by omega,uptoL_next (p:=fun q=>¬cmpR q ((0:Int):Rat)<0) hp fun _=>hneg⟩,by omega,weak_of ?_ ?_⟩<;>(try simp (disch:=omega) only [go_sem])<;>(try first|done|omega|rfl|exact ⟨rfl,rfl⟩|trivial)
 ·have he:i=l.length:=by omega
  subst he
  repeat (with_reducible first|refine W_seq fun K hK=>?_|refine J_exit ?_|refine J_region ?_ |(refine Kont.go (by assumption) ?_)|(simp (config:={ maxSteps:=3000000 }) (disch:=omega) only [go_sem,↓reduceIte]))
  refine call_f (rsum_w hl h1 hn hk) rfl ?_
  repeat (first|(with_reducible first|refine W_seq fun K hK=>?_|refine J_ret ?_|refine J_drawn mixed (by kernel_rfl) ?_|(refine Kont.go (by assumption) ?_)|(simp (config:={ maxSteps:=3000000 }) (disch:=omega) only [go_sem,↓reduceIte,Nat.reduceAdd]))|refine callQ_f (rof_frac (by omega) (by omega)) rfl ?_)
  rw [chances_end hp]
  exact Frz.f _
end Go.Proofs.YtcgagiimlkjcpaaGreatDoor
set_option linter.unusedVariables false
set_option linter.unusedSimpArgs false
namespace Go.Proofs.YtcgagiimlkjcpaaGreatDoor
open Go Go.RowKit
def sqM (m:List (List Rat)):Int:=if ¬∀r∈m,r.length=m.length then 8 else if ¬∀r∈m,chancesB r=true then 9 else 0
def chkM (m:List (List Rat)):Int:=if m.length<1∨6<m.length then 8 else sqM m
theorem all_of {α:Type} {l:List α} {p:α→Prop} (h:∀j (hj:j<l.length),j<l.length→p l[j]):∀x∈l,p x:=fun x hx=>by
 obtain ⟨j,hj,rfl⟩:=List.getElem_of_mem hx
 exact h j hj hj
set_option maxRecDepth 100000 in
theorem square_w {ys:List FV} {m:List (List Rat)} {k:Nat} (hm:FrM k ys m) (h1:1≤k) (hn:m.length≤1000) (hk:k≤10000000):Good Tryz.prog 93 [.fz 1 ys] (I (sqM m)):=by
 refine good_of Tryz.func93 rfl (by kernel_rfl) fun X hO hrd=>?_;rw [Tryz.ntmps93,Tryz.results93];simp only [ast0,List.map_cons,List.map_nil,List.length_cons,List.length_nil,Nat.reduceAdd,Nat.reduceSub,List.replicate_succ,List.replicate_zero,List.cons_append,List.nil_append]
 repeat (with_reducible first|refine W_seq fun K hK=>?_|refine J_block ?_|refine J_region ?_ |(refine Kont.go (by assumption) ?_)|(simp (config:={ maxSteps:=3000000 }) (disch:=omega) only [go_sem,hm.len]))
 refine W_loop [2,4,9,10,11,12,13,14,15,16,17,18] (fun x:Nat=>[(9,.f (I x))]) (fun x:Nat=>[]) (fun x:Nat=>x≤m.length∧∀j (h:j<m.length),j<x→m[j].length=m.length) (fun x:Nat=>m.length-x) (0) (⟨Nat.zero_le _,fun j _ h=>by omega⟩) (by refine weak_of ?_ ?_<;>simp (disch:=omega) only [go_sem]<;>first|rfl|exact ⟨rfl,rfl⟩|exact Or.inl rfl|exact ⟨Or.inl rfl,Or.inl rfl⟩|trivial|assumption|omega|(symm;assumption)|((repeat' apply And.intro)<;>first|rfl|omega|trivial|exact .inr ⟨rfl,rfl⟩|exact .inr rfl|(right;symm;assumption)|(symm;assumption)|assumption)) ?_
 rintro i ⟨hi,hp⟩
 simp only [go_sem]
 repeat (with_reducible first|refine W_seq fun K hK=>?_|refine J_region ?_ |refine J_c ?_|(refine Kont.go (by assumption) ?_)|(simp (config:={ maxSteps:=3000000 }) (disch:=omega) only [go_sem]))
 refine Jc_if (fun hlt=>?_) (fun hlt=>?_)<;>try simp only [decide_eq_true_eq,decide_eq_false_iff_not] at hlt
 ·obtain ⟨xs,hx,hxs⟩:=hm.at hlt
  repeat (with_reducible first|refine W_seq fun K hK=>?_|refine J_block ?_|refine J_skip ?_|refine J_region ?_ |refine J_c ?_|(refine Kont.go (by assumption) ?_)|(simp (config:={ maxSteps:=3000000 }) (disch:=omega) only [go_sem,↓reduceIte,hx,hxs.len,hm.len,hlt]))
  refine Jc_if (fun hne=>?_) (fun hne=>?_)<;>try simp only [decide_eq_true_eq,decide_eq_false_iff_not,Bool.not_eq_true',Bool.not_eq_false',Int.natCast_inj] at hne
  ·have e:sqM m=8:=by unfold sqM;rw [if_pos fun hall=>hne (hall _ (List.getElem_mem hlt))]
   repeat (with_reducible first|refine W_seq fun K hK=>?_|refine J_ret ?_|refine J_region ?_ |(refine Kont.go (by assumption) ?_)|(simp (config:={ maxSteps:=3000000 }) (disch:=omega) only [go_sem]))
   rw [e]
   exact Frz.f _
  ·repeat (with_reducible first|refine J_skip ?_|refine J_region ?_ |(refine Kont.go (by assumption) ?_)|(simp (config:={ maxSteps:=3000000 }) (disch:=omega) only [go_sem]))
   refine ⟨i+1,⟨by omega,uptoL_next (p:=fun r:List Rat=>r.length=m.length) hp fun _=>hne⟩,by omega,weak_of ?_ ?_⟩<;>(try simp (disch:=omega) only [go_sem])<;>(try first|done|omega|rfl|exact ⟨rfl,rfl⟩|trivial)
 ·have he:i=m.length:=by omega
  subst he
  have hall:∀r∈m,r.length=m.length:=all_of (p:=fun r:List Rat=>r.length=m.length) hp
  repeat (with_reducible first|refine W_seq fun K hK=>?_|refine J_block ?_|refine J_exit ?_|refine J_region ?_ |(refine Kont.go (by assumption) ?_)|(simp (config:={ maxSteps:=3000000 }) (disch:=omega) only [go_sem,↓reduceIte,hm.len]))
  refine W_loop [2,6,21,22,23,24,25,26,27,28] (fun x:Nat=>[(21,.f (I x))]) (fun x:Nat=>[]) (fun x:Nat=>x≤m.length∧∀j (h:j<m.length),j<x→chancesB m[j]=true) (fun x:Nat=>m.length-x) (0) (⟨Nat.zero_le _,fun j _ h=>by omega⟩) (by refine weak_of ?_ ?_<;>simp (disch:=omega) only [go_sem]<;>first|rfl|exact ⟨rfl,rfl⟩|exact Or.inl rfl|exact ⟨Or.inl rfl,Or.inl rfl⟩|trivial|assumption|omega|(symm;assumption)|((repeat' apply And.intro)<;>first|rfl|omega|trivial|exact .inr ⟨rfl,rfl⟩|exact .inr rfl|(right;symm;assumption)|(symm;assumption)|assumption)) ?_
  rintro i ⟨hi,hp⟩
  simp only [go_sem]
  repeat (with_reducible first|refine W_seq fun K hK=>?_|refine J_region ?_ |refine J_c ?_|(refine Kont.go (by assumption) ?_)|(simp (config:={ maxSteps:=3000000 }) (disch:=omega) only [go_sem]))
  refine Jc_if (fun hlt=>?_) (fun hlt=>?_)<;>try simp only [decide_eq_true_eq,decide_eq_false_iff_not] at hlt
  ·obtain ⟨xs,hx,hxs⟩:=hm.at hlt
   have hrl:=hall _ (List.getElem_mem hlt)
   repeat (with_reducible first|refine W_seq fun K hK=>?_|refine J_block ?_|refine J_skip ?_|refine J_region ?_ |(refine Kont.go (by assumption) ?_)|(simp (config:={ maxSteps:=3000000 }) (disch:=omega) only [go_sem,↓reduceIte,hx,hlt]))
   refine call_f (chances_w hxs h1 (by omega) hk) rfl ?_
   repeat (with_reducible first|refine J_c ?_|(refine Kont.go (by assumption) ?_)|(simp (config:={ maxSteps:=3000000 }) (disch:=omega) only [go_sem]))
   refine Jc_if (fun hch=>?_) (fun hch=>?_)<;>try simp only [Bool.not_eq_true',Bool.not_eq_false'] at hch
   ·have e:sqM m=9:=by unfold sqM;rw [if_neg fun hh=>hh hall,if_pos fun hc=>by rw [hc _ (List.getElem_mem hlt)] at hch;cases hch]
    repeat (with_reducible first|refine W_seq fun K hK=>?_|refine J_ret ?_|refine J_region ?_ |(refine Kont.go (by assumption) ?_)|(simp (config:={ maxSteps:=3000000 }) (disch:=omega) only [go_sem]))
    rw [e]
    exact Frz.f _
   ·repeat (with_reducible first|refine J_skip ?_|refine J_region ?_ |(refine Kont.go (by assumption) ?_)|(simp (config:={ maxSteps:=3000000 }) (disch:=omega) only [go_sem]))
    refine ⟨i+1,⟨by omega,uptoL_next (p:=fun r=>chancesB r=true) hp fun _=>by simpa using hch⟩,by omega,weak_of ?_ ?_⟩<;>(try simp (disch:=omega) only [go_sem])<;>(try first|done|omega|rfl|exact ⟨rfl,rfl⟩|trivial)
  ·have he:i=m.length:=by omega
   subst he
   have e:sqM m=0:=by unfold sqM;rw [if_neg fun hh=>hh hall,if_neg fun hh=>hh (all_of (p:=fun r=>chancesB r=true) hp)]
   repeat (with_reducible first|refine W_seq fun K hK=>?_|refine J_exit ?_|refine J_ret ?_|refine J_region ?_ |(refine Kont.go (by assumption) ?_)|(simp (config:={ maxSteps:=3000000 }) (disch:=omega) only [go_sem,↓reduceIte]))
   rw [e]
   exact Frz.f _
set_option maxRecDepth 100000 in
theorem rsquare_w {ys:List FV} {m:List (List Rat)} {k:Nat} (hm:FrM k ys m) (h1:1≤k) (hn:m.length≤1000) (hk:k≤10000000):Good Tryz.prog 94 [.fz 1 ys] (I (sqM m)):=by
 refine good_of Tryz.func94 rfl (by kernel_rfl) fun X hO hrd=>?_;rw [Tryz.ntmps94,Tryz.results94];simp only [ast0,List.map_cons,List.map_nil,List.length_cons,List.length_nil,Nat.reduceAdd,Nat.reduceSub,List.replicate_succ,List.replicate_zero,List.cons_append,List.nil_append]
 repeat (with_reducible first|refine W_seq fun K hK=>?_|refine J_block ?_|refine J_region ?_ |(refine Kont.go (by assumption) ?_)|(simp (config:={ maxSteps:=3000000 }) (disch:=omega) only [go_sem]))
 refine W_loop [2,3,6,7,8,9,10,11,12,13,14,15,16,17,18,19] (fun x:Nat=>[(3,.f (I x))]) (fun x:Nat=>[]) (fun x:Nat=>x≤m.length∧∀j (h:j<m.length),j<x→m[j].length=m.length) (fun x:Nat=>m.length-x) (0) (⟨Nat.zero_le _,fun j _ h=>by omega⟩) (by refine weak_of ?_ ?_<;>simp (disch:=omega) only [go_sem]<;>first|rfl|exact ⟨rfl,rfl⟩|exact Or.inl rfl|exact ⟨Or.inl rfl,Or.inl rfl⟩|trivial|assumption|omega|(symm;assumption)|((repeat' apply And.intro)<;>first|rfl|omega|trivial|exact .inr ⟨rfl,rfl⟩|exact .inr rfl|(right;symm;assumption)|(symm;assumption)|assumption)) ?_
 rintro i ⟨hi,hp⟩
 simp only [go_sem]
 repeat (with_reducible first|refine W_seq fun K hK=>?_|refine J_region ?_ |refine J_c ?_|(refine Kont.go (by assumption) ?_)|(simp (config:={ maxSteps:=3000000 }) (disch:=omega) only [go_sem,hm.len]))
 refine Jc_if (fun hlt=>?_) (fun hlt=>?_)<;>try simp only [decide_eq_true_eq,decide_eq_false_iff_not] at hlt
 ·obtain ⟨xs,hx,hxs⟩:=hm.at hlt
  repeat (with_reducible first|refine W_seq fun K hK=>?_|refine J_block ?_|refine J_skip ?_|refine J_region ?_ |refine J_c ?_|(refine Kont.go (by assumption) ?_)|(simp (config:={ maxSteps:=3000000 }) (disch:=omega) only [go_sem,↓reduceIte,hx,hxs.len,hm.len,hlt]))
  refine Jc_if (fun hne=>?_) (fun hne=>?_)<;>try simp only [decide_eq_true_eq,decide_eq_false_iff_not,Bool.not_eq_true',Bool.not_eq_false',Int.natCast_inj] at hne
  ·have e:sqM m=8:=by unfold sqM;rw [if_pos fun hall=>hne (hall _ (List.getElem_mem hlt))]
   repeat (with_reducible first|refine W_seq fun K hK=>?_|refine J_ret ?_|refine J_region ?_ |(refine Kont.go (by assumption) ?_)|(simp (config:={ maxSteps:=3000000 }) (disch:=omega) only [go_sem]))
   rw [e]
   exact Frz.f _
  ·repeat (with_reducible first|refine J_skip ?_|refine J_region ?_ |(refine Kont.go (by assumption) ?_)|(simp (config:={ maxSteps:=3000000 }) (disch:=omega) only [go_sem]))
   refine ⟨i+1,⟨by omega,uptoL_next (p:=fun r:List Rat=>r.length=m.length) hp fun _=>hne⟩,by omega,weak_of ?_ ?_⟩<;>(try simp (disch:=omega) only [go_sem])<;>(try first|done|omega|rfl|exact ⟨rfl,rfl⟩|trivial)
 ·have he:i=m.length:=by omega
  subst he
  have hall:∀r∈m,r.length=m.length:=all_of (p:=fun r:List Rat=>r.length=m.length) hp
  repeat (with_reducible first|refine W_seq fun K hK=>?_|refine J_block ?_|refine J_exit ?_|refine J_region ?_ |(refine Kont.go (by assumption) ?_)|(simp (config:={ maxSteps:=3000000 }) (disch:=omega) only [go_sem,↓reduceIte]))
  refine W_loop [2,4,5,20,21,22,23,24,25,26,27,28,29,30,31,32] (fun x:Nat=>[(4,.f (I x))]) (fun x:Nat=>[]) (fun x:Nat=>x≤m.length∧∀j (h:j<m.length),j<x→chancesB m[j]=true) (fun x:Nat=>m.length-x) (0) (⟨Nat.zero_le _,fun j _ h=>by omega⟩) (by refine weak_of ?_ ?_<;>simp (disch:=omega) only [go_sem]<;>first|rfl|exact ⟨rfl,rfl⟩|exact Or.inl rfl|exact ⟨Or.inl rfl,Or.inl rfl⟩|trivial|assumption|omega|(symm;assumption)|((repeat' apply And.intro)<;>first|rfl|omega|trivial|exact .inr ⟨rfl,rfl⟩|exact .inr rfl|(right;symm;assumption)|(symm;assumption)|assumption)) ?_
  rintro i ⟨hi,hp⟩
  simp only [go_sem]
  repeat (with_reducible first|refine W_seq fun K hK=>?_|refine J_region ?_ |refine J_c ?_|(refine Kont.go (by assumption) ?_)|(simp (config:={ maxSteps:=3000000 }) (disch:=omega) only [go_sem,hm.len]))
  refine Jc_if (fun hlt=>?_) (fun hlt=>?_)<;>try simp only [decide_eq_true_eq,decide_eq_false_iff_not] at hlt
  ·obtain ⟨xs,hx,hxs⟩:=hm.at hlt
   have hrl:=hall _ (List.getElem_mem hlt)
   repeat (with_reducible first|refine W_seq fun K hK=>?_|refine J_block ?_|refine J_skip ?_|refine J_region ?_ |(refine Kont.go (by assumption) ?_)|(simp (config:={ maxSteps:=3000000 }) (disch:=omega) only [go_sem,↓reduceIte,hx,hlt]))
   refine call_f (rchances_w hxs h1 (by omega) hk) rfl ?_
   repeat (with_reducible first|refine W_seq fun K hK=>?_|refine J_region ?_ |refine J_c ?_|(refine Kont.go (by assumption) ?_)|(simp (config:={ maxSteps:=3000000 }) (disch:=omega) only [go_sem]))
   refine Jc_if (fun hch=>?_) (fun hch=>?_)<;>try simp only [Bool.not_eq_true',Bool.not_eq_false'] at hch
   ·have e:sqM m=9:=by unfold sqM;rw [if_neg fun hh=>hh hall,if_pos fun hc=>by rw [hc _ (List.getElem_mem hlt)] at hch;cases hch]
    repeat (with_reducible first|refine W_seq fun K hK=>?_|refine J_ret ?_|refine J_region ?_ |(refine Kont.go (by assumption) ?_)|(simp (config:={ maxSteps:=3000000 }) (disch:=omega) only [go_sem]))
    rw [e]
    exact Frz.f _
   ·repeat (with_reducible first|refine J_skip ?_|refine J_region ?_ |(refine Kont.go (by assumption) ?_)|(simp (config:={ maxSteps:=3000000 }) (disch:=omega) only [go_sem]))
    refine ⟨i+1,⟨by omega,uptoL_next (p:=fun r=>chancesB r=true) hp fun _=>by simpa using hch⟩,by omega,weak_of ?_ ?_⟩<;>(try simp (disch:=omega) only [go_sem])<;>(try first|done|omega|rfl|exact ⟨rfl,rfl⟩|trivial)
  ·have he:i=m.length:=by omega
   subst he
   have e:sqM m=0:=by unfold sqM;rw [if_neg fun hh=>hh hall,if_neg fun hh=>hh (all_of (p:=fun r=>chancesB r=true) hp)]
   repeat (with_reducible first|refine W_seq fun K hK=>?_|refine J_exit ?_|refine J_ret ?_|refine J_region ?_ |(refine Kont.go (by assumption) ?_)|(simp (config:={ maxSteps:=3000000 }) (disch:=omega) only [go_sem,↓reduceIte]))
   rw [e]
   exact Frz.f _
set_option maxRecDepth 100000 in
theorem check_w {ys:List FV} {m:List (List Rat)} {k:Nat} (hm:FrM k ys m) (h1:1≤k) (hk:k≤10000000) (hmx:m.length≤140737488355328):Good Tryz.prog 15 [.fz 1 ys] (I (chkM m)):=by
 by_cases b1:(m.length:Int)<1
 ·have e:chkM m=8:=by unfold chkM;rw [if_pos (by omega)]
  rw [e]
  refine good_of Tryz.func15 rfl (by kernel_rfl) fun X hO hrd=>?_;rw [Tryz.ntmps15,Tryz.results15];simp only [ast0,List.map_cons,List.map_nil,List.length_cons,List.length_nil,Nat.reduceAdd,Nat.reduceSub,List.replicate_succ,List.replicate_zero,List.cons_append,List.nil_append]
  repeat (with_reducible first|refine W_seq fun K hK=>?_|refine J_ret ?_|refine J_region ?_ |refine J_c ?_|refine Jc_true ?_|exact Frz.f _|(refine Kont.go (by assumption) ?_)|(simp (config:={ maxSteps:=3000000 }) (disch:=omega) only [go_sem,hm.len,b1]))
 by_cases b2:6<(m.length:Int)
 ·have e:chkM m=8:=by unfold chkM;rw [if_pos (by omega)]
  rw [e]
  refine good_of Tryz.func15 rfl (by kernel_rfl) fun X hO hrd=>?_;rw [Tryz.ntmps15,Tryz.results15];simp only [ast0,List.map_cons,List.map_nil,List.length_cons,List.length_nil,Nat.reduceAdd,Nat.reduceSub,List.replicate_succ,List.replicate_zero,List.cons_append,List.nil_append]
  repeat (with_reducible first|refine W_seq fun K hK=>?_|refine J_ret ?_|refine J_region ?_ |refine J_c ?_|refine Jc_true ?_|exact Frz.f _|(refine Kont.go (by assumption) ?_)|(simp (config:={ maxSteps:=3000000 }) (disch:=omega) only [go_sem,hm.len,b1,b2]))
 have e:chkM m=sqM m:=by unfold chkM;rw [if_neg (by omega)]
 rw [e]
 refine good_of Tryz.func15 rfl (by kernel_rfl) fun X hO hrd=>?_;rw [Tryz.ntmps15,Tryz.results15];simp only [ast0,List.map_cons,List.map_nil,List.length_cons,List.length_nil,Nat.reduceAdd,Nat.reduceSub,List.replicate_succ,List.replicate_zero,List.cons_append,List.nil_append]
 repeat (with_reducible first|refine W_seq fun K hK=>?_|refine J_skip ?_|refine J_region ?_ |refine J_c ?_|refine Jc_false ?_|(refine Kont.go (by assumption) ?_)|(simp (config:={ maxSteps:=3000000 }) (disch:=omega) only [go_sem,hm.len,b1,b2]))
 refine call_f (square_w hm h1 (by omega) hk) rfl ?_
 repeat (with_reducible first|refine J_ret ?_|exact Frz.f _|(refine Kont.go (by assumption) ?_)|(simp (config:={ maxSteps:=3000000 }) (disch:=omega) only [go_sem]))
set_option maxRecDepth 100000 in
theorem rcheck_w {ys:List FV} {m:List (List Rat)} {k:Nat} (hm:FrM k ys m) (h1:1≤k) (hk:k≤10000000) (hmx:m.length≤140737488355328):Good Tryz.prog 16 [.fz 1 ys] (I (chkM m)):=by
 by_cases b1:(m.length:Int)<1
 ·have e:chkM m=8:=by unfold chkM;rw [if_pos (by omega)]
  rw [e]
  refine good_of Tryz.func16 rfl (by kernel_rfl) fun X hO hrd=>?_;rw [Tryz.ntmps16,Tryz.results16];simp only [ast0,List.map_cons,List.map_nil,List.length_cons,List.length_nil,Nat.reduceAdd,Nat.reduceSub,List.replicate_succ,List.replicate_zero,List.cons_append,List.nil_append]
  repeat (with_reducible first|refine W_seq fun K hK=>?_|refine J_ret ?_|refine J_region ?_ |refine J_c ?_|refine Jc_true ?_|exact Frz.f _|(refine Kont.go (by assumption) ?_)|(simp (config:={ maxSteps:=3000000 }) (disch:=omega) only [go_sem,hm.len,b1]))
 by_cases b2:6<(m.length:Int)
 ·have e:chkM m=8:=by unfold chkM;rw [if_pos (by omega)]
  rw [e]
  refine good_of Tryz.func16 rfl (by kernel_rfl) fun X hO hrd=>?_;rw [Tryz.ntmps16,Tryz.results16];simp only [ast0,List.map_cons,List.map_nil,List.length_cons,List.length_nil,Nat.reduceAdd,Nat.reduceSub,List.replicate_succ,List.replicate_zero,List.cons_append,List.nil_append]
  repeat (with_reducible first|refine W_seq fun K hK=>?_|refine J_ret ?_|refine J_region ?_ |refine J_c ?_|refine Jc_true ?_|exact Frz.f _|(refine Kont.go (by assumption) ?_)|(simp (config:={ maxSteps:=3000000 }) (disch:=omega) only [go_sem,hm.len,b1,b2]))
 have e:chkM m=sqM m:=by unfold chkM;rw [if_neg (by omega)]
 rw [e]
 refine good_of Tryz.func16 rfl (by kernel_rfl) fun X hO hrd=>?_;rw [Tryz.ntmps16,Tryz.results16];simp only [ast0,List.map_cons,List.map_nil,List.length_cons,List.length_nil,Nat.reduceAdd,Nat.reduceSub,List.replicate_succ,List.replicate_zero,List.cons_append,List.nil_append]
 repeat (with_reducible first|refine W_seq fun K hK=>?_|refine J_skip ?_|refine J_region ?_ |refine J_c ?_|refine Jc_false ?_|(refine Kont.go (by assumption) ?_)|(simp (config:={ maxSteps:=3000000 }) (disch:=omega) only [go_sem,hm.len,b1,b2]))
 refine call_f (rsquare_w hm h1 (by omega) hk) rfl ?_
 repeat (with_reducible first|refine J_ret ?_|exact Frz.f _|(refine Kont.go (by assumption) ?_)|(simp (config:={ maxSteps:=3000000 }) (disch:=omega) only [go_sem]))
end Go.Proofs.YtcgagiimlkjcpaaGreatDoor
set_option linter.unusedVariables false
set_option linter.unusedSimpArgs false
namespace Go.Proofs.YtcgagiimlkjcpaaGreatDoor
open Go Go.RowKit
theorem rep_two {α:Type} (x:α):List.replicate 2 x=[x,x]:=(rfl)
theorem rep_three {α:Type} (x:α):List.replicate 3 x=[x,x,x]:=(rfl)
theorem rep_four {α:Type} (x:α):List.replicate 4 x=[x,x,x,x]:=(rfl)
theorem rep_five {α:Type} (x:α):List.replicate 5 x=[x,x,x,x,x]:=(rfl)
theorem opt_ex {α:Type} {a:α} {p:α→Prop}:(∃e,some a=some e∧p e)=p a:=propext ⟨fun ⟨e,h,hp⟩=>by cases h;exact hp,fun h=>⟨a,rfl,h⟩⟩
theorem objLt_fset (N:Nat) (e:TypeId) (sz i:Nat) (l:List FV) (x:FV):objLt N ⟨e,sz,(l.map AV.f).set i (.f x)⟩=True:=by
 rw [←List.map_set];exact objLt_f N e sz _
theorem acallQV_f {P:Program} {f:FuncId} {a b:List FV} {xs:List AV} {H:AH} {k:AV→Prop}:acallQV P (.f (.fn f a b)) xs H k=acallQ P f (a.map .f++xs++b.map .f) H k:=(rfl)
theorem acallV_f {P:Program} {f:FuncId} {a b:List FV} {xs:List AV} {s:AS} {d:Option Tmp} {K:AS→Prop}:acallV P (.f (.fn f a b)) xs s d K=acall P f (a.map .f++xs++b.map .f) s d K:=(rfl)
attribute [go_sem] objLt_fset acallQV_f acallV_f
attribute [go_sem] rep_two rep_three rep_four rep_five opt_ex
end Go.Proofs.YtcgagiimlkjcpaaGreatDoor
