/- Lists that are filled from the left; rows of rows. Conditions: none. -/
import Derived.Test.YtfjgijkhmhhkdaaGreatDoorYB07
import Derived.Test.YtfjgijkhmhhkdaaGreatDoorYB09
set_option linter.unusedVariables false
set_option linter.unusedSimpArgs false
namespace Go.Proofs.YtfjgijkhmhhkdaaGreatDoor
open Go Go.RowKit
theorem ownR_sl {H:AH} {i sz:Nat} {e:TypeId} {l:List FV} (h:l≠[]) (hH:H[i]?=some (ob e sz l)) (hf:∀x∈l,FlatF x):ownR H (sl i sz l) (.own e sz l):=by
 rw [ob_pos h] at hH
 exact ⟨i,sl_pos h,hH,hf⟩
theorem upto_next {p:Nat→Prop} {i:Nat} (h:∀j,j<i→p j) (hi:p i):∀j,j<i+1→p j:=fun j hj=>by
 by_cases e:j=i
 ·subst e;exact hi
 ·exact h j (by omega)
theorem uptoL_next {α:Type} {l:List α} {p:α→Prop} {i:Nat} (h:∀j (hj:j<l.length),j<i→p l[j]) (hi:∀hj:i<l.length,p l[i]):∀j (hj:j<l.length),j<i+1→p l[j]:=fun j hj hji=>by
 by_cases e:j=i
 ·subst e;exact hi hj
 ·exact h j hj (by omega)
def fillL {α:Type} (n k:Nat) (f:Nat→α) (z:α):List α:=(List.range n).map fun j=>if j<k then f j else z
section
variable {α : Type} {n k : Nat} {f : Nat → α} {z : α}
theorem fill_len:(fillL n k f z).length=n:=by simp [fillL]
theorem fill_zero:fillL n 0 f z=List.replicate n z:=by
 apply List.ext_getElem?
 intro i
 by_cases h:i<n<;>simp [fillL,h]
theorem fill_get {i:Nat} (h:i<n):(fillL n k f z)[i]?=some (if i<k then f i else z):=by simp [fillL,h]
theorem fill_set (h:k<n):(fillL n k f z).set k (f k)=fillL n (k+1) f z:=by
 apply List.ext_getElem?
 intro i
 by_cases hi:i<n
 ·by_cases e:i=k
  ·subst e;rw [List.getElem?_set_self (by rw [fill_len];exact hi),fill_get hi,if_pos (by omega)]
  ·rw [List.getElem?_set_ne (Ne.symm e),fill_get hi,fill_get hi]
   by_cases hk:i<k
   ·rw [if_pos hk,if_pos (by omega)]
   ·rw [if_neg hk,if_neg (by omega)]
 ·rw [List.getElem?_eq_none (by rw [List.length_set,fill_len];omega),List.getElem?_eq_none (by rw [fill_len];omega)]
theorem fill_all:fillL n n f z=(List.range n).map f:=by
 unfold fillL
 refine List.map_congr_left fun i hi=>?_
 rw [if_pos (List.mem_range.1 hi)]
theorem range_set {g:Nat→α} {i:Nat} {x:α} (hi:i<n):((List.range n).map g).set i x=(List.range n).map fun k=>if k=i then x else g k:=by
 apply List.ext_getElem?
 intro j
 by_cases hj:j<n
 ·by_cases e:j=i
  ·subst e;rw [List.getElem?_set_self (by simpa using hj)];simp [hj]
  ·rw [List.getElem?_set_ne (Ne.symm e)];simp [hj,e]
 ·rw [List.getElem?_eq_none (by simp;omega),List.getElem?_eq_none (by simp;omega)]
end
theorem fillA_get {n k:Nat} {f:Nat→FV} {z:FV} {j:Nat} (h:j<n):((fillL n k f z).map AV.f)[j]?=some (.f (if j<k then f j else z)):=by rw [List.getElem?_map,fill_get h];rfl
theorem fillA_set {n k:Nat} {f:Nat→FV} {z x:FV} (h:k<n) (hx:f k=x):((fillL n k f z).map AV.f).set k (.f x)=(fillL n (k+1) f z).map AV.f:=by rw [←hx,←fill_set h,List.map_set]
def at2 (q:List (List Rat)) (i k:Nat):Rat:=(q.getD i []).getD k 0
end Go.Proofs.YtfjgijkhmhhkdaaGreatDoor
set_option linter.unusedVariables false
set_option linter.unusedSimpArgs false
namespace Go.Proofs.YtfjgijkhmhhkdaaGreatDoor
open Go Go.RowKit
abbrev oF (x:FV):Option AO:=some ⟨30,3,[.f x]⟩
theorem sum_bound {k i n:Nat} (hi:i≤n) (hn:n≤1000) (hk:k≤10000000):8+i*(k+1)≤11000000000:=by
 have:=Nat.mul_le_mul (show i≤1000 by omega) (show k+1≤10000001 by omega);omega
set_option maxRecDepth 100000 in
theorem sum_w {xs:List FV} {l:List Rat} {k:Nat} (hl:Frs k xs l) (h1:1≤k) (hn:l.length≤1000) (hk:k≤10000000):Good Tryz.prog 29 [.fz 3 xs] (fr (sumR l)):=by
 have hr:=hl.row h1
 refine good_of Tryz.func29 rfl (by kernel_rfl) fun X hO hrd=>?_;rw [Tryz.ntmps29,Tryz.results29];simp only [ast0,List.map_cons,List.map_nil,List.length_cons,List.length_nil,Nat.reduceAdd,Nat.reduceSub,List.replicate_succ,List.replicate_zero,List.cons_append,List.nil_append]
 (repeat (first|(with_reducible first|refine W_seq fun K hK=>?_|refine J_block ?_|refine J_region ?_ |(refine Kont.go (by assumption) ?_)|(simp (config:={ maxSteps:=3000000 }) (disch:=omega) only [go_sem,↓reduceIte,Nat.reduceAdd,hl.len]))|refine call_f (of_good (by omega) (by omega)) rfl ?_))
 refine W_loop [5,9,10,11,12,13,14,15,16] (fun x:Nat=>[(9,.f (I x))]) (fun x:Nat=>[oF frN,oF (fr (sumTo l x))]) (fun x:Nat=>x≤l.length) (fun x:Nat=>l.length-x) (0) (Nat.zero_le _) (by refine weak_of ?_ ?_<;>simp (disch:=omega) only [go_sem,Nat.reduceAdd]<;>first|rfl|exact ⟨rfl,rfl⟩|exact Or.inl rfl|exact ⟨Or.inl rfl,Or.inl rfl⟩|trivial|assumption|omega|(symm;assumption)|((repeat' apply And.intro)<;>first|rfl|omega|trivial|exact .inl rfl|exact .inr ⟨rfl,rfl⟩|exact .inr rfl|(right;symm;assumption)|(symm;assumption)|assumption)) ?_
 rintro i hi
 simp only [go_sem]
 (repeat (with_reducible first|refine W_seq fun K hK=>?_|refine J_region ?_ |refine J_c ?_|(refine Kont.go (by assumption) ?_)|(simp (config:={ maxSteps:=3000000 }) (disch:=omega) only [go_sem])))
 refine Jc_if (fun hlt=>?_) (fun hlt=>?_)<;>try simp only [decide_eq_true_eq,decide_eq_false_iff_not] at hlt
 ·have hsz:=sum_bound hi hn hk
  have hd:=IsFr.c (sumTo_fz hr i hi)
  obtain ⟨g,n,d,hx,his⟩:=hl.at3 hlt
  (repeat (first|(with_reducible first|refine W_seq fun K hK=>?_|refine J_block ?_|refine J_skip ?_|refine J_region ?_ |(refine Kont.go (by assumption) ?_)|(simp (config:={ maxSteps:=3000000 }) (disch:=omega) only [go_sem,↓reduceIte,Nat.reduceAdd,hx,hlt,sumTo_next hlt]))|refine call_f (add_w (by assumption) (by assumption) (by omega) (by omega)) rfl ?_))
  refine ⟨i+1,by omega,by omega,weak_of ?_ ?_⟩<;>(try simp (disch:=omega) only [go_sem,Nat.reduceAdd])<;>(try first|done|omega|rfl|exact ⟨rfl,rfl⟩|trivial)
 ·have he:i=l.length:=by omega
  subst he
  (repeat (with_reducible first|refine W_seq fun K hK=>?_|refine J_exit ?_|refine J_ret ?_|refine J_region ?_ |(refine Kont.go (by assumption) ?_)|(simp (config:={ maxSteps:=3000000 }) (disch:=omega) only [go_sem,↓reduceIte,Nat.reduceAdd])))
  exact Frz.f _
set_option maxRecDepth 100000 in
theorem rsum_w {xs:List FV} {l:List Rat} {k:Nat} (hl:Frs k xs l) (h1:1≤k) (hn:l.length≤1000) (hk:k≤10000000):Good Tryz.prog 71 [.fz 3 xs] (fr (sumR l)):=by
 have hr:=hl.row h1
 refine good_of Tryz.func71 rfl (by kernel_rfl) fun X hO hrd=>?_;rw [Tryz.ntmps71,Tryz.results71];simp only [ast0,List.map_cons,List.map_nil,List.length_cons,List.length_nil,Nat.reduceAdd,Nat.reduceSub,List.replicate_succ,List.replicate_zero,List.cons_append,List.nil_append]
 (repeat (first|(with_reducible first|refine W_seq fun K hK=>?_|refine J_block ?_|refine J_region ?_ |(refine Kont.go (by assumption) ?_)|(simp (config:={ maxSteps:=3000000 }) (disch:=omega) only [go_sem,↓reduceIte,Nat.reduceAdd]))|refine call_f (rof_frac (by omega) (by omega)) rfl ?_))
 refine W_loop [4,6,7,8,9,10,11,12,13,14,15,16,17] (fun x:Nat=>[(4,.f (I x))]) (fun x:Nat=>[oF frN,oF (fr (sumTo l x))]) (fun x:Nat=>x≤l.length) (fun x:Nat=>l.length-x) (0) (Nat.zero_le _) (by refine weak_of ?_ ?_<;>simp (disch:=omega) only [go_sem,Nat.reduceAdd]<;>first|rfl|exact ⟨rfl,rfl⟩|exact Or.inl rfl|exact ⟨Or.inl rfl,Or.inl rfl⟩|trivial|assumption|omega|(symm;assumption)|((repeat' apply And.intro)<;>first|rfl|omega|trivial|exact .inl rfl|exact .inr ⟨rfl,rfl⟩|exact .inr rfl|(right;symm;assumption)|(symm;assumption)|assumption)) ?_
 rintro i hi
 simp only [go_sem]
 (repeat (with_reducible first|refine W_seq fun K hK=>?_|refine J_region ?_ |refine J_c ?_|(refine Kont.go (by assumption) ?_)|(simp (config:={ maxSteps:=3000000 }) (disch:=omega) only [go_sem,hl.len])))
 refine Jc_if (fun hlt=>?_) (fun hlt=>?_)<;>try simp only [decide_eq_true_eq,decide_eq_false_iff_not] at hlt
 ·have hsz:=sum_bound hi hn hk
  have hd:=IsFr.c (sumTo_fz hr i hi)
  obtain ⟨g,n,d,hx,his⟩:=hl.at3 hlt
  (repeat (first|(with_reducible first|refine W_seq fun K hK=>?_|refine J_block ?_|refine J_skip ?_|refine J_region ?_ |refine J_drawn mixed (by kernel_rfl) ?_|(refine Kont.go (by assumption) ?_)|(simp (config:={ maxSteps:=3000000 }) (disch:=omega) only [go_sem,↓reduceIte,Nat.reduceAdd,hx,hlt,sumTo_next hlt]))|refine callQ_f (radd_w (by assumption) (by assumption) (by omega) (by omega)) rfl ?_))
  refine ⟨i+1,by omega,by omega,weak_of ?_ ?_⟩<;>(try simp (disch:=omega) only [go_sem,Nat.reduceAdd])<;>(try first|done|omega|rfl|exact ⟨rfl,rfl⟩|trivial)
 ·have he:i=l.length:=by omega
  subst he
  (repeat (with_reducible first|refine W_seq fun K hK=>?_|refine J_exit ?_|refine J_ret ?_|refine J_region ?_ |(refine Kont.go (by assumption) ?_)|(simp (config:={ maxSteps:=3000000 }) (disch:=omega) only [go_sem,↓reduceIte,Nat.reduceAdd])))
  exact Frz.f _
def chancesB (l:List Rat):Bool:=decide ((∀q∈l,0≤q)∧sumR l=1)
theorem chances_neg {l:List Rat} {i:Nat} (h:i<l.length) (hn:cmpR l[i] ((0:Int):Rat)<0):chancesB l=false :=
 decide_eq_false fun hh=>Rat.not_lt.2 (hh.1 _ (List.getElem_mem h)) (by simpa using cmpR_lt.1 hn)
theorem chances_end {l:List Rat} (hp:∀j (h:j<l.length),j<l.length→¬cmpR l[j] ((0:Int):Rat)<0):chancesB l=decide (sumR l=((1:Int):Rat)):=by
 unfold chancesB
 rw [decide_eq_decide]
 refine ⟨fun h=>by rw [h.2];rfl,fun h=>⟨fun q hq=>?_,by rw [h];rfl⟩⟩
 obtain ⟨j,hj,rfl⟩:=List.getElem_of_mem hq
 exact Rat.not_lt.1 fun hh=>hp j hj hj (cmpR_lt.2 (by simpa using hh))
set_option maxRecDepth 100000 in
theorem chances_w {xs:List FV} {l:List Rat} {k:Nat} (hl:Frs k xs l) (h1:1≤k) (hn:l.length≤1000) (hk:k≤10000000):Good Tryz.prog 35 [.fz 3 xs] (Bo (chancesB l)):=by
 have hr:=hl.row h1
 have h0:IsFr (fr ((0:Int):Rat)) ((0:Int):Rat) 8:=IsFr.int (by omega) (by omega)
 have h2:IsFr (fr ((1:Int):Rat)) ((1:Int):Rat) 8:=IsFr.int (by omega) (by omega)
 have hsz:=sum_bound (Nat.le_refl _) hn hk
 have hd:IsFr (fr (sumR l)) (sumR l) _:=IsFr.c (sumTo_fz hr _ (Nat.le_refl _))
 refine good_of Tryz.func35 rfl (by kernel_rfl) fun X hO hrd=>?_;rw [Tryz.ntmps35,Tryz.results35];simp only [ast0,List.map_cons,List.map_nil,List.length_cons,List.length_nil,Nat.reduceAdd,Nat.reduceSub,List.replicate_succ,List.replicate_zero,List.cons_append,List.nil_append]
 (repeat (with_reducible first|refine W_seq fun K hK=>?_|refine J_block ?_|refine J_region ?_ |(refine Kont.go (by assumption) ?_)|(simp (config:={ maxSteps:=3000000 }) (disch:=omega) only [go_sem,hl.len])))
 refine W_loop [2,4,7,8,9,10,11,12,13,14,15] (fun x:Nat=>[(7,.f (I x))]) (fun x:Nat=>[]) (fun x:Nat=>x≤l.length∧∀j (h:j<l.length),j<x→¬cmpR l[j] ((0:Int):Rat)<0) (fun x:Nat=>l.length-x) (0) (⟨Nat.zero_le _,fun j _ h=>by omega⟩) (by refine weak_of ?_ ?_<;>simp (disch:=omega) only [go_sem]<;>first|rfl|exact ⟨rfl,rfl⟩|exact Or.inl rfl|exact ⟨Or.inl rfl,Or.inl rfl⟩|trivial|assumption|omega|(symm;assumption)|((repeat' apply And.intro)<;>first|rfl|omega|trivial|exact .inl rfl|exact .inr ⟨rfl,rfl⟩|exact .inr rfl|(right;symm;assumption)|(symm;assumption)|assumption)) ?_
 rintro i ⟨hi,hp⟩
 simp only [go_sem]
 (repeat (with_reducible first|refine W_seq fun K hK=>?_|refine J_region ?_ |refine J_c ?_|(refine Kont.go (by assumption) ?_)|(simp (config:={ maxSteps:=3000000 }) (disch:=omega) only [go_sem])))
 refine Jc_if (fun hlt=>?_) (fun hlt=>?_)<;>try simp only [decide_eq_true_eq,decide_eq_false_iff_not] at hlt
 ·obtain ⟨g,n,d,hx,his⟩:=hl.at3 hlt
  (repeat (first|(with_reducible first|refine W_seq fun K hK=>?_|refine J_block ?_|refine J_skip ?_|refine J_region ?_ |refine J_drawn mixed (by kernel_rfl) ?_|refine J_c ?_|(refine Kont.go (by assumption) ?_)|(simp (config:={ maxSteps:=3000000 }) (disch:=omega) only [go_sem,↓reduceIte,Nat.reduceAdd,hx,hlt]))|refine callQ_f (of_good (by omega) (by omega)) rfl ?_|refine callQ_f (cmp_w (by assumption) (by assumption) (by omega) (by omega)) rfl ?_))
  refine Jc_if (fun hneg=>?_) (fun hneg=>?_)<;>try simp only [decide_eq_true_eq,decide_eq_false_iff_not] at hneg
  ·(repeat (with_reducible first|refine W_seq fun K hK=>?_|refine J_ret ?_|refine J_region ?_ |(refine Kont.go (by assumption) ?_)|(simp (config:={ maxSteps:=3000000 }) (disch:=omega) only [go_sem])))
   rw [chances_neg hlt hneg]
   exact Frz.f _
  ·(repeat (with_reducible first|refine J_skip ?_|refine J_region ?_ |(refine Kont.go (by assumption) ?_)|(simp (config:={ maxSteps:=3000000 }) (disch:=omega) only [go_sem])))
   refine ⟨i+1,⟨by omega,uptoL_next (p:=fun q=>¬cmpR q ((0:Int):Rat)<0) hp fun _=>hneg⟩,by omega,weak_of ?_ ?_⟩<;>(try simp (disch:=omega) only [go_sem])<;>(try first|done|omega|rfl|exact ⟨rfl,rfl⟩|trivial)
 ·have he:i=l.length:=by omega
  subst he
  (repeat (with_reducible first|refine W_seq fun K hK=>?_|refine J_exit ?_|refine J_region ?_ |(refine Kont.go (by assumption) ?_)|(simp (config:={ maxSteps:=3000000 }) (disch:=omega) only [go_sem,↓reduceIte])))
  refine call_f (sum_w hl h1 hn hk) rfl ?_
  (repeat (first|(with_reducible first|refine J_ret ?_|(refine Kont.go (by assumption) ?_)|(simp (config:={ maxSteps:=3000000 }) (disch:=omega) only [go_sem,cmpR_zero]))|refine call_f (of_good (by omega) (by omega)) rfl ?_|refine call_f (cmp_w (by assumption) (by assumption) (by omega) (by omega)) rfl ?_))
  rw [chances_end hp]
  exact Frz.f _
set_option maxRecDepth 100000 in
theorem rchances_w {xs:List FV} {l:List Rat} {k:Nat} (hl:Frs k xs l) (h1:1≤k) (hn:l.length≤1000) (hk:k≤10000000):Good Tryz.prog 36 [.fz 3 xs] (Bo (chancesB l)):=by
 have hr:=hl.row h1
 have h0:IsFr (fr ((0:Int):Rat)) ((0:Int):Rat) 8:=IsFr.int (by omega) (by omega)
 refine good_of Tryz.func36 rfl (by kernel_rfl) fun X hO hrd=>?_;rw [Tryz.ntmps36,Tryz.results36];simp only [ast0,List.map_cons,List.map_nil,List.length_cons,List.length_nil,Nat.reduceAdd,Nat.reduceSub,List.replicate_succ,List.replicate_zero,List.cons_append,List.nil_append]
 (repeat (with_reducible first|refine W_seq fun K hK=>?_|refine J_block ?_|refine J_region ?_ |(refine Kont.go (by assumption) ?_)|(simp (config:={ maxSteps:=3000000 }) (disch:=omega) only [go_sem])))
 refine W_loop [2,3,4,6,7,8,9,10,11,12,13,14,15,16,17,18,19] (fun x:Nat=>[(3,.f (I x))]) (fun x:Nat=>[]) (fun x:Nat=>x≤l.length∧∀j (h:j<l.length),j<x→¬cmpR l[j] ((0:Int):Rat)<0) (fun x:Nat=>l.length-x) (0) (⟨Nat.zero_le _,fun j _ h=>by omega⟩) (by refine weak_of ?_ ?_<;>simp (disch:=omega) only [go_sem]<;>first|rfl|exact ⟨rfl,rfl⟩|exact Or.inl rfl|exact ⟨Or.inl rfl,Or.inl rfl⟩|trivial|assumption|omega|(symm;assumption)|((repeat' apply And.intro)<;>first|rfl|omega|trivial|exact .inl rfl|exact .inr ⟨rfl,rfl⟩|exact .inr rfl|(right;symm;assumption)|(symm;assumption)|assumption)) ?_
 rintro i ⟨hi,hp⟩
 simp only [go_sem]
 (repeat (with_reducible first|refine W_seq fun K hK=>?_|refine J_region ?_ |refine J_c ?_|(refine Kont.go (by assumption) ?_)|(simp (config:={ maxSteps:=3000000 }) (disch:=omega) only [go_sem,hl.len])))
 refine Jc_if (fun hlt=>?_) (fun hlt=>?_)<;>try simp only [decide_eq_true_eq,decide_eq_false_iff_not] at hlt
 ·obtain ⟨g,n,d,hx,his⟩:=hl.at3 hlt
  (repeat (first|(with_reducible first|refine W_seq fun K hK=>?_|refine J_block ?_|refine J_skip ?_|refine J_region ?_ |refine J_drawn mixed (by kernel_rfl) ?_|refine J_c ?_|(refine Kont.go (by assumption) ?_)|(simp (config:={ maxSteps:=3000000 }) (disch:=omega) only [go_sem,↓reduceIte,Nat.reduceAdd,hx,hlt]))|refine callQ_f (rof_frac (by omega) (by omega)) rfl ?_|refine callQ_f (rcmp_w (by assumption) (by assumption) (by omega) (by omega)) rfl ?_))
  refine Jc_if (fun hneg=>?_) (fun hneg=>?_)<;>try simp only [decide_eq_true_eq,decide_eq_false_iff_not] at hneg
  ·(repeat (with_reducible first|refine W_seq fun K hK=>?_|refine J_ret ?_|refine J_region ?_ |(refine Kont.go (by assumption) ?_)|(simp (config:={ maxSteps:=3000000 }) (disch:=omega) only [go_sem])))
   rw [chances_neg hlt hneg]
   exact Frz.f _
  ·(repeat (with_reducible first|refine J_skip ?_|refine J_region ?_ |(refine Kont.go (by assumption) ?_)|(simp (config:={ maxSteps:=3000000 }) (disch:=omega) only [go_sem])))
   refine ⟨i+1,⟨by omega,uptoL_next (p:=fun q=>¬cmpR q ((0:Int):Rat)<0) hp fun _=>hneg⟩,by omega,weak_of ?_ ?_⟩<;>(try simp (disch:=omega) only [go_sem])<;>(try first|done|omega|rfl|exact ⟨rfl,rfl⟩|trivial)
 ·have he:i=l.length:=by omega
  subst he
  (repeat (with_reducible first|refine W_seq fun K hK=>?_|refine J_exit ?_|refine J_region ?_ |(refine Kont.go (by assumption) ?_)|(simp (config:={ maxSteps:=3000000 }) (disch:=omega) only [go_sem,↓reduceIte])))
  refine call_f (rsum_w hl h1 hn hk) rfl ?_
  (repeat (first|(with_reducible first|refine W_seq fun K hK=>?_|refine J_ret ?_|refine J_drawn mixed (by kernel_rfl) ?_|(refine Kont.go (by assumption) ?_)|(simp (config:={ maxSteps:=3000000 }) (disch:=omega) only [go_sem,↓reduceIte,Nat.reduceAdd]))|refine callQ_f (rof_frac (by omega) (by omega)) rfl ?_))
  rw [chances_end hp]
  exact Frz.f _
end Go.Proofs.YtfjgijkhmhhkdaaGreatDoor
set_option linter.unusedVariables false
set_option linter.unusedSimpArgs false
namespace Go.Proofs.YtfjgijkhmhhkdaaGreatDoor
open Go Go.RowKit
theorem rep_two {α:Type} (x:α):List.replicate 2 x=[x,x]:=(rfl)
theorem rep_three {α:Type} (x:α):List.replicate 3 x=[x,x,x]:=(rfl)
theorem rep_four {α:Type} (x:α):List.replicate 4 x=[x,x,x,x]:=(rfl)
theorem rep_five {α:Type} (x:α):List.replicate 5 x=[x,x,x,x,x]:=(rfl)
theorem opt_ex {α:Type} {a:α} {p:α→Prop}:(∃e,some a=some e∧p e)=p a:=propext ⟨fun ⟨e,h,hp⟩=>by cases h;exact hp,fun h=>⟨a,rfl,h⟩⟩
theorem objLt_fset (N:Nat) (e:TypeId) (sz i:Nat) (l:List FV) (x:FV):objLt N ⟨e,sz,(l.map AV.f).set i (.f x)⟩=True:=by
 rw [←List.map_set];exact objLt_f N e sz _
theorem acallQV_f {P:Program} {f:FuncId} {a b:List FV} {xs:List AV} {H:AH} {k:AV→Prop}:acallQV P (.f (.fn f a b)) xs H k=acallQ P f (a.map .f++xs++b.map .f) H k:=(rfl)
theorem acallV_f {P:Program} {f:FuncId} {a b:List FV} {xs:List AV} {s:AS} {d:Option Tmp} {K:AS→Prop}:acallV P (.f (.fn f a b)) xs s d K=acall P f (a.map .f++xs++b.map .f) s d K:=(rfl)
attribute [go_sem] objLt_fset acallQV_f acallV_f
attribute [go_sem] rep_two rep_three rep_four rep_five opt_ex
end Go.Proofs.YtfjgijkhmhhkdaaGreatDoor
