/- A fraction's text, the program's and the document's, numbers of any length: walked. Conditions: numbers of at most 10^7 bytes. -/
import Derived.Test.YthehegidpamldaaGreatDoorZB10
import Derived.Test.YthehegidpamldaaGreatDoorZB06
import Derived.Test.YthehegidpamldaaGreatDoorZB08
set_option linter.unusedVariables false
set_option linter.unusedSimpArgs false
namespace Go.Proofs.YthehegidpamldaaGreatDoor
open Go Go.RowKit
theorem text_lenG {n k:Nat} (h:n<256^k) (h1:1≤k):(textOf n).length≤3*k:=by
 unfold textOf
 split
 ·simp;omega
 ·refine dec_length n (3*k) (Nat.lt_of_lt_of_le h ?_)
  rw [Nat.pow_mul]
  exact Nat.pow_le_pow_left (by decide) k
theorem fracT_len {q:Rat} {k:Nat} (h:Fz q k) (h1:1≤k):(fracT q).length≤6*k+2:=by
 have a1:=text_lenG h.1 h1
 have a2:=text_lenG h.2 h1
 unfold fracT bodyT
 split<;>split<;>(try simp only [List.length_cons,List.length_append])<;>omega
theorem rntext_good (a:ByteArray) (ha:a.size≤137438953472):Good Tryz.prog 59 [St a] (St (bsl (textOf (vn a)))) :=
 good_calls (by kernel_rfl) rfl rfl fun w=>rtext_any a w ha
set_option maxRecDepth 100000 in
set_option maxHeartbeats 4000000 in
theorem ftG_w {x:FV} {q:Rat} {k:Nat} (hq:IsFr x q k) (h1k:1≤k) (hk:k≤10000000):Good Tryz.prog 75 [x] (St (bsl (fracT q))):=by
 have hz:=hq.fz h1k
 have h1:=text_lenG hz.1 h1k
 have h2:=text_lenG hz.2 h1k
 have t1:=ntext_good (cn q) (by unfold cn;rw [ns_size];have:=nb_length_lt hz.1;omega)
 have t2:=ntext_good (cd q) (by unfold cd;rw [ns_size];have:=nb_length_lt hz.2;omega)
 have e1:vn (cn q)=q.num.natAbs:=vn_ns _
 have e2:vn (cd q)=q.den:=vn_ns _
 rw [e1] at t1
 rw [e2] at t2
 have hd:(cd q=(⟨#[1]⟩:ByteArray))=(q.den=1):=propext ⟨fun h=>by
  have h':=congrArg vn h
  rw [e2] at h'
  exact h',fun h=>by unfold cd;rw [h];exact ns_one⟩
 obtain ⟨g,n,d,rfl,_⟩:=id hq
 refine good_of Tryz.func75 rfl (by kernel_rfl) fun X hO hrd=>?_;rw [Tryz.ntmps75,Tryz.results75];simp only [ast0,List.map_cons,List.map_nil,List.length_cons,List.length_nil,Nat.reduceAdd,Nat.reduceSub,List.replicate_succ,List.replicate_zero,List.cons_append,List.nil_append]
 (repeat (first|(with_reducible first|refine W_seq fun K hK=>?_|refine J_region ?_ |(refine Kont.go (by assumption) ?_)|(simp (config:={ maxSteps:=3000000 }) (disch:=omega) only [go_sem,↓reduceIte,Nat.reduceAdd]))|refine call_f (canon_w (by assumption) (by omega)) rfl ?_))
 refine call_f t1 rfl ?_
 have hcg:AV.f (FV.v (.bool (cg q)))=AV.f (Bo (cg q)):=rfl
 have c1:∀l:List UInt8,(⟨#[47]⟩:ByteArray)++bsl l=bsl (47::l):=fun l=>bsl_cons
 have c2:∀l:List UInt8,bsl l++(⟨#[47]⟩:ByteArray)=bsl (l++[47]):=fun l=>bsl_app (k:=[47])
 have c3:∀l m:List UInt8,bsl (l++[47])++bsl m=bsl (l++(47::m)):=fun l m=>by rw [bsl_app,List.append_assoc];rfl
 cases hg:cg q with
 | false =>
  by_cases hq1:q.den=1
  ·have eb:fracT q=textOf q.num.natAbs:=by unfold fracT bodyT;rw [hg,if_neg (by decide),if_pos hq1]
   have hd1:(cd q=(⟨#[1]⟩:ByteArray))=True:=by rw [hd];exact eq_true hq1
   (repeat (with_reducible first|refine W_seq fun K hK=>?_|refine J_skip ?_|refine J_ret ?_|refine J_region ?_ |refine J_c ?_|refine Jc_false ?_|(refine Kont.go (by assumption) ?_)|(simp (config:={ maxSteps:=3000000 }) (disch:=omega) only [go_sem,↓reduceIte,hg,hd1,decide_true])))
   rw [eb]
   exact Frz.f _
  ·have eb:fracT q=textOf q.num.natAbs++(47::textOf q.den):=by unfold fracT bodyT;rw [hg,if_neg (by decide),if_neg hq1]
   have hd1:(cd q=(⟨#[1]⟩:ByteArray))=False:=by rw [hd];exact eq_false hq1
   (repeat (with_reducible first|refine W_seq fun K hK=>?_|refine J_skip ?_|refine J_region ?_ |refine J_c ?_|refine Jc_true ?_|refine Jc_false ?_|(refine Kont.go (by assumption) ?_)|(simp (config:={ maxSteps:=3000000 }) (disch:=omega) only [go_sem,↓reduceIte,hg,hd1,decide_false])))
   refine call_f t2 rfl ?_
   (repeat (first|(with_reducible first|refine W_seq fun K hK=>?_|refine J_ret ?_|refine J_region ?_ |(refine Kont.go (by assumption) ?_)|(simp (config:={ maxSteps:=3000000 }) (disch:=omega) only [go_sem,c1,bsl_app,bsl_size,List.length_cons]))|refine And.intro (by omega) ?_))
   rw [eb]
   exact Frz.f _
 | true =>
  by_cases hq1:q.den=1
  ·have eb:fracT q=45::textOf q.num.natAbs:=by unfold fracT bodyT;rw [hg,if_pos rfl,if_pos hq1]
   have hd1:(cd q=(⟨#[1]⟩:ByteArray))=True:=by rw [hd];exact eq_true hq1
   (repeat (first|(with_reducible first|refine W_seq fun K hK=>?_|refine J_skip ?_|refine J_ret ?_|refine J_region ?_ |refine J_c ?_|refine Jc_true ?_|refine Jc_false ?_|(refine Kont.go (by assumption) ?_)|(simp (config:={ maxSteps:=3000000 }) (disch:=omega) only [go_sem,↓reduceIte,hg,hd1,decide_true,bsl_cons,bsl_size]))|refine And.intro (by omega) ?_))
   rw [eb]
   exact Frz.f _
  ·have eb:fracT q=45::(textOf q.num.natAbs++(47::textOf q.den)):=by unfold fracT bodyT;rw [hg,if_pos rfl,if_neg hq1]
   have hd1:(cd q=(⟨#[1]⟩:ByteArray))=False:=by rw [hd];exact eq_false hq1
   have c4:∀l m:List UInt8,bsl ((45::l)++[47])++bsl m=bsl (45::(l++(47::m))):=fun l m=>by rw [bsl_app,List.append_assoc];rfl
   (repeat (first|(with_reducible first|refine W_seq fun K hK=>?_|refine J_region ?_ |refine J_c ?_|refine Jc_true ?_|(refine Kont.go (by assumption) ?_)|(simp (config:={ maxSteps:=3000000 }) (disch:=omega) only [go_sem,↓reduceIte,hg,hd1,decide_false,bsl_cons,bsl_size]))|refine And.intro (by omega) ?_))
   refine call_f t2 rfl ?_
   (repeat (first|(with_reducible first|refine W_seq fun K hK=>?_|refine J_ret ?_|refine J_region ?_ |(refine Kont.go (by assumption) ?_)|(simp (config:={ maxSteps:=3000000 }) (disch:=omega) only [go_sem,c1,bsl_app,bsl_size,List.length_cons,List.cons_append]))|refine And.intro (by omega) ?_))
   rw [eb]
   exact Frz.f _
set_option maxRecDepth 100000 in
set_option maxHeartbeats 4000000 in
theorem rfT_w {x:FV} {q:Rat} {k:Nat} (hq:IsFr x q k) (h1k:1≤k) (hk:k≤10000000):Good Tryz.prog 77 [x] (St (bsl (fracT q))):=by
 have hz:=hq.fz h1k
 have h1:=text_lenG hz.1 h1k
 have h2:=text_lenG hz.2 h1k
 have t1:=rntext_good (cn q) (by unfold cn;rw [ns_size];have:=nb_length_lt hz.1;omega)
 have t2:=rntext_good (cd q) (by unfold cd;rw [ns_size];have:=nb_length_lt hz.2;omega)
 have e1:vn (cn q)=q.num.natAbs:=vn_ns _
 have e2:vn (cd q)=q.den:=vn_ns _
 rw [e1] at t1
 rw [e2] at t2
 have hd:(cd q=(⟨#[1]⟩:ByteArray))=(q.den=1):=propext ⟨fun h=>by
  have h':=congrArg vn h
  rw [e2] at h'
  exact h',fun h=>by unfold cd;rw [h];exact ns_one⟩
 obtain ⟨g,n,d,rfl,_⟩:=id hq
 refine good_of Tryz.func77 rfl (by kernel_rfl) fun X hO hrd=>?_;rw [Tryz.ntmps77,Tryz.results77];simp only [ast0,List.map_cons,List.map_nil,List.length_cons,List.length_nil,Nat.reduceAdd,Nat.reduceSub,List.replicate_succ,List.replicate_zero,List.cons_append,List.nil_append]
 (repeat (first|(with_reducible first|refine W_seq fun K hK=>?_|refine J_region ?_ |(refine Kont.go (by assumption) ?_)|(simp (config:={ maxSteps:=3000000 }) (disch:=omega) only [go_sem,↓reduceIte,Nat.reduceAdd]))|refine call_f (rcanon_w (by assumption) (by omega)) rfl ?_))
 refine call_f t1 rfl ?_
 have hcg:AV.f (FV.v (.bool (cg q)))=AV.f (Bo (cg q)):=rfl
 have c1:∀l:List UInt8,(⟨#[47]⟩:ByteArray)++bsl l=bsl (47::l):=fun l=>bsl_cons
 have c2:∀l:List UInt8,bsl l++(⟨#[47]⟩:ByteArray)=bsl (l++[47]):=fun l=>bsl_app (k:=[47])
 have c3:∀l m:List UInt8,bsl (l++[47])++bsl m=bsl (l++(47::m)):=fun l m=>by rw [bsl_app,List.append_assoc];rfl
 cases hg:cg q with
 | false =>
  by_cases hq1:q.den=1
  ·have eb:fracT q=textOf q.num.natAbs:=by unfold fracT bodyT;rw [hg,if_neg (by decide),if_pos hq1]
   have hd1:(cd q=(⟨#[1]⟩:ByteArray))=True:=by rw [hd];exact eq_true hq1
   (repeat (with_reducible first|refine W_seq fun K hK=>?_|refine J_skip ?_|refine J_ret ?_|refine J_region ?_ |refine J_c ?_|refine Jc_false ?_|(refine Kont.go (by assumption) ?_)|(simp (config:={ maxSteps:=3000000 }) (disch:=omega) only [go_sem,↓reduceIte,hg,hd1,decide_true])))
   rw [eb]
   exact Frz.f _
  ·have eb:fracT q=textOf q.num.natAbs++(47::textOf q.den):=by unfold fracT bodyT;rw [hg,if_neg (by decide),if_neg hq1]
   have hd1:(cd q=(⟨#[1]⟩:ByteArray))=False:=by rw [hd];exact eq_false hq1
   (repeat (with_reducible first|refine W_seq fun K hK=>?_|refine J_skip ?_|refine J_region ?_ |refine J_c ?_|refine Jc_true ?_|refine Jc_false ?_|(refine Kont.go (by assumption) ?_)|(simp (config:={ maxSteps:=3000000 }) (disch:=omega) only [go_sem,↓reduceIte,hg,hd1,decide_false])))
   refine call_f t2 rfl ?_
   (repeat (first|(with_reducible first|refine W_seq fun K hK=>?_|refine J_ret ?_|refine J_region ?_ |(refine Kont.go (by assumption) ?_)|(simp (config:={ maxSteps:=3000000 }) (disch:=omega) only [go_sem,Nat.reduceLeDiff,c2,c3,bsl_size,List.length_cons,List.length_append]))|refine And.intro (by omega) ?_))
   rw [eb]
   exact Frz.f _
 | true =>
  by_cases hq1:q.den=1
  ·have eb:fracT q=45::textOf q.num.natAbs:=by unfold fracT bodyT;rw [hg,if_pos rfl,if_pos hq1]
   have hd1:(cd q=(⟨#[1]⟩:ByteArray))=True:=by rw [hd];exact eq_true hq1
   (repeat (first|(with_reducible first|refine W_seq fun K hK=>?_|refine J_skip ?_|refine J_ret ?_|refine J_region ?_ |refine J_c ?_|refine Jc_true ?_|refine Jc_false ?_|(refine Kont.go (by assumption) ?_)|(simp (config:={ maxSteps:=3000000 }) (disch:=omega) only [go_sem,↓reduceIte,hg,hd1,decide_true,bsl_cons,bsl_size]))|refine And.intro (by omega) ?_))
   rw [eb]
   exact Frz.f _
  ·have eb:fracT q=45::(textOf q.num.natAbs++(47::textOf q.den)):=by unfold fracT bodyT;rw [hg,if_pos rfl,if_neg hq1]
   have hd1:(cd q=(⟨#[1]⟩:ByteArray))=False:=by rw [hd];exact eq_false hq1
   have c4:∀l m:List UInt8,bsl ((45::l)++[47])++bsl m=bsl (45::(l++(47::m))):=fun l m=>by rw [bsl_app,List.append_assoc];rfl
   (repeat (first|(with_reducible first|refine W_seq fun K hK=>?_|refine J_region ?_ |refine J_c ?_|refine Jc_true ?_|(refine Kont.go (by assumption) ?_)|(simp (config:={ maxSteps:=3000000 }) (disch:=omega) only [go_sem,↓reduceIte,hg,hd1,decide_false,bsl_cons,bsl_size]))|refine And.intro (by omega) ?_))
   refine call_f t2 rfl ?_
   (repeat (first|(with_reducible first|refine W_seq fun K hK=>?_|refine J_ret ?_|refine J_region ?_ |(refine Kont.go (by assumption) ?_)|(simp (config:={ maxSteps:=3000000 }) (disch:=omega) only [go_sem,Nat.reduceLeDiff,c2,bsl_app,bsl_size,List.length_cons,List.length_append,List.cons_append,List.append_assoc,List.nil_append]))|refine And.intro (by omega) ?_))
   rw [eb]
   exact Frz.f _
end Go.Proofs.YthehegidpamldaaGreatDoor
set_option linter.unusedVariables false
set_option linter.unusedSimpArgs false
namespace Go.Proofs.YthehegidpamldaaGreatDoor
open Go Go.RowKit
theorem upto_next {p:Nat→Prop} {i:Nat} (h:∀j,j<i→p j) (hi:p i):∀j,j<i+1→p j:=fun j hj=>by
 by_cases e:j=i
 ·subst e;exact hi
 ·exact h j (by omega)
theorem uptoL_next {α:Type} {l:List α} {p:α→Prop} {i:Nat} (h:∀j (hj:j<l.length),j<i→p l[j]) (hi:∀hj:i<l.length,p l[i]):∀j (hj:j<l.length),j<i+1→p l[j]:=fun j hj hji=>by
 by_cases e:j=i
 ·subst e;exact hi hj
 ·exact h j hj (by omega)
def fillL {α:Type} (n k:Nat) (f:Nat→α) (z:α):List α:=(List.range n).map fun j=>if j<k then f j else z
section
variable {α : Type} {n k : Nat} {f : Nat → α} {z : α}
theorem fill_len:(fillL n k f z).length=n:=by simp [fillL]
theorem fill_zero:fillL n 0 f z=List.replicate n z:=by
 apply List.ext_getElem?
 intro i
 by_cases h:i<n<;>simp [fillL,h]
theorem fill_get {i:Nat} (h:i<n):(fillL n k f z)[i]?=some (if i<k then f i else z):=by simp [fillL,h]
theorem fill_set (h:k<n):(fillL n k f z).set k (f k)=fillL n (k+1) f z:=by
 apply List.ext_getElem?
 intro i
 by_cases hi:i<n
 ·by_cases e:i=k
  ·subst e;rw [List.getElem?_set_self (by rw [fill_len];exact hi),fill_get hi,if_pos (by omega)]
  ·rw [List.getElem?_set_ne (Ne.symm e),fill_get hi,fill_get hi]
   by_cases hk:i<k
   ·rw [if_pos hk,if_pos (by omega)]
   ·rw [if_neg hk,if_neg (by omega)]
 ·rw [List.getElem?_eq_none (by rw [List.length_set,fill_len];omega),List.getElem?_eq_none (by rw [fill_len];omega)]
theorem fill_all:fillL n n f z=(List.range n).map f:=by
 unfold fillL
 refine List.map_congr_left fun i hi=>?_
 rw [if_pos (List.mem_range.1 hi)]
theorem range_set {g:Nat→α} {i:Nat} {x:α} (hi:i<n):((List.range n).map g).set i x=(List.range n).map fun k=>if k=i then x else g k:=by
 apply List.ext_getElem?
 intro j
 by_cases hj:j<n
 ·by_cases e:j=i
  ·subst e;rw [List.getElem?_set_self (by simpa using hj)];simp [hj]
  ·rw [List.getElem?_set_ne (Ne.symm e)];simp [hj,e]
 ·rw [List.getElem?_eq_none (by simp;omega),List.getElem?_eq_none (by simp;omega)]
end
theorem fillA_get {n k:Nat} {f:Nat→FV} {z:FV} {j:Nat} (h:j<n):((fillL n k f z).map AV.f)[j]?=some (.f (if j<k then f j else z)):=by rw [List.getElem?_map,fill_get h];rfl
theorem fillA_set {n k:Nat} {f:Nat→FV} {z x:FV} (h:k<n) (hx:f k=x):((fillL n k f z).map AV.f).set k (.f x)=(fillL n (k+1) f z).map AV.f:=by rw [←hx,←fill_set h,List.map_set]
end Go.Proofs.YthehegidpamldaaGreatDoor
set_option linter.unusedVariables false
set_option linter.unusedSimpArgs false
namespace Go.Proofs.YthehegidpamldaaGreatDoor
open Go Go.RowKit
abbrev oF (x:FV):Option AO:=some ⟨39,3,[.f x]⟩
theorem sum_bound {k i n:Nat} (hi:i≤n) (hn:n≤1000) (hk:k≤10000000):8+i*(k+1)≤11000000000:=by
 have:=Nat.mul_le_mul (show i≤1000 by omega) (show k+1≤10000001 by omega);omega
set_option maxRecDepth 100000 in
theorem sum_w {xs:List FV} {l:List Rat} {k:Nat} (hl:Frs k xs l) (h1:1≤k) (hn:l.length≤1000) (hk:k≤10000000):Good Tryz.prog 135 [.fz 3 xs] (fr (sumR l)):=by
 have hr:=hl.row h1
 refine good_of Tryz.func135 rfl (by kernel_rfl) fun X hO hrd=>?_;rw [Tryz.ntmps135,Tryz.results135];simp only [ast0,List.map_cons,List.map_nil,List.length_cons,List.length_nil,Nat.reduceAdd,Nat.reduceSub,List.replicate_succ,List.replicate_zero,List.cons_append,List.nil_append]
 (repeat (first|(with_reducible first|refine W_seq fun K hK=>?_|refine J_block ?_|refine J_region ?_ |(refine Kont.go (by assumption) ?_)|(simp (config:={ maxSteps:=3000000 }) (disch:=omega) only [go_sem,↓reduceIte,Nat.reduceAdd,hl.len]))|refine call_f (of_good (by omega) (by omega)) rfl ?_))
 refine W_loop [5,9,10,11,12,13,14,15,16] (fun x:Nat=>[(9,.f (I x))]) (fun x:Nat=>[oF frN,oF (fr (sumTo l x))]) (fun x:Nat=>x≤l.length) (fun x:Nat=>l.length-x) (0) (Nat.zero_le _) (by refine weak_of ?_ ?_<;>simp (disch:=omega) only [go_sem,Nat.reduceAdd]<;>first|rfl|exact ⟨rfl,rfl⟩|exact Or.inl rfl|exact ⟨Or.inl rfl,Or.inl rfl⟩|trivial|assumption|omega|(symm;assumption)|((repeat' apply And.intro)<;>first|rfl|omega|trivial|exact .inl rfl|exact .inr ⟨rfl,rfl⟩|exact .inr rfl|(right;symm;assumption)|(symm;assumption)|assumption)) ?_
 rintro i hi
 simp only [go_sem]
 (repeat (with_reducible first|refine W_seq fun K hK=>?_|refine J_region ?_ |refine J_c ?_|(refine Kont.go (by assumption) ?_)|(simp (config:={ maxSteps:=3000000 }) (disch:=omega) only [go_sem])))
 refine Jc_if (fun hlt=>?_) (fun hlt=>?_)<;>try simp only [decide_eq_true_eq,decide_eq_false_iff_not] at hlt
 ·have hsz:=sum_bound hi hn hk
  have hd:=IsFr.c (sumTo_fz hr i hi)
  obtain ⟨g,n,d,hx,his⟩:=hl.at3 hlt
  (repeat (first|(with_reducible first|refine W_seq fun K hK=>?_|refine J_block ?_|refine J_skip ?_|refine J_region ?_ |(refine Kont.go (by assumption) ?_)|(simp (config:={ maxSteps:=3000000 }) (disch:=omega) only [go_sem,↓reduceIte,Nat.reduceAdd,hx,hlt,sumTo_next hlt]))|refine call_f (add_w (by assumption) (by assumption) (by omega) (by omega)) rfl ?_))
  refine ⟨i+1,by omega,by omega,weak_of ?_ ?_⟩<;>(try simp (disch:=omega) only [go_sem,Nat.reduceAdd])<;>(try first|done|omega|rfl|exact ⟨rfl,rfl⟩|trivial)
 ·have he:i=l.length:=by omega
  subst he
  (repeat (with_reducible first|refine W_seq fun K hK=>?_|refine J_exit ?_|refine J_ret ?_|refine J_region ?_ |(refine Kont.go (by assumption) ?_)|(simp (config:={ maxSteps:=3000000 }) (disch:=omega) only [go_sem,↓reduceIte,Nat.reduceAdd])))
  exact Frz.f _
set_option maxRecDepth 100000 in
theorem rsum_w {xs:List FV} {l:List Rat} {k:Nat} (hl:Frs k xs l) (h1:1≤k) (hn:l.length≤1000) (hk:k≤10000000):Good Tryz.prog 98 [.fz 3 xs] (fr (sumR l)):=by
 have hr:=hl.row h1
 refine good_of Tryz.func98 rfl (by kernel_rfl) fun X hO hrd=>?_;rw [Tryz.ntmps98,Tryz.results98];simp only [ast0,List.map_cons,List.map_nil,List.length_cons,List.length_nil,Nat.reduceAdd,Nat.reduceSub,List.replicate_succ,List.replicate_zero,List.cons_append,List.nil_append]
 (repeat (first|(with_reducible first|refine W_seq fun K hK=>?_|refine J_block ?_|refine J_region ?_ |(refine Kont.go (by assumption) ?_)|(simp (config:={ maxSteps:=3000000 }) (disch:=omega) only [go_sem,↓reduceIte,Nat.reduceAdd]))|refine call_f (rof_frac (by omega) (by omega)) rfl ?_))
 refine W_loop [4,6,7,8,9,10,11,12,13,14,15,16,17] (fun x:Nat=>[(4,.f (I x))]) (fun x:Nat=>[oF frN,oF (fr (sumTo l x))]) (fun x:Nat=>x≤l.length) (fun x:Nat=>l.length-x) (0) (Nat.zero_le _) (by refine weak_of ?_ ?_<;>simp (disch:=omega) only [go_sem,Nat.reduceAdd]<;>first|rfl|exact ⟨rfl,rfl⟩|exact Or.inl rfl|exact ⟨Or.inl rfl,Or.inl rfl⟩|trivial|assumption|omega|(symm;assumption)|((repeat' apply And.intro)<;>first|rfl|omega|trivial|exact .inl rfl|exact .inr ⟨rfl,rfl⟩|exact .inr rfl|(right;symm;assumption)|(symm;assumption)|assumption)) ?_
 rintro i hi
 simp only [go_sem]
 (repeat (with_reducible first|refine W_seq fun K hK=>?_|refine J_region ?_ |refine J_c ?_|(refine Kont.go (by assumption) ?_)|(simp (config:={ maxSteps:=3000000 }) (disch:=omega) only [go_sem,hl.len])))
 refine Jc_if (fun hlt=>?_) (fun hlt=>?_)<;>try simp only [decide_eq_true_eq,decide_eq_false_iff_not] at hlt
 ·have hsz:=sum_bound hi hn hk
  have hd:=IsFr.c (sumTo_fz hr i hi)
  obtain ⟨g,n,d,hx,his⟩:=hl.at3 hlt
  (repeat (first|(with_reducible first|refine W_seq fun K hK=>?_|refine J_block ?_|refine J_skip ?_|refine J_region ?_ |refine J_drawn mixed (by kernel_rfl) ?_|(refine Kont.go (by assumption) ?_)|(simp (config:={ maxSteps:=3000000 }) (disch:=omega) only [go_sem,↓reduceIte,Nat.reduceAdd,hx,hlt,sumTo_next hlt]))|refine callQ_f (radd_w (by assumption) (by assumption) (by omega) (by omega)) rfl ?_))
  refine ⟨i+1,by omega,by omega,weak_of ?_ ?_⟩<;>(try simp (disch:=omega) only [go_sem,Nat.reduceAdd])<;>(try first|done|omega|rfl|exact ⟨rfl,rfl⟩|trivial)
 ·have he:i=l.length:=by omega
  subst he
  (repeat (with_reducible first|refine W_seq fun K hK=>?_|refine J_exit ?_|refine J_ret ?_|refine J_region ?_ |(refine Kont.go (by assumption) ?_)|(simp (config:={ maxSteps:=3000000 }) (disch:=omega) only [go_sem,↓reduceIte,Nat.reduceAdd])))
  exact Frz.f _
def chancesB (l:List Rat):Bool:=decide ((∀q∈l,0≤q)∧sumR l=1)
theorem chances_neg {l:List Rat} {i:Nat} (h:i<l.length) (hn:cmpR l[i] ((0:Int):Rat)<0):chancesB l=false :=
 decide_eq_false fun hh=>Rat.not_lt.2 (hh.1 _ (List.getElem_mem h)) (by simpa using cmpR_lt.1 hn)
theorem chances_end {l:List Rat} (hp:∀j (h:j<l.length),j<l.length→¬cmpR l[j] ((0:Int):Rat)<0):chancesB l=decide (sumR l=((1:Int):Rat)):=by
 unfold chancesB
 rw [decide_eq_decide]
 refine ⟨fun h=>by rw [h.2];rfl,fun h=>⟨fun q hq=>?_,by rw [h];rfl⟩⟩
 obtain ⟨j,hj,rfl⟩:=List.getElem_of_mem hq
 exact Rat.not_lt.1 fun hh=>hp j hj hj (cmpR_lt.2 (by simpa using hh))
set_option maxRecDepth 100000 in
theorem chances_w {xs:List FV} {l:List Rat} {k:Nat} (hl:Frs k xs l) (h1:1≤k) (hn:l.length≤1000) (hk:k≤10000000):Good Tryz.prog 94 [.fz 3 xs] (Bo (chancesB l)):=by
 have hr:=hl.row h1
 have h0:IsFr (fr ((0:Int):Rat)) ((0:Int):Rat) 8:=IsFr.int (by omega) (by omega)
 have h2:IsFr (fr ((1:Int):Rat)) ((1:Int):Rat) 8:=IsFr.int (by omega) (by omega)
 have hsz:=sum_bound (Nat.le_refl _) hn hk
 have hd:IsFr (fr (sumR l)) (sumR l) _:=IsFr.c (sumTo_fz hr _ (Nat.le_refl _))
 refine good_of Tryz.func94 rfl (by kernel_rfl) fun X hO hrd=>?_;rw [Tryz.ntmps94,Tryz.results94];simp only [ast0,List.map_cons,List.map_nil,List.length_cons,List.length_nil,Nat.reduceAdd,Nat.reduceSub,List.replicate_succ,List.replicate_zero,List.cons_append,List.nil_append]
 (repeat (with_reducible first|refine W_seq fun K hK=>?_|refine J_block ?_|refine J_region ?_ |(refine Kont.go (by assumption) ?_)|(simp (config:={ maxSteps:=3000000 }) (disch:=omega) only [go_sem,hl.len])))
 refine W_loop [2,4,7,8,9,10,11,12,13,14,15] (fun x:Nat=>[(7,.f (I x))]) (fun x:Nat=>[]) (fun x:Nat=>x≤l.length∧∀j (h:j<l.length),j<x→¬cmpR l[j] ((0:Int):Rat)<0) (fun x:Nat=>l.length-x) (0) (⟨Nat.zero_le _,fun j _ h=>by omega⟩) (by refine weak_of ?_ ?_<;>simp (disch:=omega) only [go_sem]<;>first|rfl|exact ⟨rfl,rfl⟩|exact Or.inl rfl|exact ⟨Or.inl rfl,Or.inl rfl⟩|trivial|assumption|omega|(symm;assumption)|((repeat' apply And.intro)<;>first|rfl|omega|trivial|exact .inl rfl|exact .inr ⟨rfl,rfl⟩|exact .inr rfl|(right;symm;assumption)|(symm;assumption)|assumption)) ?_
 rintro i ⟨hi,hp⟩
 simp only [go_sem]
 (repeat (with_reducible first|refine W_seq fun K hK=>?_|refine J_region ?_ |refine J_c ?_|(refine Kont.go (by assumption) ?_)|(simp (config:={ maxSteps:=3000000 }) (disch:=omega) only [go_sem])))
 refine Jc_if (fun hlt=>?_) (fun hlt=>?_)<;>try simp only [decide_eq_true_eq,decide_eq_false_iff_not] at hlt
 ·obtain ⟨g,n,d,hx,his⟩:=hl.at3 hlt
  (repeat (first|(with_reducible first|refine W_seq fun K hK=>?_|refine J_block ?_|refine J_skip ?_|refine J_region ?_ |refine J_drawn mixed (by kernel_rfl) ?_|refine J_c ?_|(refine Kont.go (by assumption) ?_)|(simp (config:={ maxSteps:=3000000 }) (disch:=omega) only [go_sem,↓reduceIte,Nat.reduceAdd,hx,hlt]))|refine callQ_f (of_good (by omega) (by omega)) rfl ?_|refine callQ_f (cmp_w (by assumption) (by assumption) (by omega) (by omega)) rfl ?_))
  refine Jc_if (fun hneg=>?_) (fun hneg=>?_)<;>try simp only [decide_eq_true_eq,decide_eq_false_iff_not] at hneg
  ·(repeat (with_reducible first|refine W_seq fun K hK=>?_|refine J_ret ?_|refine J_region ?_ |(refine Kont.go (by assumption) ?_)|(simp (config:={ maxSteps:=3000000 }) (disch:=omega) only [go_sem])))
   rw [chances_neg hlt hneg]
   exact Frz.f _
  ·(repeat (with_reducible first|refine J_skip ?_|refine J_region ?_ |(refine Kont.go (by assumption) ?_)|(simp (config:={ maxSteps:=3000000 }) (disch:=omega) only [go_sem])))
   refine ⟨i+1,⟨by omega,uptoL_next (p:=fun q=>¬cmpR q ((0:Int):Rat)<0) hp fun _=>hneg⟩,by omega,weak_of ?_ ?_⟩<;>(try simp (disch:=omega) only [go_sem])<;>(try first|done|omega|rfl|exact ⟨rfl,rfl⟩|trivial)
 ·have he:i=l.length:=by omega
  subst he
  (repeat (with_reducible first|refine W_seq fun K hK=>?_|refine J_exit ?_|refine J_region ?_ |(refine Kont.go (by assumption) ?_)|(simp (config:={ maxSteps:=3000000 }) (disch:=omega) only [go_sem,↓reduceIte])))
  refine call_f (sum_w hl h1 hn hk) rfl ?_
  (repeat (first|(with_reducible first|refine J_ret ?_|(refine Kont.go (by assumption) ?_)|(simp (config:={ maxSteps:=3000000 }) (disch:=omega) only [go_sem,cmpR_zero]))|refine call_f (of_good (by omega) (by omega)) rfl ?_|refine call_f (cmp_w (by assumption) (by assumption) (by omega) (by omega)) rfl ?_))
  rw [chances_end hp]
  exact Frz.f _
set_option maxRecDepth 100000 in
theorem rchances_w {xs:List FV} {l:List Rat} {k:Nat} (hl:Frs k xs l) (h1:1≤k) (hn:l.length≤1000) (hk:k≤10000000):Good Tryz.prog 55 [.fz 3 xs] (Bo (chancesB l)):=by
 have hr:=hl.row h1
 have h0:IsFr (fr ((0:Int):Rat)) ((0:Int):Rat) 8:=IsFr.int (by omega) (by omega)
 refine good_of Tryz.func55 rfl (by kernel_rfl) fun X hO hrd=>?_;rw [Tryz.ntmps55,Tryz.results55];simp only [ast0,List.map_cons,List.map_nil,List.length_cons,List.length_nil,Nat.reduceAdd,Nat.reduceSub,List.replicate_succ,List.replicate_zero,List.cons_append,List.nil_append]
 (repeat (with_reducible first|refine W_seq fun K hK=>?_|refine J_block ?_|refine J_region ?_ |(refine Kont.go (by assumption) ?_)|(simp (config:={ maxSteps:=3000000 }) (disch:=omega) only [go_sem])))
 refine W_loop [2,3,4,6,7,8,9,10,11,12,13,14,15,16,17,18,19] (fun x:Nat=>[(3,.f (I x))]) (fun x:Nat=>[]) (fun x:Nat=>x≤l.length∧∀j (h:j<l.length),j<x→¬cmpR l[j] ((0:Int):Rat)<0) (fun x:Nat=>l.length-x) (0) (⟨Nat.zero_le _,fun j _ h=>by omega⟩) (by refine weak_of ?_ ?_<;>simp (disch:=omega) only [go_sem]<;>first|rfl|exact ⟨rfl,rfl⟩|exact Or.inl rfl|exact ⟨Or.inl rfl,Or.inl rfl⟩|trivial|assumption|omega|(symm;assumption)|((repeat' apply And.intro)<;>first|rfl|omega|trivial|exact .inl rfl|exact .inr ⟨rfl,rfl⟩|exact .inr rfl|(right;symm;assumption)|(symm;assumption)|assumption)) ?_
 rintro i ⟨hi,hp⟩
 simp only [go_sem]
 (repeat (with_reducible first|refine W_seq fun K hK=>?_|refine J_region ?_ |refine J_c ?_|(refine Kont.go (by assumption) ?_)|(simp (config:={ maxSteps:=3000000 }) (disch:=omega) only [go_sem,hl.len])))
 refine Jc_if (fun hlt=>?_) (fun hlt=>?_)<;>try simp only [decide_eq_true_eq,decide_eq_false_iff_not] at hlt
 ·obtain ⟨g,n,d,hx,his⟩:=hl.at3 hlt
  (repeat (first|(with_reducible first|refine W_seq fun K hK=>?_|refine J_block ?_|refine J_skip ?_|refine J_region ?_ |refine J_drawn mixed (by kernel_rfl) ?_|refine J_c ?_|(refine Kont.go (by assumption) ?_)|(simp (config:={ maxSteps:=3000000 }) (disch:=omega) only [go_sem,↓reduceIte,Nat.reduceAdd,hx,hlt]))|refine callQ_f (rof_frac (by omega) (by omega)) rfl ?_|refine callQ_f (rcmp_w (by assumption) (by assumption) (by omega) (by omega)) rfl ?_))
  refine Jc_if (fun hneg=>?_) (fun hneg=>?_)<;>try simp only [decide_eq_true_eq,decide_eq_false_iff_not] at hneg
  ·(repeat (with_reducible first|refine W_seq fun K hK=>?_|refine J_ret ?_|refine J_region ?_ |(refine Kont.go (by assumption) ?_)|(simp (config:={ maxSteps:=3000000 }) (disch:=omega) only [go_sem])))
   rw [chances_neg hlt hneg]
   exact Frz.f _
  ·(repeat (with_reducible first|refine J_skip ?_|refine J_region ?_ |(refine Kont.go (by assumption) ?_)|(simp (config:={ maxSteps:=3000000 }) (disch:=omega) only [go_sem])))
   refine ⟨i+1,⟨by omega,uptoL_next (p:=fun q=>¬cmpR q ((0:Int):Rat)<0) hp fun _=>hneg⟩,by omega,weak_of ?_ ?_⟩<;>(try simp (disch:=omega) only [go_sem])<;>(try first|done|omega|rfl|exact ⟨rfl,rfl⟩|trivial)
 ·have he:i=l.length:=by omega
  subst he
  (repeat (with_reducible first|refine W_seq fun K hK=>?_|refine J_exit ?_|refine J_region ?_ |(refine Kont.go (by assumption) ?_)|(simp (config:={ maxSteps:=3000000 }) (disch:=omega) only [go_sem,↓reduceIte])))
  refine call_f (rsum_w hl h1 hn hk) rfl ?_
  (repeat (first|(with_reducible first|refine W_seq fun K hK=>?_|refine J_ret ?_|refine J_drawn mixed (by kernel_rfl) ?_|(refine Kont.go (by assumption) ?_)|(simp (config:={ maxSteps:=3000000 }) (disch:=omega) only [go_sem,↓reduceIte,Nat.reduceAdd]))|refine callQ_f (rof_frac (by omega) (by omega)) rfl ?_))
  rw [chances_end hp]
  exact Frz.f _
end Go.Proofs.YthehegidpamldaaGreatDoor
set_option linter.unusedVariables false
set_option linter.unusedSimpArgs false
namespace Go.Proofs.YthehegidpamldaaGreatDoor
def cntS (S:Nat→Nat):List Nat→Nat
 | []=>1
 | v::l=>S v*cntS S l
def idxS (S at_:Nat→Nat):List Nat→Nat
 | []=>0
 | v::l=>at_ v*cntS S l+idxS S at_ l
def asgS (S:Nat→Nat):List Nat→Nat→Nat→Nat
 | [],_,_=>0
 | v::l,k,u=>if u=v then k/cntS S l else asgS S l (k%cntS S l) u
section
variable {S a b : Nat → Nat} {l m : List Nat} {k v : Nat}
theorem cntS_pos (h:∀v∈l,1≤S v):1≤cntS S l:=by
 induction l with
 | nil=>exact Nat.le_refl _
 | cons v l ih =>
  have:=ih fun v hv=>h v (List.mem_cons_of_mem _ hv)
  have h2:=h v (List.mem_cons_self ..)
  exact Nat.mul_pos h2 this
theorem cntS_le (h:∀v∈l,S v≤4):cntS S l≤4^l.length:=by
 induction l with
 | nil=>exact Nat.le_refl _
 | cons v l ih =>
  have h1:=ih fun v hv=>h v (List.mem_cons_of_mem _ hv)
  have h2:=h v (List.mem_cons_self ..)
  show S v*cntS S l≤4^(l.length+1)
  rw [Nat.pow_succ,Nat.mul_comm]
  exact Nat.mul_le_mul h1 h2
theorem cntS_app:cntS S (l++m)=cntS S l*cntS S m:=by
 induction l with
 | nil=>show cntS S m=1*_;omega
 | cons v l ih=>show S v*cntS S (l++m)=S v*cntS S l*_;rw [ih,Nat.mul_assoc]
theorem idxS_lt (h:∀v∈l,a v<S v):idxS S a l<cntS S l:=by
 induction l with
 | nil=>exact Nat.zero_lt_one
 | cons v l ih =>
  have h1:=ih fun v hv=>h v (List.mem_cons_of_mem _ hv)
  have h2:=h v (List.mem_cons_self ..)
  show a v*cntS S l+idxS S a l<S v*cntS S l
  have:=Nat.mul_le_mul_right (cntS S l) (show a v+1≤S v by omega)
  rw [Nat.add_mul] at this
  omega
theorem idxS_congr (h:∀v∈l,a v=b v):idxS S a l=idxS S b l:=by
 induction l with
 | nil=>rfl
 | cons v l ih=>show a v*_+_=b v*_+_;rw [ih fun v hv=>h v (List.mem_cons_of_mem _ hv),h v (List.mem_cons_self ..)]
theorem asgS_idx (hn:l.Nodup) (h:∀v∈l,a v<S v) (hv:v∈l):asgS S l (idxS S a l) v=a v:=by
 induction l with
 | nil=>cases hv
 | cons u l ih =>
  have hl:∀v∈l,a v<S v:=fun v hv=>h v (List.mem_cons_of_mem _ hv)
  have hlt:=idxS_lt (S:=S) hl
  obtain ⟨h1,h2⟩:=List.nodup_cons.1 hn
  show (if v=u then (a u*cntS S l+idxS S a l)/cntS S l else asgS S l ((a u*cntS S l+idxS S a l)%cntS S l) v)=a v
  have e1:(a u*cntS S l+idxS S a l)/cntS S l=a u:=by
   rw [Nat.mul_comm,Nat.mul_add_div (by omega),Nat.div_eq_of_lt hlt,Nat.add_zero]
  have e2:(a u*cntS S l+idxS S a l)%cntS S l=idxS S a l:=by
   rw [Nat.mul_comm,Nat.mul_add_mod,Nat.mod_eq_of_lt hlt]
  rw [e1,e2]
  split
  ·rename_i e;rw [e]
  ·rename_i e
   exact ih h2 hl ((List.mem_cons.1 hv).resolve_left e)
theorem asgS_lt (hn:l.Nodup) (hS:∀v∈l,1≤S v) (hk:k<cntS S l) (hv:v∈l):asgS S l k v<S v:=by
 induction l generalizing k with
 | nil=>cases hv
 | cons u l ih =>
  have hp:=cntS_pos (S:=S) (l:=l) fun v hv=>hS v (List.mem_cons_of_mem _ hv)
  obtain ⟨h1,h2⟩:=List.nodup_cons.1 hn
  show (if v=u then k/cntS S l else asgS S l (k%cntS S l) v)<S v
  split
  ·rename_i e;rw [e]
   exact Nat.div_lt_of_lt_mul (by rw [Nat.mul_comm];exact hk)
  ·rename_i e
   exact ih h2 (fun v hv=>hS v (List.mem_cons_of_mem _ hv)) (Nat.mod_lt _ hp) ((List.mem_cons.1 hv).resolve_left e)
theorem idxS_asg (hn:l.Nodup) (hS:∀v∈l,1≤S v) (hk:k<cntS S l):idxS S (asgS S l k) l=k:=by
 induction l generalizing k with
 | nil=>have:k<1:=hk;show 0=k;omega
 | cons u l ih =>
  have hp:=cntS_pos (S:=S) (l:=l) fun v hv=>hS v (List.mem_cons_of_mem _ hv)
  obtain ⟨h1,h2⟩:=List.nodup_cons.1 hn
  have e0:asgS S (u::l) k u=k/cntS S l:=if_pos rfl
  have e1:idxS S (asgS S (u::l) k) l=idxS S (asgS S l (k%cntS S l)) l:=idxS_congr fun v hv=>by
   show (if v=u then _ else asgS S l _ v)=_
   rw [if_neg (fun e:v=u=>h1 (by rw [←e];exact hv))]
  show asgS S (u::l) k u*cntS S l+idxS S (asgS S (u::l) k) l=k
  rw [e0,e1,ih h2 (fun v hv=>hS v (List.mem_cons_of_mem _ hv)) (Nat.mod_lt _ hp),Nat.mul_comm]
  exact Nat.div_add_mod k _
theorem sorted_ext:∀{l m:List Nat},l.Pairwise (·< ·)→m.Pairwise (·< ·)→(∀x,x∈l↔x∈m)→l=m:=by
 intro l
 induction l with
 | nil =>
  intro m _ _ h
  cases m with
  | nil=>rfl
  | cons b m=>exact absurd ((h b).2 (by simp)) (by simp)
 | cons a l ih =>
  intro m hl hm h
  cases m with
  | nil=>exact absurd ((h a).1 (by simp)) (by simp)
  | cons b m =>
   obtain ⟨l1,l2⟩:=List.pairwise_cons.1 hl
   obtain ⟨m1,m2⟩:=List.pairwise_cons.1 hm
   have e:a=b:=by
    rcases List.mem_cons.1 ((h a).1 (by simp)) with e|h1
    ·exact e
    ·rcases List.mem_cons.1 ((h b).2 (by simp)) with e|h2
     ·exact e.symm
     ·have:=l1 b h2;have:=m1 a h1;omega
   subst e
   rw [ih l2 m2 fun x=>?_]
   refine ⟨fun hx=>?_,fun hx=>?_⟩
   ·rcases List.mem_cons.1 ((h x).1 (by simp [hx])) with e|h1
    ·have:=l1 x hx;omega
    ·exact h1
   ·rcases List.mem_cons.1 ((h x).2 (by simp [hx])) with e|h1
    ·have:=m1 x hx;omega
    ·exact h1
theorem filt_map {p:Nat→Bool} {κ:Nat→Nat} {n N:Nat} (hm:∀x y,x<y→y<n→κ x<κ y) (h1:∀x,x<n→κ x<N∧p (κ x)=true) (h2:∀k,k<N→p k=true→∃x,x<n∧κ x=k):(List.range N).filter p=(List.range n).map κ:=by
 refine sorted_ext (List.Pairwise.filter _ List.pairwise_lt_range) ?_ fun k=>?_
 ·rw [List.pairwise_map]
  refine List.Pairwise.imp_of_mem ?_ List.pairwise_lt_range
  intro x y _ hy hxy
  exact hm x y hxy (List.mem_range.1 hy)
 ·rw [List.mem_filter,List.mem_range,List.mem_map]
  refine ⟨fun ⟨hk,hp⟩=>?_,fun ⟨x,hx,e⟩=>?_⟩
  ·obtain ⟨x,hx,e⟩:=h2 k hk hp
   exact ⟨x,List.mem_range.2 hx,e⟩
  ·rw [←e];exact h1 x (List.mem_range.1 hx)
def updS (a:Nat→Nat) (v x:Nat):Nat→Nat:=fun u=>if u=v then x else a u
theorem updS_self {x:Nat}:updS a v x v=x:=if_pos rfl
theorem updS_ne {x u:Nat} (h:u≠v):updS a v x u=a u:=if_neg h
theorem idxS_upd (hn:l.Nodup) (hv:v∈l) (hS:∀w∈l,1≤S w) {x y:Nat} (h:x<y):idxS S (updS a v x) l<idxS S (updS a v y) l:=by
 induction l with
 | nil=>cases hv
 | cons u l ih =>
  obtain ⟨h1,h2⟩:=List.nodup_cons.1 hn
  have hS':∀w∈l,1≤S w:=fun w hw=>hS w (List.mem_cons_of_mem _ hw)
  show updS a v x u*cntS S l+idxS S (updS a v x) l<updS a v y u*cntS S l+idxS S (updS a v y) l
  by_cases e:u=v
  ·subst e
   rw [updS_self,updS_self,idxS_congr (a:=updS a u x) (b:=updS a u y) fun w hw=>by
    have:w≠u:=fun e=>h1 (by rw [←e];exact hw)
    rw [updS_ne this,updS_ne this]]
   have:=Nat.mul_lt_mul_of_pos_right h (show 0<cntS S l from cntS_pos hS')
   omega
  ·rw [updS_ne e,updS_ne e]
   have:=ih h2 ((List.mem_cons.1 hv).resolve_left (Ne.symm e)) hS'
   omega
theorem places {v i:Nat} (hn:l.Nodup) (hm:m.Nodup) (hv:v∈l) (hml:∀u,u∈m↔u∈l∧u≠v) (hS:∀w∈l,1≤S w) (hi:i<cntS S m) :
  (List.range (cntS S l)).filter (fun k=>idxS S (asgS S l k) m==i)=(List.range (S v)).map fun x=>idxS S (updS (asgS S m i) v x) l:=by
 have hSm:∀w∈m,1≤S w:=fun w hw=>hS w ((hml w).1 hw).1
 have hlt:∀x,x<S v→∀u∈l,updS (asgS S m i) v x u<S u:=fun x hx u hu=>by
  by_cases e:u=v
  ·rw [e,updS_self];exact hx
  ·rw [updS_ne e];exact asgS_lt hm hSm hi ((hml u).2 ⟨hu,e⟩)
 refine filt_map (fun x y hxy hy=>idxS_upd hn hv hS hxy) (fun x hx=>⟨idxS_lt (hlt x hx),?_⟩) (fun k hk hp=>?_)
 ·rw [beq_iff_eq,idxS_congr (b:=asgS S m i) fun u hu=>?_]
  ·exact idxS_asg hm hSm hi
  ·obtain ⟨h1,h2⟩:=(hml u).1 hu
   rw [asgS_idx hn (hlt x hx) h1,updS_ne h2]
 ·have hp:=beq_iff_eq.1 hp
  refine ⟨asgS S l k v,asgS_lt hn hS hk hv,?_⟩
  rw [←idxS_asg (S:=S) hn hS hk]
  refine idxS_congr fun u hu=>?_
  by_cases e:u=v
  ·rw [e,updS_self,idxS_asg hn hS hk]
  ·rw [updS_ne e,←hp,asgS_idx hm (fun w hw=>asgS_lt hn hS hk ((hml w).1 hw).1) ((hml u).2 ⟨hu,e⟩)]
end
section
variable {α β γ : Type} {op : α → α → α} {f : β → α} {l : List β}
end
section
variable {α : Type} {op : α → α → α} {f g : Nat → α} {n : Nat}
end
section
variable {α : Type} {S : Nat → Nat} {l m : List Nat} {v i k n : Nat} {F G : (Nat → Nat) → α} {op : α → α → α}
end
end Go.Proofs.YthehegidpamldaaGreatDoor
set_option linter.unusedVariables false
set_option linter.unusedSimpArgs false
namespace Go.Proofs.YthehegidpamldaaGreatDoor
theorem dig_eq {S:Nat→Nat} {l:List Nat}:∀{k j:Nat} (hj:j<l.length),l.Nodup→(∀w∈l,1≤S w)→k<cntS S l→asgS S l k l[j]=k/cntS S (l.drop (j+1))%S l[j]:=by
 induction l with
 | nil=>intro k j hj;simp at hj
 | cons u l ih =>
  intro k j hj hn hS hk
  obtain ⟨n1,n2⟩:=List.nodup_cons.1 hn
  have hS':∀w∈l,1≤S w:=fun w hw=>hS w (List.mem_cons_of_mem _ hw)
  have hp:=cntS_pos (S:=S) (l:=l) hS'
  cases j with
  | zero =>
   show (if u=u then k/cntS S l else _)=k/cntS S l%S u
   rw [if_pos rfl,Nat.mod_eq_of_lt]
   exact Nat.div_lt_of_lt_mul (by rw [Nat.mul_comm];exact hk)
  | succ j =>
   have hjl:j<l.length:=by simpa using hj
   have hne:l[j]≠u:=fun e=>n1 (e▸List.getElem_mem hjl)
   show (if l[j]=u then _ else asgS S l (k%cntS S l) l[j])=k/cntS S (l.drop (j+1))%S l[j]
   rw [if_neg hne,ih hjl n2 hS' (Nat.mod_lt _ hp)]
   obtain ⟨D,hD⟩:∃D,D=cntS S (l.drop (j+1)):=⟨_,rfl⟩
   have hDp:0<D:=by rw [hD];exact cntS_pos fun w hw=>hS' w (List.mem_of_mem_drop hw)
   have hc:cntS S l=cntS S (l.take j)*(S l[j]*D):=by
    conv=>lhs;rw [←List.take_append_drop j l]
    rw [cntS_app,List.drop_eq_getElem_cons hjl,hD];rfl
   rw [←hD,hc,show cntS S (l.take j)*(S l[j]*D)=D*(S l[j]*cntS S (l.take j)) by rw [Nat.mul_comm (cntS S (l.take j)),Nat.mul_comm (S l[j]) D,Nat.mul_assoc],Nat.mod_mul_right_div_self,Nat.mod_mul_right_mod]
theorem cnt_drop {S:Nat→Nat} {l:List Nat} {i:Nat} (hi:i<l.length):cntS S (l.drop i)=S l[i]*cntS S (l.drop (i+1)):=by
 rw [List.drop_eq_getElem_cons hi];rfl
theorem div_drop {S:Nat→Nat} {l:List Nat} {i k:Nat} (hi:i<l.length):k/cntS S (l.drop (i+1))/S l[i]=k/cntS S (l.drop i):=by
 rw [cnt_drop hi,Nat.div_div_eq_div_mul,Nat.mul_comm]
end Go.Proofs.YthehegidpamldaaGreatDoor
set_option linter.unusedVariables false
set_option linter.unusedSimpArgs false
namespace Go.Proofs.YthehegidpamldaaGreatDoor
end Go.Proofs.YthehegidpamldaaGreatDoor
set_option linter.unusedVariables false
set_option linter.unusedSimpArgs false
namespace Go.Proofs.YthehegidpamldaaGreatDoor
open Go Go.RowKit
def Ns (l:List Nat):List FV:=l.map fun k:Nat=>I (k:Int)
theorem Ns_len {l:List Nat}:(Ns l).length=l.length:=by unfold Ns;rw [List.length_map]
theorem Ns_get {l:List Nat} {i:Nat} (h:i<l.length):(Ns l)[i]?=some (I (l.getD i 0:Nat)):=by
 unfold Ns;rw [map_get (fun k:Nat=>I (k:Int)) l h,lget_lt l 0 h]
theorem Ns_snoc {l:List Nat} {j:Nat}:Ns l++[I (j:Int)]=Ns (l++[j]):=by simp [Ns]
set_option maxRecDepth 100000 in
set_option maxHeartbeats 4000000 in
theorem rin_w (k:Int) (l:List Int) (hk:-9223372036854775808≤k∧k≤9223372036854775807) (hl:l.length≤140737488355328):Good Tryz.prog 41 [I k,ints l] (Bo (decide (k∈l))):=by
 refine good_of Tryz.func41 rfl (by kernel_rfl) fun X hO hrd=>?_;rw [Tryz.ntmps41,Tryz.results41];simp only [ast0,List.map_cons,List.map_nil,List.length_cons,List.length_nil,Nat.reduceAdd,Nat.reduceSub,List.replicate_succ,List.replicate_zero,List.cons_append,List.nil_append]
 (repeat (with_reducible first|refine W_seq fun K hK=>?_|refine J_block ?_|refine J_region ?_ |(refine Kont.go (by assumption) ?_)|(simp (config:={ maxSteps:=3000000 }) (disch:=omega) only [go_sem])))
 refine W_loop [4,5,6,7,8,9,10,11,12,13,14,15,16,17] (fun x:Nat=>[(5,.f (I x))]) (fun x:Nat=>[]) (fun x:Nat=>x≤l.length∧∀j,j<x→l.getD j 0≠k) (fun x:Nat=>l.length-x) (0) (⟨Nat.zero_le _,fun j h=>by omega⟩) (by refine weak_of ?_ ?_<;>simp (disch:=omega) only [go_sem]<;>first|rfl|exact ⟨rfl,rfl⟩|exact Or.inl rfl|exact ⟨Or.inl rfl,Or.inl rfl⟩|trivial|assumption|omega|(symm;assumption)|((repeat' apply And.intro)<;>first|rfl|omega|trivial|exact .inl rfl|exact .inr ⟨rfl,rfl⟩|exact .inr rfl|(right;symm;assumption)|(symm;assumption)|assumption)) ?_
 rintro i ⟨hi,hp⟩
 simp only [go_sem]
 (repeat (with_reducible first|refine W_seq fun K hK=>?_|refine J_region ?_ |refine J_c ?_|(refine Kont.go (by assumption) ?_)|(simp (config:={ maxSteps:=3000000 }) (disch:=omega) only [go_sem,List.length_map])))
 refine Jc_if (fun hlt=>?_) (fun hlt=>?_)<;>try simp only [decide_eq_true_eq,decide_eq_false_iff_not] at hlt
 ·have hx:=map_get I l hlt
  by_cases e:l[i]=k
  ·have hm:decide (k∈l)=true:=decide_eq_true (e▸List.getElem_mem _)
   (repeat (with_reducible first|refine W_seq fun K hK=>?_|refine J_block ?_|refine J_skip ?_|refine J_ret ?_|refine J_region ?_ |refine J_c ?_|refine Jc_true ?_|(refine Kont.go (by assumption) ?_)|(simp (config:={ maxSteps:=3000000 }) (disch:=omega) only [go_sem,↓reduceIte,hx,e])))
   rw [hm]
   exact Frz.f _
  ·(repeat (with_reducible first|refine W_seq fun K hK=>?_|refine J_block ?_|refine J_skip ?_|refine J_region ?_ |refine J_c ?_|refine Jc_false ?_|(refine Kont.go (by assumption) ?_)|(simp (config:={ maxSteps:=3000000 }) (disch:=omega) only [go_sem,↓reduceIte,hx,e])))
   refine ⟨i+1,⟨by omega,upto_next (p:=fun j=>l.getD j 0≠k) hp (by rw [lget_lt l 0 hlt];exact e)⟩,by omega,weak_of ?_ ?_⟩<;>(try simp (disch:=omega) only [go_sem])<;>(try first|done|omega|rfl|exact ⟨rfl,rfl⟩|trivial)
 ·have he:i=l.length:=by omega
  have hm:decide (k∈l)=false:=decide_eq_false fun hm=>by
   obtain ⟨c,hc,e⟩:=List.getElem_of_mem hm
   exact hp c (by omega) (by rw [lget_lt l 0 hc];exact e)
  (repeat (with_reducible first|refine W_seq fun K hK=>?_|refine J_exit ?_|refine J_ret ?_|refine J_region ?_ |(refine Kont.go (by assumption) ?_)|(simp (config:={ maxSteps:=3000000 }) (disch:=omega) only [go_sem,↓reduceIte])))
  rw [hm]
  exact Frz.f _
theorem rinN_w (k:Nat) (l:List Nat) (hk:k≤1000000) (hl:l.length≤1000000):Good Tryz.prog 41 [I (k:Int),.fz 1 (Ns l)] (Bo (decide (k∈l))):=by
 have h:=rin_w (k:Int) (l.map Int.ofNat) (by omega) (by rw [List.length_map];omega)
 have e1:ints (l.map Int.ofNat)=.fz 1 (Ns l):=by unfold Ns;simp [ints]
 have e2:decide ((k:Int)∈l.map Int.ofNat)=decide (k∈l):=by
  have:((k:Int)∈l.map Int.ofNat)=(k∈l):=propext ⟨fun h=>by
   obtain ⟨a,ha,e⟩:=List.mem_map.1 h
   have:a=k:=Int.ofNat.inj e
   exact this▸ha,fun h=>List.mem_map.2 ⟨k,h,rfl⟩⟩
  simp only [this]
 rw [e1,e2] at h
 exact h
def prevI (l:List Int) (x:Nat):Int:=if x=0 then -1 else l.getD (x-1) 0
def risB (n:Nat) (l:List Int):Bool:=(List.range l.length).all fun x=>decide (prevI l x<l.getD x 0)&&decide (l.getD x 0<(n:Int))
theorem prevI_next {l:List Int} {x:Nat}:prevI l (x+1)=l.getD x 0:=by unfold prevI;rw [if_neg (by omega)];rfl
theorem risB_iff {n:Nat} {l:List Int}:risB n l=true↔∀x,x<l.length→prevI l x<l.getD x 0∧l.getD x 0<(n:Int):=by
 simp [risB]
end Go.Proofs.YthehegidpamldaaGreatDoor
set_option linter.unusedVariables false
set_option linter.unusedSimpArgs false
namespace Go.Proofs.YthehegidpamldaaGreatDoor
open Go Go.RowKit
theorem rep_two {α:Type} (x:α):List.replicate 2 x=[x,x]:=(rfl)
theorem rep_three {α:Type} (x:α):List.replicate 3 x=[x,x,x]:=(rfl)
theorem rep_four {α:Type} (x:α):List.replicate 4 x=[x,x,x,x]:=(rfl)
theorem rep_five {α:Type} (x:α):List.replicate 5 x=[x,x,x,x,x]:=(rfl)
theorem opt_ex {α:Type} {a:α} {p:α→Prop}:(∃e,some a=some e∧p e)=p a:=propext ⟨fun ⟨e,h,hp⟩=>by cases h;exact hp,fun h=>⟨a,rfl,h⟩⟩
theorem objLt_fset (N:Nat) (e:TypeId) (sz i:Nat) (l:List FV) (x:FV):objLt N ⟨e,sz,(l.map AV.f).set i (.f x)⟩=True:=by
 rw [←List.map_set];exact objLt_f N e sz _
theorem acallQV_f {P:Program} {f:FuncId} {a b:List FV} {xs:List AV} {H:AH} {k:AV→Prop}:acallQV P (.f (.fn f a b)) xs H k=acallQ P f (a.map .f++xs++b.map .f) H k:=(rfl)
theorem acallV_f {P:Program} {f:FuncId} {a b:List FV} {xs:List AV} {s:AS} {d:Option Tmp} {K:AS→Prop}:acallV P (.f (.fn f a b)) xs s d K=acall P f (a.map .f++xs++b.map .f) s d K:=(rfl)
attribute [go_sem] objLt_fset acallQV_f acallV_f
attribute [go_sem] rep_two rep_three rep_four rep_five opt_ex
end Go.Proofs.YthehegidpamldaaGreatDoor
