/- Graphs as sets of parents: rising lists and sets, closures. Plain Lean. Conditions: sets below 256. -/
import Derived.Test.YtgjnbcfencallaaDoorZB07
import Derived.Test.YtgjnbcfencallaaDoorZB08
set_option linter.unusedVariables false
set_option linter.unusedSimpArgs false
namespace Go.Proofs.YtgjnbcfencallaaDoor
open Go Go.RowKit
theorem sorted_ext:∀{a b:List Nat},a.Pairwise (·< ·)→b.Pairwise (·< ·)→(∀v,v∈a↔v∈b)→a=b:=by
 intro a
 induction a with
 | nil=>intro b _ _ h;cases b with
  | nil=>rfl
  | cons y b=>exact absurd ((h y).2 (by simp)) (by simp)
 | cons x a ih =>
  intro b ha hb h
  cases b with
  | nil=>exact absurd ((h x).1 (by simp)) (by simp)
  | cons y b =>
   obtain ⟨ha1,ha2⟩:=List.pairwise_cons.1 ha
   obtain ⟨hb1,hb2⟩:=List.pairwise_cons.1 hb
   have e:x=y:=by
    rcases List.mem_cons.1 ((h x).1 (by simp)) with e|hx
    ·exact e
    ·rcases List.mem_cons.1 ((h y).2 (by simp)) with e|hy
     ·exact e.symm
     ·have:=ha1 y hy;have:=hb1 x hx;omega
   subst e
   rw [ih ha2 hb2 fun v=>⟨fun hv=>?_,fun hv=>?_⟩]
   ·rcases List.mem_cons.1 ((h v).1 (by simp [hv])) with e|h'
    ·subst e;have:=ha1 v hv;omega
    ·exact h'
   ·rcases List.mem_cons.1 ((h v).2 (by simp [hv])) with e|h'
    ·subst e;have:=hb1 v hv;omega
    ·exact h'
theorem els_sorted {s:Nat}:(els s).Pairwise (·< ·):=List.Pairwise.filter _ List.pairwise_lt_range
def setN (l:List Nat):Nat:=l.foldl (fun s v=>s|||bit v) 0
def setB (n:Nat) (p:Nat→Bool):Nat:=setN ((List.range n).filter p)
section
variable {l : List Nat} {n u v s : Nat} {p : Nat → Bool}
theorem setN_snoc:setN (l++[v])=setN l|||bit v:=by simp [setN]
theorem setN_bit:(setN l).testBit u=decide (u∈l):=by
 suffices h:∀(l:List Nat) (s:Nat),(l.foldl (fun s v=>s|||bit v) s).testBit u=(s.testBit u||decide (u∈l)) by
  have:=h l 0
  rw [Nat.zero_testBit,Bool.false_or] at this
  exact this
 intro l
 induction l with
 | nil=>intro s;simp
 | cons v l ih =>
  intro s
  rw [List.foldl_cons,ih,Nat.testBit_or,bit_bit,Bool.or_assoc]
  congr 1
  by_cases e:v=u
  ·subst e;simp
  ·have e':¬u=v:=fun h=>e h.symm
   simp [e,e']
theorem lt256 (h:∀v,s.testBit v=true→v<8):s<256:=Nat.lt_pow_two_of_testBit (n:=8) _ fun i hi=>by
 cases hb:s.testBit i with
 | false=>rfl
 | true=>have:=h i hb;omega
theorem setN_lt (h:∀v∈l,v<8):setN l<256:=lt256 fun v hv=>by
 rw [setN_bit] at hv;exact h v (of_decide_eq_true hv)
theorem setB_bit:(setB n p).testBit v=(decide (v<n)&&p v):=by
 unfold setB
 rw [setN_bit,Bool.eq_iff_iff]
 simp
theorem setB_lt (hn:n≤8):setB n p<256:=lt256 fun v hv=>by
 rw [setB_bit] at hv
 have:=of_decide_eq_true (Bool.and_eq_true_iff.1 hv).1
 omega
theorem bits_lt8 (h:s<256) (hv:s.testBit v=true):v<8:=by
 rcases Nat.lt_or_ge v 8 with h'|h'
 ·exact h'
 ·have hp:2^8≤2^v:=Nat.pow_le_pow_right (by decide) h'
  rw [Nat.testBit_lt_two_pow (Nat.lt_of_lt_of_le h hp)] at hv
  cases hv
theorem ext_bits' {a b:Nat} (h:∀v,a.testBit v=b.testBit v):a=b:=Nat.eq_of_testBit_eq h
theorem dif_zero {a b:Nat}:dif a b=0↔∀v,a.testBit v=true→b.testBit v=true:=by
 constructor
 ·intro h v hv
  have e:(dif a b).testBit v=false:=by rw [h];exact Nat.zero_testBit v
  rw [dif_bit,hv] at e
  simpa using e
 ·intro h
  refine ext_bits' fun v=>?_
  rw [dif_bit,Nat.zero_testBit]
  cases hv:a.testBit v with
  | false=>rfl
  | true=>rw [h v hv];rfl
end
section
variable {n v u : Nat} {l : List Int}
theorem setI_mem (h:risB n l=true) (hv:(setI l).testBit v=true):v<n:=by
 rw [set_mem h] at hv
 obtain ⟨j,hj,e⟩:=List.getElem_of_mem (of_decide_eq_true hv)
 have:=(risB_iff.1 h j hj).2
 rw [lget_lt l 0 hj,e] at this
 omega
theorem ris_els (hn:n≤8) (h:risB n l=true):l.map I=Ns (els (setI l)):=by
 have hr:=risB_iff.1 h
 have hnn:=(ris_nn (x:=l.length) hr).2
 have e:l.map Int.toNat=els (setI l):=by
  refine sorted_ext ?_ els_sorted fun v=>?_
  ·rw [List.pairwise_map]
   have hlt:∀i j,i<j→j<l.length→l.getD i 0<l.getD j 0:=by
    intro i j
    induction j with
    | zero=>intro h;omega
    | succ j ih =>
     intro hij hj
     have h1:=(hr (j+1) hj).1
     rw [prevI_next] at h1
     by_cases e:i=j
     ·subst e;exact h1
     ·exact Int.lt_trans (ih (by omega) (by omega)) h1
   rw [List.pairwise_iff_getElem]
   intro i j hi hj hij
   have h1:=hlt i j hij hj
   have h2:=hnn i hi
   rw [lget_lt l 0 hi] at h1 h2
   rw [lget_lt l 0 hj] at h1
   omega
  ·rw [els_mem,List.mem_map,set_mem h,decide_eq_true_iff]
   constructor
   ·rintro ⟨x,hx,rfl⟩
    obtain ⟨j,hj,e⟩:=List.getElem_of_mem hx
    have h1:=hnn j hj
    have h2:=(hr j hj).2
    rw [lget_lt l 0 hj,e] at h1 h2
    exact ⟨by omega,by rw [Int.toNat_of_nonneg h1];exact hx⟩
   ·rintro ⟨_,hx⟩
    exact ⟨_,hx,by omega⟩
 rw [←e]
 unfold Ns
 rw [List.map_map]
 refine List.map_congr_left fun x hx=>?_
 obtain ⟨j,hj,e⟩:=List.getElem_of_mem hx
 have h1:=hnn j hj
 rw [lget_lt l 0 hj,e] at h1
 show I x=I ((x.toNat:Nat):Int)
 rw [Int.toNat_of_nonneg h1]
theorem ris_lt (hn:n≤8) (h:risB n l=true):setI l<256:=lt256 fun v hv=>by have:=setI_mem h hv;omega
end
section
variable {p : Nat → Bool} {n x : Nat}
end
structure GP (n : Nat) (P : List Nat) : Prop where
  len : P.length = n
  n1 : 1 ≤ n
  n8 : n ≤ 8
  lt : ∀ v u, (P.getD v 0).testBit u = true → u < n
  irr : ∀ v, (P.getD v 0).testBit v = false
def gvs (P:List Nat):List FV:=P.map fun s=>.fz 1 (Ns (els s))
section
variable {n u v : Nat} {P : List Nat} {L : List (List Int)}
theorem GP.lt8 (h:GP n P):P.getD v 0<256:=lt256 fun u hu=>by have:=h.lt v u hu;have:=h.n8;omega
theorem GP.pa (h:GP n P):∀u v,paO P u v=true→u<n∧v<n:=fun u v hu=>by
 refine ⟨h.lt v u hu,?_⟩
 rcases Nat.lt_or_ge v n with h'|h'
 ·exact h'
 ·unfold paO at hu
  rw [List.getD_eq_getElem?_getD,List.getElem?_eq_none (by rw [h.len];exact h')] at hu
  rw [show (none:Option Nat).getD 0=0 from rfl,Nat.zero_testBit] at hu
  cases hu
theorem gvs_len:(gvs P).length=P.length:=by simp [gvs]
theorem gvs_get (h:v<P.length):(gvs P)[v]?=some (.fz 1 (Ns (els (P.getD v 0)))):=by
 unfold gvs;rw [map_get _ P h,lget_lt P 0 h]
theorem sets_get (h:v<P.length):(P.map U)[v]?=some (U (P.getD v 0)):=by rw [map_get U P h,lget_lt P 0 h]
theorem setsOf_len:(setsOf L).length=L.length:=by simp [setsOf]
theorem setsOf_get (h:v<L.length):(setsOf L).getD v 0=readS L.length L[v]:=by
 rw [lget_lt _ 0 (by rw [setsOf_len];exact h)]
 simp only [setsOf,List.getElem_map,List.getElem_range]
 unfold setAt
 rw [lget_lt L [] h]
theorem ok_node (hb:listsB L=true) (h:v<L.length):risB L.length L[v]=true∧(setI L[v]).testBit v=false∧readS L.length L[v]=setI L[v]:=by
 have h1:=(listsB_iff.1 hb).2 v h
 unfold nodeB at h1
 rw [lget_lt L [] h] at h1
 obtain ⟨h2,h3⟩:=Bool.and_eq_true_iff.1 h1
 have h4:readS L.length L[v]=setI L[v]:=by unfold readS;rw [if_pos h2]
 rw [h4] at h3
 exact ⟨h2,by simpa using h3,h4⟩
theorem GP.of (hb:listsB L=true):GP L.length (setsOf L):=by
 obtain ⟨⟨h1,h8⟩,_⟩:=listsB_iff.1 hb
 have hout:∀v,¬v<L.length→(setsOf L).getD v 0=0:=fun v hv=>by
  rw [List.getD_eq_getElem?_getD,List.getElem?_eq_none (by rw [setsOf_len];omega)];rfl
 refine ⟨setsOf_len,h1,h8,fun v u hu=>?_,fun v=>?_⟩
 ·by_cases hv:v<L.length
  ·obtain ⟨k1,k2,k3⟩:=ok_node hb hv
   rw [setsOf_get hv,k3] at hu
   exact setI_mem k1 hu
  ·rw [hout v hv,Nat.zero_testBit] at hu;cases hu
 ·by_cases hv:v<L.length
  ·obtain ⟨k1,k2,k3⟩:=ok_node hb hv
   rw [setsOf_get hv,k3];exact k2
  ·rw [hout v hv,Nat.zero_testBit]
theorem gvs_of (hb:listsB L=true):L.map ints=gvs (setsOf L):=by
 obtain ⟨⟨h1,h8⟩,_⟩:=listsB_iff.1 hb
 apply List.ext_getElem?
 intro v
 by_cases hv:v<L.length
 ·obtain ⟨k1,k2,k3⟩:=ok_node hb hv
  rw [map_get ints L hv,gvs_get (by rw [setsOf_len];exact hv),setsOf_get hv,k3]
  show some (FV.fz 1 (L[v].map I))=_
  rw [ris_els h8 k1]
 ·rw [List.getElem?_eq_none (by rw [List.length_map];omega),List.getElem?_eq_none (by rw [gvs_len,setsOf_len];omega)]
end
def ordL (L:List (List Int)):List Nat:=if listsB L=true then (ordN (setsOf L) L.length L.length []).getD [] else []
def ordE (L:List (List Int)):Int:=if listsB L=true then (if (ordN (setsOf L) L.length L.length []).isSome=true then 0 else 10) else 11
section
variable {n u v s t : Nat} {P done : List Nat}
theorem fre_dif (h:GP n P) (hv:v<n):freB P n done v=(!decide (v∈done)&&decide (dif (P.getD v 0) (setN done)=0)):=by
 rw [Bool.eq_iff_iff,freB_iff h.pa,Bool.and_eq_true,decide_eq_true_iff,dif_zero]
 simp only [setN_bit,decide_eq_true_eq,Bool.not_eq_true',decide_eq_false_iff_not]
 rfl
theorem nxt_some (hx:v<n) (hf:freB P n done v=true) (hp:∀j,j<v→freB P n done j=false):nxtV P n done=some v:=by
 unfold nxtV
 rw [List.find?_eq_some_iff_append]
 refine ⟨hf,List.range v,(List.range' (v+1) (n-v-1)),?_,fun a ha=>by rw [hp a (List.mem_range.1 ha)];rfl⟩
 apply List.ext_getElem?
 intro i
 by_cases h1:i<v
 ·rw [List.getElem?_append_left (by simpa using h1),List.getElem?_range (by omega),List.getElem?_range h1]
 ·rw [List.getElem?_append_right (by simp;omega)]
  by_cases h2:i=v
  ·subst h2;simp [hx]
  ·obtain ⟨k,rfl⟩:∃k,i=v+(k+1):=⟨i-v-1,by omega⟩
   simp only [List.length_range,Nat.add_sub_cancel_left,List.getElem?_cons_succ]
   by_cases h3:v+(k+1)<n
   ·rw [List.getElem?_range h3,List.getElem?_range' (by omega)];simp;omega
   ·rw [List.getElem?_eq_none (by simp;omega),List.getElem?_eq_none (by simp;omega)]
theorem nxt_none (hp:∀j,j<n→freB P n done j=false):nxtV P n done=none:=by
 unfold nxtV
 rw [List.find?_eq_none]
 intro a ha
 rw [hp a (List.mem_range.1 ha)];simp
end
end Go.Proofs.YtgjnbcfencallaaDoor
set_option linter.unusedVariables false
set_option linter.unusedSimpArgs false
namespace Go.Proofs.YtgjnbcfencallaaDoor
open Go Go.RowKit
theorem ord_left {P done:List Nat} {n:Nat} (h:OrdI P n done):done.length≤n:=by
 have:=List.Nodup.length_le_of_subset h.nd (l₂:=List.range n) (fun x hx=>List.mem_range.2 (h.lt x hx))
 simpa using this
structure OrdS (P : List Nat) (n : Nat) (done : List Nat) : Prop where
  i : OrdI P n done
  eq : ordN P n (n - done.length) done = ordN P n n []
theorem OrdS.nil {P:List Nat} {n:Nat}:OrdS P n []:=⟨.nil,rfl⟩
theorem OrdS.next {P done:List Nat} {n v:Nat} (hg:GP n P) (h:OrdS P n done) (hl:done.length<n) (hv:nxtV P n done=some v):OrdS P n (done++[v]):=by
 refine ⟨h.i.next hg.pa hv,?_⟩
 rw [←h.eq]
 have e:n-done.length=(n-(done++[v]).length)+1:=by simp;omega
 rw [e]
 show _=(match nxtV P n done with|none=>none|some v=>ordN P n _ (done++[v]))
 rw [hv]
theorem OrdS.stop {P done:List Nat} {n:Nat} (h:OrdS P n done) (hl:done.length<n) (hv:nxtV P n done=none):ordN P n n []=none:=by
 rw [←h.eq]
 have e:n-done.length=(n-done.length-1)+1:=by omega
 rw [e]
 show (match nxtV P n done with|none=>none|some v=>ordN P n _ (done++[v]))=none
 rw [hv]
theorem OrdS.end {P done:List Nat} {n:Nat} (h:OrdS P n done) (hl:¬done.length<n):ordN P n n []=some done:=by
 rw [←h.eq]
 have:=ord_left h.i
 rw [show n-done.length=0 by omega];rfl
theorem bad_ordL {L:List (List Int)} (hb:listsB L=false):ordL L=[]∧ordE L=11:=by unfold ordL ordE;rw [hb];exact ⟨rfl,rfl⟩
theorem ok_ord {L:List (List Int)} (hb:listsB L=true) {o:Option (List Nat)} (h:ordN (setsOf L) L.length L.length []=o):ordL L=o.getD []∧ordE L=if o.isSome=true then 0 else 10:=by
 unfold ordL ordE;rw [hb,h];exact ⟨rfl,rfl⟩
set_option maxRecDepth 100000 in
set_option maxHeartbeats 8000000 in
theorem order_w (L:List (List Int)) (hL:OkIss L):Good Tryd.prog 8 [.fz 1 (L.map ints)] (.tup [.fz 1 (Ns (ordL L)),I (ordE L)]):=by
 have hr:=reads_w L hL
 obtain ⟨vL,hvL⟩:∃vL,vL=ordL L:=⟨_,rfl⟩
 obtain ⟨vE,hvE⟩:∃vE,vE=ordE L:=⟨_,rfl⟩
 rw [←hvL,←hvE]
 refine good_of Tryd.func8 rfl (by kernel_rfl) fun X hO hrd=>?_;rw [Tryd.ntmps8,Tryd.results8];simp only [ast0,List.map_cons,List.map_nil,List.length_cons,List.length_nil,Nat.reduceAdd,Nat.reduceSub,List.replicate_succ,List.replicate_zero,List.cons_append,List.nil_append]
 (repeat (with_reducible first|refine W_seq fun K hK=>?_|refine J_region ?_ |(refine Kont.go (by assumption) ?_)|(simp (config:={ maxSteps:=3000000 }) (disch:=omega) only [go_sem])))
 refine J_scope ?_
 (repeat (with_reducible first|refine W_seq fun K hK=>?_|refine J_region ?_ |(simp (config:={ maxSteps:=3000000 }) (disch:=omega) only [go_sem])))
 refine call_ot hr (FrzL.fs [_]) ?_
 cases hb:listsB L with
 | false =>
  obtain ⟨e1,e2⟩:=bad_ordL hb
  have e3:rdR L=.f nilV:=by unfold rdR;rw [hb];rfl
  rw [e3]
  (repeat (with_reducible first|refine W_seq fun K hK=>?_|refine J_ret ?_|refine J_region ?_ |refine J_c ?_|refine Jc_true ?_|(refine Kont.go (by assumption) ?_)|(simp (config:={ maxSteps:=3000000 }) (disch:=omega) only [go_sem])))
  rw [hvL,hvE,e1,e2]
  exact ⟨_,rfl,FrzL.cons (.nil _) (FrzL.cons (.f _) (FrzL.nil _))⟩
 | true =>
  have hg:=GP.of hb
  have e3:rdR L=.own 56 1 ((setsOf L).map U):=by unfold rdR;rw [hb];rfl
  have ho:=fun o=>ok_ord (o:=o) hb
  rw [e3]
  obtain ⟨P,hP⟩:∃P,P=setsOf L:=⟨_,rfl⟩
  obtain ⟨n,hn⟩:∃n,n=L.length:=⟨_,rfl⟩
  rw [←hP,←hn] at hg ho
  rw [←hvL,←hvE] at ho
  rw [←hP]
  have hl:=hg.len
  have hn8:=hg.n8
  (repeat (with_reducible first|refine W_seq fun K hK=>?_|refine J_skip ?_|refine J_region ?_ |refine J_c ?_|refine Jc_false ?_|(refine Kont.go (by assumption) ?_)|(simp (config:={ maxSteps:=3000000 }) (disch:=omega) only [go_sem])))
  refine J_label ?_
  (repeat (with_reducible first|refine W_seq fun K hK=>?_|refine J_block ?_|(refine Kont.go (by assumption) ?_)|(simp (config:={ maxSteps:=3000000 }) (disch:=omega) only [go_sem])))
  refine J_freezeO (j:=4) rfl (by first|rfl|(simp;done)|(simp [*];done)) rfl ?_
  simp only [go_sem]
  refine J_reserve ?_
  refine W_loop [2,3,6,7,8,9,17,18,19,20,21,22,23,24,25,26,27,28,29,30,31,32,33,34,35,36,37,38,39,40,41,42,43,44,45,46,47] (fun done:List Nat=>[(6,sl 1 1 (Ns done)),(7,.f (U (setN done)))]) (fun done:List Nat=>[none,ob 3 1 (Ns done)]) (fun done:List Nat=>OrdS P n done) (fun done:List Nat=>n-done.length) ([]) (OrdS.nil) (by refine weak_of ?_ ?_<;>simp (disch:=omega) only [go_sem,Nat.reduceAdd]<;>first|rfl|exact ⟨rfl,rfl⟩|exact Or.inl rfl|exact ⟨Or.inl rfl,Or.inl rfl⟩|trivial|assumption|omega|(symm;assumption)|((repeat' apply And.intro)<;>first|rfl|omega|trivial|exact .inl rfl|exact .inr ⟨rfl,rfl⟩|exact .inr rfl|(right;symm;assumption)|(symm;assumption)|assumption)) ?_
  rintro done hd
  have hdl:=ord_left hd.i
  have hNl:(Ns done).length=done.length:=Ns_len
  have hd8:setN done<256:=setN_lt fun v hv=>by have:=hd.i.lt v hv;omega
  simp only [go_sem]
  (repeat (with_reducible first|refine W_seq fun K hK=>?_|refine J_region ?_ |refine J_c ?_|(refine Kont.go (by assumption) ?_)|(simp (config:={ maxSteps:=3000000 }) (disch:=omega) only [go_sem,hNl,List.length_map,hl])))
  refine Jc_if (fun hlt=>?_) (fun hlt=>?_)<;>try simp only [decide_eq_true_eq,decide_eq_false_iff_not] at hlt
  ·(repeat (with_reducible first|refine W_seq fun K hK=>?_|refine J_block ?_|refine J_skip ?_|refine J_region ?_ |(refine Kont.go (by assumption) ?_)|(simp (config:={ maxSteps:=3000000 }) (disch:=omega) only [go_sem,List.length_map,hl])))
   refine W_loop [6,7,8,9,24,25,26,27,28,29,30,31,32,33,34,35,36,37,38,39,40,41,42,43,44,45,46,47] (fun x:Nat=>[(6,sl 1 1 (Ns done)),(7,.f (U (setN done))),(24,.f (I x))]) (fun x:Nat=>[none,ob 3 1 (Ns done)]) (fun x:Nat=>x≤n∧∀j,j<x→freB P n done j=false) (fun x:Nat=>n-x) (0) (⟨Nat.zero_le _,fun j h=>by omega⟩) (by refine weak_of ?_ ?_<;>simp (disch:=omega) only [go_sem,Nat.reduceAdd]<;>first|rfl|exact ⟨rfl,rfl⟩|exact Or.inl rfl|exact ⟨Or.inl rfl,Or.inl rfl⟩|trivial|assumption|omega|(symm;assumption)|((repeat' apply And.intro)<;>first|rfl|omega|trivial|exact .inl rfl|exact .inr ⟨rfl,rfl⟩|exact .inr rfl|(right;symm;assumption)|(symm;assumption)|assumption)) ?_
   rintro x ⟨hx,hp⟩
   simp only [go_sem]
   (repeat (with_reducible first|refine W_seq fun K hK=>?_|refine J_region ?_ |refine J_c ?_|(refine Kont.go (by assumption) ?_)|(simp (config:={ maxSteps:=3000000 }) (disch:=omega) only [go_sem])))
   refine Jc_if (fun hxl=>?_) (fun hxl=>?_)<;>try simp only [decide_eq_true_eq,decide_eq_false_iff_not] at hxl
   ·have hh:=has_w (v:=x) hd8 (by omega)
    rw [setN_bit] at hh
    have gx:=sets_get (P:=P) (v:=x) (by omega)
    have hfr:=fre_dif (done:=done) hg hxl
    have han:=u_an (b:=setN done) (hg.lt8 (v:=x)) hd8
    (repeat (with_reducible first|refine W_seq fun K hK=>?_|refine J_block ?_|refine J_skip ?_|refine J_region ?_ |(refine Kont.go (by assumption) ?_)|(simp (config:={ maxSteps:=3000000 }) (disch:=omega) only [go_sem,↓reduceIte,gx])))
    (first|refine call_f (hh) rfl ?_|refine callQ_f (hh) rfl ?_|refine callHK_f (hh) rfl ?_|refine callH_f (hh) rfl ?_)
    by_cases hm:x∈done
    ·have hdec:decide (x∈done)=true:=decide_eq_true hm
     rw [hdec] at hfr
     (repeat (with_reducible first|refine J_skip ?_|refine J_region ?_ |refine J_c ?_|refine Jc_false ?_|(refine Kont.go (by assumption) ?_)|(simp (config:={ maxSteps:=3000000 }) (disch:=omega) only [go_sem,hdec])))
     refine ⟨x+1,⟨by omega,upto_next (p:=fun j=>freB P n done j=false) hp (by rw [hfr];rfl)⟩,by omega,weak_of ?_ ?_⟩<;>(try simp (disch:=omega) only [go_sem,Nat.reduceAdd])<;>(try first|done|omega|rfl|exact ⟨rfl,rfl⟩|trivial)
    ·have hdec:decide (x∈done)=false:=decide_eq_false hm
     rw [hdec] at hfr
     by_cases hz:dif (P.getD x 0) (setN done)=0
     ·have hfr2:freB P n done x=true:=by rw [hfr,decide_eq_true hz];rfl
      have hnx:=nxt_some hxl hfr2 hp
      have hnd:((dif (P.getD x 0) (setN done):Nat):Int)=0:=by rw [hz];rfl
      have hap:((Ns done).length+1)*8≤140737488355328:=by omega
      have hsh:=u_shl (v:=x) (by omega)
      have hor:=u_or hd8 (bit_lt (v:=x) (by omega))
      rw [←setN_snoc] at hor
      (repeat (with_reducible first|refine W_seq fun K hK=>?_|refine J_exit ?_|refine J_region ?_ |refine aApp_sl ?_|refine J_c ?_|refine Jc_true ?_|(refine Kont.go (by assumption) ?_)|(simp (config:={ maxSteps:=3000000 }) (disch:=omega) only [go_sem,Nat.reduceEqDiff,↓reduceIte,Nat.reduceAdd,Nat.reduceLeDiff,hdec,han,hnd,hap,hsh,hor,Ns_snoc,Nat.reduceMul,Nat.le_refl,true_and,and_self])))
      refine ⟨done++[x],hd.next hg hlt hnx,by simp;omega,weak_of ?_ ?_⟩<;>(try simp (disch:=omega) only [go_sem,Nat.reduceAdd])<;>(try first|done|omega|rfl|exact ⟨rfl,rfl⟩|trivial)
     ·have hfr2:freB P n done x=false:=by rw [hfr,decide_eq_false hz];rfl
      have hnd:¬((dif (P.getD x 0) (setN done):Nat):Int)=0:=by omega
      (repeat (with_reducible first|refine J_skip ?_|refine J_region ?_ |refine J_c ?_|refine Jc_false ?_|(refine Kont.go (by assumption) ?_)|(simp (config:={ maxSteps:=3000000 }) (disch:=omega) only [go_sem,hdec,han,hnd])))
      refine ⟨x+1,⟨by omega,upto_next (p:=fun j=>freB P n done j=false) hp hfr2⟩,by omega,weak_of ?_ ?_⟩<;>(try simp (disch:=omega) only [go_sem,Nat.reduceAdd])<;>(try first|done|omega|rfl|exact ⟨rfl,rfl⟩|trivial)
   ·have he:x=n:=by omega
    subst he
    have:=hd.stop hlt (nxt_none hp)
    obtain ⟨e1,e2⟩:=ho _ this
    (repeat (with_reducible first|refine W_seq fun K hK=>?_|refine J_exit ?_|refine J_ret ?_|refine J_region ?_ |(refine Kont.go (by assumption) ?_)|(simp (config:={ maxSteps:=3000000 }) (disch:=omega) only [go_sem,↓reduceIte])))
    rw [e1,e2]
    exact ⟨_,rfl,FrzL.cons (.nil _) (FrzL.cons (.f _) (FrzL.nil _))⟩
  ·obtain ⟨e1,e2⟩:=ho _ (hd.end hlt)
   (repeat (with_reducible first|refine W_seq fun K hK=>?_|refine J_exit ?_|refine J_ret ?_|refine J_region ?_ |(refine Kont.go (by assumption) ?_)|(simp (config:={ maxSteps:=3000000 }) (disch:=omega) only [go_sem,↓reduceIte])))
   rw [e1,e2]
   exact ⟨_,rfl,FrzL.cons (.sl rfl) (FrzL.cons (.f _) (FrzL.nil _))⟩
def frI (done:List Nat) (v s i:Nat):Bool:=!decide (v∈done)&&((els s).take i).all fun u=>decide (u∈done)
theorem frI_next {done:List Nat} {v s i u:Nat} (h:(els s)[i]?=some u):(frI done v s i&&decide (u∈done))=frI done v s (i+1):=by
 unfold frI
 rw [List.take_add_one,h,List.all_append,Bool.and_assoc]
 simp
theorem frI_all {P done:List Nat} {n v:Nat} (h:GP n P):frI done v (P.getD v 0) (els (P.getD v 0)).length=freB P n done v:=by
 rw [Bool.eq_iff_iff,freB_iff h.pa]
 unfold frI
 rw [List.take_length]
 simp only [Bool.and_eq_true,Bool.not_eq_true',decide_eq_false_iff_not,List.all_eq_true,decide_eq_true_eq,els_mem]
 exact ⟨fun ⟨a,b⟩=>⟨a,fun u hu=>b u ⟨bits_lt8 h.lt8 hu,hu⟩⟩,fun ⟨a,b⟩=>⟨a,fun u hu=>b u hu.2⟩⟩
def NxI (P done:List Nat) (n x:Nat) (nv:Int):Prop:=(nv=-1∧∀j,x≤j→j<n→freB P n done j=false)∨∃u:Nat,nv=(u:Int)∧x≤u∧u<n∧freB P n done u=true∧∀j,x≤j→j<u→freB P n done j=false
set_option maxRecDepth 100000 in
set_option maxHeartbeats 8000000 in
theorem rorder_w (L:List (List Int)) (hL:OkIss L):Good Tryd.prog 9 [.fz 1 (L.map ints)] (.tup [.fz 1 (Ns (ordL L)),I (ordE L)]):=by
 have hk:=listsOK_w L hL
 obtain ⟨vL,hvL⟩:∃vL,vL=ordL L:=⟨_,rfl⟩
 obtain ⟨vE,hvE⟩:∃vE,vE=ordE L:=⟨_,rfl⟩
 rw [←hvL,←hvE]
 cases hb:listsB L with
 | false =>
  obtain ⟨e1,e2⟩:=bad_ordL hb
  rw [hb] at hk
  refine good_of Tryd.func9 rfl (by kernel_rfl) fun X hO hrd=>?_;rw [Tryd.ntmps9,Tryd.results9];simp only [ast0,List.map_cons,List.map_nil,List.length_cons,List.length_nil,Nat.reduceAdd,Nat.reduceSub,List.replicate_succ,List.replicate_zero,List.cons_append,List.nil_append]
  (repeat (with_reducible first|refine W_seq fun K hK=>?_|refine J_region ?_ |(refine Kont.go (by assumption) ?_)|(simp (config:={ maxSteps:=3000000 }) (disch:=omega) only [go_sem])))
  (first|refine call_f (hk) rfl ?_|refine callQ_f (hk) rfl ?_|refine callHK_f (hk) rfl ?_|refine callH_f (hk) rfl ?_)
  (repeat (with_reducible first|refine W_seq fun K hK=>?_|refine J_ret ?_|refine J_region ?_ |refine J_c ?_|refine Jc_true ?_|(refine Kont.go (by assumption) ?_)|(simp (config:={ maxSteps:=3000000 }) (disch:=omega) only [go_sem])))
  rw [hvL,hvE,e1,e2]
  exact ⟨_,rfl,FrzL.cons (.nil _) (FrzL.cons (.f _) (FrzL.nil _))⟩
 | true =>
  have hg:=GP.of hb
  have ho:=fun o=>ok_ord (o:=o) hb
  rw [hb] at hk
  rw [gvs_of hb] at hk ⊢
  obtain ⟨P,hP⟩:∃P,P=setsOf L:=⟨_,rfl⟩
  obtain ⟨n,hn⟩:∃n,n=L.length:=⟨_,rfl⟩
  rw [←hP,←hn] at hg ho
  rw [←hvL,←hvE] at ho
  rw [←hP] at hk ⊢
  have hl:=hg.len
  have hn8:=hg.n8
  have hgl:(gvs P).length=n:=by rw [gvs_len,hl]
  refine good_of Tryd.func9 rfl (by kernel_rfl) fun X hO hrd=>?_;rw [Tryd.ntmps9,Tryd.results9];simp only [ast0,List.map_cons,List.map_nil,List.length_cons,List.length_nil,Nat.reduceAdd,Nat.reduceSub,List.replicate_succ,List.replicate_zero,List.cons_append,List.nil_append]
  (repeat (with_reducible first|refine W_seq fun K hK=>?_|refine J_region ?_ |(refine Kont.go (by assumption) ?_)|(simp (config:={ maxSteps:=3000000 }) (disch:=omega) only [go_sem])))
  (first|refine call_f (hk) rfl ?_|refine callQ_f (hk) rfl ?_|refine callHK_f (hk) rfl ?_|refine callH_f (hk) rfl ?_)
  (repeat (with_reducible first|refine W_seq fun K hK=>?_|refine J_block ?_|refine J_skip ?_|refine J_region ?_ |refine J_c ?_|refine Jc_false ?_|(refine Kont.go (by assumption) ?_)|(simp (config:={ maxSteps:=3000000 }) (disch:=omega) only [go_sem])))
  refine J_reserve ?_
  refine W_loop [2,3,5,6,7,8,9,10,15,16,17,18,19,20,21,22,23,24,25,26,27,28,29,30,31,32,33,34,35,36,37,38,39,40,41,42,43,44,45,46,47,48,49,50,51,52,53,54,55,56,57,58,59,60,61] (fun done:List Nat=>[(5,sl 0 1 (Ns done))]) (fun done:List Nat=>[ob 3 1 (Ns done)]) (fun done:List Nat=>OrdS P n done) (fun done:List Nat=>n-done.length) ([]) (OrdS.nil) (by refine weak_of ?_ ?_<;>simp (disch:=omega) only [go_sem]<;>first|rfl|exact ⟨rfl,rfl⟩|exact Or.inl rfl|exact ⟨Or.inl rfl,Or.inl rfl⟩|trivial|assumption|omega|(symm;assumption)|((repeat' apply And.intro)<;>first|rfl|omega|trivial|exact .inl rfl|exact .inr ⟨rfl,rfl⟩|exact .inr rfl|(right;symm;assumption)|(symm;assumption)|assumption)) ?_
  rintro done hd
  have hdl:=ord_left hd.i
  have hNl:(Ns done).length=done.length:=Ns_len
  simp only [go_sem]
  (repeat (with_reducible first|refine W_seq fun K hK=>?_|refine J_region ?_ |refine J_c ?_|(refine Kont.go (by assumption) ?_)|(simp (config:={ maxSteps:=3000000 }) (disch:=omega) only [go_sem,hNl,hgl])))
  refine Jc_if (fun hlt=>?_) (fun hlt=>?_)<;>try simp only [decide_eq_true_eq,decide_eq_false_iff_not] at hlt
  ·(repeat (with_reducible first|refine W_seq fun K hK=>?_|refine J_block ?_|refine J_skip ?_|refine J_region ?_ |(refine Kont.go (by assumption) ?_)|(simp (config:={ maxSteps:=3000000 }) (disch:=omega) only [go_sem,Int.reduceNeg,hgl])))
   refine W_loop [6,7,8,9,10,23,24,25,26,27,28,29,30,31,32,33,34,35,36,37,38,39,40,41,42,43,44,45,46,47,48,49,50,51,52,53,54,55] (fun q:Nat × Int=>[(5,sl 0 1 (Ns done)),(6,.f (I q.2)),(7,.f (I ((q.1:Int)-1)))]) (fun q:Nat × Int=>[ob 3 1 (Ns done)]) (fun q:Nat × Int=>q.1≤n∧NxI P done n q.1 q.2) (fun q:Nat × Int=>q.1) ((n,-1)) (⟨Nat.le_refl _,.inl ⟨rfl,fun j h h'=>by omega⟩⟩) (by refine weak_of ?_ ?_<;>simp (disch:=omega) only [go_sem]<;>first|rfl|exact ⟨rfl,rfl⟩|exact Or.inl rfl|exact ⟨Or.inl rfl,Or.inl rfl⟩|trivial|assumption|omega|(symm;assumption)|((repeat' apply And.intro)<;>first|rfl|omega|trivial|exact .inl rfl|exact .inr ⟨rfl,rfl⟩|exact .inr rfl|(right;symm;assumption)|(symm;assumption)|assumption)) ?_
   rintro ⟨x,nv⟩ ⟨hx,hnv⟩
   dsimp only at hx hnv
   simp only [go_sem]
   (repeat (with_reducible first|refine W_seq fun K hK=>?_|refine J_region ?_ |refine J_c ?_|(refine Kont.go (by assumption) ?_)|(simp (config:={ maxSteps:=3000000 }) (disch:=omega) only [go_sem])))
   refine Jc_if (fun hxl=>?_) (fun hxl=>?_)<;>try simp only [decide_eq_true_eq,decide_eq_false_iff_not] at hxl
   ·obtain ⟨v,rfl⟩:∃v,x=v+1:=⟨x-1,by omega⟩
    have ev:((v+1:Nat):Int)-1=(v:Int):=by omega
    rw [ev]
    have hin:=rinN_w v done (by omega) (by omega)
    have gx:=gvs_get (P:=P) (v:=v) (by omega)
    obtain ⟨s,hs⟩:∃s,s=P.getD v 0:=⟨_,rfl⟩
    have hsl:=els_len (s:=s)
    have hfa:=frI_all (done:=done) (v:=v) hg
    rw [←hs] at gx hfa
    have hf0:Bo (!decide (v∈done))=Bo (frI done v s 0):=by unfold frI;rw [List.take_zero,List.all_nil,Bool.and_true]
    (repeat (with_reducible first|refine W_seq fun K hK=>?_|refine J_block ?_|refine J_skip ?_|refine J_region ?_ |(refine Kont.go (by assumption) ?_)|(simp (config:={ maxSteps:=3000000 }) (disch:=omega) only [go_sem])))
    (first|refine call_fl (hin) (by first|exact .v _|exact .agg _ (by intro j c h;simp at h;subst h;exact .v _)) (by repeat (first|exact FrzL.nil _|refine FrzL.cons (by first|exact .f _|exact .nil _|exact .sl rfl|exact .sl (by simp;done)) ?_)) ?_|refine callQ_fl (hin) (by first|exact .v _|exact .agg _ (by intro j c h;simp at h;subst h;exact .v _)) (by repeat (first|exact FrzL.nil _|refine FrzL.cons (by first|exact .f _|exact .nil _|exact .sl rfl|exact .sl (by simp;done)) ?_)) ?_|refine callH_fl (hin) (by first|exact .v _|exact .agg _ (by intro j c h;simp at h;subst h;exact .v _)) (by repeat (first|exact FrzL.nil _|refine FrzL.cons (by first|exact .f _|exact .nil _|exact .sl rfl|exact .sl (by simp;done)) ?_)) ?_)
    (repeat (with_reducible first|refine W_seq fun K hK=>?_|refine J_block ?_|refine J_region ?_ |(refine Kont.go (by assumption) ?_)|(simp (config:={ maxSteps:=3000000 }) (disch:=omega) only [go_sem,hf0])))
    refine W_loop [8,9,10,32,33,34,35,36,37,38,39,40,41,42,43,44,45,46,47,48,49,50,51,52,53] (fun i:Nat=>[(5,sl 0 1 (Ns done)),(8,.f (Bo (frI done v s i))),(9,.f (I i))]) (fun i:Nat=>[ob 3 1 (Ns done)]) (fun i:Nat=>i≤(els s).length) (fun i:Nat=>(els s).length-i) (0) (Nat.zero_le _) (by refine weak_of ?_ ?_<;>simp (disch:=omega) only [go_sem]<;>first|rfl|exact ⟨rfl,rfl⟩|exact Or.inl rfl|exact ⟨Or.inl rfl,Or.inl rfl⟩|trivial|assumption|omega|(symm;assumption)|((repeat' apply And.intro)<;>first|rfl|omega|trivial|exact .inl rfl|exact .inr ⟨rfl,rfl⟩|exact .inr rfl|(right;symm;assumption)|(symm;assumption)|assumption)) ?_
    rintro i hi
    simp only [go_sem]
    (repeat (with_reducible first|refine W_seq fun K hK=>?_|refine J_region ?_ |refine J_c ?_|(refine Kont.go (by assumption) ?_)|(simp (config:={ maxSteps:=3000000 }) (disch:=omega) only [go_sem,↓reduceIte,gx,Ns_len])))
    refine Jc_if (fun hil=>?_) (fun hil=>?_)<;>try simp only [decide_eq_true_eq,decide_eq_false_iff_not] at hil
    ·obtain ⟨u,hu⟩:∃u,(els s)[i]?=some u:=⟨_,List.getElem?_eq_getElem hil⟩
     have hu8:=(els_mem.1 (List.mem_of_getElem? hu)).1
     have gu:=Ns_get (l:=els s) (i:=i) hil
     have gu2:(els s).getD i 0=u:=by rw [List.getD_eq_getElem?_getD,hu];rfl
     rw [gu2] at gu
     have hin2:=rinN_w u done (by omega) (by omega)
     have hfn:=frI_next (done:=done) (v:=v) hu
     (repeat (with_reducible first|refine W_seq fun K hK=>?_|refine J_block ?_|refine J_skip ?_|refine J_region ?_ |(refine Kont.go (by assumption) ?_)|(simp (config:={ maxSteps:=3000000 }) (disch:=omega) only [go_sem,↓reduceIte,gx,gu])))
     (first|refine call_fl (hin2) (by first|exact .v _|exact .agg _ (by intro j c h;simp at h;subst h;exact .v _)) (by repeat (first|exact FrzL.nil _|refine FrzL.cons (by first|exact .f _|exact .nil _|exact .sl rfl|exact .sl (by simp;done)) ?_)) ?_|refine callQ_fl (hin2) (by first|exact .v _|exact .agg _ (by intro j c h;simp at h;subst h;exact .v _)) (by repeat (first|exact FrzL.nil _|refine FrzL.cons (by first|exact .f _|exact .nil _|exact .sl rfl|exact .sl (by simp;done)) ?_)) ?_|refine callH_fl (hin2) (by first|exact .v _|exact .agg _ (by intro j c h;simp at h;subst h;exact .v _)) (by repeat (first|exact FrzL.nil _|refine FrzL.cons (by first|exact .f _|exact .nil _|exact .sl rfl|exact .sl (by simp;done)) ?_)) ?_)
     cases hbf:frI done v s i with
     | false =>
      rw [hbf,Bool.false_and] at hfn
      (repeat (with_reducible first|refine J_region ?_ |(refine Kont.go (by assumption) ?_)|(simp (config:={ maxSteps:=3000000 }) (disch:=omega) only [go_sem])))
      refine ⟨i+1,by omega,by omega,weak_of ?_ ?_⟩<;>(try simp (disch:=omega) only [go_sem,←hfn])<;>(try first|done|omega|rfl|exact ⟨rfl,rfl⟩|trivial)
     | true =>
      rw [hbf,Bool.true_and] at hfn
      (repeat (with_reducible first|refine J_region ?_ |(refine Kont.go (by assumption) ?_)|(simp (config:={ maxSteps:=3000000 }) (disch:=omega) only [go_sem])))
      refine ⟨i+1,by omega,by omega,weak_of ?_ ?_⟩<;>(try simp (disch:=omega) only [go_sem,←hfn])<;>(try first|done|omega|rfl|exact ⟨rfl,rfl⟩|trivial)
    ·have he:i=(els s).length:=by omega
     subst he
     rw [hfa]
     cases hfr:freB P n done v with
     | false =>
      (repeat (with_reducible first|refine W_seq fun K hK=>?_|refine J_skip ?_|refine J_exit ?_|refine J_region ?_ |refine J_c ?_|refine Jc_false ?_|(refine Kont.go (by assumption) ?_)|(simp (config:={ maxSteps:=3000000 }) (disch:=omega) only [go_sem,↓reduceIte])))
      refine ⟨(v,nv),⟨by simp only;omega,?_⟩,by simp only;omega,weak_of ?_ ?_⟩<;>(try simp (disch:=omega) only [go_sem])<;>(try first|done|omega|rfl|exact ⟨rfl,rfl⟩|trivial)
      rcases hnv with ⟨h1,h2⟩|⟨u,h1,h2,h3,h4,h5⟩
      ·refine .inl ⟨h1,fun j hj hj'=>?_⟩
       by_cases e:j=v
       ·rw [e];exact hfr
       ·exact h2 j (by omega) hj'
      ·refine .inr ⟨u,h1,by omega,h3,h4,fun j hj hj'=>?_⟩
       by_cases e:j=v
       ·rw [e];exact hfr
       ·exact h5 j (by omega) hj'
     | true =>
      (repeat (with_reducible first|refine W_seq fun K hK=>?_|refine J_exit ?_|refine J_region ?_ |refine J_c ?_|refine Jc_true ?_|(refine Kont.go (by assumption) ?_)|(simp (config:={ maxSteps:=3000000 }) (disch:=omega) only [go_sem,↓reduceIte])))
      refine ⟨(v,(v:Int)),⟨by simp only;omega,.inr ⟨v,rfl,Nat.le_refl _,by omega,hfr,fun j hj hj'=>by simp only at hj;omega⟩⟩,by simp only;omega,weak_of ?_ ?_⟩<;>(try simp (disch:=omega) only [go_sem])<;>(try first|done|omega|rfl|exact ⟨rfl,rfl⟩|trivial)
   ·have:x=0:=by omega
    subst this
    rcases hnv with ⟨rfl,h2⟩|⟨u,rfl,h2,h3,h4,h5⟩
    ·have:=hd.stop hlt (nxt_none fun j hj=>h2 j (Nat.zero_le _) hj)
     obtain ⟨e1,e2⟩:=ho _ this
     (repeat (with_reducible first|refine W_seq fun K hK=>?_|refine J_exit ?_|refine J_ret ?_|refine J_region ?_ |refine J_c ?_|refine Jc_true ?_|(refine Kont.go (by assumption) ?_)|(simp (config:={ maxSteps:=3000000 }) (disch:=omega) only [go_sem,↓reduceIte,Int.reduceLT,Int.reduceLE,Int.reduceSub,Int.reduceNeg])))
     rw [e1,e2]
     exact ⟨_,rfl,FrzL.cons (.nil _) (FrzL.cons (.f _) (FrzL.nil _))⟩
    ·have hnx:=nxt_some h3 h4 fun j hj=>h5 j (Nat.zero_le _) hj
     have hu0:¬(u:Int)<0:=by omega
     have hap:((Ns done).length+1)*8≤140737488355328:=by omega
     (repeat (first|(with_reducible first|refine W_seq fun K hK=>?_|refine J_skip ?_|refine J_exit ?_|refine J_region ?_ |refine aApp_sl ?_|refine J_c ?_|refine Jc_false ?_|(refine Kont.go (by assumption) ?_)|(simp (config:={ maxSteps:=3000000 }) (disch:=omega) only [go_sem,Nat.reduceEqDiff,↓reduceIte,Nat.reduceLeDiff,Int.reduceLE,Int.reduceSub,Int.reduceNeg,hu0,hap,Ns_snoc]))|refine And.intro (by omega) ?_))
     refine ⟨done++[u],hd.next hg hlt hnx,by simp;omega,weak_of ?_ ?_⟩<;>(try simp (disch:=omega) only [go_sem])<;>(try first|done|omega|rfl|exact ⟨rfl,rfl⟩|trivial)
  ·obtain ⟨e1,e2⟩:=ho _ (hd.end hlt)
   (repeat (with_reducible first|refine W_seq fun K hK=>?_|refine J_exit ?_|refine J_ret ?_|refine J_region ?_ |(refine Kont.go (by assumption) ?_)|(simp (config:={ maxSteps:=3000000 }) (disch:=omega) only [go_sem,↓reduceIte])))
   rw [e1,e2]
   exact ⟨_,rfl,FrzL.cons (.sl rfl) (FrzL.cons (.f _) (FrzL.nil _))⟩
set_option maxRecDepth 100000 in
theorem check_w2 (L:List (List Int)) (hL:OkIss L):Good Tryd.prog 11 [.fz 1 (L.map ints)] (I (ordE L)):=by
 have h:=order_w L hL
 refine good_of Tryd.func11 rfl (by kernel_rfl) fun X hO hrd=>?_;rw [Tryd.ntmps11,Tryd.results11];simp only [ast0,List.map_cons,List.map_nil,List.length_cons,List.length_nil,Nat.reduceAdd,Nat.reduceSub,List.replicate_succ,List.replicate_zero,List.cons_append,List.nil_append]
 (repeat (with_reducible first|refine W_seq fun K hK=>?_|refine J_region ?_ |(refine Kont.go (by assumption) ?_)|(simp (config:={ maxSteps:=3000000 }) (disch:=omega) only [go_sem])))
 (first|refine call_f (h) rfl ?_|refine callQ_f (h) rfl ?_|refine callHK_f (h) rfl ?_|refine callH_f (h) rfl ?_)
 (repeat (with_reducible first|refine W_seq fun K hK=>?_|refine J_ret ?_|refine J_region ?_ |exact Frz.f _|(refine Kont.go (by assumption) ?_)|(simp (config:={ maxSteps:=3000000 }) (disch:=omega) only [go_sem])))
set_option maxRecDepth 100000 in
theorem rcheck_w2 (L:List (List Int)) (hL:OkIss L):Good Tryd.prog 12 [.fz 1 (L.map ints)] (I (ordE L)):=by
 have h:=rorder_w L hL
 refine good_of Tryd.func12 rfl (by kernel_rfl) fun X hO hrd=>?_;rw [Tryd.ntmps12,Tryd.results12];simp only [ast0,List.map_cons,List.map_nil,List.length_cons,List.length_nil,Nat.reduceAdd,Nat.reduceSub,List.replicate_succ,List.replicate_zero,List.cons_append,List.nil_append]
 (repeat (with_reducible first|refine W_seq fun K hK=>?_|refine J_region ?_ |(refine Kont.go (by assumption) ?_)|(simp (config:={ maxSteps:=3000000 }) (disch:=omega) only [go_sem])))
 (first|refine call_f (h) rfl ?_|refine callQ_f (h) rfl ?_|refine callHK_f (h) rfl ?_|refine callH_f (h) rfl ?_)
 (repeat (with_reducible first|refine W_seq fun K hK=>?_|refine J_ret ?_|refine J_region ?_ |exact Frz.f _|(refine Kont.go (by assumption) ?_)|(simp (config:={ maxSteps:=3000000 }) (disch:=omega) only [go_sem])))
end Go.Proofs.YtgjnbcfencallaaDoor
