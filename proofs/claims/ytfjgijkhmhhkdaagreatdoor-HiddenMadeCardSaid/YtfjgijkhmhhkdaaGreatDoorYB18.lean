/- hidden.ahead once more: its rows are handed to its caller as its own. Conditions: numbers of 1000 bytes each. -/
import Derived.Test.YtfjgijkhmhhkdaaGreatDoorYB14
import Derived.Test.YtfjgijkhmhhkdaaGreatDoorYB16
import Derived.Test.YtfjgijkhmhhkdaaGreatDoorYB15
import Derived.Test.YtfjgijkhmhhkdaaGreatDoorYB17
import Derived.Test.YtfjgijkhmhhkdaaGreatDoorYB11
set_option linter.unusedVariables false
set_option linter.unusedSimpArgs false
namespace Go.Proofs.YtfjgijkhmhhkdaaGreatDoor
open Go Go.RowKit
def gNn (a:Nat) (ns:List Nat) (r:Nat):Nat:=if r<a then ns.getD r 0 else r
section
variable {A A' B : AH} {e : TypeId} {sz a n : Nat} {R : List (List FV)} {ns : List Nat}
theorem gNn_ge {r:Nat} (h:a≤r):gNn a ns r=r:=if_neg (by omega)
theorem weak_dyn {t t':List AV} (ha:A.length=a) (ha':A'.length=a) (hn:R.length=n) (hlt:∀x∈ns,x<a∨a+n≤x) (hnd:ns.Nodup) (hl:ns.length=a)
  (ht:WeakLr (gNn a ns) (a+n) t t') (hA:WeakHr (gNn a ns) (a+n) (dy A e sz R B) 0 A'):Weak ⟨t,dy A e sz R B⟩ ⟨t',dy A' e sz R []⟩:=by
 have hN:(dy A' e sz R []).length=a+n:=by rw [dy_len,ha',hn];rfl
 have hns:∀r,r<a→gNn a ns r∈ns∧∃h:r<ns.length,gNn a ns r=ns[r]:=fun r hr=>by
  have e1:gNn a ns r=ns[r]'(by omega):=by unfold gNn;rw [if_pos hr,List.getD_eq_getElem?_getD,List.getElem?_eq_getElem (by omega)];rfl
  exact ⟨by rw [e1];exact List.getElem_mem _,by omega,e1⟩
 refine ⟨gNn a ns,(weakLr ht).1,fun i x hi=>?_,fun r o hr=>?_,fun r r' hr hr' h=>?_⟩
 ·rw [show (AS.mk t' (dy A' e sz R [])).H.length=a+n from hN];exact (weakLr ht).2 i x hi
 ·rw [show (AS.mk t' (dy A' e sz R [])).H.length=a+n from hN]
  replace hr:(dy A' e sz R [])[r]?=some (some o):=hr
  show (dy A e sz R B)[_]?=_∧_
  rcases Nat.lt_or_ge r a with h1|h1
  ·rw [dy_get0 (by omega)] at hr
   exact weakHr_get hA r o hr
  ·obtain ⟨q,rfl⟩:∃q,r=a+q:=⟨r-a,by omega⟩
   rw [gNn_ge h1]
   rcases Nat.lt_or_ge q n with h2|h2
   ·have hq:R[q]?=some R[q]:=List.getElem?_eq_getElem (by omega)
    rw [dy_getR ha' hq] at hr
    cases hr
    rw [dy_getR ha hq]
    exact ⟨by show _=some (some (AO.mk e sz ((R[q].map AV.f).map _)));rw [map_ren_f],fun x hx=>by obtain ⟨y,_,rfl⟩:=List.mem_map.1 (show x∈R[q].map AV.f from hx);rfl⟩
   ·rw [List.getElem?_eq_none (by rw [hN];omega)] at hr;cases hr
 ·replace hr:r<(dy A' e sz R []).length:=hr
  replace hr':r'<(dy A' e sz R []).length:=hr'
  rw [hN] at hr hr'
  rcases Nat.lt_or_ge r a with h1|h1<;>rcases Nat.lt_or_ge r' a with h2|h2
  ·obtain ⟨_,l1,e1⟩:=hns r h1
   obtain ⟨_,l2,e2⟩:=hns r' h2
   rw [e1,e2] at h
   exact (List.getElem_inj hnd).1 h
  ·have m1:=hlt _ (hns r h1).1
   rw [gNn_ge h2] at h
   omega
  ·have m1:=hlt _ (hns r' h2).1
   rw [gNn_ge h1] at h
   omega
  ·rw [gNn_ge h1,gNn_ge h2] at h;exact h
end
section
variable {A B : AH} {e : TypeId} {sz c n x j N : Nat} {R : List (List FV)} {l : List FV}
theorem dy_closeB:dy A e sz R (some ⟨e,sz,l.map .f⟩::B)=dy A e sz (R++[l]) B:=by simp [dy,rowsO]
def oN (c n x:Nat):List AV:=(List.range x).map fun j=>.own (c+j) 3 0 n
theorem oN_len:(oN c n x).length=x:=by simp [oN]
theorem oN_get (h:j<x):(oN c n x)[j]?=some (.own (c+j) 3 0 n):=by simp [oN,h]
theorem oN_next:oN c n x++[.own (c+x) 3 0 n]=oN c n (x+1):=by simp [oN,List.range_succ]
theorem oN_take:(oN c n x).take x=oN c n x:=List.take_of_length_le (by rw [oN_len];omega)
theorem oN_ren {g:Nat→Nat} (h:∀r,c≤r→r<c+x→g r=r):(oN c n x).map (AV.ren g)=oN c n x:=by
 unfold oN
 rw [List.map_map]
 refine List.map_congr_left fun j hj=>?_
 have:=List.mem_range.1 hj
 show AV.own (g (c+j)) 3 0 n=_
 rw [h (c+j) (by omega) (by omega)]
theorem objLt_oN (h:c+x≤N):objLt N ⟨e,1,oN c n x⟩=True:=propext ⟨fun _=>trivial,fun _ y hy=>by
 obtain ⟨j,hj,rfl⟩:=List.mem_map.1 (show y∈oN c n x from hy)
 have:=List.mem_range.1 hj
 exact decide_eq_true (show c+j<N by omega)⟩
def rwA (h:HM) (op:Rat→Rat→Rat) (x:Nat):List (List FV):=(List.range x).map fun t=>(aRow h op t).map fr
theorem rwA_len {h:HM} {op:Rat→Rat→Rat}:(rwA h op x).length=x:=by simp [rwA]
theorem rwA_get {h:HM} {op:Rat→Rat→Rat} (hj:j<x):(rwA h op x)[j]?=some ((aRow h op j).map fr):=by simp [rwA,hj]
theorem rwA_next {h:HM} {op:Rat→Rat→Rat}:rwA h op x++[(aRow h op x).map fr]=rwA h op (x+1):=by simp [rwA,List.range_succ]
end
theorem weak_tail {A0:Option AO} {e e1:TypeId} {sz T n:Nat} {R:List (List FV)} (hR:R.length=T) :
  Weak ⟨[.own 1 1 0 T],dy [A0,some ⟨e1,1,oN 2 n T⟩] e sz R []⟩ ⟨[.own 0 1 0 T],((⟨e1,1,oN 1 n T⟩:AO)::R.map fun l=>⟨e,sz,l.map .f⟩).map some⟩:=by
 have hN:(((⟨e1,1,oN 1 n T⟩:AO)::R.map fun l=>⟨e,sz,l.map .f⟩).map some).length=T+1:=by simp [hR]
 refine ⟨(·+ 1),rfl,fun i x hi=>?_,fun r o hr=>?_,fun r r' _ _ h=>by omega⟩
 ·match i,hi with
  | 0,hi=>cases hi;exact .inr ⟨rfl,decide_eq_true (show 0<(((⟨e1,1,oN 1 n T⟩:AO)::R.map fun l=>⟨e,sz,l.map .f⟩).map some).length by rw [hN];omega)⟩
  | i+1,hi=>simp at hi
 ·rw [show (AS.mk [AV.own 0 1 0 T] (((⟨e1,1,oN 1 n T⟩:AO)::R.map fun l=>⟨e,sz,l.map .f⟩).map some)).H.length=T+1 from hN]
  replace hr:(((⟨e1,1,oN 1 n T⟩:AO)::R.map fun l=>⟨e,sz,l.map .f⟩).map some)[r]?=some (some o):=hr
  cases r with
  | zero =>
   cases hr
   refine ⟨?_,fun y hy=>?_⟩
   ·show some (some (AO.mk e1 1 (oN 2 n T)))=some (some (AO.mk e1 1 ((oN 1 n T).map _)))
    rw [show (oN 1 n T).map (AV.ren (·+ 1))=oN 2 n T by
     unfold oN
     rw [List.map_map]
     refine List.map_congr_left fun j _=>?_
     show AV.own (1+j+1) 3 0 n=.own (2+j) 3 0 n
     rw [show 1+j+1=2+j by omega]]
   ·obtain ⟨j,hj,rfl⟩:=List.mem_map.1 (show y∈oN 1 n T from hy)
    have:=List.mem_range.1 hj
    exact decide_eq_true (show 1+j<T+1 by omega)
  | succ r =>
   rw [List.map_cons,List.getElem?_cons_succ,List.getElem?_map,List.getElem?_map] at hr
   cases hq:R[r]? with
   | none=>rw [hq] at hr;cases hr
   | some l =>
    rw [hq] at hr
    cases hr
    refine ⟨?_,fun y hy=>by obtain ⟨z,_,rfl⟩:=List.mem_map.1 (show y∈l.map AV.f from hy);rfl⟩
    show (dy [A0,some ⟨e1,1,oN 2 n T⟩] e sz R [])[r+1+1]?=_
    rw [show r+1+1=2+r by omega,dy_getR (a:=2) rfl hq]
    show _=some (some (AO.mk e sz ((l.map AV.f).map _)))
    rw [map_ren_f]
def oSl (t:Nat):AV:=if t=0 then .f nilV else .own 1 1 0 t
def oOb (e:TypeId) (n t:Nat):Option AO:=if t=0 then none else some ⟨e,1,oN 2 n t⟩
theorem oSl_zero:oSl 0=.f nilV:=rfl
theorem oSl_succ {t:Nat}:oSl (t+1)=.own 1 1 0 (t+1):=rfl
theorem oOb_succ {e:TypeId} {n t:Nat}:oOb e n (t+1)=some ⟨e,1,oN 2 n (t+1)⟩:=rfl
attribute [go_sem] objLt_oN oN_len rwA_len
set_option maxRecDepth 100000 in
set_option maxHeartbeats 8000000 in
theorem aheadN_w {k:Nat} {fs ms ss:List FV} {st:List Rat} {mv sh:List (List Rat)} {seen:List Int} (h:HOk k fs ms ss st mv sh seen) (h1:1≤k) (hk:k≤1000) (hs:∀x∈seen,-9223372036854775808≤x∧x≤9223372036854775807) {jj:FuncId} {op:Rat→Rat→Rat} (hj:Join jj op) (hT:1≤seen.length) :
  GoodN Tryz.prog 39 [hidV fs ms ss,ints seen,.fn jj [] []] (.own 0 1 0 seen.length) (⟨22,1,oN 1 st.length seen.length⟩::(rwA (hm st mv sh seen) op seen.length).map fun l=>⟨30,3,l.map .f⟩):=by
 have hn4:=h.n4
 have hn1:=h.n1
 have ht8:=h.t8
 obtain ⟨m,hm_⟩:∃m,m=hm st mv sh seen:=⟨_,rfl⟩
 rw [←hm_]
 have hmn:m.n=st.length:=by rw [hm_];rfl
 refine goodN_of Tryz.func39 rfl (by kernel_rfl) fun X hO hrd=>?_;rw [Tryz.ntmps39,Tryz.results39];simp only [ast0,List.map_cons,List.map_nil,List.length_cons,List.length_nil,Nat.reduceAdd,Nat.reduceSub,List.replicate_succ,List.replicate_zero,List.cons_append,List.nil_append]
 (repeat (with_reducible first|refine W_seq fun K hK=>?_|refine J_block ?_|refine J_region ?_ |(refine Kont.go (by assumption) ?_)|(simp (config:={ maxSteps:=3000000 }) (disch:=omega) only [go_sem,Nat.reduceAdd,List.length_map])))
 refine J_reserve ?_
 simp only [go_sem]
 have hH:∀a:Option AO,[a,none]=dy [a,oOb 22 st.length 0] 30 3 (rwA m op 0) []:=fun _=>rfl
 have hS0:AV.f nilV=oSl 0:=rfl
 rw [hH]
 refine W_loop [7,8,9,10,11,12,13,16,17,18,19,20,21,22,23,24,25,26,27,28,29,30,31,32,33,34,35,36,37,38,39,40,41,42,43,44,45,46,47,48,49,50,51,52,53,54,55,56,57,58,59,60,61,62,63,64,65,66,67,68,69,70,71,72,73,74,75,76,77,78,79,80,81,82,83,84,85,86,87,88,89,90,91,92,93,94,95,96,97] (fun x:Nat=>[(16,.f (I x)),(7,oSl x)]) (fun x:Nat=>dy [some ⟨25,3,[.f (hidV fs ms ss)]⟩,oOb 22 st.length x] 30 3 (rwA m op x) []) (fun x:Nat=>x≤seen.length) (fun x:Nat=>seen.length-x) (0) (Nat.zero_le _) (by refine weak_of ?_ ?_<;>simp (disch:=omega) only [go_sem,Nat.reduceAdd]<;>first|rfl|exact ⟨rfl,rfl⟩|exact Or.inl rfl|exact ⟨Or.inl rfl,Or.inl rfl⟩|trivial|assumption|omega|(symm;assumption)|((repeat' apply And.intro)<;>first|rfl|omega|trivial|exact .inl rfl|exact .inr ⟨rfl,rfl⟩|exact .inr rfl|(right;symm;assumption)|(symm;assumption)|assumption)) ?_
 rintro t ht
 simp only [go_sem]
 (repeat (with_reducible first|refine W_seq fun K hK=>?_|refine J_region ?_ |refine J_c ?_|(refine Kont.go (by assumption) ?_)|(simp (config:={ maxSteps:=3000000 }) (disch:=omega) only [go_sem])))
 refine Jc_if (fun hlt=>?_) (fun hlt=>?_)<;>try simp only [decide_eq_true_eq,decide_eq_false_iff_not] at hlt
 ·have hsb:=hs _ (List.getElem_mem hlt)
  have hse:=h.se t hlt
  rw [lget_lt seen 0 hlt] at hse
  have hrep:List.replicate st.length (AV.f frN)=(fillL st.length 0 (fun i=>fr (m.gA op t i)) frN).map .f:=by rw [fill_zero,List.map_replicate]
  by_cases t0:t=0
  ·subst t0
   have e0:dy [some ⟨25,3,[.f (hidV fs ms ss)]⟩,oOb 22 st.length 0] 30 3 (rwA m op 0) []=[some ⟨25,3,[.f (hidV fs ms ss)]⟩,none]:=rfl
   rw [e0,oSl_zero]
   (repeat (first|(with_reducible first|refine W_seq fun K hK=>?_|refine J_block ?_|refine J_skip ?_|refine J_region ?_ |(refine Kont.go (by assumption) ?_)|(simp (config:={ maxSteps:=3000000 }) (disch:=omega) only [go_sem,↓reduceIte,Nat.reduceAdd,Int.reduceLE,map_get I seen hlt,h.f.ist.len,hrep]))|refine And.intro (by omega) ?_))
   refine W_loop [11,12,13,27,28,29,30,31,32,33,34,35,36,37,38,39,40,41,42,43,44,45,46,47,48,49,50,51,52,53,54,55,56,57,58,59,60,61,62,63,64,65,66,67,68,69,70,71,72,73,74,75,76,77,78,79,80,81,82,83,84,85,86,87,88,89,90,91,92] (fun x:Nat=>[(27,.f (I x))]) (fun x:Nat=>[some ⟨25,3,[.f (hidV fs ms ss)]⟩,none,some ⟨30,3,(fillL st.length x (fun i=>fr (m.gA op 0 i)) frN).map .f⟩]) (fun x:Nat=>x≤st.length) (fun x:Nat=>st.length-x) (0) (Nat.zero_le _) (by refine weak_of ?_ ?_<;>simp (disch:=omega) only [go_sem,Nat.reduceAdd]<;>first|rfl|exact ⟨rfl,rfl⟩|exact Or.inl rfl|exact ⟨Or.inl rfl,Or.inl rfl⟩|trivial|assumption|omega|(symm;assumption)|((repeat' apply And.intro)<;>first|rfl|omega|trivial|exact .inl rfl|exact .inr ⟨rfl,rfl⟩|exact .inr rfl|(right;symm;assumption)|(symm;assumption)|assumption)) ?_
   rintro i hi
   simp only [go_sem]
   (repeat (with_reducible first|refine W_seq fun K hK=>?_|refine J_region ?_ |refine J_c ?_|(refine Kont.go (by assumption) ?_)|(simp (config:={ maxSteps:=3000000 }) (disch:=omega) only [go_sem])))
   refine Jc_if (fun hil=>?_) (fun hil=>?_)<;>try simp only [decide_eq_true_eq,decide_eq_false_iff_not] at hil
   ·obtain ⟨g1,n1,d1,x1,f1⟩:=h.a3 hil
    obtain ⟨xs2,g2,n2,d2,y2,x2,f2⟩:=h.s3 hil hlt
    rw [lget_lt seen 0 hlt] at x2 f2
    have c1:IsFr (fr (st.getD i 0)) (st.getD i 0) k:=IsFr.c (h.hA h1 hil)
    have hgetL:∀y,(((fillL st.length i (fun i=>fr (m.gA op 0 i)) frN).map AV.f).set i y)[i]?=some y:=fun y=>List.getElem?_set_self (by simp [fill_len,hil])
    have hsetL:=fillA_set (f:=fun i=>fr (m.gA op 0 i)) (z:=frN) hil rfl
    have e1:st.getD i 0*at2 sh i seen[0].toNat=m.gA op 0 i:=by rw [hm_];show _=_*at2 sh i (seen.getD 0 0).toNat;rw [lget_lt seen 0 hlt];rfl
    (repeat (first|(with_reducible first|refine W_seq fun K hK=>?_|refine J_block ?_|refine J_skip ?_|refine J_region ?_ |refine J_drawn mixed (by kernel_rfl) ?_|refine J_c ?_|refine Jc_false ?_|(refine Kont.go (by assumption) ?_)|(simp (config:={ maxSteps:=3000000 }) (disch:=omega) only [go_sem,↓reduceIte,Nat.reduceAdd,x1,fillA_get hil,hgetL,List.set_set,hil,y2,x2,e1]))|refine callQ_f (mul_w (by assumption) (by assumption) (by omega) (by omega)) rfl ?_|refine call_f (canon_w (by assumption) (by omega)) rfl ?_|refine And.intro (by omega) ?_))
    refine ⟨i+1,by omega,by omega,weak_of ?_ ?_⟩<;>(try simp (disch:=omega) only [go_sem,Nat.reduceAdd])<;>(try first|done|omega|rfl|exact ⟨rfl,rfl⟩|trivial)
   ·have he:i=st.length:=by omega
    subst he
    have hfa:fillL st.length st.length (fun i=>fr (m.gA op 0 i)) frN=(aRow m op 0).map fr:=by rw [fill_all,aRow,List.map_map,hmn];rfl
    have e2:dy [some ⟨25,3,[.f (hidV fs ms ss)]⟩,oOb 22 st.length 1] 30 3 (rwA m op 1) []=[some ⟨25,3,[.f (hidV fs ms ss)]⟩,some ⟨22,1,[.own 2 3 0 st.length]⟩,some ⟨30,3,((aRow m op 0).map fr).map .f⟩]:=rfl
    have e3:oSl 1=.own 1 1 0 1:=rfl
    (repeat (first|(with_reducible first|refine J_exit ?_|refine J_region ?_ |refine aApp_old ?_|(refine Kont.go (by assumption) ?_)|(simp (config:={ maxSteps:=3000000 }) (disch:=omega) only [go_sem,↓reduceIte,Nat.reduceAdd,Nat.reduceLeDiff,Int.reduceAdd,hfa]))|refine And.intro (by omega) ?_))
    refine ⟨1,by omega,by omega,?_⟩
    simp only [e2,e3]
    refine weak_ren [0,4,2] ⟨by decide,by first|decide|(simp;done)⟩ ?_ ?_<;>(try simp (disch:=omega) only [go_sem,Nat.reduceAdd])<;>(try first|done|omega|rfl|exact ⟨rfl,rfl⟩|trivial)
  ·obtain ⟨t',ht'⟩:∃t',t=t'+1:=⟨t-1,by omega⟩
   have e1:oSl t=.own 1 1 0 t:=by rw [ht'];rfl
   have e2:oOb 22 st.length t=some ⟨22,1,oN 2 st.length t⟩:=by rw [ht'];rfl
   rw [e1,e2]
   have hRn:(rwA m op t).length=t:=rwA_len
   have gB:∀(a b:Option AO) (B:AH) (j:Nat),(dy [a,b] 30 3 (rwA m op t) B)[2+(t+j)]?=B[j]?:=fun a b B j=>dy_getB rfl hRn
   have gB0:∀(a b:Option AO) (B:AH),(dy [a,b] 30 3 (rwA m op t) B)[2+t]?=B[0]?:=fun a b B=>dy_getB0 rfl hRn
   have sB0:∀(a b:Option AO) (B:AH) (o:Option AO),(dy [a,b] 30 3 (rwA m op t) B).set (2+t) o=dy [a,b] 30 3 (rwA m op t) (B.set 0 o):=fun a b B o=>dy_setB0 rfl hRn
   have sB:∀(a b:Option AO) (B:AH) (j:Nat) (o:Option AO),(dy [a,b] 30 3 (rwA m op t) B).set (2+(t+j)) o=dy [a,b] 30 3 (rwA m op t) (B.set j o):=fun a b B j o=>dy_setB rfl hRn
   (repeat (first|(with_reducible first|refine W_seq fun K hK=>?_|refine J_block ?_|refine J_skip ?_|refine J_region ?_ |(refine Kont.go (by assumption) ?_)|(simp (config:={ maxSteps:=3000000 }) (disch:=omega) only [go_sem,↓reduceIte,Nat.reduceAdd,map_get I seen hlt,h.f.ist.len,hrep,dy_app]))|refine And.intro (by omega) ?_))
   refine W_loop [11,12,13,27,28,29,30,31,32,33,34,35,36,37,38,39,40,41,42,43,44,45,46,47,48,49,50,51,52,53,54,55,56,57,58,59,60,61,62,63,64,65,66,67,68,69,70,71,72,73,74,75,76,77,78,79,80,81,82,83,84,85,86,87,88,89,90,91,92] (fun x:Nat=>[(27,.f (I x))]) (fun x:Nat=>dy [some ⟨25,3,[.f (hidV fs ms ss)]⟩,some ⟨22,1,oN 2 st.length t⟩] 30 3 (rwA m op t) [some ⟨30,3,(fillL st.length x (fun i=>fr (m.gA op t i)) frN).map .f⟩]) (fun x:Nat=>x≤st.length) (fun x:Nat=>st.length-x) (0) (Nat.zero_le _) (by refine weak_of ?_ ?_<;>simp (disch:=omega) only [go_sem,Nat.reduceAdd]<;>first|rfl|exact ⟨rfl,rfl⟩|exact Or.inl rfl|exact ⟨Or.inl rfl,Or.inl rfl⟩|trivial|assumption|omega|(symm;assumption)|((repeat' apply And.intro)<;>first|rfl|omega|trivial|exact .inl rfl|exact .inr ⟨rfl,rfl⟩|exact .inr rfl|(right;symm;assumption)|(symm;assumption)|assumption)) ?_
   rintro i hi
   simp only [go_sem]
   (repeat (with_reducible first|refine W_seq fun K hK=>?_|refine J_region ?_ |refine J_c ?_|(refine Kont.go (by assumption) ?_)|(simp (config:={ maxSteps:=3000000 }) (disch:=omega) only [go_sem])))
   refine Jc_if (fun hil=>?_) (fun hil=>?_)<;>try simp only [decide_eq_true_eq,decide_eq_false_iff_not] at hil
   ·obtain ⟨g1,n1,d1,x1,f1⟩:=h.a3 hil
    obtain ⟨xs2,g2,n2,d2,y2,x2,f2⟩:=h.s3 hil hlt
    rw [lget_lt seen 0 hlt] at x2 f2
    have c1:IsFr (fr (st.getD i 0)) (st.getD i 0) k:=IsFr.c (h.hA h1 hil)
    have hgetL:∀y,(((fillL st.length i (fun i=>fr (m.gA op t i)) frN).map AV.f).set i y)[i]?=some y:=fun y=>List.getElem?_set_self (by simp [fill_len,hil])
    have hsetL:=fillA_set (f:=fun i=>fr (m.gA op t i)) (z:=frN) hil rfl
    have tp:0<t:=by omega
    have e1:((t:Int)-1)=(t':Int):=by omega
    have htt:t'<t:=by omega
    have l1:=oN_get (c:=2) (n:=st.length) htt
    have gR:∀(a b:Option AO) (B:AH),(dy [a,b] 30 3 (rwA m op t) B)[2+t']?=some (some ⟨30,3,((aRow m op t').map fr).map .f⟩):=fun a b B=>dy_getR rfl (rwA_get htt)
    (repeat (first|(with_reducible first|refine W_seq fun K hK=>?_|refine J_block ?_|refine J_skip ?_|refine J_region ?_ |refine J_c ?_|refine Jc_true ?_|(refine Kont.go (by assumption) ?_)|(simp (config:={ maxSteps:=3000000 }) (disch:=omega) only [go_sem,↓reduceIte,Nat.reduceAdd,x1,fillA_get hil,hgetL,List.set_set,hil,e1,l1,htt,gB0,sB0,tp]))|refine call_f (of_good (by omega) (by omega)) rfl ?_|refine call_f (canon_w (by assumption) (by omega)) rfl ?_))
    refine W_loop [12,13,51,52,53,54,55,56,57,58,59,60,61,62,63,64,65,66,67,68,69,70,71,72,73,74,75] (fun x:Nat=>[(51,.f (I x))]) (fun x:Nat=>dy [some ⟨25,3,[.f (hidV fs ms ss)]⟩,some ⟨22,1,oN 2 st.length t⟩] 30 3 (rwA m op t) [some ⟨30,3,((fillL st.length i (fun i=>fr (m.gA op t i)) frN).map .f).set i (.f (fr (opF op (fun k=>m.gA op t' k*m.mv k i) x)))⟩]) (fun x:Nat=>x≤st.length) (fun x:Nat=>st.length-x) (0) (Nat.zero_le _) (by refine weak_of ?_ ?_<;>simp (disch:=omega) only [go_sem,Nat.reduceAdd]<;>first|rfl|exact ⟨rfl,rfl⟩|exact Or.inl rfl|exact ⟨Or.inl rfl,Or.inl rfl⟩|trivial|assumption|omega|(symm;assumption)|((repeat' apply And.intro)<;>first|rfl|omega|trivial|exact .inl rfl|exact .inr ⟨rfl,rfl⟩|exact .inr rfl|(right;symm;assumption)|(symm;assumption)|assumption)) ?_
    rintro q hq
    simp only [go_sem]
    (repeat (with_reducible first|refine W_seq fun K hK=>?_|refine J_region ?_ |refine J_c ?_|(refine Kont.go (by assumption) ?_)|(simp (config:={ maxSteps:=3000000 }) (disch:=omega) only [go_sem])))
    refine Jc_if (fun hql=>?_) (fun hql=>?_)<;>try simp only [decide_eq_true_eq,decide_eq_false_iff_not] at hql
    ·obtain ⟨xs3,g3,n3,d3,y3,x3,f3⟩:=h.m3 hql hil
     have fa:=h.fA h1 hj (t:=t') (by omega) hql
     rw [←hm_] at fa
     have ca:=IsFr.c fa
     have sa:=szH_le (k:=k) (t:=t') hk (by omega)
     have l2:=aRow_get (h:=m) (op:=op) (t:=t') (i:=q) (by omega)
     have fo:=opF_fz hj (f:=fun k=>m.gA op t' k*m.mv k i) (n:=q) (s:=szH k t'+k) fun q' hq'=>by
      have:=(h.fA h1 hj (t:=t') (by omega) (i:=q') (by omega)).mul (h.hM h1 (i:=q') (j:=i) (by omega) hil)
      rw [←hm_] at this;exact this
     have so:=Nat.mul_le_mul (show q≤4 by omega) (show szH k t'+k+1≤400001001 by omega)
     have fm:=h.hM h1 hql hil
     rw [←hm_] at fm
     have emv:at2 mv q i=m.mv q i:=by rw [hm_];rfl
     rw [emv] at f3
     have l3:(((aRow m op t').map fr).map AV.f)[q]?=some (.f (fr (m.gA op t' q))):=by rw [List.getElem?_map,l2];rfl
     have hqm:q<m.n:=by omega
     (repeat (first|(with_reducible first|refine W_seq fun K hK=>?_|refine J_block ?_|refine J_skip ?_|refine J_region ?_ |refine J_drawn mixed (by kernel_rfl) ?_|(refine Kont.go (by assumption) ?_)|(simp (config:={ maxSteps:=3000000 }) (disch:=omega) only [go_sem,↓reduceIte,Nat.reduceAdd,hgetL,List.set_set,hil,l3,x3,y3,gB,sB,gB0,sB0,gR,hql]))|refine callQ_f (mul_w (by assumption) (by assumption) (by omega) (by omega)) rfl ?_))
     refine callQ_f (hj.good fo (fa.mul fm) (by omega) (by omega)) rfl ?_
     (repeat (with_reducible first|refine J_region ?_ |(refine Kont.go (by assumption) ?_)|(simp (config:={ maxSteps:=3000000 }) (disch:=omega) only [go_sem,Nat.reduceAdd])))
     refine ⟨q+1,by omega,by omega,weak_of ?_ ?_⟩<;>(try simp (disch:=omega) only [go_sem,Nat.reduceAdd])<;>(try first|done|omega|rfl|exact ⟨rfl,rfl⟩|trivial)
    ·have he:q=st.length:=by omega
     subst he
     have e2:opF op (fun k=>m.gA op t' k*m.mv k i) st.length*at2 sh i seen[t].toNat=m.gA op t i:=by
      have ea:m.gA op t i=opF op (fun k=>m.gA op t' k*m.mv k i) m.n*m.sh i (m.s (t'+1)):=by rw [ht'];rfl
      have eb:m.sh i (m.s (t'+1))=at2 sh i seen[t].toNat:=by
       rw [hm_,←ht']
       show at2 sh i (seen.getD t 0).toNat=_
       rw [lget_lt seen 0 hlt]
      rw [ea,eb,hmn]
     have fo:=opF_fz hj (f:=fun k=>m.gA op t' k*m.mv k i) (n:=st.length) (s:=szH k t'+k) fun q' hq'=>by
      have:=(h.fA h1 hj (t:=t') (by omega) (i:=q') (by omega)).mul (h.hM h1 (i:=q') (j:=i) (by omega) hil)
      rw [←hm_] at this;exact this
     have co:=IsFr.c fo
     have sa:=szH_le (k:=k) (t:=t') hk (by omega)
     have so:=Nat.mul_le_mul (show st.length≤4 by omega) (show szH k t'+k+1≤400001001 by omega)
     (repeat (first|(with_reducible first|refine J_exit ?_|refine J_region ?_ |refine J_drawn mixed (by kernel_rfl) ?_|(refine Kont.go (by assumption) ?_)|(simp (config:={ maxSteps:=3000000 }) (disch:=omega) only [go_sem,↓reduceIte,Nat.reduceAdd,hgetL,List.set_set,hil,y2,x2,e2,gB0,sB0]))|refine callQ_f (mul_w (by assumption) (by assumption) (by omega) (by omega)) rfl ?_|refine And.intro (by omega) ?_))
     refine ⟨i+1,by omega,by omega,weak_of ?_ ?_⟩<;>(try simp (disch:=omega) only [go_sem,Nat.reduceAdd])<;>(try first|done|omega|rfl|exact ⟨rfl,rfl⟩|trivial)
   ·have he:i=st.length:=by omega
    subst he
    have hfa:fillL st.length st.length (fun i=>fr (m.gA op t i)) frN=(aRow m op t).map fr:=by rw [fill_all,aRow,List.map_map,hmn];rfl
    (repeat (first|(with_reducible first|refine J_exit ?_|refine J_region ?_ |refine aApp_old ?_|(refine Kont.go (by assumption) ?_)|(simp (config:={ maxSteps:=3000000 }) (disch:=omega) only [go_sem,↓reduceIte,Nat.reduceAdd,Nat.reduceLeDiff,hfa,oN_take,gB]))|refine And.intro (by omega) ?_))
    refine ⟨t+1,by omega,by omega,?_⟩
    have hz:2+(t+2)=2+(t+1+1):=by omega
    rw [dy_closeB,rwA_next,oN_next,oSl_succ,oOb_succ,hz]
    have g0:gNn 2 [0,2+(t+1+1)] 0=0:=rfl
    have g1:gNn 2 [0,2+(t+1+1)] 1=2+(t+1+1):=rfl
    have gL:∀(a b:Option AO) (B:AH) (j:Nat),(dy [a,b] 30 3 (rwA m op (t+1)) B)[2+(t+1+j)]?=B[j]?:=fun a b B j=>dy_getB rfl rwA_len
    have gr:(oN 2 st.length (t+1)).map (AV.ren (gNn 2 [0,2+(t+1+1)]))=oN 2 st.length (t+1):=oN_ren fun r hr _=>gNn_ge hr
    refine weak_dyn (ns:=[0,2+(t+1+1)]) rfl rfl rwA_len (fun x hx=>?_) ?_ rfl ?_ ?_
    ·show x<2∨2+(t+1)≤x
     rcases List.mem_cons.1 hx with rfl|hx
     ·omega
     ·have:=List.mem_singleton.1 hx;omega
    ·simp
    ·simp (disch:=omega) only [go_sem,Nat.reduceAdd,g0,g1]
     try omega
    ·simp (disch:=omega) only [go_sem,Nat.reduceAdd,g0,g1,gL,gr]
     try omega
 ·have he:t=seen.length:=by omega
  subst he
  have e1:oSl seen.length=.own 1 1 0 seen.length:=by unfold oSl;rw [if_neg (by omega)]
  have e2:oOb 22 st.length seen.length=some ⟨22,1,oN 2 st.length seen.length⟩:=by unfold oOb;rw [if_neg (by omega)]
  rw [e1,e2]
  (repeat (with_reducible first|refine W_seq fun K hK=>?_|refine J_exit ?_|refine J_ret ?_|refine J_region ?_ |(refine Kont.go (by assumption) ?_)|(simp (config:={ maxSteps:=3000000 }) (disch:=omega) only [go_sem,↓reduceIte])))
  exact weak_tail rwA_len
end Go.Proofs.YtfjgijkhmhhkdaaGreatDoor
set_option linter.unusedVariables false
set_option linter.unusedSimpArgs false
namespace Go.Proofs.YtfjgijkhmhhkdaaGreatDoor
open Go Go.RowKit
def wF (t:Nat) (w:List Nat):FV:=if t=0 then nilV else .fz 1 (Ns w)
def wyF (n t:Nat):List FV:=(wyL n t).map (wF t)
theorem wyL_count {n:Nat}:∀t,(wyL n t).length=n^t:=by
 intro t
 induction t with
 | zero=>rfl
 | succ t ih =>
  show ((wyL n t).flatMap fun w=>(List.range n).map fun s=>w++[s]).length=_
  rw [List.length_flatMap]
  have:∀(l:List (List Nat)),(l.map fun w=>((List.range n).map fun s=>w++[s]).length).sum=l.length*n:=by
   intro l
   induction l with
   | nil=>simp
   | cons a l ih=>rw [List.map_cons,List.sum_cons,ih,List.length_cons];simp;rw [Nat.add_mul];omega
  rw [this,ih,Nat.pow_succ]
theorem wyL_le {n t:Nat} (hn:n≤4) (ht:t≤8):(wyL n t).length≤65536:=by
 rw [wyL_count]
 exact Nat.le_trans (Nat.pow_le_pow_left hn t) (Nat.pow_le_pow_right (by decide:4>0) ht)
def onA (n t i:Nat):List FV:=((wyL n t).take i).flatMap fun w=>(List.range n).map fun s=>.fz 1 (Ns (w++[s]))
def onB (n t i s:Nat):List FV:=onA n t i++(List.range s).map fun s=>.fz 1 (Ns ((wyL n t).getD i []++[s]))
section
variable {n t i s : Nat}
theorem onB_zero:onB n t i 0=onA n t i:=by unfold onB;simp
theorem onB_next:onB n t i s++[.fz 1 (Ns ((wyL n t).getD i []++[s]))]=onB n t i (s+1):=by
 unfold onB;rw [List.range_succ,List.map_append,List.append_assoc];rfl
theorem onB_all (h:i<(wyL n t).length):onB n t i n=onA n t (i+1):=by
 unfold onB onA
 rw [List.take_add_one,List.getElem?_eq_getElem h,List.flatMap_append,lget_lt _ [] h]
 congr 1
 simp
theorem onA_all:onA n t (wyL n t).length=wyF n (t+1):=by
 unfold onA wyF
 rw [List.take_length]
 show _=((wyL n t).flatMap fun w=>(List.range n).map fun s=>w++[s]).map (wF (t+1))
 rw [List.map_flatMap]
 congr 1
 funext w
 rw [List.map_map]
 refine List.map_congr_left fun s _=>?_
 show _=wF (t+1) (w++[s])
 unfold wF;rw [if_neg (by omega)]
theorem onB_le:(onB n t i s).length≤(wyL n t).length*n+s:=by
 unfold onB onA
 rw [List.length_append,List.length_map,List.length_range,List.length_flatMap]
 have:∀(l:List (List Nat)),(l.map fun w=>((List.range n).map fun s=>FV.fz 1 (Ns (w++[s]))).length).sum=l.length*n:=by
  intro l
  induction l with
  | nil=>simp
  | cons a l ih=>rw [List.map_cons,List.sum_cons,ih,List.length_cons];simp;rw [Nat.add_mul];omega
 rw [this]
 have:=Nat.mul_le_mul_right n (show ((wyL n t).take i).length≤(wyL n t).length by rw [List.length_take];omega)
 omega
end
set_option maxRecDepth 100000 in
set_option maxHeartbeats 8000000 in
theorem rways_w {n T:Nat} (hn:n≤4) (hT:T≤8):Good Tryz.prog 32 [I (n:Int),I (T:Int)] (.fz 1 (wyF n T)):=by
 have h0:FV.fz 1 [nilV]=.fz 1 (wyF n 0):=rfl
 refine good_of Tryz.func32 rfl (by kernel_rfl) fun X hO hrd=>?_;rw [Tryz.ntmps32,Tryz.results32];simp only [ast0,List.map_cons,List.map_nil,List.length_cons,List.length_nil,Nat.reduceAdd,Nat.reduceSub,List.replicate_succ,List.replicate_zero,List.cons_append,List.nil_append]
 (repeat (first|(with_reducible first|refine W_seq fun K hK=>?_|refine J_block ?_|refine J_region ?_ |(refine Kont.go (by assumption) ?_)|(simp (config:={ maxSteps:=3000000 }) (disch:=omega) only [go_sem,↓reduceIte]))|refine And.intro (by omega) ?_))
 refine J_freezeO (j:=5) (l:=[nilV]) rfl rfl rfl ?_
 rw [h0]
 refine W_loop [5,6,7,8,9,11,12,13,14,15,16,17,18,19,20,21,22,23,24,25,26,27,28,29,30,31,32,33,34,35,36,37,38,39] (fun x:Nat=>[(5,.f (.fz 1 (wyF n x))),(6,.f (I x))]) (fun x:Nat=>[none]) (fun x:Nat=>x≤T) (fun x:Nat=>T-x) (0) (Nat.zero_le _) (by refine weak_of ?_ ?_<;>simp (disch:=omega) only [go_sem]<;>first|rfl|exact ⟨rfl,rfl⟩|exact Or.inl rfl|exact ⟨Or.inl rfl,Or.inl rfl⟩|trivial|assumption|omega|(symm;assumption)|((repeat' apply And.intro)<;>first|rfl|omega|trivial|exact .inl rfl|exact .inr ⟨rfl,rfl⟩|exact .inr rfl|(right;symm;assumption)|(symm;assumption)|assumption)) ?_
 rintro t ht
 simp only [go_sem]
 (repeat (with_reducible first|refine W_seq fun K hK=>?_|refine J_region ?_ |refine J_c ?_|(refine Kont.go (by assumption) ?_)|(simp (config:={ maxSteps:=3000000 }) (disch:=omega) only [go_sem])))
 refine Jc_if (fun htl=>?_) (fun htl=>?_)<;>try simp only [decide_eq_true_eq,decide_eq_false_iff_not] at htl
 ·have hwl:=wyL_le (n:=n) (t:=t) hn (by omega)
  have hfl:(wyF n t).length=(wyL n t).length:=by unfold wyF;rw [List.length_map]
  obtain ⟨W,hW⟩:∃W,W=(wyL n t).length:=⟨_,rfl⟩
  rw [←hW] at hwl hfl
  (repeat (with_reducible first|refine W_seq fun K hK=>?_|refine J_block ?_|refine J_skip ?_|refine J_region ?_ |(refine Kont.go (by assumption) ?_)|(simp (config:={ maxSteps:=3000000 }) (disch:=omega) only [go_sem])))
  refine J_reserve ?_
  refine W_loop [7,8,9,16,17,18,19,20,21,22,23,24,25,26,27,28,29,30,31,32,33,34,35,36,37,38] (fun x:Nat=>[(7,sl 1 1 (onA n t x)),(8,.f (I x))]) (fun x:Nat=>[none,ob 26 1 (onA n t x)]) (fun x:Nat=>x≤W) (fun x:Nat=>W-x) (0) (Nat.zero_le _) (by refine weak_of ?_ ?_<;>simp (disch:=omega) only [go_sem,Nat.reduceAdd]<;>first|rfl|exact ⟨rfl,rfl⟩|exact Or.inl rfl|exact ⟨Or.inl rfl,Or.inl rfl⟩|trivial|assumption|omega|(symm;assumption)|((repeat' apply And.intro)<;>first|rfl|omega|trivial|exact .inl rfl|exact .inr ⟨rfl,rfl⟩|exact .inr rfl|(right;symm;assumption)|(symm;assumption)|assumption)) ?_
  rintro i hi
  simp only [go_sem]
  (repeat (with_reducible first|refine W_seq fun K hK=>?_|refine J_region ?_ |refine J_c ?_|(refine Kont.go (by assumption) ?_)|(simp (config:={ maxSteps:=3000000 }) (disch:=omega) only [go_sem,hfl])))
  refine Jc_if (fun hil=>?_) (fun hil=>?_)<;>try simp only [decide_eq_true_eq,decide_eq_false_iff_not] at hil
  ·have gw:(wyF n t)[i]?=some (wF t ((wyL n t).getD i [])):=by unfold wyF;rw [map_get (wF t) (wyL n t) (by omega),lget_lt (wyL n t) [] (by omega)]
   have hwm:=wyL_len (n:=n) (t:=t) (w:=(wyL n t).getD i []) (by rw [lget_lt (wyL n t) [] (by omega)];exact List.getElem_mem _)
   obtain ⟨w,hw⟩:∃w,w=(wyL n t).getD i []:=⟨_,rfl⟩
   rw [←hw] at gw hwm
   have e0:onA n t i=onB n t i 0:=onB_zero.symm
   rw [e0]
   (repeat (with_reducible first|refine W_seq fun K hK=>?_|refine J_block ?_|refine J_skip ?_|refine J_region ?_ |(refine Kont.go (by assumption) ?_)|(simp (config:={ maxSteps:=3000000 }) (disch:=omega) only [go_sem])))
   refine W_loop [7,9,22,23,24,25,26,27,28,29,30,31,32,33,34,35,36,37,38] (fun x:Nat=>[(7,sl 1 1 (onB n t i x)),(9,.f (I x))]) (fun x:Nat=>[none,ob 26 1 (onB n t i x)]) (fun x:Nat=>x≤n) (fun x:Nat=>n-x) (0) (Nat.zero_le _) (by refine weak_of ?_ ?_<;>simp (disch:=omega) only [go_sem,Nat.reduceAdd]<;>first|rfl|exact ⟨rfl,rfl⟩|exact Or.inl rfl|exact ⟨Or.inl rfl,Or.inl rfl⟩|trivial|assumption|omega|(symm;assumption)|((repeat' apply And.intro)<;>first|rfl|omega|trivial|exact .inl rfl|exact .inr ⟨rfl,rfl⟩|exact .inr rfl|(right;symm;assumption)|(symm;assumption)|assumption)) ?_
   rintro s hs
   simp only [go_sem]
   (repeat (with_reducible first|refine W_seq fun K hK=>?_|refine J_region ?_ |refine J_c ?_|(refine Kont.go (by assumption) ?_)|(simp (config:={ maxSteps:=3000000 }) (disch:=omega) only [go_sem])))
   refine Jc_if (fun hsl=>?_) (fun hsl=>?_)<;>try simp only [decide_eq_true_eq,decide_eq_false_iff_not] at hsl
   ·have hnx:=onB_next (n:=n) (t:=t) (i:=i) (s:=s)
    rw [←hw] at hnx
    have hle:=onB_le (n:=n) (t:=t) (i:=i) (s:=s)
    rw [←hW] at hle
    have hmu:=Nat.mul_le_mul (show W≤65536 by omega) hn
    have hlB:(onB n t i (s+1)).length=(onB n t i s).length+1:=by rw [←hnx];simp
    have hne1:onB n t i (s+1)≠[]:=fun e=>by rw [e] at hlB;simp at hlB
    obtain ⟨v,hv⟩:∃v:List FV,v=Ns (w++[s]):=⟨_,rfl⟩
    obtain ⟨b,hb⟩:∃b,b=(onB n t i s).length:=⟨_,rfl⟩
    rw [←hb] at hle hlB
    have hqi:(onB n t i (s+1)).map AV.f=(onB n t i s).map AV.f++[AV.f (.fz 1 (Ns (w++[s])))]:=by rw [←hnx,List.map_append];rfl
    have hsl1:sl 1 1 (onB n t i (s+1))=.own 1 1 0 (b+1):=by rw [sl_pos hne1,hlB]
    have hob1:ob 26 1 (onB n t i (s+1))=some ⟨26,1,(onB n t i (s+1)).map .f⟩:=ob_pos hne1
    by_cases t0:t=0
    ·have ew:wF t w=nilV:=by unfold wF;rw [if_pos t0]
     have ew0:w=[]:=List.length_eq_zero_iff.1 (by omega)
     rw [ew] at gw
     rw [ew0] at hqi
     by_cases hBn:onB n t i s=[]
     ·have hb0:b=0:=by rw [hb,hBn];rfl
      rw [hBn] at hqi ⊢
      rw [hb0] at hsl1
      (repeat (first|(with_reducible first|refine W_seq fun K hK=>?_|refine J_block ?_|refine J_skip ?_|((fail_if_success refine J_region (id:=11) ?_);refine J_region ?_) |refine aApp_old ?_|(refine Kont.go (by assumption) ?_)|(simp (config:={ maxSteps:=3000000 }) (disch:=omega) only [go_sem,↓reduceIte,Nat.reduceAdd,Nat.reduceLeDiff,gw,sl_nil,ob_nil,Nat.reduceMul,Nat.le_refl,true_and,and_self]))|refine And.intro (by omega) ?_))
      refine J_freezeA (r:=5) (sz:=1) (l:=[I (s:Int)]) rfl ?_
      (repeat (with_reducible first|refine J_region ?_ |(simp (config:={ maxSteps:=3000000 }) (disch:=omega) only [go_sem,Nat.reduceEqDiff,↓reduceIte,true_and,and_true,and_self])))
      have hq1:(onB n t i (s+1)).map AV.f=[AV.f (.fz 1 [I (s:Int)])]:=hqi
      refine ⟨s+1,by omega,by omega,weak_ren [0,7] ⟨by decide,by first|decide|(simp;done)⟩ ?_ ?_⟩<;>(try simp (disch:=omega) only [go_sem,Nat.reduceAdd,hsl1,hob1,hq1])<;>(try first|done|omega|rfl|exact ⟨rfl,rfl⟩|trivial)
     ·have hsl:sl 1 1 (onB n t i s)=.own 1 1 0 b:=by rw [sl_pos hBn,hb]
      have hob:ob 26 1 (onB n t i s)=some ⟨26,1,(onB n t i s).map .f⟩:=ob_pos hBn
      have hbt:List.take b (List.map AV.f (onB n t i s))=List.map AV.f (onB n t i s):=List.take_of_length_le (by simp [hb])
      (repeat (first|(with_reducible first|refine W_seq fun K hK=>?_|refine J_block ?_|refine J_skip ?_|((fail_if_success refine J_region (id:=11) ?_);refine J_region ?_) |refine aApp_old ?_|(refine Kont.go (by assumption) ?_)|(simp (config:={ maxSteps:=3000000 }) (disch:=omega) only [go_sem,↓reduceIte,Nat.reduceAdd,Nat.reduceLeDiff,gw,hsl,hob,←hb,hbt,Nat.reduceMul,Nat.le_refl,true_and,and_self]))|refine And.intro (by omega) ?_))
      refine J_freezeA (r:=5) (sz:=1) (l:=[I (s:Int)]) rfl ?_
      have hqj:List.map AV.f (onB n t i s)++[AV.f (.fz 1 [I (s:Int)])]=List.map AV.f (onB n t i (s+1)):=hqi.symm
      (repeat (with_reducible first|refine J_region ?_ |(simp (config:={ maxSteps:=3000000 }) (disch:=omega) only [go_sem,Nat.reduceEqDiff,↓reduceIte,hqj,true_and,and_true,and_self])))
      refine ⟨s+1,by omega,by omega,weak_ren [0,7] ⟨by decide,by first|decide|(simp;done)⟩ ?_ ?_⟩<;>(try simp (disch:=omega) only [go_sem,Nat.reduceAdd,hsl1,hob1])<;>(try first|done|omega|rfl|exact ⟨rfl,rfl⟩|trivial)
    ·have ew:wF t w=.fz 1 (Ns w):=by unfold wF;rw [if_neg t0]
     rw [ew] at gw
     rw [←hv] at hqi
     have hnl:(Ns w).length=t:=by rw [Ns_len];exact hwm.1
     have htk:List.take t (List.map AV.f (Ns w))=List.map AV.f (Ns w):=List.take_of_length_le (by rw [List.length_map];omega)
     have hap:List.map AV.f (Ns w)++[AV.f (I (s:Int))]=List.map AV.f v:=by rw [hv];unfold Ns;simp
     have hvl:v.length=t+1:=by rw [hv,Ns_len,List.length_append,hwm.1];rfl
     by_cases hBn:onB n t i s=[]
     ·have hb0:b=0:=by rw [hb,hBn];rfl
      rw [hBn] at hqi ⊢
      rw [hb0] at hsl1
      (repeat (first|(with_reducible first|refine W_seq fun K hK=>?_|refine J_block ?_|refine J_skip ?_|((fail_if_success refine J_region (id:=11) ?_);refine J_region ?_) |refine aApp_old ?_|(refine Kont.go (by assumption) ?_)|(simp (config:={ maxSteps:=3000000 }) (disch:=omega) only [go_sem,↓reduceIte,Nat.reduceAdd,Nat.reduceLeDiff,gw,hnl,htk,hap,sl_nil,ob_nil,Nat.reduceMul,Nat.le_refl,true_and,and_self]))|refine And.intro (by omega) ?_))
      refine J_freezeA (r:=5) (sz:=1) (l:=v) rfl ?_
      (repeat (with_reducible first|refine J_region ?_ |(simp (config:={ maxSteps:=3000000 }) (disch:=omega) only [go_sem,Nat.reduceEqDiff,↓reduceIte,hvl,true_and,and_self])))
      have hq1:(onB n t i (s+1)).map AV.f=[AV.f (.fz 1 v)]:=hqi
      refine ⟨s+1,by omega,by omega,weak_ren [0,7] ⟨by decide,by first|decide|(simp;done)⟩ ?_ ?_⟩<;>(try simp (disch:=omega) only [go_sem,Nat.reduceAdd,hsl1,hob1,hq1])<;>(try first|done|omega|rfl|exact ⟨rfl,rfl⟩|trivial)
     ·have hsl:sl 1 1 (onB n t i s)=.own 1 1 0 b:=by rw [sl_pos hBn,hb]
      have hob:ob 26 1 (onB n t i s)=some ⟨26,1,(onB n t i s).map .f⟩:=ob_pos hBn
      have hbt:List.take b (List.map AV.f (onB n t i s))=List.map AV.f (onB n t i s):=List.take_of_length_le (by simp [hb])
      (repeat (first|(with_reducible first|refine W_seq fun K hK=>?_|refine J_block ?_|refine J_skip ?_|((fail_if_success refine J_region (id:=11) ?_);refine J_region ?_) |refine aApp_old ?_|(refine Kont.go (by assumption) ?_)|(simp (config:={ maxSteps:=3000000 }) (disch:=omega) only [go_sem,↓reduceIte,Nat.reduceAdd,Nat.reduceLeDiff,gw,hnl,htk,hap,hsl,hob,←hb,hbt,Nat.reduceMul,Nat.le_refl,true_and,and_self]))|refine And.intro (by omega) ?_))
      refine J_freezeA (r:=5) (sz:=1) (l:=v) rfl ?_
      have hqj:List.map AV.f (onB n t i s)++[AV.f (.fz 1 v)]=List.map AV.f (onB n t i (s+1)):=hqi.symm
      (repeat (with_reducible first|refine J_region ?_ |(simp (config:={ maxSteps:=3000000 }) (disch:=omega) only [go_sem,Nat.reduceEqDiff,↓reduceIte,hvl,hqj,true_and,and_self])))
      refine ⟨s+1,by omega,by omega,weak_ren [0,7] ⟨by decide,by first|decide|(simp;done)⟩ ?_ ?_⟩<;>(try simp (disch:=omega) only [go_sem,Nat.reduceAdd,hsl1,hob1])<;>(try first|done|omega|rfl|exact ⟨rfl,rfl⟩|trivial)
   ·have he:s=n:=by omega
    subst he
    rw [onB_all (by omega)]
    (repeat (with_reducible first|refine J_exit ?_|refine J_region ?_ |(refine Kont.go (by assumption) ?_)|(simp (config:={ maxSteps:=3000000 }) (disch:=omega) only [go_sem,↓reduceIte])))
    refine ⟨i+1,by omega,by omega,weak_of ?_ ?_⟩<;>(try simp (disch:=omega) only [go_sem,Nat.reduceAdd])<;>(try first|done|omega|rfl|exact ⟨rfl,rfl⟩|trivial)
  ·have he:i=W:=by omega
   subst he
   have ea:onA n t (wyL n t).length=wyF n (t+1):=onA_all
   rw [hW,ea]
   refine J_freeze (j:=7) rfl rfl ?_
   (repeat (with_reducible first|refine J_exit ?_|refine J_region ?_ |(refine Kont.go (by assumption) ?_)|(simp (config:={ maxSteps:=3000000 }) (disch:=omega) only [go_sem,↓reduceIte])))
   refine ⟨t+1,by omega,by omega,weak_of ?_ ?_⟩<;>(try simp (disch:=omega) only [go_sem])<;>(try first|done|omega|rfl|exact ⟨rfl,rfl⟩|trivial)
 ·have he:t=T:=by omega
  subst he
  (repeat (with_reducible first|refine W_seq fun K hK=>?_|refine J_exit ?_|refine J_ret ?_|refine J_region ?_ |exact Frz.f _|(refine Kont.go (by assumption) ?_)|(simp (config:={ maxSteps:=3000000 }) (disch:=omega) only [go_sem,↓reduceIte])))
structure WayV (v : FV) (w : List Nat) : Prop where
  is : v = .fz 1 (Ns w) ∨ (v = nilV ∧ w = [])
section
variable {k : Nat} {fs ms ss : List FV} {st : List Rat} {mv sh : List (List Rat)} {seen : List Int} {w : List Nat}
theorem wv_fz (h:HOk k fs ms ss st mv sh seen) (h1:1≤k) {p:Nat→Nat} (hp:∀j,p j<st.length):∀t,t≤seen.length→Fz ((hm st mv sh seen).wv p t) (8+t*(k+k)):=by
 intro t
 induction t with
 | zero=>intro _;exact (Fz.int (n:=1) (by decide)).up (by omega)
 | succ t ih =>
  intro ht
  have a:=ih (by omega)
  obtain ⟨xs,g,n,d,_,_,h3⟩:=h.s3 (hp t) (t:=t) (by omega)
  have b:Fz (if t=0 then (hm st mv sh seen).a (p 0) else (hm st mv sh seen).mv (p (t-1)) (p t)) k:=by
   split
   ·obtain ⟨g,n,d,_,h2⟩:=h.a3 (hp 0)
    exact h2.fz h1
   ·obtain ⟨xs,g,n,d,_,_,h2⟩:=h.m3 (hp (t-1)) (hp t)
    exact h2.fz h1
  have:=(a.mul b).mul (h3.fz h1)
  refine Fz.up this ?_
  rw [Nat.add_mul];omega
set_option maxRecDepth 100000 in
set_option maxHeartbeats 8000000 in
theorem rwayOf_w (h:HOk k fs ms ss st mv sh seen) (h1:1≤k) (hk:k≤1000) (hsl:seen.length≤140737488355328) (hw:∀s∈w,s<st.length) (hwl:w.length≤seen.length) :
  Good Tryz.prog 33 [hidV fs ms ss,.fz 1 (Ns w),ints seen] (fr ((hm st mv sh seen).wl w)):=by
 obtain ⟨p,hp⟩:∃p:Nat→Nat,p=fun j=>w.getD j 0:=⟨_,rfl⟩
 have hpn:∀j,p j<st.length:=fun j=>by
  have:=h.n1
  rw [hp]
  by_cases hj:j<w.length
  ·show w.getD j 0<_;rw [lget_lt w 0 hj];exact hw _ (List.getElem_mem _)
  ·show w.getD j 0<_;rw [List.getD_eq_getElem?_getD,List.getElem?_eq_none (by omega)];show 0<_;omega
 have h8:=h.t8
 have hn4:=h.n4
 obtain ⟨M,hM⟩:∃M,M=hm st mv sh seen:=⟨_,rfl⟩
 have hres:fr ((hm st mv sh seen).wl w)=fr (M.wv p w.length):=by rw [hM,hp];rfl
 have hvz:=wv_fz h h1 hpn
 rw [←hM] at hvz
 have h0:fr ((1:Int):Rat)=fr (M.wv p 0):=rfl
 rw [hres]
 have gw:∀j,j<w.length→(Ns w)[j]?=some (I (p j:Nat)):=fun j hj=>by rw [hp];exact Ns_get hj
 refine good_of Tryz.func33 rfl (by kernel_rfl) fun X hO hrd=>?_;rw [Tryz.ntmps33,Tryz.results33];simp only [ast0,List.map_cons,List.map_nil,List.length_cons,List.length_nil,Nat.reduceAdd,Nat.reduceSub,List.replicate_succ,List.replicate_zero,List.cons_append,List.nil_append]
 (repeat (first|(with_reducible first|refine W_seq fun K hK=>?_|refine J_block ?_|refine J_region ?_ |(refine Kont.go (by assumption) ?_)|(simp (config:={ maxSteps:=3000000 }) (disch:=omega) only [go_sem,↓reduceIte,Nat.reduceAdd,h0]))|refine call_f (rof_frac (by omega) (by omega)) rfl ?_))
 obtain ⟨zf,hzf⟩:∃zf:FV,zf=.agg [.v (.bool false),.v (.string ⟨#[]⟩),.v (.string ⟨#[]⟩)]:=⟨_,rfl⟩
 rw [←hzf]
 refine W_loop [8,9,11,12,13,14,15,16,17,18,19,20,21,22,23,24,25,26,27,28,29,30,31,32,33,34,35,36,37,38,39,40,41,42,43,44,45,46,47,48,49,50,51,52,53,54,55,56,57,58,59,60] (fun x:Nat=>[(8,.f (I x))]) (fun x:Nat=>[some ⟨25,3,[.f (hidV fs ms ss)]⟩,oF zf,oF (fr (M.wv p x))]) (fun x:Nat=>x≤w.length) (fun x:Nat=>w.length-x) (0) (Nat.zero_le _) (by refine weak_of ?_ ?_<;>simp (disch:=omega) only [go_sem,Nat.reduceAdd]<;>first|rfl|exact ⟨rfl,rfl⟩|exact Or.inl rfl|exact ⟨Or.inl rfl,Or.inl rfl⟩|trivial|assumption|omega|(symm;assumption)|((repeat' apply And.intro)<;>first|rfl|omega|trivial|exact .inl rfl|exact .inr ⟨rfl,rfl⟩|exact .inr rfl|(right;symm;assumption)|(symm;assumption)|assumption)) ?_
 rintro t ht
 simp only [go_sem]
 (repeat (with_reducible first|refine W_seq fun K hK=>?_|refine J_region ?_ |refine J_c ?_|(refine Kont.go (by assumption) ?_)|(simp (config:={ maxSteps:=3000000 }) (disch:=omega) only [go_sem,Ns_len])))
 refine Jc_if (fun htl=>?_) (fun htl=>?_)<;>try simp only [decide_eq_true_eq,decide_eq_false_iff_not] at htl
 ·have g1:=gw t htl
  have hse:=h.se t (by omega)
  have hts:t<seen.length:=by omega
  obtain ⟨ga,na,da,xa,fa⟩:=h.a3 (hpn t)
  obtain ⟨xs,gs,ns,ds,ys,zs,fs3⟩:=h.s3 (hpn t) (t:=t) hts
  have gse:=map_get I seen hts
  have gsd:seen.getD t 0=seen[t]:=lget_lt seen 0 hts
  rw [gsd] at zs fs3 hse
  have hz:=hvz t (by omega)
  have hmu:=Nat.mul_le_mul (show t≤8 by omega) (show k+k≤2000 by omega)
  have c1:=IsFr.c hz
  have hstep:M.wv p (t+1)=M.wv p t*(if t=0 then M.a (p 0) else M.mv (p (t-1)) (p t))*M.sh (p t) (M.s t):=rfl
  have hsh:M.sh (p t) (M.s t)=at2 sh (p t) seen[t].toNat:=by rw [hM];show at2 sh (p t) (seen.getD t 0).toNat=_;rw [gsd]
  by_cases t0:t=0
  ·subst t0
   have hf:(if 0=0 then M.a (p 0) else M.mv (p (0-1)) (p 0))=st.getD (p 0) 0:=by rw [if_pos rfl,hM];rfl
   have c2:=IsFr.c (hz.mul (fa.fz h1))
   have en:fr (M.wv p 0*st.getD (p 0) 0*at2 sh (p 0) seen[0].toNat)=fr (M.wv p (0+1)):=by rw [hstep,hf,hsh]
   (repeat (first|(with_reducible first|refine W_seq fun K hK=>?_|refine J_block ?_|refine J_skip ?_|refine J_region ?_ |refine J_drawn mixed (by kernel_rfl) ?_|refine J_c ?_|refine Jc_false ?_|(refine Kont.go (by assumption) ?_)|(simp (config:={ maxSteps:=3000000 }) (disch:=omega) only [go_sem,↓reduceIte,Nat.reduceAdd,Int.reduceLE,Int.reduceAdd,g1,xa,ys,zs,gse,true_and,and_self]))|refine call_f (rmul_w (by assumption) (by assumption) (by omega) (by omega)) rfl ?_|refine callQ_f (rmul_w (by assumption) (by assumption) (by omega) (by omega)) rfl ?_|refine And.intro (by omega) ?_))
   rw [en]
   refine ⟨0+1,by omega,by omega,weak_of ?_ ?_⟩<;>(try simp (disch:=omega) only [go_sem,Nat.reduceAdd])<;>(try first|done|omega|rfl|exact ⟨rfl,rfl⟩|trivial)
  ·obtain ⟨xm,gm,nm,dm,ym,zm,fm⟩:=h.m3 (hpn (t-1)) (hpn t)
   have g0:=gw (t-1) (by omega)
   have ht1:((t:Int)-1).toNat=t-1:=by omega
   have htp:(0:Int)<(t:Int):=by omega
   have hf:(if t=0 then M.a (p 0) else M.mv (p (t-1)) (p t))=at2 mv (p (t-1)) (p t):=by rw [if_neg t0,hM];rfl
   have c2:=IsFr.c (hz.mul (fm.fz h1))
   have en:fr (M.wv p t*at2 mv (p (t-1)) (p t)*at2 sh (p t) seen[t].toNat)=fr (M.wv p (t+1)):=by rw [hstep,hf,hsh]
   (repeat (first|(with_reducible first|refine W_seq fun K hK=>?_|refine J_block ?_|refine J_skip ?_|refine J_region ?_ |refine J_drawn mixed (by kernel_rfl) ?_|refine J_c ?_|refine Jc_true ?_|(refine Kont.go (by assumption) ?_)|(simp (config:={ maxSteps:=3000000 }) (disch:=omega) only [go_sem,↓reduceIte,Nat.reduceAdd,g1,g0,ht1,htp,xa,ym,zm,ys,zs,gse,true_and,and_self]))|refine call_f (rmul_w (by assumption) (by assumption) (by omega) (by omega)) rfl ?_|refine callQ_f (rmul_w (by assumption) (by assumption) (by omega) (by omega)) rfl ?_|refine And.intro (by omega) ?_))
   rw [en]
   refine ⟨t+1,by omega,by omega,weak_of ?_ ?_⟩<;>(try simp (disch:=omega) only [go_sem,Nat.reduceAdd])<;>(try first|done|omega|rfl|exact ⟨rfl,rfl⟩|trivial)
 ·have he:t=w.length:=by omega
  subst he
  (repeat (with_reducible first|refine W_seq fun K hK=>?_|refine J_exit ?_|refine J_ret ?_|refine J_region ?_ |exact Frz.f _|(refine Kont.go (by assumption) ?_)|(simp (config:={ maxSteps:=3000000 }) (disch:=omega) only [go_sem,↓reduceIte,Nat.reduceAdd])))
end
end Go.Proofs.YtfjgijkhmhhkdaaGreatDoor
