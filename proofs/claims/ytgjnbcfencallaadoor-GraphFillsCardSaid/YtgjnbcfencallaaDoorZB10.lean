/- Bags: read, inside, common: walked. Conditions: what slices may hold. -/
import Derived.Test.YtgjnbcfencallaaDoorZB09
import Derived.Test.YtgjnbcfencallaaDoorZB08
import Derived.Test.YtgjnbcfencallaaDoorZB07
set_option linter.unusedVariables false
set_option linter.unusedSimpArgs false
namespace Go.Proofs.YtgjnbcfencallaaDoor
open Go Go.RowKit
def bagN (l:List Int):Bool:=risB 8 l&&!decide (l=[])
def bagsB (L:List (List Int)):Bool:=decide (1≤L.length∧L.length≤8)&&L.all bagN
def bagS (L:List (List Int)):List Nat:=L.map setI
def bgR (L:List (List Int)):RV:=if bagsB L=true then .own 56 1 ((bagS L).map U) else .f nilV
theorem bagsB_iff {L:List (List Int)}:bagsB L=true↔(1≤L.length∧L.length≤8)∧∀l∈L,bagN l=true:=by simp [bagsB]
theorem readS_nil {l:List Int} (h:risB 8 l=true):readS 8 l=setI l∧(setI l=0↔l=[]):=by
 refine ⟨by unfold readS;rw [if_pos h],fun e=>?_,fun e=>by rw [e];rfl⟩
 have:=ris_els (n:=8) (by decide) h
 rw [e] at this
 have h2:=congrArg List.length this
 rw [List.length_map] at h2
 exact List.length_eq_zero_iff.1 h2
def insB (l m:List Int):Bool:=l.all fun x=>decide (x∈m)
theorem ins_next {l m:List Int} {x:Nat} (h:∀j,j<l.length→decide (l.getD j 0∈m)=true):insB l m=true:=by
 unfold insB
 rw [List.all_eq_true]
 intro y hy
 obtain ⟨j,hj,rfl⟩:=List.getElem_of_mem hy
 have:=h j hj
 rwa [lget_lt l 0 hj] at this
set_option maxRecDepth 100000 in
set_option maxHeartbeats 4000000 in
theorem rinside_w (l m:List Int) (hl:OkNs l) (hm:OkNs m):Good Tryd.prog 54 [ints l,ints m] (Bo (insB l m)):=by
 obtain ⟨hll,hlx⟩:=hl
 refine good_of Tryd.func54 rfl (by kernel_rfl) fun X hO hrd=>?_;rw [Tryd.ntmps54,Tryd.results54];simp only [ast0,List.map_cons,List.map_nil,List.length_cons,List.length_nil,Nat.reduceAdd,Nat.reduceSub,List.replicate_succ,List.replicate_zero,List.cons_append,List.nil_append]
 (repeat (with_reducible first|refine W_seq fun K hK=>?_|refine J_block ?_|refine J_region ?_ |(refine Kont.go (by assumption) ?_)|(simp (config:={ maxSteps:=3000000 }) (disch:=omega) only [go_sem])))
 refine W_loop [4,5,6,7,8,9,10,11,12,13,14,15,16,17,18,19,20] (fun x:Nat=>[(5,.f (I x))]) (fun x:Nat=>[]) (fun x:Nat=>x≤l.length∧∀j,j<x→decide (l.getD j 0∈m)=true) (fun x:Nat=>l.length-x) (0) (⟨Nat.zero_le _,fun j h=>by omega⟩) (by refine weak_of ?_ ?_<;>simp (disch:=omega) only [go_sem]<;>first|rfl|exact ⟨rfl,rfl⟩|exact Or.inl rfl|exact ⟨Or.inl rfl,Or.inl rfl⟩|trivial|assumption|omega|(symm;assumption)|((repeat' apply And.intro)<;>first|rfl|omega|trivial|exact .inl rfl|exact .inr ⟨rfl,rfl⟩|exact .inr rfl|(right;symm;assumption)|(symm;assumption)|assumption)) ?_
 rintro x ⟨hx,hp⟩
 simp only [go_sem]
 (repeat (with_reducible first|refine W_seq fun K hK=>?_|refine J_region ?_ |refine J_c ?_|(refine Kont.go (by assumption) ?_)|(simp (config:={ maxSteps:=3000000 }) (disch:=omega) only [go_sem,List.length_map])))
 refine Jc_if (fun hxl=>?_) (fun hxl=>?_)<;>try simp only [decide_eq_true_eq,decide_eq_false_iff_not] at hxl
 ·have g1:=map_get I l hxl
  have g3:l.getD x 0=l[x]:=lget_lt l 0 hxl
  have hin:=rin_w l[x] m (hlx _ (List.getElem_mem hxl)) hm.1
  (repeat (with_reducible first|refine W_seq fun K hK=>?_|refine J_block ?_|refine J_skip ?_|refine J_region ?_ |(refine Kont.go (by assumption) ?_)|(simp (config:={ maxSteps:=3000000 }) (disch:=omega) only [go_sem,↓reduceIte,g1])))
  refine call_f hin rfl ?_
  cases hb:decide (l[x]∈m) with
  | false =>
   have e:insB l m=false:=by
    cases h:insB l m with
    | false=>rfl
    | true=>unfold insB at h;rw [List.all_eq_true] at h;rw [h _ (List.getElem_mem hxl)] at hb;cases hb
   (repeat (with_reducible first|refine W_seq fun K hK=>?_|refine J_ret ?_|refine J_region ?_ |refine J_c ?_|refine Jc_true ?_|(refine Kont.go (by assumption) ?_)|(simp (config:={ maxSteps:=3000000 }) (disch:=omega) only [go_sem])))
   rw [e];exact Frz.f _
  | true =>
   (repeat (with_reducible first|refine W_seq fun K hK=>?_|refine J_skip ?_|refine J_region ?_ |refine J_c ?_|refine Jc_false ?_|(refine Kont.go (by assumption) ?_)|(simp (config:={ maxSteps:=3000000 }) (disch:=omega) only [go_sem])))
   refine ⟨x+1,⟨by omega,upto_next (p:=fun j=>decide (l.getD j 0∈m)=true) hp (by rw [g3];exact hb)⟩,by omega,weak_of ?_ ?_⟩<;>(try simp (disch:=omega) only [go_sem])<;>(try first|done|omega|rfl|exact ⟨rfl,rfl⟩|trivial)
 ·have he:x=l.length:=by omega
  subst he
  have e:=ins_next (x:=0) hp
  (repeat (with_reducible first|refine W_seq fun K hK=>?_|refine J_exit ?_|refine J_ret ?_|refine J_region ?_ |(refine Kont.go (by assumption) ?_)|(simp (config:={ maxSteps:=3000000 }) (disch:=omega) only [go_sem,↓reduceIte])))
  rw [e];exact Frz.f _
def comT (l m:List Nat) (x:Nat):List Nat:=(l.take x).filter fun v=>decide (v∈m)
theorem comT_next {l m:List Nat} {x:Nat} (h:x<l.length):comT l m (x+1)=comT l m x++if l[x]∈m then [l[x]] else []:=by
 unfold comT
 rw [List.take_add_one,List.getElem?_eq_getElem h,List.filter_append]
 congr 1
 by_cases e:l[x]∈m<;>simp [e]
theorem comT_len {l m:List Nat} {x:Nat}:(comT l m x).length≤l.length:=by
 unfold comT;exact Nat.le_trans (List.length_filter_le _ _) (by rw [List.length_take];omega)
set_option maxRecDepth 100000 in
set_option maxHeartbeats 4000000 in
theorem rcommon_w (l m:List Nat) (hl:l.length≤1000) (hm:m.length≤1000) (hlx:∀x∈l,x≤1000):Good Tryd.prog 55 [.fz 1 (Ns l),.fz 1 (Ns m)] (.fz 1 (Ns (comT l m l.length))):=by
 refine good_of Tryd.func55 rfl (by kernel_rfl) fun X hO hrd=>?_;rw [Tryd.ntmps55,Tryd.results55];simp only [ast0,List.map_cons,List.map_nil,List.length_cons,List.length_nil,Nat.reduceAdd,Nat.reduceSub,List.replicate_succ,List.replicate_zero,List.cons_append,List.nil_append]
 (repeat (with_reducible first|refine W_seq fun K hK=>?_|((fail_if_success refine J_region (id:=2) ?_);refine J_region ?_) |(refine Kont.go (by assumption) ?_)|(simp (config:={ maxSteps:=3000000 }) (disch:=omega) only [go_sem])))
 refine J_reserve ?_
 have h0:AV.f nilV=sl 0 1 (Ns (comT l m 0)):=rfl
 have hll:(Ns l).length=l.length:=Ns_len
 (repeat (with_reducible first|refine J_block ?_|refine J_region ?_ |(refine Kont.go (by assumption) ?_)|(simp (config:={ maxSteps:=3000000 }) (disch:=omega) only [go_sem])))
 refine W_loop [5,6,7,8,9,10,11,12,13,14,15,16,17,18,19,20,21,22,23,24,25,26,27] (fun x:Nat=>[(5,sl 0 1 (Ns (comT l m x))),(6,.f (I x))]) (fun x:Nat=>[ob 3 1 (Ns (comT l m x))]) (fun x:Nat=>x≤l.length) (fun x:Nat=>l.length-x) (0) (Nat.zero_le _) (by refine weak_of ?_ ?_<;>simp (disch:=omega) only [go_sem]<;>first|rfl|exact ⟨rfl,rfl⟩|exact Or.inl rfl|exact ⟨Or.inl rfl,Or.inl rfl⟩|trivial|assumption|omega|(symm;assumption)|((repeat' apply And.intro)<;>first|rfl|omega|trivial|exact .inl rfl|exact .inr ⟨rfl,rfl⟩|exact .inr rfl|(right;symm;assumption)|(symm;assumption)|assumption)) ?_
 rintro x hx
 have hcl:=comT_len (l:=l) (m:=m) (x:=x)
 simp only [go_sem]
 (repeat (with_reducible first|refine W_seq fun K hK=>?_|refine J_region ?_ |refine J_c ?_|(refine Kont.go (by assumption) ?_)|(simp (config:={ maxSteps:=3000000 }) (disch:=omega) only [go_sem,hll])))
 refine Jc_if (fun hxl=>?_) (fun hxl=>?_)<;>try simp only [decide_eq_true_eq,decide_eq_false_iff_not] at hxl
 ·have g1:(Ns l)[x]?=some (I (l[x]:Nat)):=by unfold Ns;rw [List.getElem?_map,List.getElem?_eq_getElem hxl];rfl
  have hxm:=hlx _ (List.getElem_mem hxl)
  have hin:=rinN_w l[x] m (by omega) (by omega)
  have hnx:=comT_next (m:=m) hxl
  have hal:((Ns (comT l m x)).length+1)*8≤140737488355328:=by rw [Ns_len];omega
  (repeat (with_reducible first|refine W_seq fun K hK=>?_|refine J_block ?_|refine J_skip ?_|refine J_region ?_ |(refine Kont.go (by assumption) ?_)|(simp (config:={ maxSteps:=3000000 }) (disch:=omega) only [go_sem,↓reduceIte,g1])))
  refine call_f hin rfl ?_
  by_cases hb:l[x]∈m
  ·rw [if_pos hb] at hnx
   have hs:Ns (comT l m x)++[I (l[x]:Nat)]=Ns (comT l m (x+1)):=by rw [hnx];exact Ns_snoc
   rw [decide_eq_true hb]
   (repeat (first|(with_reducible first|refine W_seq fun K hK=>?_|refine J_region ?_ |refine aApp_sl ?_|refine J_c ?_|refine Jc_true ?_|(refine Kont.go (by assumption) ?_)|(simp (config:={ maxSteps:=3000000 }) (disch:=omega) only [go_sem,Nat.reduceEqDiff,↓reduceIte,Nat.reduceLeDiff,g1,hal,hs]))|refine And.intro (by omega) ?_))
   refine ⟨x+1,by omega,by omega,weak_of ?_ ?_⟩<;>(try simp (disch:=omega) only [go_sem])<;>(try first|done|omega|rfl|exact ⟨rfl,rfl⟩|trivial)
  ·rw [if_neg hb,List.append_nil] at hnx
   rw [decide_eq_false hb]
   (repeat (with_reducible first|refine W_seq fun K hK=>?_|refine J_skip ?_|refine J_region ?_ |refine J_c ?_|refine Jc_false ?_|(refine Kont.go (by assumption) ?_)|(simp (config:={ maxSteps:=3000000 }) (disch:=omega) only [go_sem])))
   refine ⟨x+1,by omega,by omega,weak_of ?_ ?_⟩<;>(try simp (disch:=omega) only [go_sem,hnx])<;>(try first|done|omega|rfl|exact ⟨rfl,rfl⟩|trivial)
 ·have he:x=l.length:=by omega
  rw [he]
  (repeat (with_reducible first|refine W_seq fun K hK=>?_|refine J_exit ?_|refine J_ret ?_|refine J_region ?_ |(refine Kont.go (by assumption) ?_)|(simp (config:={ maxSteps:=3000000 }) (disch:=omega) only [go_sem,↓reduceIte])))
  exact .sl rfl
theorem bagS_len {L:List (List Int)}:(bagS L).length=L.length:=by simp [bagS]
set_option maxRecDepth 100000 in
set_option maxHeartbeats 4000000 in
theorem read2_w (L:List (List Int)) (hL:OkIss L):GoodOT Tryd.prog 49 [.fz 1 (L.map ints)] (bgR L) [Bo (bagsB L)]:=by
 obtain ⟨hLl,hLr⟩:=hL
 have bad:bagsB L=false→bgR L=.f nilV:=fun h=>by unfold bgR;rw [h];rfl
 refine goodOT_of Tryd.func49 rfl (by kernel_rfl) fun X hO hrd=>?_;rw [Tryd.ntmps49,Tryd.results49];simp only [ast0,List.map_cons,List.map_nil,List.length_cons,List.length_nil,Nat.reduceAdd,Nat.reduceSub,List.replicate_succ,List.replicate_zero,List.cons_append,List.nil_append]
 by_cases h1:1≤L.length∧L.length≤8
 case neg =>
  have hb:bagsB L=false:=by
   cases h:bagsB L with
   | false=>rfl
   | true=>exact absurd (bagsB_iff.1 h).1 h1
  by_cases h2:(L.length:Int)<1
  ·(repeat (with_reducible first|refine W_seq fun K hK=>?_|refine J_ret ?_|refine J_region ?_ |refine J_c ?_|refine Jc_true ?_|(refine Kont.go (by assumption) ?_)|(simp (config:={ maxSteps:=3000000 }) (disch:=omega) only [go_sem,List.length_map,h2])))
   rw [hb,bad hb]
   refine ⟨_,⟨rfl,rfl⟩,by simp,nilR,fun x hx=>by rcases List.mem_singleton.1 hx with rfl;exact .v _⟩
  ·have h3:(8:Int)<(L.length:Int):=by omega
   (repeat (with_reducible first|refine W_seq fun K hK=>?_|refine J_ret ?_|refine J_region ?_ |refine J_c ?_|refine Jc_true ?_|(refine Kont.go (by assumption) ?_)|(simp (config:={ maxSteps:=3000000 }) (disch:=omega) only [go_sem,List.length_map,h2,h3])))
   rw [hb,bad hb]
   refine ⟨_,⟨rfl,rfl⟩,by simp,nilR,fun x hx=>by rcases List.mem_singleton.1 hx with rfl;exact .v _⟩
 obtain ⟨hn1,hn8⟩:=h1
 have h2:¬(L.length:Int)<1:=by omega
 have h3:¬(8:Int)<(L.length:Int):=by omega
 (repeat (with_reducible first|refine W_seq fun K hK=>?_|refine J_skip ?_|((fail_if_success refine J_region (id:=4) ?_);refine J_region ?_) |refine J_c ?_|refine Jc_false ?_|(refine Kont.go (by assumption) ?_)|(simp (config:={ maxSteps:=3000000 }) (disch:=omega) only [go_sem,List.length_map,h2,h3])))
 refine J_reserve ?_
 have h0:AV.f nilV=sl 0 1 ((bagS (L.take 0)).map U):=rfl
 (repeat (with_reducible first|refine J_block ?_|refine J_region ?_ |(refine Kont.go (by assumption) ?_)|(simp (config:={ maxSteps:=3000000 }) (disch:=omega) only [go_sem,List.length_map])))
 refine W_loop [2,3,4,6,7,8,19,20,21,22,23,24,25,26,27,28,29,30,31,32,33,34,35,36,37,38] (fun x:Nat=>[(4,sl 0 1 ((bagS (L.take x)).map U)),(19,.f (I x))]) (fun x:Nat=>[ob 56 1 ((bagS (L.take x)).map U)]) (fun x:Nat=>x≤L.length∧∀j,j<x→bagN (L.getD j [])=true) (fun x:Nat=>L.length-x) (0) (⟨Nat.zero_le _,fun j h=>by omega⟩) (by refine weak_of ?_ ?_<;>simp (disch:=omega) only [go_sem]<;>first|rfl|exact ⟨rfl,rfl⟩|exact Or.inl rfl|exact ⟨Or.inl rfl,Or.inl rfl⟩|trivial|assumption|omega|(symm;assumption)|((repeat' apply And.intro)<;>first|rfl|omega|trivial|exact .inl rfl|exact .inr ⟨rfl,rfl⟩|exact .inr rfl|(right;symm;assumption)|(symm;assumption)|assumption)) ?_
 rintro x ⟨hx,hp⟩
 simp only [go_sem]
 (repeat (with_reducible first|refine W_seq fun K hK=>?_|refine J_region ?_ |refine J_c ?_|(refine Kont.go (by assumption) ?_)|(simp (config:={ maxSteps:=3000000 }) (disch:=omega) only [go_sem])))
 refine Jc_if (fun hxl=>?_) (fun hxl=>?_)<;>try simp only [decide_eq_true_eq,decide_eq_false_iff_not] at hxl
 ·have g1:=map_get ints L hxl
  have g3:L.getD x []=L[x]:=lget_lt L [] hxl
  have hr:=read_w (n:=8) L[x] (by omega) (hLr _ (List.getElem_mem hxl)).2 (hLr _ (List.getElem_mem hxl)).1
  have hbad:bagN L[x]=false→bagsB L=false:=fun h=>by
   cases hb:bagsB L with
   | false=>rfl
   | true=>have:=(bagsB_iff.1 hb).2 _ (List.getElem_mem hxl);rw [h] at this;cases this
  obtain ⟨s,hs⟩:∃s,s=readS 8 L[x]:=⟨_,rfl⟩
  have hbl:(bagS (L.take x)).length=x:=by rw [bagS_len,List.length_take];omega
  have hal:((bagS (L.take x)).length+1)*8≤140737488355328:=by rw [hbl];omega
  have hrn:risB 8 L[x]=true→_:=fun h=>readS_nil (l:=L[x]) h
  rw [←hs] at hr hrn
  (repeat (with_reducible first|refine W_seq fun K hK=>?_|refine J_block ?_|refine J_skip ?_|refine J_region ?_ |(refine Kont.go (by assumption) ?_)|(simp (config:={ maxSteps:=3000000 }) (disch:=omega) only [go_sem,↓reduceIte,g1])))
  refine call_f hr rfl ?_
  cases hb1:risB 8 L[x] with
  | false =>
   have hb:=hbad (by unfold bagN;rw [hb1];rfl)
   (repeat (with_reducible first|refine W_seq fun K hK=>?_|refine J_ret ?_|refine J_region ?_ |refine J_c ?_|refine Jc_true ?_|(refine Kont.go (by assumption) ?_)|(simp (config:={ maxSteps:=3000000 }) (disch:=omega) only [go_sem])))
   rw [hb,bad hb]
   refine ⟨_,⟨rfl,rfl⟩,by simp,nilR,fun x hx=>by rcases List.mem_singleton.1 hx with rfl;exact .v _⟩
  | true =>
   obtain ⟨k1,k2⟩:=hrn hb1
   by_cases e:s=0
   ·have hb:=hbad (by unfold bagN;rw [decide_eq_true (k2.1 (k1▸e))];simp)
    (repeat (with_reducible first|refine W_seq fun K hK=>?_|refine J_ret ?_|refine J_region ?_ |refine J_c ?_|refine Jc_true ?_|(refine Kont.go (by assumption) ?_)|(simp (config:={ maxSteps:=3000000 }) (disch:=omega) only [go_sem,e,and_true])))
    rw [hb,bad hb]
    refine ⟨_,⟨rfl,rfl⟩,by simp,nilR,fun x hx=>by rcases List.mem_singleton.1 hx with rfl;exact .v _⟩
   ·have hok:bagN (L.getD x [])=true:=by rw [g3];unfold bagN;rw [hb1,decide_eq_false (fun h=>e (k1▸k2.2 h))];rfl
    have e':¬((s:Nat):Int)=0:=by omega
    have hnx:(bagS (L.take x)).map U++[U s]=(bagS (L.take (x+1))).map U:=by
     rw [List.take_add_one,List.getElem?_eq_getElem hxl,k1];unfold bagS;rw [List.map_append,List.map_append];rfl
    (repeat (with_reducible first|refine W_seq fun K hK=>?_|refine J_skip ?_|refine J_region ?_ |refine aApp_sl ?_|refine J_c ?_|refine Jc_false ?_|(refine Kont.go (by assumption) ?_)|(simp (config:={ maxSteps:=3000000 }) (disch:=omega) only [go_sem,Nat.reduceEqDiff,↓reduceIte,Nat.reduceLeDiff,e',hal,hnx,Nat.reduceMul,Nat.le_refl,true_and,and_self])))
    refine ⟨x+1,⟨by omega,upto_next (p:=fun j=>bagN (L.getD j [])=true) hp hok⟩,by omega,weak_of ?_ ?_⟩<;>(try simp (disch:=omega) only [go_sem])<;>(try first|done|omega|rfl|exact ⟨rfl,rfl⟩|trivial)
 ·have he:x=L.length:=by omega
  subst he
  have hb:bagsB L=true:=bagsB_iff.2 ⟨⟨hn1,hn8⟩,fun l hl=>by
   obtain ⟨j,hj,rfl⟩:=List.getElem_of_mem hl
   have:=hp j hj
   rwa [lget_lt L [] hj] at this⟩
  have hr:bgR L=.own 56 1 ((bagS L).map U):=by unfold bgR;rw [hb];rfl
  rw [List.take_length]
  (repeat (with_reducible first|refine W_seq fun K hK=>?_|refine J_exit ?_|refine J_ret ?_|refine J_region ?_ |(refine Kont.go (by assumption) ?_)|(simp (config:={ maxSteps:=3000000 }) (disch:=omega) only [go_sem,↓reduceIte])))
  rw [hb,hr]
  have hne:(bagS L).map U≠[]:=fun e=>by have:=congrArg List.length e;rw [List.length_map,bagS_len] at this;have h0:([]:List FV).length=0:=rfl;omega
  refine ⟨_,⟨rfl,rfl⟩,by simp,?_,fun x hx=>by rcases List.mem_singleton.1 hx with rfl;exact .v _⟩
  exact ownR_sl hne rfl (fun x hx=>by obtain ⟨y,_,rfl⟩:=List.mem_map.1 hx;exact .v _)
end Go.Proofs.YtgjnbcfencallaaDoor
set_option linter.unusedVariables false
set_option linter.unusedSimpArgs false
namespace Go.Proofs.YtgjnbcfencallaaDoor
open Go Go.RowKit
def frsI (p:Nat→Bool) (n:Nat):Int:=match (List.range n).find? p with
 | some i=>(i:Int)
 | none=>-1
theorem frsI_some {p:Nat→Bool} {n i:Nat} (hi:i<n) (hp:p i=true) (hb:∀j,j<i→p j=false):frsI p n=i:=by
 have e:(List.range n).find? p=some i:=List.find?_range_eq_some.2 ⟨hp,List.mem_range.2 hi,fun j hj=>by rw [hb j hj];rfl⟩
 unfold frsI;rw [e]
theorem frsI_none {p:Nat→Bool} {n:Nat} (hb:∀j,j<n→p j=false):frsI p n=-1:=by
 have e:(List.range n).find? p=none:=List.find?_eq_none.2 fun x hx=>by rw [hb x (List.mem_range.1 hx)];decide
 unfold frsI;rw [e]
theorem frsI_any {p:Nat→Bool} {n:Nat}:decide (0≤frsI p n)=(List.range n).any p:=by
 unfold frsI
 cases h:(List.range n).find? p with
 | none =>
  have h0:=List.find?_eq_none.1 h
  have:(List.range n).any p=false:=by
   rw [List.any_eq_false];exact fun x hx=>h0 x hx
  rw [this];rfl
 | some i =>
  have h0:=List.find?_some h
  have h1:=List.mem_of_find?_eq_some h
  have:(List.range n).any p=true:=List.any_eq_true.2 ⟨i,h1,h0⟩
  rw [this];exact decide_eq_true (by simp only;omega)
set_option maxRecDepth 100000 in
theorem indexFuncS_w {l:List Nat} {g:FuncId} {a b:List FV} {p:Nat→Bool} (hl:l.length≤1000) (hg:∀i,i<l.length→Good Tryd.prog g (a++[U (l.getD i 0)]++b) (Bo (p i))) :
  Good Tryd.prog 70 [.fz 1 (l.map U),.fn g a b] (I (frsI p l.length)):=by
 have hul:(l.map U).length=l.length:=List.length_map ..
 refine good_of Tryd.func70 rfl (by kernel_rfl) fun X hO hrd=>?_;rw [Tryd.ntmps70,Tryd.results70];simp only [ast0,List.map_cons,List.map_nil,List.length_cons,List.length_nil,Nat.reduceAdd,Nat.reduceSub,List.replicate_succ,List.replicate_zero,List.cons_append,List.nil_append]
 (repeat (with_reducible first|refine W_seq fun K hK=>?_|refine J_block ?_|refine J_region ?_ |(refine Kont.go (by assumption) ?_)|(simp (config:={ maxSteps:=3000000 }) (disch:=omega) only [go_sem,hul])))
 refine W_loop [4,5,8,9,10,11,12,13,14,15,16,17,18] (fun x:Nat=>[(8,.f (I x))]) (fun x:Nat=>[]) (fun x:Nat=>x≤l.length∧∀j,j<x→p j=false) (fun x:Nat=>l.length-x) (0) (⟨Nat.zero_le _,fun j h=>by omega⟩) (by refine weak_of ?_ ?_<;>simp (disch:=omega) only [go_sem]<;>first|rfl|exact ⟨rfl,rfl⟩|exact Or.inl rfl|exact ⟨Or.inl rfl,Or.inl rfl⟩|trivial|assumption|omega|(symm;assumption)|((repeat' apply And.intro)<;>first|rfl|omega|trivial|exact .inl rfl|exact .inr ⟨rfl,rfl⟩|exact .inr rfl|(right;symm;assumption)|(symm;assumption)|assumption)) ?_
 rintro i ⟨hi,hp⟩
 simp only [go_sem]
 (repeat (with_reducible first|refine W_seq fun K hK=>?_|refine J_region ?_ |refine J_c ?_|(refine Kont.go (by assumption) ?_)|(simp (config:={ maxSteps:=3000000 }) (disch:=omega) only [go_sem])))
 refine Jc_if (fun hlt=>?_) (fun hlt=>?_)<;>try simp only [decide_eq_true_eq,decide_eq_false_iff_not] at hlt
 ·have hx:=sets_get (P:=l) hlt
  have hc:=hg i hlt
  (repeat (with_reducible first|refine W_seq fun K hK=>?_|refine J_block ?_|refine J_skip ?_|refine J_region ?_ |(refine Kont.go (by assumption) ?_)|(simp (config:={ maxSteps:=3000000 }) (disch:=omega) only [go_sem,↓reduceIte,hx])))
  refine call_f hc (by simp) ?_
  (repeat (with_reducible first|refine J_c ?_|(refine Kont.go (by assumption) ?_)|(simp (config:={ maxSteps:=3000000 }) (disch:=omega) only [go_sem])))
  refine Jc_if (fun hpi=>?_) (fun hpi=>?_)<;>try simp only [decide_eq_true_eq,decide_eq_false_iff_not,Bool.not_eq_true',Bool.not_eq_false',Bool.not_true,Bool.not_false,Int.ofNat_lt,Int.ofNat_le,Int.natCast_inj,Classical.not_not] at hpi
  ·have e:frsI p l.length=i:=frsI_some hlt hpi hp
   (repeat (with_reducible first|refine W_seq fun K hK=>?_|refine J_ret ?_|refine J_region ?_ |(refine Kont.go (by assumption) ?_)|(simp (config:={ maxSteps:=3000000 }) (disch:=omega) only [go_sem])))
   rw [e]
   exact Frz.f _
  ·have hpf:p i=false:=by simpa using hpi
   (repeat (with_reducible first|refine J_skip ?_|refine J_region ?_ |(refine Kont.go (by assumption) ?_)|(simp (config:={ maxSteps:=3000000 }) (disch:=omega) only [go_sem])))
   refine ⟨i+1,⟨by omega,upto_next (p:=fun j=>p j=false) hp hpf⟩,by omega,weak_of ?_ ?_⟩<;>(try simp (disch:=omega) only [go_sem])<;>(try first|done|omega|rfl|exact ⟨rfl,rfl⟩|trivial)
 ·have he:i=l.length:=by omega
  subst he
  have e:frsI p l.length=-1:=frsI_none hp
  (repeat (with_reducible first|refine W_seq fun K hK=>?_|refine J_exit ?_|refine J_ret ?_|refine J_region ?_ |(refine Kont.go (by assumption) ?_)|(simp (config:={ maxSteps:=3000000 }) (disch:=omega) only [go_sem,↓reduceIte,Int.reduceNeg])))
  rw [e]
  exact Frz.f _
set_option maxRecDepth 100000 in
theorem containsFuncS_w {l:List Nat} {g:FuncId} {a b:List FV} {p:Nat→Bool} (hl:l.length≤1000) (hg:∀i,i<l.length→Good Tryd.prog g (a++[U (l.getD i 0)]++b) (Bo (p i))) :
  Good Tryd.prog 50 [.fz 1 (l.map U),.fn g a b] (Bo ((List.range l.length).any p)):=by
 have h:=indexFuncS_w hl hg
 rw [←frsI_any]
 refine good_of Tryd.func50 rfl (by kernel_rfl) fun X hO hrd=>?_;rw [Tryd.ntmps50,Tryd.results50];simp only [ast0,List.map_cons,List.map_nil,List.length_cons,List.length_nil,Nat.reduceAdd,Nat.reduceSub,List.replicate_succ,List.replicate_zero,List.cons_append,List.nil_append]
 (repeat (with_reducible first|refine W_seq fun K hK=>?_|refine J_region ?_ |(refine Kont.go (by assumption) ?_)|(simp (config:={ maxSteps:=3000000 }) (disch:=omega) only [go_sem])))
 refine call_f h rfl ?_
 (repeat (with_reducible first|refine J_ret ?_|exact Frz.f _|(refine Kont.go (by assumption) ?_)|(simp (config:={ maxSteps:=3000000 }) (disch:=omega) only [go_sem])))
section
variable {s t : Nat}
set_option maxRecDepth 100000 in
theorem tree1_w (hs:s<256) (ht:t<256):Good Tryd.prog 51 [U t,.fp (U s) 0] (Bo (decide (dif s t=0))):=by
 have h1:=u_an hs ht
 refine good_of Tryd.func51 rfl (by kernel_rfl) fun X hO hrd=>?_;rw [Tryd.ntmps51,Tryd.results51];simp only [ast0,List.map_cons,List.map_nil,List.length_cons,List.length_nil,Nat.reduceAdd,Nat.reduceSub,List.replicate_succ,List.replicate_zero,List.cons_append,List.nil_append]
 (repeat (with_reducible first|refine W_seq fun K hK=>?_|refine J_ret ?_|refine J_region ?_ |exact Frz.f _|(refine Kont.go (by assumption) ?_)|(simp (config:={ maxSteps:=3000000 }) (disch:=omega) only [go_sem,↓reduceIte,h1])))
set_option maxRecDepth 100000 in
theorem tree2_w (hs:s<256) (ht:t<256):Good Tryd.prog 52 [U t,.fp (U s) 0] (Bo (decide (dif s t=0)&&!decide (s=t))):=by
 have h1:=u_an hs ht
 refine good_of Tryd.func52 rfl (by kernel_rfl) fun X hO hrd=>?_;rw [Tryd.ntmps52,Tryd.results52];simp only [ast0,List.map_cons,List.map_nil,List.length_cons,List.length_nil,Nat.reduceAdd,Nat.reduceSub,List.replicate_succ,List.replicate_zero,List.cons_append,List.nil_append]
 by_cases e:dif s t=0
 ·(repeat (with_reducible first|refine W_seq fun K hK=>?_|refine J_ret ?_|refine J_region ?_ |(refine Kont.go (by assumption) ?_)|(simp (config:={ maxSteps:=3000000 }) (disch:=omega) only [go_sem,↓reduceIte,h1,e])))
  rw [show decide ((s:Int)=(t:Int))=decide (s=t) from decide_eq_decide.2 Int.natCast_inj]
  exact Frz.f _
 ·(repeat (with_reducible first|refine W_seq fun K hK=>?_|refine J_ret ?_|refine J_region ?_ |exact Frz.f _|(refine Kont.go (by assumption) ?_)|(simp (config:={ maxSteps:=3000000 }) (disch:=omega) only [go_sem,↓reduceIte,h1,e])))
end
end Go.Proofs.YtgjnbcfencallaaDoor
set_option linter.unusedVariables false
set_option linter.unusedSimpArgs false
namespace Go.Proofs.YtgjnbcfencallaaDoor
open Go Go.RowKit
theorem U_get {l:List Nat} {v:Nat} (h:v<l.length):(l.map U)[v]?=some (U (l.getD v 0)):=by rw [map_get U l h,lget_lt l 0 h]
set_option maxRecDepth 100000 in
set_option maxHeartbeats 8000000 in
theorem lacks_w {l:List Nat} {s:Nat} (hl:∀v,l.getD v 0<256) (hn:l.length≤8) (hs:s<256) (hb:∀v,s.testBit v=true→v<l.length) :
  Good Tryd.prog 47 [.fz 1 (l.map U),U s] (I ((lackS l s (els s).length/2:Nat):Int)):=by
 have hit:=all_iter s hs
 have hel:=els_len (s:=s)
 have h0:I 0=I ((lackS l s 0:Nat):Int):=by unfold lackS;rfl
 refine good_of Tryd.func47 rfl (by kernel_rfl) fun X hO hrd=>?_;rw [Tryd.ntmps47,Tryd.results47];simp only [ast0,List.map_cons,List.map_nil,List.length_cons,List.length_nil,Nat.reduceAdd,Nat.reduceSub,List.replicate_succ,List.replicate_zero,List.cons_append,List.nil_append]
 (repeat (with_reducible first|refine W_seq fun K hK=>?_|refine J_block ?_|refine J_region ?_ |(refine Kont.go (by assumption) ?_)|(simp (config:={ maxSteps:=3000000 }) (disch:=omega) only [go_sem,↓reduceIte,Nat.reduceAdd])))
 refine J_rangeW hrd [6,9,10,11,12,13,14,15,16,17,18,19,20,21] (fun i=>[some ⟨52,1,[.f (.fz 1 (l.map U))]⟩,some ⟨56,1,[.f (U s)]⟩,some ⟨3,1,[.f (I ((lackS l s i:Nat):Int))]⟩]) rfl (hit) (by kernel_rfl) (by refine weak_of ?_ ?_<;>simp (disch:=omega) only [go_sem,Nat.reduceAdd]<;>first|rfl|exact ⟨rfl,rfl⟩|trivial|((repeat' apply And.intro)<;>first|rfl|trivial|exact .inl rfl|exact .inr ⟨rfl,rfl⟩|exact .inr rfl)) (by decide) (by kernel_rfl) (by kernel_rfl) ?_ ?_
 ·rintro i x hx X1 hX1 K hK
  obtain ⟨v,rfl,hv8,hvs,hvi,htk⟩:=els_take hx
  simp only [go_sem]
  (repeat (with_reducible first|refine J_region ?_ |(refine Kont.go (by assumption) ?_)|(simp (config:={ maxSteps:=3000000 }) (disch:=omega) only [go_sem])))
  intro X2 hX2
  have hvl:=hb v hvs
  have g1:=U_get hvl
  have a1:=u_an hs (hl v)
  have a2:=u_shl hv8
  have a3:=u_an (dif_lt (b:=l.getD v 0) hs) (bit_lt hv8)
  have hlen:=len_w (dif_lt (b:=bit v) (dif_lt (b:=l.getD v 0) hs))
  have hnx:=lackS_next (l:=l) (s:=s) hvi
  have hi8:i<8:=by have:=(List.getElem?_eq_some_iff.1 hvi).1;omega
  have hle:=lackS_le (l:=l) (s:=s) i (by omega)
  have hle2:=els_len (s:=dif (dif s (l.getD v 0)) (bit v))
  have hnx':((lackS l s i:Nat):Int)+((els (dif (dif s (l.getD v 0)) (bit v))).length:Int)=((lackS l s (i+1):Nat):Int):=by omega
  (repeat (with_reducible first|refine J_block ?_|refine J_drawn mixed (by kernel_rfl) ?_|(simp (config:={ maxSteps:=3000000 }) (disch:=omega) only [go_sem,↓reduceIte,g1,a1,a2,a3,true_and,and_self])))
  (first|refine call_f (hlen) rfl ?_|refine callQ_f (hlen) rfl ?_|refine callHK_f (hlen) rfl ?_|refine callH_f (hlen) rfl ?_)
  (repeat (with_reducible first|(simp (config:={ maxSteps:=3000000 }) (disch:=omega) only [go_sem,hnx'])))
  refine rpost_n (weak_of ?_ ?_)<;>(try simp (disch:=omega) only [go_sem,Nat.reduceAdd])<;>(try first|done|omega|rfl|exact ⟨rfl,rfl⟩|trivial)
 ·have he:((els s).map Int.ofNat).length=(els s).length:=by rw [List.length_map]
  rw [he]
  have hle:=lackS_le (l:=l) (s:=s) (els s).length hel
  have hq:((lackS l s (els s).length:Nat):Int).tdiv 2=((lackS l s (els s).length/2:Nat):Int):=by
   rw [Int.tdiv_eq_ediv_of_nonneg (by omega)];omega
  simp only [go_sem]
  (repeat (with_reducible first|refine W_seq fun K hK=>?_|refine J_ret ?_|refine J_region ?_ |exact Frz.f _|(refine Kont.go (by assumption) ?_)|(simp (config:={ maxSteps:=3000000 }) (disch:=omega) only [go_sem,↓reduceIte,Int.reduceEq,hq])))
end Go.Proofs.YtgjnbcfencallaaDoor
set_option linter.unusedVariables false
set_option linter.unusedSimpArgs false
namespace Go.Proofs.YtgjnbcfencallaaDoor
open Go Go.RowKit
def symB (L:List (List Int)):Bool:=(List.range L.length).all fun v=>(els ((setsOf L).getD v 0)).all fun u=>((setsOf L).getD u 0).testBit v
def filE (L:List (List Int)):Int:=if listsB L=true∧symB L=true then 0 else 11
def lft (n:Nat):Nat:=2^n-1
def filO (L:List (List Int)):List Nat:=if listsB L=true∧symB L=true then (List.range L.length).map (fB (setsOf L) (lft L.length)) else []
def filB (L:List (List Int)):List Nat:=if listsB L=true∧symB L=true then (List.range L.length).map (fBag (setsOf L) (lft L.length)) else []
def bA (l:List Nat) (left:Nat):Nat→Int × Nat
 | 0=>(-1,0)
 | i+1=>if (bA l left i).1<0∨lk l left ((els left).getD i 0)<(bA l left i).2 then (((els left).getD i 0:Nat),lk l left ((els left).getD i 0)) else bA l left i
def updI (l:List Nat) (left i:Nat):List Nat:=(List.range l.length).map fun v=>if v∈(els (updS l left)).take i then l.getD v 0|||dif (updS l left) (bit v) else l.getD v 0
theorem sn_lt {f:Nat→Nat} {m:Nat}:∀{n:Nat},(∀k,k<n→f k≤m)→sn f n≤n*m:=by
 intro n
 induction n with
 | zero=>intro _;simp [sn]
 | succ n ih=>intro h;have h1:=ih fun k hk=>h k (by omega);have h2:=h n (by omega);show sn f n+f n≤_;rw [Nat.add_mul];omega
section
variable {l : List Nat} {n left i v u : Nat}
theorem bA_inv:∀i,i≤(els left).length→(i=0∧bA l left i=(-1,0))∨(0<i∧∃v:Nat,(bA l left i)=((v:Int),lk l left v)∧v∈(els left).take i∧∀u∈(els left).take i,lk l left v≤lk l left u∧(lk l left u=lk l left v→v≤u)):=by
 intro i
 induction i with
 | zero=>intro _;exact .inl ⟨rfl,rfl⟩
 | succ i ih =>
  intro hi
  have hil:i<(els left).length:=by omega
  have hg:(els left).getD i 0=(els left)[i]:=lget_lt _ 0 hil
  have htk:(els left).take (i+1)=(els left).take i++[(els left)[i]]:=by rw [List.take_add_one,List.getElem?_eq_getElem hil];rfl
  refine .inr ⟨by omega,?_⟩
  unfold bA
  rw [hg]
  rcases ih (by omega) with ⟨rfl,e⟩|⟨h0,v,e,hm,hb⟩
  ·rw [e,if_pos (.inl (by decide))]
   refine ⟨_,rfl,by rw [htk];simp,fun u hu=>?_⟩
   rw [htk] at hu
   simp at hu
   rw [hu]
   exact ⟨Nat.le_refl _,fun _=>Nat.le_refl _⟩
  ·rw [e]
   by_cases hc:lk l left (els left)[i]<lk l left v
   ·rw [if_pos (.inr hc)]
    refine ⟨_,rfl,by rw [htk];exact List.mem_append_right _ (List.mem_singleton.2 rfl),fun u hu=>?_⟩
    rw [htk] at hu
    rcases List.mem_append.1 hu with hu|hu
    ·have:=(hb u hu).1
     exact ⟨by omega,fun e=>by omega⟩
    ·rw [List.mem_singleton.1 hu];exact ⟨Nat.le_refl _,fun _=>Nat.le_refl _⟩
   ·rw [if_neg (fun h=>by rcases h with h|h;exact absurd h (by simp only;omega);exact hc h)]
    refine ⟨v,rfl,by rw [htk];exact List.mem_append_left _ hm,fun u hu=>?_⟩
    rw [htk] at hu
    rcases List.mem_append.1 hu with hu|hu
    ·exact hb u hu
    ·rw [List.mem_singleton.1 hu]
     refine ⟨by omega,fun _=>?_⟩
     obtain ⟨j,hj,ej⟩:=List.getElem_of_mem hm
     rw [List.length_take] at hj
     rw [List.getElem_take] at ej
     have:=(List.pairwise_iff_getElem.1 (els_sorted (s:=left))) j i (by omega) hil (by omega)
     omega
theorem bA_end (h0:left≠0) (h8:left<256):bA l left (els left).length=(((bst l left:Nat):Int),lk l left (bst l left)):=by
 have hb:=bst_lt (l:=l) h0 h8
 have hm:bst l left∈els left:=els_mem.2 ⟨hb.here,hb.mem⟩
 rcases bA_inv (l:=l) (left:=left) _ (Nat.le_refl _) with ⟨e,_⟩|⟨_,v,e,hv,hl⟩
 ·rw [List.length_eq_zero_iff.1 e] at hm;simp at hm
 ·rw [e]
  rw [List.take_length] at hv hl
  have h1:=hl _ hm
  obtain ⟨hv8,hvb⟩:=els_mem.1 hv
  have h2:=hb.least v hv8 hvb
  have:v=bst l left:=by
   have a:=h1.1
   have b:=h2.1
   have c:=h1.2 (by omega)
   have d:=h2.2 (by omega)
   omega
  rw [this]
theorem bA_le:∀i,(bA l left i).2≤64∧-1≤(bA l left i).1∧(bA l left i).1≤8:=by
 have hlk:∀v,lk l left v≤64:=fun v=>sn_lt (m:=8) fun a ha=>Nat.le_trans (sn_lt (m:=1) fun b hb=>by unfold lackF;split<;>omega) (by omega)
 intro i
 induction i with
 | zero=>exact ⟨Nat.zero_le _,Int.le_refl _,by show (-1:Int)≤8;decide⟩
 | succ i ih =>
  unfold bA
  split
  ·refine ⟨hlk _,by simp only;omega,?_⟩
   simp only
   by_cases hi:i<(els left).length
   ·rw [lget_lt _ 0 hi]
    have:=(els_mem.1 (List.getElem_mem hi)).1
    omega
   ·rw [List.getD_eq_getElem?_getD,List.getElem?_eq_none (by omega)];simp
  ·exact ih
theorem updI_zero:updI l left 0=l:=by
 unfold updI
 apply List.ext_getElem?
 intro j
 by_cases hj:j<l.length
 ·simp [hj]
 ·rw [List.getElem?_eq_none (by simp;omega),List.getElem?_eq_none (by omega)]
theorem updI_len:(updI l left i).length=l.length:=by simp [updI]
theorem updI_get (h:v<l.length):(updI l left i).getD v 0=if v∈(els (updS l left)).take i then l.getD v 0|||dif (updS l left) (bit v) else l.getD v 0:=by
 rw [lget_lt _ 0 (by rw [updI_len];exact h)];simp [updI]
theorem updI_all (h8:updS l left<256):updI l left (els (updS l left)).length=updL l left:=by
 unfold updI updL
 refine List.map_congr_left fun v hv=>?_
 rw [List.take_length]
 have:(v∈els (updS l left))=((updS l left).testBit v=true):=propext ⟨fun h=>(els_mem.1 h).2,fun h=>els_mem.2 ⟨bits_lt8 h8 h,h⟩⟩
 simp only [this]
theorem updI_step (hu:(els (updS l left))[i]?=some u) (hul:u<l.length):(((updI l left i).map U).map AV.f).set u (.f (U (l.getD u 0|||dif (updS l left) (bit u))))=((updI l left (i+1)).map U).map .f:=by
 rw [←List.map_set,←List.map_set]
 congr 2
 unfold updI
 rw [range_set hul]
 refine List.map_congr_left fun k hk=>?_
 rw [List.take_add_one,hu]
 by_cases e:k=u
 ·subst e;simp
 ·simp [e]
theorem updI_cur (hu:(els (updS l left))[i]?=some u) (hul:u<l.length):(updI l left i).getD u 0=l.getD u 0:=by
 rw [updI_get hul,if_neg]
 intro hm
 have hnd:=els_nodup (s:=updS l left)
 rw [←List.take_append_drop i (els (updS l left))] at hnd
 have hd:u∈(els (updS l left)).drop i:=List.mem_of_getElem? (i:=0) (by rw [List.getElem?_drop];exact hu)
 exact (List.nodup_append.1 hnd).2.2 u hm u hd rfl
end
theorem lft_bit {n u:Nat} (hn:n≤8):(lft n).testBit u=decide (u<n):=by
 unfold lft;exact Nat.testBit_two_pow_sub_one n u
theorem lft_lt {n:Nat} (hn:n≤8):lft n<256:=lt256 fun v hv=>by
 rw [lft_bit hn] at hv;have:=of_decide_eq_true hv;omega
theorem lft_shl:∀n:Nat,n≤8→IntKind.u64.wrap (IntKind.u64.wrap (1*2^min n 64)-1)=((lft n:Nat):Int):=by decide
theorem symB_ok {L:List (List Int)} (hb:listsB L=true) (hs:symB L=true):GrOk L.length (setsOf L):=by
 have hg:=GP.of hb
 have h1:∀v u,((setsOf L).getD v 0).testBit u=true→((setsOf L).getD u 0).testBit v=true:=fun v u h=>by
  have hv:=(hg.pa u v h).2
  have:=List.all_eq_true.1 (List.all_eq_true.1 hs v (List.mem_range.2 hv)) u (els_mem.2 ⟨bits_lt8 hg.lt8 h,h⟩)
  exact this
 refine ⟨hg.len,hg.n8,fun a b=>?_,hg.irr,hg.lt⟩
 rw [Bool.eq_iff_iff]
 exact ⟨h1 a b,h1 b a⟩
end Go.Proofs.YtgjnbcfencallaaDoor
set_option linter.unusedVariables false
set_option linter.unusedSimpArgs false
namespace Go.Proofs.YtgjnbcfencallaaDoor
open Go Go.RowKit
def edR (n s:Nat):List FV:=(List.range n).map fun u=>Bo (s.testBit u)
def edG (n:Nat) (l:List Nat):List FV:=(List.range n).map fun v=>.fz 1 (edR n (l.getD v 0))
section
variable {n v u s : Nat} {l : List Nat}
theorem edG_get (h:v<n):(edG n l)[v]?=some (.fz 1 (edR n (l.getD v 0))):=by simp [edG,h]
theorem edR_get (h:u<n):(edR n s)[u]?=some (Bo (s.testBit u)):=by simp [edR,h]
theorem edG_len:(edG n l).length=n:=by simp [edG]
theorem edR_len:(edR n s).length=n:=by simp [edR]
end
def pairD (l:List Nat) (v:Nat) (o:List Nat) (a b:Nat):Bool:=!decide (a∈o)&&!decide (b∈o)&&(l.getD v 0).testBit a&&(l.getD v 0).testBit b&&!(l.getD a 0).testBit b
def lackD (l:List Nat) (v:Nat) (o:List Nat) (a b:Nat):Nat:=if pairD l v o a b=true then 1 else 0
set_option maxRecDepth 100000 in
set_option maxHeartbeats 8000000 in
theorem dlacks_w {n:Nat} {l o:List Nat} {v:Nat} (hn:n≤8) (hv:v<n) (ho:o.length≤8) :
  Good Tryd.prog 48 [.fz 1 (edG n l),I (v:Int),.fz 1 (Ns o)] (I ((sn (fun a=>sn (lackD l v o a) a) n:Nat):Int)):=by
 have hel:=edG_len (n:=n) (l:=l)
 have her:∀s,(edR n s).length=n:=fun s=>edR_len
 have hle:∀a b,lackD l v o a b≤1:=fun a b=>by unfold lackD;split<;>omega
 have gv:=edG_get (l:=l) hv
 have h0:I 0=I ((sn (fun a=>sn (lackD l v o a) a) 0:Nat):Int):=rfl
 refine good_of Tryd.func48 rfl (by kernel_rfl) fun X hO hrd=>?_;rw [Tryd.ntmps48,Tryd.results48];simp only [ast0,List.map_cons,List.map_nil,List.length_cons,List.length_nil,Nat.reduceAdd,Nat.reduceSub,List.replicate_succ,List.replicate_zero,List.cons_append,List.nil_append]
 (repeat (with_reducible first|refine W_seq fun K hK=>?_|refine J_block ?_|refine J_region ?_ |(refine Kont.go (by assumption) ?_)|(simp (config:={ maxSteps:=3000000 }) (disch:=omega) only [go_sem])))
 refine W_loop [7,8,9,10,11,12,13,14,15,16,17,18,19,20,21,22,23,24,25,26,27,28,29,30,31,32,33,34,35,36,37,38,39,40,41,42,43,44,45,46,47,48,49,50,51,52,53,54,55,56,57,58,59,60,61,62,63,64] (fun x:Nat=>[(7,.f (I ((sn (fun a=>sn (lackD l v o a) a) x:Nat):Int))),(8,.f (I x))]) (fun x:Nat=>[]) (fun x:Nat=>x≤n) (fun x:Nat=>n-x) (0) (Nat.zero_le _) (by refine weak_of ?_ ?_<;>simp (disch:=omega) only [go_sem]<;>first|rfl|exact ⟨rfl,rfl⟩|exact Or.inl rfl|exact ⟨Or.inl rfl,Or.inl rfl⟩|trivial|assumption|omega|(symm;assumption)|((repeat' apply And.intro)<;>first|rfl|omega|trivial|exact .inl rfl|exact .inr ⟨rfl,rfl⟩|exact .inr rfl|(right;symm;assumption)|(symm;assumption)|assumption)) ?_
 rintro a ha
 simp only [go_sem]
 (repeat (with_reducible first|refine W_seq fun K hK=>?_|refine J_region ?_ |refine J_c ?_|(refine Kont.go (by assumption) ?_)|(simp (config:={ maxSteps:=3000000 }) (disch:=omega) only [go_sem,hel])))
 refine Jc_if (fun hal=>?_) (fun hal=>?_)<;>try simp only [decide_eq_true_eq,decide_eq_false_iff_not] at hal
 ·(repeat (with_reducible first|refine W_seq fun K hK=>?_|refine J_block ?_|refine J_skip ?_|refine J_region ?_ |(refine Kont.go (by assumption) ?_)|(simp (config:={ maxSteps:=3000000 }) (disch:=omega) only [go_sem])))
  have hla:=sn_lt (f:=fun a=>sn (lackD l v o a) a) (m:=8) (n:=a) (fun k hk=>by
   have:=sn_lt (f:=lackD l v o k) (m:=1) (n:=k) (fun b _=>hle k b);omega)
  refine W_loop [7,9,10,11,18,19,20,21,22,23,24,25,26,27,28,29,30,31,32,33,34,35,36,37,38,39,40,41,42,43,44,45,46,47,48,49,50,51,52,53,54,55,56,57,58,59,60,61,62,63,64] (fun x:Nat=>[(7,.f (I ((sn (fun a=>sn (lackD l v o a) a) a+sn (lackD l v o a) x:Nat):Int))),(9,.f (I x))]) (fun x:Nat=>[]) (fun x:Nat=>x≤a) (fun x:Nat=>a-x) (0) (Nat.zero_le _) (by refine weak_of ?_ ?_<;>simp (disch:=omega) only [go_sem]<;>first|rfl|exact ⟨rfl,rfl⟩|exact Or.inl rfl|exact ⟨Or.inl rfl,Or.inl rfl⟩|trivial|assumption|omega|(symm;assumption)|((repeat' apply And.intro)<;>first|rfl|omega|trivial|exact .inl rfl|exact .inr ⟨rfl,rfl⟩|exact .inr rfl|(right;symm;assumption)|(symm;assumption)|assumption)) ?_
  rintro b hb
  simp only [go_sem]
  have hlb:=sn_lt (f:=lackD l v o a) (m:=1) (n:=b) (fun b _=>hle a b)
  (repeat (with_reducible first|refine W_seq fun K hK=>?_|refine J_region ?_ |refine J_c ?_|(refine Kont.go (by assumption) ?_)|(simp (config:={ maxSteps:=3000000 }) (disch:=omega) only [go_sem])))
  refine Jc_if (fun hba=>?_) (fun hba=>?_)<;>try simp only [decide_eq_true_eq,decide_eq_false_iff_not] at hba
  ·have i1:=rinN_w a o (by omega) (by omega)
   have i2:=rinN_w b o (by omega) (by omega)
   have ga:=edG_get (l:=l) hal
   have g1:=edR_get (s:=l.getD v 0) hal
   have g2:=edR_get (s:=l.getD v 0) (show b<n by omega)
   have g3:=edR_get (s:=l.getD a 0) (show b<n by omega)
   have hnx:sn (lackD l v o a) (b+1)=sn (lackD l v o a) b+lackD l v o a b:=rfl
   have hd:lackD l v o a b=if pairD l v o a b=true then 1 else 0:=rfl
   unfold pairD at hd
   obtain ⟨x,hx⟩:∃x:Bool,x=decide (a∈o):=⟨_,rfl⟩
   obtain ⟨y,hy⟩:∃y:Bool,y=decide (b∈o):=⟨_,rfl⟩
   obtain ⟨p,hp⟩:∃p:Bool,p=(l.getD v 0).testBit a:=⟨_,rfl⟩
   obtain ⟨q,hq⟩:∃q:Bool,q=(l.getD v 0).testBit b:=⟨_,rfl⟩
   obtain ⟨r,hr⟩:∃r:Bool,r=(l.getD a 0).testBit b:=⟨_,rfl⟩
   rw [←hx] at i1 hd
   rw [←hy] at i2 hd
   rw [←hp] at g1 hd
   rw [←hq] at g2 hd
   rw [←hr] at g3 hd
   (repeat (with_reducible first|refine W_seq fun K hK=>?_|refine J_block ?_|refine J_skip ?_|refine J_region ?_ |(refine Kont.go (by assumption) ?_)|(simp (config:={ maxSteps:=3000000 }) (disch:=omega) only [go_sem])))
   refine call_f i1 rfl ?_
   (repeat (with_reducible first|refine W_seq fun K hK=>?_|refine J_region ?_ |(refine Kont.go (by assumption) ?_)|(simp (config:={ maxSteps:=3000000 }) (disch:=omega) only [go_sem])))
   refine call_f i2 rfl ?_
   have e0:lackD l v o a b=0→sn (fun a=>sn (lackD l v o a) a) a+sn (lackD l v o a) b=sn (fun a=>sn (lackD l v o a) a) a+sn (lackD l v o a) (b+1):=fun h=>by rw [hnx,h];rfl
   have e1:lackD l v o a b=1→((sn (fun a=>sn (lackD l v o a) a) a+sn (lackD l v o a) b:Nat):Int)+1=((sn (fun a=>sn (lackD l v o a) a) a+sn (lackD l v o a) (b+1):Nat):Int):=fun h=>by rw [hnx,h];omega
   cases x
   ·cases y
    ·cases p
     ·have e:=e0 hd
      (repeat (with_reducible first|refine W_seq fun K hK=>?_|refine J_skip ?_|refine J_region ?_ |refine J_c ?_|refine Jc_false ?_|(refine Kont.go (by assumption) ?_)|(simp (config:={ maxSteps:=3000000 }) (disch:=omega) only [go_sem,↓reduceIte,gv,g1])))
      refine ⟨b+1,by omega,by omega,weak_of ?_ ?_⟩<;>(try simp (disch:=omega) only [go_sem,e])<;>(try first|done|omega|rfl|exact ⟨rfl,rfl⟩|trivial)
     ·cases q
      ·have e:=e0 hd
       (repeat (with_reducible first|refine W_seq fun K hK=>?_|refine J_skip ?_|refine J_region ?_ |refine J_c ?_|refine Jc_false ?_|(refine Kont.go (by assumption) ?_)|(simp (config:={ maxSteps:=3000000 }) (disch:=omega) only [go_sem,↓reduceIte,gv,g1,g2])))
       refine ⟨b+1,by omega,by omega,weak_of ?_ ?_⟩<;>(try simp (disch:=omega) only [go_sem,e])<;>(try first|done|omega|rfl|exact ⟨rfl,rfl⟩|trivial)
      ·cases r
       ·have e:=e1 hd
        (repeat (with_reducible first|refine W_seq fun K hK=>?_|refine J_region ?_ |refine J_c ?_|refine Jc_true ?_|(refine Kont.go (by assumption) ?_)|(simp (config:={ maxSteps:=3000000 }) (disch:=omega) only [go_sem,↓reduceIte,gv,ga,g1,g2,g3,e])))
        refine ⟨b+1,by omega,by omega,weak_of ?_ ?_⟩<;>(try simp (disch:=omega) only [go_sem])<;>(try first|done|omega|rfl|exact ⟨rfl,rfl⟩|trivial)
       ·have e:=e0 hd
        (repeat (with_reducible first|refine W_seq fun K hK=>?_|refine J_skip ?_|refine J_region ?_ |refine J_c ?_|refine Jc_false ?_|(refine Kont.go (by assumption) ?_)|(simp (config:={ maxSteps:=3000000 }) (disch:=omega) only [go_sem,↓reduceIte,gv,ga,g1,g2,g3])))
        refine ⟨b+1,by omega,by omega,weak_of ?_ ?_⟩<;>(try simp (disch:=omega) only [go_sem,e])<;>(try first|done|omega|rfl|exact ⟨rfl,rfl⟩|trivial)
    ·have e:=e0 hd
     (repeat (with_reducible first|refine W_seq fun K hK=>?_|refine J_skip ?_|refine J_region ?_ |refine J_c ?_|refine Jc_false ?_|(refine Kont.go (by assumption) ?_)|(simp (config:={ maxSteps:=3000000 }) (disch:=omega) only [go_sem])))
     refine ⟨b+1,by omega,by omega,weak_of ?_ ?_⟩<;>(try simp (disch:=omega) only [go_sem,e])<;>(try first|done|omega|rfl|exact ⟨rfl,rfl⟩|trivial)
   ·have e:=e0 hd
    (repeat (with_reducible first|refine W_seq fun K hK=>?_|refine J_skip ?_|refine J_region ?_ |refine J_c ?_|refine Jc_false ?_|(refine Kont.go (by assumption) ?_)|(simp (config:={ maxSteps:=3000000 }) (disch:=omega) only [go_sem])))
    refine ⟨b+1,by omega,by omega,weak_of ?_ ?_⟩<;>(try simp (disch:=omega) only [go_sem,e])<;>(try first|done|omega|rfl|exact ⟨rfl,rfl⟩|trivial)
  ·have he:b=a:=by omega
   subst he
   have e:sn (fun a=>sn (lackD l v o a) a) b+sn (lackD l v o b) b=sn (fun a=>sn (lackD l v o a) a) (b+1):=rfl
   (repeat (with_reducible first|refine J_exit ?_|refine J_region ?_ |(refine Kont.go (by assumption) ?_)|(simp (config:={ maxSteps:=3000000 }) (disch:=omega) only [go_sem,↓reduceIte])))
   refine ⟨b+1,by omega,by omega,weak_of ?_ ?_⟩<;>(try simp (disch:=omega) only [go_sem,e])<;>(try first|done|omega|rfl|exact ⟨rfl,rfl⟩|trivial)
 ·have he:a=n:=by omega
  subst he
  (repeat (with_reducible first|refine W_seq fun K hK=>?_|refine J_exit ?_|refine J_ret ?_|refine J_region ?_ |exact Frz.f _|(refine Kont.go (by assumption) ?_)|(simp (config:={ maxSteps:=3000000 }) (disch:=omega) only [go_sem,↓reduceIte])))
end Go.Proofs.YtgjnbcfencallaaDoor
