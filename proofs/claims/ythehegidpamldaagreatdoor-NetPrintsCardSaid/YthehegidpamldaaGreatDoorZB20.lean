/- The order of a graph: walked, both sides. Conditions: what slices may hold. -/
import Derived.Test.YthehegidpamldaaGreatDoorZB19
import Derived.Test.YthehegidpamldaaGreatDoorZB16
import Derived.Test.YthehegidpamldaaGreatDoorZB17
import Derived.Test.YthehegidpamldaaGreatDoorZB14
import Derived.Lib.SlicesCompact
set_option linter.unusedVariables false
set_option linter.unusedSimpArgs false
namespace Go.Proofs.YthehegidpamldaaGreatDoor
open Go Go.RowKit
theorem ord_left {P done:List Nat} {n:Nat} (h:OrdI P n done):done.length≤n:=by
 have:=List.Nodup.length_le_of_subset h.nd (l₂:=List.range n) (fun x hx=>List.mem_range.2 (h.lt x hx))
 simpa using this
structure OrdS (P : List Nat) (n : Nat) (done : List Nat) : Prop where
  i : OrdI P n done
  eq : ordN P n (n - done.length) done = ordN P n n []
theorem OrdS.nil {P:List Nat} {n:Nat}:OrdS P n []:=⟨.nil,rfl⟩
theorem OrdS.next {P done:List Nat} {n v:Nat} (hg:GP n P) (h:OrdS P n done) (hl:done.length<n) (hv:nxtV P n done=some v):OrdS P n (done++[v]):=by
 refine ⟨h.i.next hg.pa hv,?_⟩
 rw [←h.eq]
 have e:n-done.length=(n-(done++[v]).length)+1:=by simp;omega
 rw [e]
 show _=(match nxtV P n done with|none=>none|some v=>ordN P n _ (done++[v]))
 rw [hv]
theorem OrdS.stop {P done:List Nat} {n:Nat} (h:OrdS P n done) (hl:done.length<n) (hv:nxtV P n done=none):ordN P n n []=none:=by
 rw [←h.eq]
 have e:n-done.length=(n-done.length-1)+1:=by omega
 rw [e]
 show (match nxtV P n done with|none=>none|some v=>ordN P n _ (done++[v]))=none
 rw [hv]
theorem OrdS.end {P done:List Nat} {n:Nat} (h:OrdS P n done) (hl:¬done.length<n):ordN P n n []=some done:=by
 rw [←h.eq]
 have:=ord_left h.i
 rw [show n-done.length=0 by omega];rfl
theorem bad_ordL {L:List (List Int)} (hb:listsB L=false):ordL L=[]∧ordE L=11:=by unfold ordL ordE;rw [hb];exact ⟨rfl,rfl⟩
theorem ok_ord {L:List (List Int)} (hb:listsB L=true) {o:Option (List Nat)} (h:ordN (setsOf L) L.length L.length []=o):ordL L=o.getD []∧ordE L=if o.isSome=true then 0 else 10:=by
 unfold ordL ordE;rw [hb,h];exact ⟨rfl,rfl⟩
set_option maxRecDepth 100000 in
set_option maxHeartbeats 8000000 in
theorem order_w (L:List (List Int)) (hL:OkIss L):Good Tryz.prog 90 [.fz 1 (L.map ints)] (.tup [.fz 1 (Ns (ordL L)),I (ordE L)]):=by
 have hr:=reads_w L hL
 obtain ⟨vL,hvL⟩:∃vL,vL=ordL L:=⟨_,rfl⟩
 obtain ⟨vE,hvE⟩:∃vE,vE=ordE L:=⟨_,rfl⟩
 rw [←hvL,←hvE]
 refine good_of Tryz.func90 rfl (by kernel_rfl) fun X hO hrd=>?_;rw [Tryz.ntmps90,Tryz.results90];simp only [ast0,List.map_cons,List.map_nil,List.length_cons,List.length_nil,Nat.reduceAdd,Nat.reduceSub,List.replicate_succ,List.replicate_zero,List.cons_append,List.nil_append]
 (repeat (with_reducible first|refine W_seq fun K hK=>?_|refine J_region ?_ |(refine Kont.go (by assumption) ?_)|(simp (config:={ maxSteps:=3000000 }) (disch:=omega) only [go_sem])))
 refine J_scope ?_
 (repeat (with_reducible first|refine W_seq fun K hK=>?_|refine J_region ?_ |(simp (config:={ maxSteps:=3000000 }) (disch:=omega) only [go_sem])))
 refine call_ot hr (FrzL.fs [_]) ?_
 cases hb:listsB L with
 | false =>
  obtain ⟨e1,e2⟩:=bad_ordL hb
  have e3:rdR L=.f nilV:=by unfold rdR;rw [hb];rfl
  rw [e3]
  (repeat (with_reducible first|refine W_seq fun K hK=>?_|refine J_ret ?_|refine J_region ?_ |refine J_c ?_|refine Jc_true ?_|(refine Kont.go (by assumption) ?_)|(simp (config:={ maxSteps:=3000000 }) (disch:=omega) only [go_sem])))
  rw [hvL,hvE,e1,e2]
  exact ⟨_,rfl,FrzL.cons (.nil _) (FrzL.cons (.f _) (FrzL.nil _))⟩
 | true =>
  have hg:=GP.of hb
  have e3:rdR L=.own 156 1 ((setsOf L).map U):=by unfold rdR;rw [hb];rfl
  have ho:=fun o=>ok_ord (o:=o) hb
  rw [e3]
  obtain ⟨P,hP⟩:∃P,P=setsOf L:=⟨_,rfl⟩
  obtain ⟨n,hn⟩:∃n,n=L.length:=⟨_,rfl⟩
  rw [←hP,←hn] at hg ho
  rw [←hvL,←hvE] at ho
  rw [←hP]
  have hl:=hg.len
  have hn8:=hg.n8
  (repeat (with_reducible first|refine W_seq fun K hK=>?_|refine J_skip ?_|refine J_region ?_ |refine J_c ?_|refine Jc_false ?_|(refine Kont.go (by assumption) ?_)|(simp (config:={ maxSteps:=3000000 }) (disch:=omega) only [go_sem])))
  refine J_label ?_
  (repeat (with_reducible first|refine W_seq fun K hK=>?_|refine J_block ?_|(refine Kont.go (by assumption) ?_)|(simp (config:={ maxSteps:=3000000 }) (disch:=omega) only [go_sem])))
  refine J_freezeO (j:=4) rfl (by first|rfl|(simp;done)|(simp [*];done)) rfl ?_
  simp only [go_sem]
  refine J_reserve ?_
  refine W_loop [2,3,6,7,8,9,17,18,19,20,21,22,23,24,25,26,27,28,29,30,31,32,33,34,35,36,37,38,39,40,41,42,43,44,45,46,47] (fun done:List Nat=>[(6,sl 1 1 (Ns done)),(7,.f (U (setN done)))]) (fun done:List Nat=>[none,ob 3 1 (Ns done)]) (fun done:List Nat=>OrdS P n done) (fun done:List Nat=>n-done.length) ([]) (OrdS.nil) (by refine weak_of ?_ ?_<;>simp (disch:=omega) only [go_sem,Nat.reduceAdd]<;>first|rfl|exact ⟨rfl,rfl⟩|exact Or.inl rfl|exact ⟨Or.inl rfl,Or.inl rfl⟩|trivial|assumption|omega|(symm;assumption)|((repeat' apply And.intro)<;>first|rfl|omega|trivial|exact .inl rfl|exact .inr ⟨rfl,rfl⟩|exact .inr rfl|(right;symm;assumption)|(symm;assumption)|assumption)) ?_
  rintro done hd
  have hdl:=ord_left hd.i
  have hNl:(Ns done).length=done.length:=Ns_len
  have hd8:setN done<256:=setN_lt fun v hv=>by have:=hd.i.lt v hv;omega
  simp only [go_sem]
  (repeat (with_reducible first|refine W_seq fun K hK=>?_|refine J_region ?_ |refine J_c ?_|(refine Kont.go (by assumption) ?_)|(simp (config:={ maxSteps:=3000000 }) (disch:=omega) only [go_sem,hNl,List.length_map,hl])))
  refine Jc_if (fun hlt=>?_) (fun hlt=>?_)<;>try simp only [decide_eq_true_eq,decide_eq_false_iff_not] at hlt
  ·(repeat (with_reducible first|refine W_seq fun K hK=>?_|refine J_block ?_|refine J_skip ?_|refine J_region ?_ |(refine Kont.go (by assumption) ?_)|(simp (config:={ maxSteps:=3000000 }) (disch:=omega) only [go_sem,List.length_map,hl])))
   refine W_loop [6,7,8,9,24,25,26,27,28,29,30,31,32,33,34,35,36,37,38,39,40,41,42,43,44,45,46,47] (fun x:Nat=>[(6,sl 1 1 (Ns done)),(7,.f (U (setN done))),(24,.f (I x))]) (fun x:Nat=>[none,ob 3 1 (Ns done)]) (fun x:Nat=>x≤n∧∀j,j<x→freB P n done j=false) (fun x:Nat=>n-x) (0) (⟨Nat.zero_le _,fun j h=>by omega⟩) (by refine weak_of ?_ ?_<;>simp (disch:=omega) only [go_sem,Nat.reduceAdd]<;>first|rfl|exact ⟨rfl,rfl⟩|exact Or.inl rfl|exact ⟨Or.inl rfl,Or.inl rfl⟩|trivial|assumption|omega|(symm;assumption)|((repeat' apply And.intro)<;>first|rfl|omega|trivial|exact .inl rfl|exact .inr ⟨rfl,rfl⟩|exact .inr rfl|(right;symm;assumption)|(symm;assumption)|assumption)) ?_
   rintro x ⟨hx,hp⟩
   simp only [go_sem]
   (repeat (with_reducible first|refine W_seq fun K hK=>?_|refine J_region ?_ |refine J_c ?_|(refine Kont.go (by assumption) ?_)|(simp (config:={ maxSteps:=3000000 }) (disch:=omega) only [go_sem])))
   refine Jc_if (fun hxl=>?_) (fun hxl=>?_)<;>try simp only [decide_eq_true_eq,decide_eq_false_iff_not] at hxl
   ·have hh:=has_w (v:=x) hd8 (by omega)
    rw [setN_bit] at hh
    have gx:=sets_get (P:=P) (v:=x) (by omega)
    have hfr:=fre_dif (done:=done) hg hxl
    have han:=u_an (b:=setN done) (hg.lt8 (v:=x)) hd8
    (repeat (with_reducible first|refine W_seq fun K hK=>?_|refine J_block ?_|refine J_skip ?_|refine J_region ?_ |(refine Kont.go (by assumption) ?_)|(simp (config:={ maxSteps:=3000000 }) (disch:=omega) only [go_sem,↓reduceIte,gx])))
    (first|refine call_f (hh) rfl ?_|refine callQ_f (hh) rfl ?_|refine callHK_f (hh) rfl ?_|refine callH_f (hh) rfl ?_)
    by_cases hm:x∈done
    ·have hdec:decide (x∈done)=true:=decide_eq_true hm
     rw [hdec] at hfr
     (repeat (with_reducible first|refine J_skip ?_|refine J_region ?_ |refine J_c ?_|refine Jc_false ?_|(refine Kont.go (by assumption) ?_)|(simp (config:={ maxSteps:=3000000 }) (disch:=omega) only [go_sem,hdec])))
     refine ⟨x+1,⟨by omega,upto_next (p:=fun j=>freB P n done j=false) hp (by rw [hfr];rfl)⟩,by omega,weak_of ?_ ?_⟩<;>(try simp (disch:=omega) only [go_sem,Nat.reduceAdd])<;>(try first|done|omega|rfl|exact ⟨rfl,rfl⟩|trivial)
    ·have hdec:decide (x∈done)=false:=decide_eq_false hm
     rw [hdec] at hfr
     by_cases hz:dif (P.getD x 0) (setN done)=0
     ·have hfr2:freB P n done x=true:=by rw [hfr,decide_eq_true hz];rfl
      have hnx:=nxt_some hxl hfr2 hp
      have hnd:((dif (P.getD x 0) (setN done):Nat):Int)=0:=by rw [hz];rfl
      have hap:((Ns done).length+1)*8≤140737488355328:=by omega
      have hsh:=u_shl (v:=x) (by omega)
      have hor:=u_or hd8 (bit_lt (v:=x) (by omega))
      rw [←setN_snoc] at hor
      (repeat (with_reducible first|refine W_seq fun K hK=>?_|refine J_exit ?_|refine J_region ?_ |refine aApp_sl ?_|refine J_c ?_|refine Jc_true ?_|(refine Kont.go (by assumption) ?_)|(simp (config:={ maxSteps:=3000000 }) (disch:=omega) only [go_sem,Nat.reduceEqDiff,↓reduceIte,Nat.reduceAdd,Nat.reduceLeDiff,hdec,han,hnd,hap,hsh,hor,Ns_snoc,Nat.reduceMul,Nat.le_refl,true_and,and_self])))
      refine ⟨done++[x],hd.next hg hlt hnx,by simp;omega,weak_of ?_ ?_⟩<;>(try simp (disch:=omega) only [go_sem,Nat.reduceAdd])<;>(try first|done|omega|rfl|exact ⟨rfl,rfl⟩|trivial)
     ·have hfr2:freB P n done x=false:=by rw [hfr,decide_eq_false hz];rfl
      have hnd:¬((dif (P.getD x 0) (setN done):Nat):Int)=0:=by omega
      (repeat (with_reducible first|refine J_skip ?_|refine J_region ?_ |refine J_c ?_|refine Jc_false ?_|(refine Kont.go (by assumption) ?_)|(simp (config:={ maxSteps:=3000000 }) (disch:=omega) only [go_sem,hdec,han,hnd])))
      refine ⟨x+1,⟨by omega,upto_next (p:=fun j=>freB P n done j=false) hp hfr2⟩,by omega,weak_of ?_ ?_⟩<;>(try simp (disch:=omega) only [go_sem,Nat.reduceAdd])<;>(try first|done|omega|rfl|exact ⟨rfl,rfl⟩|trivial)
   ·have he:x=n:=by omega
    subst he
    have:=hd.stop hlt (nxt_none hp)
    obtain ⟨e1,e2⟩:=ho _ this
    (repeat (with_reducible first|refine W_seq fun K hK=>?_|refine J_exit ?_|refine J_ret ?_|refine J_region ?_ |(refine Kont.go (by assumption) ?_)|(simp (config:={ maxSteps:=3000000 }) (disch:=omega) only [go_sem,↓reduceIte])))
    rw [e1,e2]
    exact ⟨_,rfl,FrzL.cons (.nil _) (FrzL.cons (.f _) (FrzL.nil _))⟩
  ·obtain ⟨e1,e2⟩:=ho _ (hd.end hlt)
   (repeat (with_reducible first|refine W_seq fun K hK=>?_|refine J_exit ?_|refine J_ret ?_|refine J_region ?_ |(refine Kont.go (by assumption) ?_)|(simp (config:={ maxSteps:=3000000 }) (disch:=omega) only [go_sem,↓reduceIte])))
   rw [e1,e2]
   exact ⟨_,rfl,FrzL.cons (.sl rfl) (FrzL.cons (.f _) (FrzL.nil _))⟩
def frI (done:List Nat) (v s i:Nat):Bool:=!decide (v∈done)&&((els s).take i).all fun u=>decide (u∈done)
theorem frI_next {done:List Nat} {v s i u:Nat} (h:(els s)[i]?=some u):(frI done v s i&&decide (u∈done))=frI done v s (i+1):=by
 unfold frI
 rw [List.take_add_one,h,List.all_append,Bool.and_assoc]
 simp
theorem frI_all {P done:List Nat} {n v:Nat} (h:GP n P):frI done v (P.getD v 0) (els (P.getD v 0)).length=freB P n done v:=by
 rw [Bool.eq_iff_iff,freB_iff h.pa]
 unfold frI
 rw [List.take_length]
 simp only [Bool.and_eq_true,Bool.not_eq_true',decide_eq_false_iff_not,List.all_eq_true,decide_eq_true_eq,els_mem]
 exact ⟨fun ⟨a,b⟩=>⟨a,fun u hu=>b u ⟨bits_lt8 h.lt8 hu,hu⟩⟩,fun ⟨a,b⟩=>⟨a,fun u hu=>b u hu.2⟩⟩
def NxI (P done:List Nat) (n x:Nat) (nv:Int):Prop:=(nv=-1∧∀j,x≤j→j<n→freB P n done j=false)∨∃u:Nat,nv=(u:Int)∧x≤u∧u<n∧freB P n done u=true∧∀j,x≤j→j<u→freB P n done j=false
set_option maxRecDepth 100000 in
set_option maxHeartbeats 8000000 in
theorem rorder_w (L:List (List Int)) (hL:OkIss L):Good Tryz.prog 95 [.fz 1 (L.map ints)] (.tup [.fz 1 (Ns (ordL L)),I (ordE L)]):=by
 have hk:=listsOK_w L hL
 obtain ⟨vL,hvL⟩:∃vL,vL=ordL L:=⟨_,rfl⟩
 obtain ⟨vE,hvE⟩:∃vE,vE=ordE L:=⟨_,rfl⟩
 rw [←hvL,←hvE]
 cases hb:listsB L with
 | false =>
  obtain ⟨e1,e2⟩:=bad_ordL hb
  rw [hb] at hk
  refine good_of Tryz.func95 rfl (by kernel_rfl) fun X hO hrd=>?_;rw [Tryz.ntmps95,Tryz.results95];simp only [ast0,List.map_cons,List.map_nil,List.length_cons,List.length_nil,Nat.reduceAdd,Nat.reduceSub,List.replicate_succ,List.replicate_zero,List.cons_append,List.nil_append]
  (repeat (with_reducible first|refine W_seq fun K hK=>?_|refine J_region ?_ |(refine Kont.go (by assumption) ?_)|(simp (config:={ maxSteps:=3000000 }) (disch:=omega) only [go_sem])))
  (first|refine call_f (hk) rfl ?_|refine callQ_f (hk) rfl ?_|refine callHK_f (hk) rfl ?_|refine callH_f (hk) rfl ?_)
  (repeat (with_reducible first|refine W_seq fun K hK=>?_|refine J_ret ?_|refine J_region ?_ |refine J_c ?_|refine Jc_true ?_|(refine Kont.go (by assumption) ?_)|(simp (config:={ maxSteps:=3000000 }) (disch:=omega) only [go_sem])))
  rw [hvL,hvE,e1,e2]
  exact ⟨_,rfl,FrzL.cons (.nil _) (FrzL.cons (.f _) (FrzL.nil _))⟩
 | true =>
  have hg:=GP.of hb
  have ho:=fun o=>ok_ord (o:=o) hb
  rw [hb] at hk
  rw [gvs_of hb] at hk ⊢
  obtain ⟨P,hP⟩:∃P,P=setsOf L:=⟨_,rfl⟩
  obtain ⟨n,hn⟩:∃n,n=L.length:=⟨_,rfl⟩
  rw [←hP,←hn] at hg ho
  rw [←hvL,←hvE] at ho
  rw [←hP] at hk ⊢
  have hl:=hg.len
  have hn8:=hg.n8
  have hgl:(gvs P).length=n:=by rw [gvs_len,hl]
  refine good_of Tryz.func95 rfl (by kernel_rfl) fun X hO hrd=>?_;rw [Tryz.ntmps95,Tryz.results95];simp only [ast0,List.map_cons,List.map_nil,List.length_cons,List.length_nil,Nat.reduceAdd,Nat.reduceSub,List.replicate_succ,List.replicate_zero,List.cons_append,List.nil_append]
  (repeat (with_reducible first|refine W_seq fun K hK=>?_|refine J_region ?_ |(refine Kont.go (by assumption) ?_)|(simp (config:={ maxSteps:=3000000 }) (disch:=omega) only [go_sem])))
  (first|refine call_f (hk) rfl ?_|refine callQ_f (hk) rfl ?_|refine callHK_f (hk) rfl ?_|refine callH_f (hk) rfl ?_)
  (repeat (with_reducible first|refine W_seq fun K hK=>?_|refine J_block ?_|refine J_skip ?_|refine J_region ?_ |refine J_c ?_|refine Jc_false ?_|(refine Kont.go (by assumption) ?_)|(simp (config:={ maxSteps:=3000000 }) (disch:=omega) only [go_sem])))
  refine J_reserve ?_
  refine W_loop [2,3,5,6,7,8,9,10,15,16,17,18,19,20,21,22,23,24,25,26,27,28,29,30,31,32,33,34,35,36,37,38,39,40,41,42,43,44,45,46,47,48,49,50,51,52,53,54,55,56,57,58,59,60,61] (fun done:List Nat=>[(5,sl 0 1 (Ns done))]) (fun done:List Nat=>[ob 3 1 (Ns done)]) (fun done:List Nat=>OrdS P n done) (fun done:List Nat=>n-done.length) ([]) (OrdS.nil) (by refine weak_of ?_ ?_<;>simp (disch:=omega) only [go_sem]<;>first|rfl|exact ⟨rfl,rfl⟩|exact Or.inl rfl|exact ⟨Or.inl rfl,Or.inl rfl⟩|trivial|assumption|omega|(symm;assumption)|((repeat' apply And.intro)<;>first|rfl|omega|trivial|exact .inl rfl|exact .inr ⟨rfl,rfl⟩|exact .inr rfl|(right;symm;assumption)|(symm;assumption)|assumption)) ?_
  rintro done hd
  have hdl:=ord_left hd.i
  have hNl:(Ns done).length=done.length:=Ns_len
  simp only [go_sem]
  (repeat (with_reducible first|refine W_seq fun K hK=>?_|refine J_region ?_ |refine J_c ?_|(refine Kont.go (by assumption) ?_)|(simp (config:={ maxSteps:=3000000 }) (disch:=omega) only [go_sem,hNl,hgl])))
  refine Jc_if (fun hlt=>?_) (fun hlt=>?_)<;>try simp only [decide_eq_true_eq,decide_eq_false_iff_not] at hlt
  ·(repeat (with_reducible first|refine W_seq fun K hK=>?_|refine J_block ?_|refine J_skip ?_|refine J_region ?_ |(refine Kont.go (by assumption) ?_)|(simp (config:={ maxSteps:=3000000 }) (disch:=omega) only [go_sem,Int.reduceNeg,hgl])))
   refine W_loop [6,7,8,9,10,23,24,25,26,27,28,29,30,31,32,33,34,35,36,37,38,39,40,41,42,43,44,45,46,47,48,49,50,51,52,53,54,55] (fun q:Nat × Int=>[(5,sl 0 1 (Ns done)),(6,.f (I q.2)),(7,.f (I ((q.1:Int)-1)))]) (fun q:Nat × Int=>[ob 3 1 (Ns done)]) (fun q:Nat × Int=>q.1≤n∧NxI P done n q.1 q.2) (fun q:Nat × Int=>q.1) ((n,-1)) (⟨Nat.le_refl _,.inl ⟨rfl,fun j h h'=>by omega⟩⟩) (by refine weak_of ?_ ?_<;>simp (disch:=omega) only [go_sem]<;>first|rfl|exact ⟨rfl,rfl⟩|exact Or.inl rfl|exact ⟨Or.inl rfl,Or.inl rfl⟩|trivial|assumption|omega|(symm;assumption)|((repeat' apply And.intro)<;>first|rfl|omega|trivial|exact .inl rfl|exact .inr ⟨rfl,rfl⟩|exact .inr rfl|(right;symm;assumption)|(symm;assumption)|assumption)) ?_
   rintro ⟨x,nv⟩ ⟨hx,hnv⟩
   dsimp only at hx hnv
   simp only [go_sem]
   (repeat (with_reducible first|refine W_seq fun K hK=>?_|refine J_region ?_ |refine J_c ?_|(refine Kont.go (by assumption) ?_)|(simp (config:={ maxSteps:=3000000 }) (disch:=omega) only [go_sem])))
   refine Jc_if (fun hxl=>?_) (fun hxl=>?_)<;>try simp only [decide_eq_true_eq,decide_eq_false_iff_not] at hxl
   ·obtain ⟨v,rfl⟩:∃v,x=v+1:=⟨x-1,by omega⟩
    have ev:((v+1:Nat):Int)-1=(v:Int):=by omega
    rw [ev]
    have hin:=rinN_w v done (by omega) (by omega)
    have gx:=gvs_get (P:=P) (v:=v) (by omega)
    obtain ⟨s,hs⟩:∃s,s=P.getD v 0:=⟨_,rfl⟩
    have hsl:=els_len (s:=s)
    have hfa:=frI_all (done:=done) (v:=v) hg
    rw [←hs] at gx hfa
    have hf0:Bo (!decide (v∈done))=Bo (frI done v s 0):=by unfold frI;rw [List.take_zero,List.all_nil,Bool.and_true]
    (repeat (with_reducible first|refine W_seq fun K hK=>?_|refine J_block ?_|refine J_skip ?_|refine J_region ?_ |(refine Kont.go (by assumption) ?_)|(simp (config:={ maxSteps:=3000000 }) (disch:=omega) only [go_sem])))
    (first|refine call_fl (hin) (by first|exact .v _|exact .agg _ (by intro j c h;simp at h;subst h;exact .v _)) (by repeat (first|exact FrzL.nil _|refine FrzL.cons (by first|exact .f _|exact .nil _|exact .sl rfl|exact .sl (by simp;done)) ?_)) ?_|refine callQ_fl (hin) (by first|exact .v _|exact .agg _ (by intro j c h;simp at h;subst h;exact .v _)) (by repeat (first|exact FrzL.nil _|refine FrzL.cons (by first|exact .f _|exact .nil _|exact .sl rfl|exact .sl (by simp;done)) ?_)) ?_|refine callH_fl (hin) (by first|exact .v _|exact .agg _ (by intro j c h;simp at h;subst h;exact .v _)) (by repeat (first|exact FrzL.nil _|refine FrzL.cons (by first|exact .f _|exact .nil _|exact .sl rfl|exact .sl (by simp;done)) ?_)) ?_)
    (repeat (with_reducible first|refine W_seq fun K hK=>?_|refine J_block ?_|refine J_region ?_ |(refine Kont.go (by assumption) ?_)|(simp (config:={ maxSteps:=3000000 }) (disch:=omega) only [go_sem,hf0])))
    refine W_loop [8,9,10,32,33,34,35,36,37,38,39,40,41,42,43,44,45,46,47,48,49,50,51,52,53] (fun i:Nat=>[(5,sl 0 1 (Ns done)),(8,.f (Bo (frI done v s i))),(9,.f (I i))]) (fun i:Nat=>[ob 3 1 (Ns done)]) (fun i:Nat=>i≤(els s).length) (fun i:Nat=>(els s).length-i) (0) (Nat.zero_le _) (by refine weak_of ?_ ?_<;>simp (disch:=omega) only [go_sem]<;>first|rfl|exact ⟨rfl,rfl⟩|exact Or.inl rfl|exact ⟨Or.inl rfl,Or.inl rfl⟩|trivial|assumption|omega|(symm;assumption)|((repeat' apply And.intro)<;>first|rfl|omega|trivial|exact .inl rfl|exact .inr ⟨rfl,rfl⟩|exact .inr rfl|(right;symm;assumption)|(symm;assumption)|assumption)) ?_
    rintro i hi
    simp only [go_sem]
    (repeat (with_reducible first|refine W_seq fun K hK=>?_|refine J_region ?_ |refine J_c ?_|(refine Kont.go (by assumption) ?_)|(simp (config:={ maxSteps:=3000000 }) (disch:=omega) only [go_sem,↓reduceIte,gx,Ns_len])))
    refine Jc_if (fun hil=>?_) (fun hil=>?_)<;>try simp only [decide_eq_true_eq,decide_eq_false_iff_not] at hil
    ·obtain ⟨u,hu⟩:∃u,(els s)[i]?=some u:=⟨_,List.getElem?_eq_getElem hil⟩
     have hu8:=(els_mem.1 (List.mem_of_getElem? hu)).1
     have gu:=Ns_get (l:=els s) (i:=i) hil
     have gu2:(els s).getD i 0=u:=by rw [List.getD_eq_getElem?_getD,hu];rfl
     rw [gu2] at gu
     have hin2:=rinN_w u done (by omega) (by omega)
     have hfn:=frI_next (done:=done) (v:=v) hu
     (repeat (with_reducible first|refine W_seq fun K hK=>?_|refine J_block ?_|refine J_skip ?_|refine J_region ?_ |(refine Kont.go (by assumption) ?_)|(simp (config:={ maxSteps:=3000000 }) (disch:=omega) only [go_sem,↓reduceIte,gx,gu])))
     (first|refine call_fl (hin2) (by first|exact .v _|exact .agg _ (by intro j c h;simp at h;subst h;exact .v _)) (by repeat (first|exact FrzL.nil _|refine FrzL.cons (by first|exact .f _|exact .nil _|exact .sl rfl|exact .sl (by simp;done)) ?_)) ?_|refine callQ_fl (hin2) (by first|exact .v _|exact .agg _ (by intro j c h;simp at h;subst h;exact .v _)) (by repeat (first|exact FrzL.nil _|refine FrzL.cons (by first|exact .f _|exact .nil _|exact .sl rfl|exact .sl (by simp;done)) ?_)) ?_|refine callH_fl (hin2) (by first|exact .v _|exact .agg _ (by intro j c h;simp at h;subst h;exact .v _)) (by repeat (first|exact FrzL.nil _|refine FrzL.cons (by first|exact .f _|exact .nil _|exact .sl rfl|exact .sl (by simp;done)) ?_)) ?_)
     cases hbf:frI done v s i with
     | false =>
      rw [hbf,Bool.false_and] at hfn
      (repeat (with_reducible first|refine J_region ?_ |(refine Kont.go (by assumption) ?_)|(simp (config:={ maxSteps:=3000000 }) (disch:=omega) only [go_sem])))
      refine ⟨i+1,by omega,by omega,weak_of ?_ ?_⟩<;>(try simp (disch:=omega) only [go_sem,←hfn])<;>(try first|done|omega|rfl|exact ⟨rfl,rfl⟩|trivial)
     | true =>
      rw [hbf,Bool.true_and] at hfn
      (repeat (with_reducible first|refine J_region ?_ |(refine Kont.go (by assumption) ?_)|(simp (config:={ maxSteps:=3000000 }) (disch:=omega) only [go_sem])))
      refine ⟨i+1,by omega,by omega,weak_of ?_ ?_⟩<;>(try simp (disch:=omega) only [go_sem,←hfn])<;>(try first|done|omega|rfl|exact ⟨rfl,rfl⟩|trivial)
    ·have he:i=(els s).length:=by omega
     subst he
     rw [hfa]
     cases hfr:freB P n done v with
     | false =>
      (repeat (with_reducible first|refine W_seq fun K hK=>?_|refine J_skip ?_|refine J_exit ?_|refine J_region ?_ |refine J_c ?_|refine Jc_false ?_|(refine Kont.go (by assumption) ?_)|(simp (config:={ maxSteps:=3000000 }) (disch:=omega) only [go_sem,↓reduceIte])))
      refine ⟨(v,nv),⟨by simp only;omega,?_⟩,by simp only;omega,weak_of ?_ ?_⟩<;>(try simp (disch:=omega) only [go_sem])<;>(try first|done|omega|rfl|exact ⟨rfl,rfl⟩|trivial)
      rcases hnv with ⟨h1,h2⟩|⟨u,h1,h2,h3,h4,h5⟩
      ·refine .inl ⟨h1,fun j hj hj'=>?_⟩
       by_cases e:j=v
       ·rw [e];exact hfr
       ·exact h2 j (by omega) hj'
      ·refine .inr ⟨u,h1,by omega,h3,h4,fun j hj hj'=>?_⟩
       by_cases e:j=v
       ·rw [e];exact hfr
       ·exact h5 j (by omega) hj'
     | true =>
      (repeat (with_reducible first|refine W_seq fun K hK=>?_|refine J_exit ?_|refine J_region ?_ |refine J_c ?_|refine Jc_true ?_|(refine Kont.go (by assumption) ?_)|(simp (config:={ maxSteps:=3000000 }) (disch:=omega) only [go_sem,↓reduceIte])))
      refine ⟨(v,(v:Int)),⟨by simp only;omega,.inr ⟨v,rfl,Nat.le_refl _,by omega,hfr,fun j hj hj'=>by simp only at hj;omega⟩⟩,by simp only;omega,weak_of ?_ ?_⟩<;>(try simp (disch:=omega) only [go_sem])<;>(try first|done|omega|rfl|exact ⟨rfl,rfl⟩|trivial)
   ·have:x=0:=by omega
    subst this
    rcases hnv with ⟨rfl,h2⟩|⟨u,rfl,h2,h3,h4,h5⟩
    ·have:=hd.stop hlt (nxt_none fun j hj=>h2 j (Nat.zero_le _) hj)
     obtain ⟨e1,e2⟩:=ho _ this
     (repeat (with_reducible first|refine W_seq fun K hK=>?_|refine J_exit ?_|refine J_ret ?_|refine J_region ?_ |refine J_c ?_|refine Jc_true ?_|(refine Kont.go (by assumption) ?_)|(simp (config:={ maxSteps:=3000000 }) (disch:=omega) only [go_sem,↓reduceIte,Int.reduceLT,Int.reduceLE,Int.reduceSub,Int.reduceNeg])))
     rw [e1,e2]
     exact ⟨_,rfl,FrzL.cons (.nil _) (FrzL.cons (.f _) (FrzL.nil _))⟩
    ·have hnx:=nxt_some h3 h4 fun j hj=>h5 j (Nat.zero_le _) hj
     have hu0:¬(u:Int)<0:=by omega
     have hap:((Ns done).length+1)*8≤140737488355328:=by omega
     (repeat (first|(with_reducible first|refine W_seq fun K hK=>?_|refine J_skip ?_|refine J_exit ?_|refine J_region ?_ |refine aApp_sl ?_|refine J_c ?_|refine Jc_false ?_|(refine Kont.go (by assumption) ?_)|(simp (config:={ maxSteps:=3000000 }) (disch:=omega) only [go_sem,Nat.reduceEqDiff,↓reduceIte,Nat.reduceLeDiff,Int.reduceLE,Int.reduceSub,Int.reduceNeg,hu0,hap,Ns_snoc]))|refine And.intro (by omega) ?_))
     refine ⟨done++[u],hd.next hg hlt hnx,by simp;omega,weak_of ?_ ?_⟩<;>(try simp (disch:=omega) only [go_sem])<;>(try first|done|omega|rfl|exact ⟨rfl,rfl⟩|trivial)
  ·obtain ⟨e1,e2⟩:=ho _ (hd.end hlt)
   (repeat (with_reducible first|refine W_seq fun K hK=>?_|refine J_exit ?_|refine J_ret ?_|refine J_region ?_ |(refine Kont.go (by assumption) ?_)|(simp (config:={ maxSteps:=3000000 }) (disch:=omega) only [go_sem,↓reduceIte])))
   rw [e1,e2]
   exact ⟨_,rfl,FrzL.cons (.sl rfl) (FrzL.cons (.f _) (FrzL.nil _))⟩
set_option maxRecDepth 100000 in
theorem check_w2 (L:List (List Int)) (hL:OkIss L):Good Tryz.prog 50 [.fz 1 (L.map ints)] (I (ordE L)):=by
 have h:=order_w L hL
 refine good_of Tryz.func50 rfl (by kernel_rfl) fun X hO hrd=>?_;rw [Tryz.ntmps50,Tryz.results50];simp only [ast0,List.map_cons,List.map_nil,List.length_cons,List.length_nil,Nat.reduceAdd,Nat.reduceSub,List.replicate_succ,List.replicate_zero,List.cons_append,List.nil_append]
 (repeat (with_reducible first|refine W_seq fun K hK=>?_|refine J_region ?_ |(refine Kont.go (by assumption) ?_)|(simp (config:={ maxSteps:=3000000 }) (disch:=omega) only [go_sem])))
 (first|refine call_f (h) rfl ?_|refine callQ_f (h) rfl ?_|refine callHK_f (h) rfl ?_|refine callH_f (h) rfl ?_)
 (repeat (with_reducible first|refine W_seq fun K hK=>?_|refine J_ret ?_|refine J_region ?_ |exact Frz.f _|(refine Kont.go (by assumption) ?_)|(simp (config:={ maxSteps:=3000000 }) (disch:=omega) only [go_sem])))
set_option maxRecDepth 100000 in
theorem rcheck_w2 (L:List (List Int)) (hL:OkIss L):Good Tryz.prog 53 [.fz 1 (L.map ints)] (I (ordE L)):=by
 have h:=rorder_w L hL
 refine good_of Tryz.func53 rfl (by kernel_rfl) fun X hO hrd=>?_;rw [Tryz.ntmps53,Tryz.results53];simp only [ast0,List.map_cons,List.map_nil,List.length_cons,List.length_nil,Nat.reduceAdd,Nat.reduceSub,List.replicate_succ,List.replicate_zero,List.cons_append,List.nil_append]
 (repeat (with_reducible first|refine W_seq fun K hK=>?_|refine J_region ?_ |(refine Kont.go (by assumption) ?_)|(simp (config:={ maxSteps:=3000000 }) (disch:=omega) only [go_sem])))
 (first|refine call_f (h) rfl ?_|refine callQ_f (h) rfl ?_|refine callHK_f (h) rfl ?_|refine callH_f (h) rfl ?_)
 (repeat (with_reducible first|refine W_seq fun K hK=>?_|refine J_ret ?_|refine J_region ?_ |exact Frz.f _|(refine Kont.go (by assumption) ?_)|(simp (config:={ maxSteps:=3000000 }) (disch:=omega) only [go_sem])))
end Go.Proofs.YthehegidpamldaaGreatDoor
set_option linter.unusedVariables false
set_option linter.unusedSimpArgs false
namespace Go.Proofs.YthehegidpamldaaGreatDoor
open Go Go.RowKit
structure NetOk (k : Nat) (V : List VarD) (P : List (List Int)) (RR : List FV) (M : List (List Rat)) : Prop where
  lV : V.length ≤ 1000000
  nm : ∀ x ∈ V, x.1.size ≤ 140737488355328
  vl : ∀ x ∈ V, x.2.length ≤ 1000000
  vs : ∀ x ∈ V, ∀ s ∈ x.2, s.size ≤ 140737488355328
  hP : OkIss P
  hM : FrM k RR M
  k1 : 1 ≤ k
  kk : k ≤ 10000000
  rl : ∀ r ∈ M, r.length ≤ 1000000
section
variable {k : Nat} {V : List VarD} {P : List (List Int)} {RR : List FV} {M : List (List Rat)}
theorem ordE_lists (h:ordE P=0):listsB P=true:=by
 cases hb:listsB P with
 | true=>rfl
 | false=>rw [(bad_ordL hb).2] at h;exact absurd h (by decide)
theorem varE_sz {x:VarD} (h:varE x=0):1≤x.2.length∧x.2.length≤4:=by
 unfold varE at h
 split at h
 ·assumption
 ·exact absurd h (by decide)
theorem vars_get {v:Nat} (h:v<V.length):varsE V v=varE V[v]:=by unfold varsE;rw [lget_lt V _ h]
theorem net_okT (ho:ordE P=0) (hl:P.length=V.length) (hv:fe (varsE V) V.length=0) {v:Nat} (hvl:v<V.length):OkT (szN V) (paN P v)∧(P.map ints)[v]?=some (.fz 1 (Ns (paN P v))):=by
 obtain ⟨⟨h1,h8⟩,hn⟩:=listsB_iff.1 (ordE_lists ho)
 have hb:=hn v (by omega)
 unfold nodeB at hb
 rw [Bool.and_eq_true] at hb
 obtain ⟨hp,hm⟩:=pwT.1 hb.1
 have hnat:(paN P v).map Int.ofNat=P.getD v []:=natOf fun x hx=>(hm x hx).1
 have hsz:∀n∈szN V,1≤n∧n≤4:=fun n hn=>by
  unfold szN at hn
  obtain ⟨x,hx,rfl⟩:=List.mem_map.1 hn
  obtain ⟨i,hi,rfl⟩:=List.getElem_of_mem hx
  have:=fe_zero.1 hv i hi
  rw [vars_get hi] at this
  exact varE_sz this
 refine ⟨⟨by rw [szN_len];omega,by rw [szN_len];omega,fun n hn=>(hsz n hn).1,fun n hn=>(hsz n hn).2,?_,?_⟩,?_⟩
 ·unfold paN
  rw [List.pairwise_map]
  refine List.Pairwise.imp_of_mem (fun {a b} ha hb hab=>?_) hp
  have:=hm a ha;have:=hm b hb;omega
 ·intro u hu
  obtain ⟨x,hx,rfl⟩:=List.mem_map.1 hu
  have:=hm x hx;rw [szN_len];omega
 ·rw [map_get ints P (by omega),←ints_Ns,hnat,lget_lt P _ (by omega)]
theorem nm_take {x:Nat} (hx:x<V.length):((V.take x).map Prod.fst).map St++[St V[x].1]=((V.take (x+1)).map Prod.fst).map St:=by
 rw [List.take_add_one,List.getElem?_eq_getElem hx,List.map_append,List.map_append];rfl
set_option maxRecDepth 100000 in
set_option maxHeartbeats 8000000 in
theorem netCheck_w (h:NetOk k V P RR M):Good Tryz.prog 13 [netV V (P.map ints) RR] (I (netE (ordE P) V P M)):=by
 have hlV:=h.lV
 have hRM:=h.hM.len
 by_cases hPV:P.length=V.length
 rotate_left
 ·have e:netE (ordE P) V P M=8:=by unfold netE;rw [if_neg fun hh=>hPV hh.1]
  have hd:decide ((P.length:Int)=(V.length:Int))=false:=decide_eq_false (by omega)
  refine good_of Tryz.func13 rfl (by kernel_rfl) fun X hO hrd=>?_;rw [Tryz.ntmps13,Tryz.results13];simp only [ast0,List.map_cons,List.map_nil,List.length_cons,List.length_nil,Nat.reduceAdd,Nat.reduceSub,List.replicate_succ,List.replicate_zero,List.cons_append,List.nil_append]
  (repeat (with_reducible first|refine W_seq fun K hK=>?_|refine J_ret ?_|refine J_region ?_ |refine J_c ?_|refine Jc_true ?_|(refine Kont.go (by assumption) ?_)|(simp (config:={ maxSteps:=3000000 }) (disch:=omega) only [go_sem,↓reduceIte,Nat.reduceAdd,List.length_map,hd])))
  rw [e];exact Frz.f _
 have hd:decide ((P.length:Int)=(V.length:Int))=true:=decide_eq_true (by omega)
 by_cases hMV:M.length=V.length
 rotate_left
 ·have e:netE (ordE P) V P M=8:=by unfold netE;rw [if_neg fun hh=>hMV hh.2]
  have hd2:decide ((RR.length:Int)=(V.length:Int))=false:=decide_eq_false (by omega)
  refine good_of Tryz.func13 rfl (by kernel_rfl) fun X hO hrd=>?_;rw [Tryz.ntmps13,Tryz.results13];simp only [ast0,List.map_cons,List.map_nil,List.length_cons,List.length_nil,Nat.reduceAdd,Nat.reduceSub,List.replicate_succ,List.replicate_zero,List.cons_append,List.nil_append]
  (repeat (with_reducible first|refine W_seq fun K hK=>?_|refine J_ret ?_|refine J_region ?_ |refine J_c ?_|refine Jc_true ?_|(refine Kont.go (by assumption) ?_)|(simp (config:={ maxSteps:=3000000 }) (disch:=omega) only [go_sem,↓reduceIte,Nat.reduceAdd,List.length_map,hd,hd2])))
  rw [e];exact Frz.f _
 have hd2:decide ((RR.length:Int)=(V.length:Int))=true:=decide_eq_true (by omega)
 have hgc:=check_w2 P h.hP
 have e1:netE (ordE P) V P M=if ordE P=0 then (if namesE (V.map Prod.fst)=0 then (if fe (varsE V) V.length=0 then fe (rowsE V P M) V.length else fe (varsE V) V.length) else namesE (V.map Prod.fst)) else ordE P:=by unfold netE;rw [if_pos ⟨hPV,hMV⟩]
 by_cases hE:ordE P=0
 rotate_left
 ·rw [if_neg hE] at e1
  have hd3:decide (ordE P=0)=false:=decide_eq_false hE
  refine good_of Tryz.func13 rfl (by kernel_rfl) fun X hO hrd=>?_;rw [Tryz.ntmps13,Tryz.results13];simp only [ast0,List.map_cons,List.map_nil,List.length_cons,List.length_nil,Nat.reduceAdd,Nat.reduceSub,List.replicate_succ,List.replicate_zero,List.cons_append,List.nil_append]
  (repeat (with_reducible first|refine W_seq fun K hK=>?_|refine J_skip ?_|refine J_region ?_ |refine J_c ?_|refine Jc_false ?_|(refine Kont.go (by assumption) ?_)|(simp (config:={ maxSteps:=3000000 }) (disch:=omega) only [go_sem,↓reduceIte,Nat.reduceAdd,List.length_map,hd,hd2])))
  (first|refine call_f (hgc) rfl ?_|refine callQ_f (hgc) rfl ?_|refine callHK_f (hgc) rfl ?_|refine callH_f (hgc) rfl ?_)
  (repeat (with_reducible first|refine W_seq fun K hK=>?_|refine J_ret ?_|refine J_region ?_ |refine J_c ?_|refine Jc_true ?_|(refine Kont.go (by assumption) ?_)|(simp (config:={ maxSteps:=3000000 }) (disch:=omega) only [go_sem,hd3])))
  rw [e1];exact Frz.f _
 rw [if_pos hE] at e1
 have hd3:decide (ordE P=0)=true:=decide_eq_true hE
 refine good_of Tryz.func13 rfl (by kernel_rfl) fun X hO hrd=>?_;rw [Tryz.ntmps13,Tryz.results13];simp only [ast0,List.map_cons,List.map_nil,List.length_cons,List.length_nil,Nat.reduceAdd,Nat.reduceSub,List.replicate_succ,List.replicate_zero,List.cons_append,List.nil_append]
 (repeat (with_reducible first|refine W_seq fun K hK=>?_|refine J_skip ?_|refine J_region ?_ |refine J_c ?_|refine Jc_false ?_|(refine Kont.go (by assumption) ?_)|(simp (config:={ maxSteps:=3000000 }) (disch:=omega) only [go_sem,↓reduceIte,Nat.reduceAdd,List.length_map,hd,hd2])))
 (first|refine call_f (hgc) rfl ?_|refine callQ_f (hgc) rfl ?_|refine callHK_f (hgc) rfl ?_|refine callH_f (hgc) rfl ?_)
 (repeat (with_reducible first|refine W_seq fun K hK=>?_|refine J_block ?_|refine J_skip ?_|refine J_region ?_ |refine J_c ?_|refine Jc_false ?_|(refine Kont.go (by assumption) ?_)|(simp (config:={ maxSteps:=3000000 }) (disch:=omega) only [go_sem,↓reduceIte,hd3,List.length_map])))
 refine J_reserve ?_
 refine W_loop [4,6,38,39,40,41,42,43,44,45,46,47] (fun x:Nat=>[(4,sl 1 1 (((V.take x).map Prod.fst).map St)),(38,.f (I x))]) (fun x:Nat=>[oNt (V.map varF) (P.map ints) RR,ob 9 1 (((V.take x).map Prod.fst).map St)]) (fun x:Nat=>x≤V.length) (fun x:Nat=>V.length-x) (0) (Nat.zero_le _) (by refine weak_of ?_ ?_<;>simp (disch:=omega) only [go_sem,Nat.reduceAdd]<;>first|rfl|exact ⟨rfl,rfl⟩|exact Or.inl rfl|exact ⟨Or.inl rfl,Or.inl rfl⟩|trivial|assumption|omega|(symm;assumption)|((repeat' apply And.intro)<;>first|rfl|omega|trivial|exact .inl rfl|exact .inr ⟨rfl,rfl⟩|exact .inr rfl|(right;symm;assumption)|(symm;assumption)|assumption)) ?_
 ·rintro x hx
  simp only [go_sem]
  (repeat (with_reducible first|refine W_seq fun K hK=>?_|refine J_region ?_ |refine J_c ?_|(refine Kont.go (by assumption) ?_)|(simp (config:={ maxSteps:=3000000 }) (disch:=omega) only [go_sem])))
  refine Jc_if (fun hxl=>?_) (fun hxl=>?_)<;>try simp only [decide_eq_true_eq,decide_eq_false_iff_not] at hxl
  ·have gx:=map_get varF V hxl
   have hs:=nm_take hxl
   have hl:(((V.take x).map Prod.fst).map St).length=x:=by rw [List.length_map,List.length_map,List.length_take];omega
   have hb:((V.take x).length+1)*16≤140737488355328:=by rw [List.length_take];omega
   have hvf:varF V[x]=.agg [St V[x].1,.fz 1 (V[x].2.map St)]:=rfl
   rw [hvf] at gx
   (repeat (first|(with_reducible first|refine W_seq fun K hK=>?_|refine J_block ?_|refine J_skip ?_|refine J_region ?_ |refine aApp_sl ?_|(refine Kont.go (by assumption) ?_)|(simp (config:={ maxSteps:=3000000 }) (disch:=omega) only [go_sem,Nat.reduceEqDiff,↓reduceIte,Nat.reduceAdd,Nat.reduceLeDiff,gx,List.length_map,hs,hb]))|refine And.intro (by omega) ?_))
   refine ⟨x+1,by omega,by omega,weak_of ?_ ?_⟩<;>(try simp (disch:=omega) only [go_sem,Nat.reduceAdd])<;>(try first|done|omega|rfl|exact ⟨rfl,rfl⟩|trivial)
  ·have he:x=V.length:=by omega
   subst he
   rw [List.take_length]
   (repeat (with_reducible first|refine W_seq fun K hK=>?_|refine J_exit ?_|(refine Kont.go (by assumption) ?_)|(simp (config:={ maxSteps:=3000000 }) (disch:=omega) only [go_sem,↓reduceIte])))
   refine J_freeze (j:=4) rfl rfl ?_
   have hnm:=names_w (V.map Prod.fst) (by rw [List.length_map];exact hlV) (fun s hs=>by
    obtain ⟨x,hx,rfl⟩:=List.mem_map.1 hs
    exact h.nm x hx)
   (repeat (with_reducible first|refine J_region ?_ |(simp (config:={ maxSteps:=3000000 }) (disch:=omega) only [go_sem,Nat.reduceEqDiff,↓reduceIte])))
   (first|refine call_f (hnm) rfl ?_|refine callQ_f (hnm) rfl ?_|refine callHK_f (hnm) rfl ?_|refine callH_f (hnm) rfl ?_)
   by_cases hN:namesE (V.map Prod.fst)=0
   rotate_left
   ·rw [if_neg hN] at e1
    have hd4:decide (namesE (V.map Prod.fst)=0)=false:=decide_eq_false hN
    (repeat (with_reducible first|refine W_seq fun K hK=>?_|refine J_ret ?_|refine J_region ?_ |refine J_c ?_|refine Jc_true ?_|(refine Kont.go (by assumption) ?_)|(simp (config:={ maxSteps:=3000000 }) (disch:=omega) only [go_sem,hd4])))
    rw [e1];exact Frz.f _
   rw [if_pos hN] at e1
   have hd4:decide (namesE (V.map Prod.fst)=0)=true:=decide_eq_true hN
   (repeat (with_reducible first|refine W_seq fun K hK=>?_|refine J_block ?_|refine J_skip ?_|refine J_region ?_ |refine J_c ?_|refine Jc_false ?_|(refine Kont.go (by assumption) ?_)|(simp (config:={ maxSteps:=3000000 }) (disch:=omega) only [go_sem,↓reduceIte,hd4,List.length_map])))
   refine W_loop [2,9,10,56,57,58,59,60,61,62,63,64,65,66,67,68,69,70,71,72,73,74,75,76] (fun x:Nat=>[(56,.f (I x))]) (fun x:Nat=>[oNt (V.map varF) (P.map ints) RR,none]) (fun x:Nat=>x≤V.length∧fe (varsE V) x=0) (fun x:Nat=>V.length-x) (0) (⟨Nat.zero_le _,rfl⟩) (by refine weak_of ?_ ?_<;>simp (disch:=omega) only [go_sem,Nat.reduceAdd]<;>first|rfl|exact ⟨rfl,rfl⟩|exact Or.inl rfl|exact ⟨Or.inl rfl,Or.inl rfl⟩|trivial|assumption|omega|(symm;assumption)|((repeat' apply And.intro)<;>first|rfl|omega|trivial|exact .inl rfl|exact .inr ⟨rfl,rfl⟩|exact .inr rfl|(right;symm;assumption)|(symm;assumption)|assumption)) ?_
   rintro x ⟨hx,hf⟩
   simp only [go_sem]
   (repeat (with_reducible first|refine W_seq fun K hK=>?_|refine J_region ?_ |refine J_c ?_|(refine Kont.go (by assumption) ?_)|(simp (config:={ maxSteps:=3000000 }) (disch:=omega) only [go_sem])))
   refine Jc_if (fun hxl=>?_) (fun hxl=>?_)<;>try simp only [decide_eq_true_eq,decide_eq_false_iff_not] at hxl
   ·have gx:=map_get varF V hxl
    have hvf:varF V[x]=.agg [St V[x].1,.fz 1 (V[x].2.map St)]:=rfl
    have hm:=List.getElem_mem hxl
    rw [hvf] at gx
    have hvn:=names_w V[x].2 (h.vl _ hm) (h.vs _ hm)
    have gv:=vars_get hxl
    have bad:∀e:Int,varE V[x]=e→e≠0→netE (ordE P) V P M=e:=fun e h1 h2=>by
     have h3:fe (varsE V) V.length=e:=by rw [fe_at hf (by rw [gv,h1];exact h2) hxl,gv,h1]
     rw [e1,h3,if_neg h2]
    by_cases hb1:V[x].2.length<1
    ·have e:=bad 2 (by unfold varE;rw [if_neg (by omega)]) (by decide)
     have hb:((V[x].2.length:Nat):Int)<1:=by omega
     (repeat (with_reducible first|refine W_seq fun K hK=>?_|refine J_block ?_|refine J_skip ?_|refine J_ret ?_|refine J_region ?_ |refine J_c ?_|refine Jc_true ?_|(refine Kont.go (by assumption) ?_)|(simp (config:={ maxSteps:=3000000 }) (disch:=omega) only [go_sem,↓reduceIte,Nat.reduceAdd,gx,List.length_map,hb])))
     rw [e];exact Frz.f _
    have hb1':¬((V[x].2.length:Nat):Int)<1:=by omega
    by_cases hb4:4<V[x].2.length
    ·have e:=bad 2 (by unfold varE;rw [if_neg (by omega)]) (by decide)
     have hb:4<((V[x].2.length:Nat):Int):=by omega
     (repeat (with_reducible first|refine W_seq fun K hK=>?_|refine J_block ?_|refine J_skip ?_|refine J_ret ?_|refine J_region ?_ |refine J_c ?_|refine Jc_true ?_|(refine Kont.go (by assumption) ?_)|(simp (config:={ maxSteps:=3000000 }) (disch:=omega) only [go_sem,↓reduceIte,Nat.reduceAdd,gx,List.length_map,hb1',hb])))
     rw [e];exact Frz.f _
    have hb4':¬4<((V[x].2.length:Nat):Int):=by omega
    have ev:varE V[x]=namesE V[x].2:=by unfold varE;rw [if_pos (by omega)]
    (repeat (with_reducible first|refine W_seq fun K hK=>?_|refine J_block ?_|refine J_skip ?_|refine J_region ?_ |refine J_c ?_|refine Jc_false ?_|(refine Kont.go (by assumption) ?_)|(simp (config:={ maxSteps:=3000000 }) (disch:=omega) only [go_sem,↓reduceIte,Nat.reduceAdd,gx,List.length_map,hb1',hb4'])))
    (first|refine call_f (hvn) rfl ?_|refine callQ_f (hvn) rfl ?_|refine callHK_f (hvn) rfl ?_|refine callH_f (hvn) rfl ?_)
    by_cases hN2:namesE V[x].2=0
    ·have hd5:decide (namesE V[x].2=0)=true:=decide_eq_true hN2
     (repeat (with_reducible first|refine W_seq fun K hK=>?_|refine J_skip ?_|refine J_region ?_ |refine J_c ?_|refine Jc_false ?_|(refine Kont.go (by assumption) ?_)|(simp (config:={ maxSteps:=3000000 }) (disch:=omega) only [go_sem,hd5])))
     refine ⟨x+1,⟨by omega,by rw [fe_next hf,gv,ev];exact hN2⟩,by omega,weak_of ?_ ?_⟩<;>(try simp (disch:=omega) only [go_sem,Nat.reduceAdd])<;>(try first|done|omega|rfl|exact ⟨rfl,rfl⟩|trivial)
    ·have hd5:decide (namesE V[x].2=0)=false:=decide_eq_false hN2
     have e:=bad _ ev hN2
     (repeat (with_reducible first|refine W_seq fun K hK=>?_|refine J_ret ?_|refine J_region ?_ |refine J_c ?_|refine Jc_true ?_|(refine Kont.go (by assumption) ?_)|(simp (config:={ maxSteps:=3000000 }) (disch:=omega) only [go_sem,hd5])))
     rw [e];exact Frz.f _
   ·have he:x=V.length:=by omega
    subst he
    rw [if_pos hf] at e1
    (repeat (with_reducible first|refine W_seq fun K hK=>?_|refine J_block ?_|refine J_exit ?_|refine J_region ?_ |(refine Kont.go (by assumption) ?_)|(simp (config:={ maxSteps:=3000000 }) (disch:=omega) only [go_sem,↓reduceIte,List.length_map])))
    refine W_loop [2,11,12,80,81,82,83,84,85,86,87,88,89] (fun y:Nat=>[(80,.f (I y))]) (fun y:Nat=>[oNt (V.map varF) (P.map ints) RR,none]) (fun y:Nat=>y≤V.length∧fe (rowsE V P M) y=0) (fun y:Nat=>V.length-y) (0) (⟨Nat.zero_le _,rfl⟩) (by refine weak_of ?_ ?_<;>simp (disch:=omega) only [go_sem,Nat.reduceAdd]<;>first|rfl|exact ⟨rfl,rfl⟩|exact Or.inl rfl|exact ⟨Or.inl rfl,Or.inl rfl⟩|trivial|assumption|omega|(symm;assumption)|((repeat' apply And.intro)<;>first|rfl|omega|trivial|exact .inl rfl|exact .inr ⟨rfl,rfl⟩|exact .inr rfl|(right;symm;assumption)|(symm;assumption)|assumption)) ?_
    rintro y ⟨hy,hfy⟩
    simp only [go_sem]
    (repeat (with_reducible first|refine W_seq fun K hK=>?_|refine J_region ?_ |refine J_c ?_|(refine Kont.go (by assumption) ?_)|(simp (config:={ maxSteps:=3000000 }) (disch:=omega) only [go_sem])))
    refine Jc_if (fun hyl=>?_) (fun hyl=>?_)<;>try simp only [decide_eq_true_eq,decide_eq_false_iff_not] at hyl
    ·obtain ⟨hT,hp⟩:=net_okT hE hPV hf hyl
     obtain ⟨xs,hr,hq⟩:=h.hM.at (i:=y) (by omega)
     have hrw:=rows_w hlV hT hyl hp hr hq h.k1 h.kk (h.rl _ (List.getElem_mem _))
     have er:rowsE V P M y=rowQ (szN V) (paN P y) (szT (szN V) y) M[y]:=by unfold rowsE;rw [lget_lt M _ (by omega)]
     rw [←er] at hrw
     (repeat (with_reducible first|refine W_seq fun K hK=>?_|refine J_block ?_|refine J_skip ?_|refine J_region ?_ |(refine Kont.go (by assumption) ?_)|(simp (config:={ maxSteps:=3000000 }) (disch:=omega) only [go_sem,↓reduceIte,Nat.reduceAdd])))
     (first|refine call_f (hrw) rfl ?_|refine callQ_f (hrw) rfl ?_|refine callHK_f (hrw) rfl ?_|refine callH_f (hrw) rfl ?_)
     by_cases hN3:rowsE V P M y=0
     ·have hd6:decide (rowsE V P M y=0)=true:=decide_eq_true hN3
      (repeat (with_reducible first|refine W_seq fun K hK=>?_|refine J_skip ?_|refine J_region ?_ |refine J_c ?_|refine Jc_false ?_|(refine Kont.go (by assumption) ?_)|(simp (config:={ maxSteps:=3000000 }) (disch:=omega) only [go_sem,hd6])))
      refine ⟨y+1,⟨by omega,by rw [fe_next hfy];exact hN3⟩,by omega,weak_of ?_ ?_⟩<;>(try simp (disch:=omega) only [go_sem,Nat.reduceAdd])<;>(try first|done|omega|rfl|exact ⟨rfl,rfl⟩|trivial)
     ·have hd6:decide (rowsE V P M y=0)=false:=decide_eq_false hN3
      have e:netE (ordE P) V P M=rowsE V P M y:=by rw [e1,fe_at hfy hN3 hyl]
      (repeat (with_reducible first|refine W_seq fun K hK=>?_|refine J_ret ?_|refine J_region ?_ |refine J_c ?_|refine Jc_true ?_|(refine Kont.go (by assumption) ?_)|(simp (config:={ maxSteps:=3000000 }) (disch:=omega) only [go_sem,hd6])))
      rw [e];exact Frz.f _
    ·have he:y=V.length:=by omega
     subst he
     rw [hfy] at e1
     (repeat (with_reducible first|refine W_seq fun K hK=>?_|refine J_exit ?_|refine J_ret ?_|refine J_region ?_ |(refine Kont.go (by assumption) ?_)|(simp (config:={ maxSteps:=3000000 }) (disch:=omega) only [go_sem,↓reduceIte])))
     rw [e1];exact Frz.f _
end
end Go.Proofs.YthehegidpamldaaGreatDoor
set_option linter.unusedVariables false
set_option linter.unusedSimpArgs false
namespace Go.Proofs.YthehegidpamldaaGreatDoor
open Go Go.RowKit
end Go.Proofs.YthehegidpamldaaGreatDoor
