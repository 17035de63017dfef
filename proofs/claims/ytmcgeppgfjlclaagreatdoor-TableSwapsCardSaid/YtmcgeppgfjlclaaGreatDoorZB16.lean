/- Tables: the numbers in lowest terms, and how numbers are joined where a variable goes: canon and gather, walked. Conditions: at most 65536. -/
import Derived.Test.YtmcgeppgfjlclaaGreatDoorZB15
import Derived.Test.YtmcgeppgfjlclaaGreatDoorZB10
import Derived.Test.YtmcgeppgfjlclaaGreatDoorZB00
import Derived.Test.YtmcgeppgfjlclaaGreatDoorZB09
set_option linter.unusedVariables false
set_option linter.unusedSimpArgs false
namespace Go.Proofs.YtmcgeppgfjlclaaGreatDoor
open Go Go.RowKit
set_option maxRecDepth 100000 in
set_option maxHeartbeats 4000000 in
theorem canonL_w {xs:List FV} {l:List Rat} {k:Nat} (hl:Frs k xs l) (hn:l.length≤65536) (hk:k≤10000000):Good Tryz.prog 46 [.fz 3 xs] (frs l):=by
 have hxl:=hl.len
 obtain ⟨n,hne⟩:∃n,n=l.length:=⟨_,rfl⟩
 have hxn:xs.length=n:=by omega
 have hby:(40:Int)*(n:Int)≤281474976710656:=by omega
 have e0:([]:List AV)=((l.take 0).map fr).map AV.f:=rfl
 refine good_of Tryz.func46 rfl (by kernel_rfl) fun X hO hrd=>?_;rw [Tryz.ntmps46,Tryz.results46];simp only [ast0,List.map_cons,List.map_nil,List.length_cons,List.length_nil,Nat.reduceAdd,Nat.reduceSub,List.replicate_succ,List.replicate_zero,List.cons_append,List.nil_append]
 (repeat (first|(with_reducible first|refine W_seq fun K hK=>?_|refine J_block ?_|refine J_skip ?_|refine J_exit ?_|refine J_ret ?_|refine J_region ?_ |refine J_drawn mixed (by kernel_rfl) ?_|refine aApp_sl ?_|refine aApp_old ?_|refine J_c ?_|refine Jc_true ?_|refine Jc_false ?_|exact Frz.f _|(refine Kont.go (by assumption) ?_)|(simp (config:={ maxSteps:=3000000 }) (disch:=omega) only [go_sem,Nat.reduceEqDiff,↓reduceIte,Nat.reduceAdd,Nat.reduceLT,Nat.reduceLeDiff,Int.reduceLT,Int.reduceLE,Int.reduceEq,Int.reduceNe,Int.reduceAdd,Int.reduceSub,Int.reduceMul,Int.reduceNeg,Int.reduceToNat,hxn,hby]))|refine call_f (canon_w (by assumption) (by omega)) rfl ?_|refine callQ_f (canon_w (by assumption) (by omega)) rfl ?_|refine And.intro (by omega) ?_|refine And.intro (And.intro (by omega) (by omega)) ?_))
 refine J_mask [8] (by refine weak_of ?_ ?_<;>simp (disch:=omega) only [go_sem,Nat.reduceAdd,Nat.reduceLT,Nat.reduceEqDiff]<;>first|rfl|exact ⟨rfl,rfl⟩|exact Or.inl rfl|exact ⟨Or.inl rfl,Or.inl rfl⟩|trivial|assumption|omega|(symm;assumption)|((repeat' apply And.intro)<;>first|rfl|omega|trivial|exact .inr ⟨rfl,rfl⟩|exact .inr rfl|(right;symm;assumption)|(symm;assumption)|assumption)) ?_;simp only [go_sem,Nat.reduceAdd,Nat.reduceLT,Nat.reduceEqDiff]
 refine W_loop [3,5,11,12,13,14,15,16,17,18,19,20] (fun x:Nat=>[(3,.own 0 3 0 x),(11,.f (I x))]) (fun x:Nat=>[some ⟨50,3,((l.take x).map fr).map .f⟩]) (fun x:Nat=>x≤n) (fun x:Nat=>n-x) (0) (Nat.zero_le _) (by refine weak_of ?_ ?_<;>simp (disch:=omega) only [go_sem,Nat.reduceAdd,Nat.reduceLT,Nat.reduceEqDiff]<;>first|rfl|exact ⟨rfl,rfl⟩|exact Or.inl rfl|exact ⟨Or.inl rfl,Or.inl rfl⟩|trivial|assumption|omega|(symm;assumption)|((repeat' apply And.intro)<;>first|rfl|omega|trivial|exact .inl rfl|exact .inr ⟨rfl,rfl⟩|exact .inr rfl|(right;symm;assumption)|(symm;assumption)|assumption)) ?_
 rintro x hx
 simp only [go_sem,Nat.reduceAdd,Nat.reduceLT,Nat.reduceEqDiff]
 (repeat (first|(with_reducible first|refine W_seq fun K hK=>?_|refine J_block ?_|refine J_skip ?_|refine J_exit ?_|refine J_ret ?_|refine J_region ?_ |refine J_drawn mixed (by kernel_rfl) ?_|refine aApp_sl ?_|refine aApp_old ?_|refine J_c ?_|refine Jc_true ?_|refine Jc_false ?_|exact Frz.f _|(refine Kont.go (by assumption) ?_)|(simp (config:={ maxSteps:=3000000 }) (disch:=omega) only [go_sem,Nat.reduceEqDiff,↓reduceIte,Nat.reduceAdd,Nat.reduceLT,Nat.reduceLeDiff,Int.reduceLT,Int.reduceLE,Int.reduceEq,Int.reduceNe,Int.reduceAdd,Int.reduceSub,Int.reduceMul,Int.reduceNeg,Int.reduceToNat,hxn]))|refine call_f (canon_w (by assumption) (by omega)) rfl ?_|refine callQ_f (canon_w (by assumption) (by omega)) rfl ?_|refine And.intro (by omega) ?_|refine And.intro (And.intro (by omega) (by omega)) ?_))
 refine Jc_if (fun hxl=>?_) (fun hxl=>?_)<;>try simp only [decide_eq_true_eq,decide_eq_false_iff_not,Bool.not_eq_true',Bool.not_eq_false',Bool.not_true,Bool.not_false,Int.ofNat_lt,Int.ofNat_le,Int.natCast_inj,Classical.not_not] at hxl
 ·have hxll:x<l.length:=by omega
  obtain ⟨g,a,b,g1,g2⟩:=hl.at3 hxll
  have hc:=canon_w g2 (by omega)
  have htl:(l.take x).length=x:=by rw [List.length_take];omega
  have hol:(((l.take x).map fr).map AV.f).length=x:=by rw [List.length_map,List.length_map,htl]
  have htk:(((l.take x).map fr).map AV.f).take x=((l.take x).map fr).map .f:=List.take_of_length_le (by omega)
  have hap:((l.take x).map fr).map AV.f++[.f (fr l[x])]=((l.take (x+1)).map fr).map .f:=by rw [List.take_add_one,List.getElem?_eq_getElem hxll,List.map_append,List.map_append];rfl
  have hb1:(x+1)*40≤140737488355328:=by omega
  (repeat (first|(with_reducible first|refine W_seq fun K hK=>?_|refine J_block ?_|refine J_skip ?_|refine J_exit ?_|refine J_ret ?_|refine J_region ?_ |refine J_drawn mixed (by kernel_rfl) ?_|refine aApp_sl ?_|refine aApp_old ?_|refine J_c ?_|refine Jc_true ?_|refine Jc_false ?_|exact Frz.f _|(refine Kont.go (by assumption) ?_)|(simp (config:={ maxSteps:=3000000 }) (disch:=omega) only [go_sem,Nat.reduceEqDiff,↓reduceIte,Nat.reduceAdd,Nat.reduceLT,Nat.reduceLeDiff,Int.reduceLT,Int.reduceLE,Int.reduceEq,Int.reduceNe,Int.reduceAdd,Int.reduceSub,Int.reduceMul,Int.reduceNeg,Int.reduceToNat,g1,hxn,htk,hap,hb1,hol]))|refine call_f (canon_w (by assumption) (by omega)) rfl ?_|refine callQ_f (canon_w (by assumption) (by omega)) rfl ?_|refine And.intro (by omega) ?_|refine And.intro (And.intro (by omega) (by omega)) ?_))
  refine ⟨x+1,by omega,by omega,weak_ren [3] ⟨by decide,by first|decide|(simp;done)⟩ ?_ ?_⟩<;>(try simp (disch:=omega) only [go_sem,Nat.reduceAdd,Nat.reduceLT,Nat.reduceEqDiff])<;>(try first|done|omega|rfl|exact ⟨rfl,rfl⟩|trivial)
 ·have he:x=n:=by omega
  subst he
  rw [hne,List.take_length]
  (repeat (first|(with_reducible first|refine W_seq fun K hK=>?_|refine J_block ?_|refine J_skip ?_|refine J_exit ?_|refine J_ret ?_|refine J_region ?_ |refine J_drawn mixed (by kernel_rfl) ?_|refine aApp_sl ?_|refine aApp_old ?_|refine J_c ?_|refine Jc_true ?_|refine Jc_false ?_|exact Frz.f _|(refine Kont.go (by assumption) ?_)|(simp (config:={ maxSteps:=3000000 }) (disch:=omega) only [go_sem,Nat.reduceEqDiff,↓reduceIte,Nat.reduceAdd,Nat.reduceLT,Nat.reduceLeDiff,Int.reduceLT,Int.reduceLE,Int.reduceEq,Int.reduceNe,Int.reduceAdd,Int.reduceSub,Int.reduceMul,Int.reduceNeg,Int.reduceToNat]))|refine call_f (canon_w (by assumption) (by omega)) rfl ?_|refine callQ_f (canon_w (by assumption) (by omega)) rfl ?_|refine And.intro (by omega) ?_|refine And.intro (And.intro (by omega) (by omega)) ?_))
  exact Frz.own0 rfl (by rw [List.length_map])
@[go_sem] theorem oc_fn {f:FuncId} {a b:List FV}:(FV.fn f a b).oc=true:=rfl
@[go_sem] theorem oc_nf:(FV.v Value.nilFunc).oc=true:=rfl
@[go_sem] theorem ti_jf:tI Tryz.prog 58=some ⟨false,1,8,some (.v .nilFunc),[],false,[]⟩:=by kernel_rfl
@[go_sem] theorem ts_jf:tS Tryz.prog 58=none:=by kernel_rfl
@[go_sem] theorem ti_ring:tI Tryz.prog 60=some ⟨true,4,48,some (.agg [.v (.bool false),.v (.string ⟨#[]⟩),.v (.string ⟨#[]⟩),.v .nilFunc]),[some 0,some 3],false,[3,1]⟩:=by kernel_rfl
@[go_sem] theorem fo_ring:fieldsOk Tryz.prog 60=true:=by kernel_rfl
@[go_sem] theorem ts_ring:tS Tryz.prog 60=none:=by kernel_rfl
abbrev ringV (z:Rat) (jf:FuncId):FV:=.agg [Bo (cg z),St (cn z),St (cd z),.fn jf [] []]
def gaR (op:Rat→Rat→Rat) (z:Rat) (tw:Nat→Nat) (qs:List Rat) (k i:Nat):Rat:=(jnS op (fun k=>qs.getD k 0) ((List.range k).filter fun k=>tw k==i)).getD z
def gaN (tw:Nat→Nat) (k i:Nat):Nat:=((List.range k).filter fun k=>tw k==i).length
section
variable {op : Rat → Rat → Rat} {z : Rat} {tw : Nat → Nat} {qs : List Rat} {k i n : Nat}
theorem gaN_next:gaN tw (k+1) i=if tw k=i then gaN tw k i+1 else gaN tw k i:=by
 unfold gaN
 rw [List.range_succ,List.filter_append]
 by_cases h:tw k=i
 ·rw [if_pos h,show [k].filter (fun k=>tw k==i)=[k] from by simp [h],List.length_append];rfl
 ·rw [if_neg h,show [k].filter (fun k=>tw k==i)=[] from by simp [h],List.append_nil]
theorem gaN_zero:gaN tw 0 i=0:=rfl
theorem gaN_le:gaN tw k i≤k:=by unfold gaN;exact Nat.le_trans (List.length_filter_le _ _) (by simp)
theorem gaR_next:gaR op z tw qs (k+1) i=if tw k=i then (if gaN tw k i=0 then qs.getD k 0 else op (gaR op z tw qs k i) (qs.getD k 0)) else gaR op z tw qs k i:=by
 unfold gaR gaN
 rw [jnS_range]
 by_cases h:tw k=i
 ·rw [if_pos h,if_pos (by simp [h])]
  by_cases h0:((List.range k).filter fun k=>tw k==i).length=0
  ·rw [if_pos h0,List.length_eq_zero_iff.1 h0];rfl
  ·rw [if_neg h0]
   cases hj:jnS op (fun k=>qs.getD k 0) ((List.range k).filter fun k=>tw k==i) with
   | none=>exact absurd (List.length_eq_zero_iff.2 (jnS_none.1 hj)) h0
   | some r=>rfl
 ·rw [if_neg h,if_neg (by simp [h])]
end
set_option maxRecDepth 100000 in
set_option maxHeartbeats 8000000 in
theorem gather_w {op:Rat→Rat→Rat} {z:Rat} {tw:Nat→Nat} {qs:List Rat} {n:Nat} {jf tf:FuncId} {ts:List FV} (h1:1≤n) (hn:n≤65536) (hq:qs.length≤65536)
  (ht:∀k,k<qs.length→Good Tryz.prog tf ([]++[I (k:Int)]++ts) (I (tw k:Nat))∧tw k<n)
  (hj:∀k,k<qs.length→gaN tw k (tw k)≠0→Good Tryz.prog jf ([]++[fr (gaR op z tw qs k (tw k)),fr (qs.getD k 0)]++[]) (fr (op (gaR op z tw qs k (tw k)) (qs.getD k 0)))) :
  Good Tryz.prog 44 [ringV z jf,I n,frs qs,.fn tf [] ts] (frs ((List.range n).map (gaR op z tw qs qs.length))):=by
 have hby:(40:Int)*(n:Int)≤281474976710656:=by omega
 have hby2:(8:Int)*(n:Int)≤281474976710656:=by omega
 have hz1:List.replicate n (AV.f frN)=(fillL n 0 (fun _=>fr z) frN).map AV.f:=by rw [fill_zero,List.map_replicate]
 have hz2:List.replicate n (AV.f (FV.v (.int .i64 0)))=((List.range n).map fun i=>I (gaN tw 0 i:Nat)).map AV.f:=by
  apply List.ext_getElem (by simp)
  intro j h1 h2
  simp [gaN_zero]
 have hz3:(fillL n n (fun _=>fr z) frN).map AV.f=((List.range n).map fun i=>fr (gaR op z tw qs 0 i)).map AV.f:=by rw [fill_all];rfl
 obtain ⟨N,hN⟩:∃N,N=qs.length:=⟨_,rfl⟩
 have hqm:(qs.map fr).length=N:=by rw [List.length_map,hN]
 rw [←hN] at hq ht hj ⊢
 refine good_of Tryz.func44 rfl (by kernel_rfl) fun X hO hrd=>?_;rw [Tryz.ntmps44,Tryz.results44];simp only [ast0,List.map_cons,List.map_nil,List.length_cons,List.length_nil,Nat.reduceAdd,Nat.reduceSub,List.replicate_succ,List.replicate_zero,List.cons_append,List.nil_append]
 (repeat (first|(with_reducible first|refine W_seq fun K hK=>?_|refine J_block ?_|refine J_skip ?_|refine J_exit ?_|refine J_ret ?_|refine J_region ?_ |refine J_drawn mixed (by kernel_rfl) ?_|refine aApp_sl ?_|refine aApp_old ?_|refine J_c ?_|refine Jc_true ?_|refine Jc_false ?_|exact Frz.f _|(refine Kont.go (by assumption) ?_)|(simp (config:={ maxSteps:=3000000 }) (disch:=omega) only [go_sem,Nat.reduceEqDiff,↓reduceIte,Nat.reduceAdd,Nat.reduceLT,Nat.reduceLeDiff,Int.reduceLT,Int.reduceLE,Int.reduceEq,Int.reduceNe,Int.reduceAdd,Int.reduceSub,Int.reduceMul,Int.reduceNeg,Int.reduceToNat,hby,hby2,hz1,hz2,hqm]))|refine And.intro (by omega) ?_|refine And.intro (And.intro (by omega) (by omega)) ?_))
 refine W_loop [11,21,22,23,24,25,26,27,28,29] (fun x:Nat=>[(21,.f (I x))]) (fun x:Nat=>[some ⟨60,4,[.f (ringV z jf)]⟩,some ⟨50,3,(fillL n x (fun _=>fr z) frN).map .f⟩,some ⟨3,1,((List.range n).map fun i=>I (gaN tw 0 i:Nat)).map .f⟩]) (fun x:Nat=>x≤n) (fun x:Nat=>n-x) (0) (Nat.zero_le _) (by refine weak_of ?_ ?_<;>simp (disch:=omega) only [go_sem,Nat.reduceAdd,Nat.reduceLT,Nat.reduceEqDiff]<;>first|rfl|exact ⟨rfl,rfl⟩|exact Or.inl rfl|exact ⟨Or.inl rfl,Or.inl rfl⟩|trivial|assumption|omega|(symm;assumption)|((repeat' apply And.intro)<;>first|rfl|omega|trivial|exact .inl rfl|exact .inr ⟨rfl,rfl⟩|exact .inr rfl|(right;symm;assumption)|(symm;assumption)|assumption)) ?_
 ·rintro x hx
  simp only [go_sem,Nat.reduceAdd,Nat.reduceLT,Nat.reduceEqDiff]
  (repeat (first|(with_reducible first|refine W_seq fun K hK=>?_|refine J_block ?_|refine J_skip ?_|refine J_exit ?_|refine J_ret ?_|refine J_region ?_ |refine J_drawn mixed (by kernel_rfl) ?_|refine aApp_sl ?_|refine aApp_old ?_|refine J_c ?_|refine Jc_true ?_|refine Jc_false ?_|exact Frz.f _|(refine Kont.go (by assumption) ?_)|(simp (config:={ maxSteps:=3000000 }) (disch:=omega) only [go_sem,Nat.reduceEqDiff,↓reduceIte,Nat.reduceAdd,Nat.reduceLT,Nat.reduceLeDiff,Int.reduceLT,Int.reduceLE,Int.reduceEq,Int.reduceNe,Int.reduceAdd,Int.reduceSub,Int.reduceMul,Int.reduceNeg,Int.reduceToNat]))|refine And.intro (by omega) ?_|refine And.intro (And.intro (by omega) (by omega)) ?_))
  refine Jc_if (fun hxn=>?_) (fun hxn=>?_)<;>try simp only [decide_eq_true_eq,decide_eq_false_iff_not,Bool.not_eq_true',Bool.not_eq_false',Bool.not_true,Bool.not_false,Int.ofNat_lt,Int.ofNat_le,Int.natCast_inj,Classical.not_not] at hxn
  ·have hset:=fillA_set (f:=fun _=>fr z) (z:=frN) hxn rfl
   (repeat (first|(with_reducible first|refine W_seq fun K hK=>?_|refine J_block ?_|refine J_skip ?_|refine J_exit ?_|refine J_ret ?_|((fail_if_success refine J_region (id:=7) ?_);refine J_region ?_) |refine J_drawn mixed (by kernel_rfl) ?_|refine aApp_sl ?_|refine aApp_old ?_|refine J_c ?_|refine Jc_true ?_|refine Jc_false ?_|exact Frz.f _|(refine Kont.go (by assumption) ?_)|(simp (config:={ maxSteps:=3000000 }) (disch:=omega) only [go_sem,Nat.reduceEqDiff,↓reduceIte,Nat.reduceAdd,Nat.reduceLT,Nat.reduceLeDiff,Int.reduceLT,Int.reduceLE,Int.reduceEq,Int.reduceNe,Int.reduceAdd,Int.reduceSub,Int.reduceMul,Int.reduceNeg,Int.reduceToNat,fillA_get hxn,fill_len,hxn,List.length_map]))|refine And.intro (by omega) ?_|refine And.intro (And.intro (by omega) (by omega)) ?_))
   refine J_norm1 1 (AV.agg [.f (Bo (cg z)),.f (St (cn z)),.f (St (cd z))]) (y:=.f (fr z)) rfl (by rw [List.length_map,fill_len];exact hxn) rfl rfl ?_
   (repeat (first|(with_reducible first|refine W_seq fun K hK=>?_|refine J_block ?_|refine J_skip ?_|refine J_exit ?_|refine J_ret ?_|refine J_region ?_ |refine J_drawn mixed (by kernel_rfl) ?_|refine aApp_sl ?_|refine aApp_old ?_|refine J_c ?_|refine Jc_true ?_|refine Jc_false ?_|exact Frz.f _|(refine Kont.go (by assumption) ?_)|(simp (config:={ maxSteps:=3000000 }) (disch:=omega) only [go_sem,Nat.reduceEqDiff,↓reduceIte,Nat.reduceAdd,Nat.reduceLT,Nat.reduceLeDiff,Int.reduceLT,Int.reduceLE,Int.reduceEq,Int.reduceNe,Int.reduceAdd,Int.reduceSub,Int.reduceMul,Int.reduceNeg,Int.reduceToNat,hset]))|refine And.intro (by omega) ?_|refine And.intro (And.intro (by omega) (by omega)) ?_))
   refine ⟨x+1,by omega,by omega,weak_of ?_ ?_⟩<;>(try simp (disch:=omega) only [go_sem,Nat.reduceAdd,Nat.reduceLT,Nat.reduceEqDiff])<;>(try first|done|omega|rfl|exact ⟨rfl,rfl⟩|trivial)
  ·have he:x=n:=by omega
   subst he
   rw [hz3]
   (repeat (first|(with_reducible first|refine W_seq fun K hK=>?_|refine J_block ?_|refine J_skip ?_|refine J_exit ?_|refine J_ret ?_|refine J_region ?_ |refine J_drawn mixed (by kernel_rfl) ?_|refine aApp_sl ?_|refine aApp_old ?_|refine J_c ?_|refine Jc_true ?_|refine Jc_false ?_|exact Frz.f _|(refine Kont.go (by assumption) ?_)|(simp (config:={ maxSteps:=3000000 }) (disch:=omega) only [go_sem,Nat.reduceEqDiff,↓reduceIte,Nat.reduceAdd,Nat.reduceLT,Nat.reduceLeDiff,Int.reduceLT,Int.reduceLE,Int.reduceEq,Int.reduceNe,Int.reduceAdd,Int.reduceSub,Int.reduceMul,Int.reduceNeg,Int.reduceToNat,hqm]))|refine And.intro (by omega) ?_|refine And.intro (And.intro (by omega) (by omega)) ?_))
   refine W_loop [12,13,14,32,33,34,35,36,37,38,39,40,41,42,43,44,45,46,47,48,49,50,51,52,53,54,55,56,57,58,59,60,61,62,63,64,65,66] (fun y:Nat=>[(32,.f (I y))]) (fun y:Nat=>[some ⟨60,4,[.f (ringV z jf)]⟩,some ⟨50,3,((List.range x).map fun i=>fr (gaR op z tw qs y i)).map .f⟩,some ⟨3,1,((List.range x).map fun i=>I (gaN tw y i:Nat)).map .f⟩]) (fun y:Nat=>y≤N) (fun y:Nat=>N-y) (0) (Nat.zero_le _) (by refine weak_of ?_ ?_<;>simp (disch:=omega) only [go_sem,Nat.reduceAdd,Nat.reduceLT,Nat.reduceEqDiff]<;>first|rfl|exact ⟨rfl,rfl⟩|exact Or.inl rfl|exact ⟨Or.inl rfl,Or.inl rfl⟩|trivial|assumption|omega|(symm;assumption)|((repeat' apply And.intro)<;>first|rfl|omega|trivial|exact .inl rfl|exact .inr ⟨rfl,rfl⟩|exact .inr rfl|(right;symm;assumption)|(symm;assumption)|assumption)) ?_
   rintro y hy
   simp only [go_sem,Nat.reduceAdd,Nat.reduceLT,Nat.reduceEqDiff]
   (repeat (first|(with_reducible first|refine W_seq fun K hK=>?_|refine J_block ?_|refine J_skip ?_|refine J_exit ?_|refine J_ret ?_|refine J_region ?_ |refine J_drawn mixed (by kernel_rfl) ?_|refine aApp_sl ?_|refine aApp_old ?_|refine J_c ?_|refine Jc_true ?_|refine Jc_false ?_|exact Frz.f _|(refine Kont.go (by assumption) ?_)|(simp (config:={ maxSteps:=3000000 }) (disch:=omega) only [go_sem,Nat.reduceEqDiff,↓reduceIte,Nat.reduceAdd,Nat.reduceLT,Nat.reduceLeDiff,Int.reduceLT,Int.reduceLE,Int.reduceEq,Int.reduceNe,Int.reduceAdd,Int.reduceSub,Int.reduceMul,Int.reduceNeg,Int.reduceToNat,hqm]))|refine And.intro (by omega) ?_|refine And.intro (And.intro (by omega) (by omega)) ?_))
   refine Jc_if (fun hyN=>?_) (fun hyN=>?_)<;>try simp only [decide_eq_true_eq,decide_eq_false_iff_not,Bool.not_eq_true',Bool.not_eq_false',Bool.not_true,Bool.not_false,Int.ofNat_lt,Int.ofNat_le,Int.natCast_inj,Classical.not_not] at hyN
   ·have hyq:y<qs.length:=by omega
    have gq:=map_get fr qs hyq
    have gD:qs.getD y 0=qs[y]:=lget_lt qs 0 hyq
    obtain ⟨tg,tl⟩:=ht y hyN
    have gN:(((List.range x).map fun i=>I (gaN tw y i:Nat)).map AV.f)[tw y]?=some (.f (I (gaN tw y (tw y):Nat))):=by simp [tl]
    have gR:(((List.range x).map fun i=>fr (gaR op z tw qs y i)).map AV.f)[tw y]?=some (.f (fr (gaR op z tw qs y (tw y)))):=by simp [tl]
    have hle:=gaN_le (tw:=tw) (k:=y) (i:=tw y)
    have sN:(((List.range x).map fun i=>I (gaN tw y i:Nat)).map AV.f).set (tw y) (.f (I ((gaN tw y (tw y):Nat)+1:Int)))=((List.range x).map fun i=>I (gaN tw (y+1) i:Nat)).map AV.f:=by
     rw [←List.map_set,range_set tl]
     congr 1
     refine List.map_congr_left fun i hi=>?_
     rw [gaN_next]
     by_cases e:i=tw y
     ·rw [if_pos e,if_pos e.symm,e];rfl
     ·rw [if_neg e,if_neg (Ne.symm e)]
    have sR:(((List.range x).map fun i=>fr (gaR op z tw qs y i)).map AV.f).set (tw y) (.f (fr (if gaN tw y (tw y)=0 then qs.getD y 0 else op (gaR op z tw qs y (tw y)) (qs.getD y 0))))=((List.range x).map fun i=>fr (gaR op z tw qs (y+1) i)).map AV.f:=by
     rw [←List.map_set,range_set tl]
     congr 1
     refine List.map_congr_left fun i hi=>?_
     rw [gaR_next]
     by_cases e:i=tw y
     ·rw [if_pos e,if_pos e.symm,e]
     ·rw [if_neg e,if_neg (Ne.symm e)]
    have lN:(((List.range x).map fun i=>I (gaN tw y i:Nat)).map AV.f).length=x:=by simp
    have lR:(((List.range x).map fun i=>fr (gaR op z tw qs y i)).map AV.f).length=x:=by simp
    (repeat (first|(with_reducible first|refine W_seq fun K hK=>?_|refine J_block ?_|refine J_skip ?_|refine J_exit ?_|refine J_ret ?_|refine J_region ?_ |refine J_drawn mixed (by kernel_rfl) ?_|refine aApp_sl ?_|refine aApp_old ?_|refine J_c ?_|refine Jc_true ?_|refine Jc_false ?_|exact Frz.f _|(refine Kont.go (by assumption) ?_)|(simp (config:={ maxSteps:=3000000 }) (disch:=omega) only [go_sem,Nat.reduceEqDiff,↓reduceIte,Nat.reduceAdd,Nat.reduceLT,Nat.reduceLeDiff,Int.reduceLT,Int.reduceLE,Int.reduceEq,Int.reduceNe,Int.reduceAdd,Int.reduceSub,Int.reduceMul,Int.reduceNeg,Int.reduceToNat,gq,hqm]))|refine And.intro (by omega) ?_|refine And.intro (And.intro (by omega) (by omega)) ?_))
    refine call_f tg (by simp) ?_
    by_cases h0:gaN tw y (tw y)=0
    ·have h0':((gaN tw y (tw y):Nat):Int)=0:=by omega
     rw [if_pos h0,gD] at sR
     (repeat (first|(with_reducible first|refine W_seq fun K hK=>?_|refine J_block ?_|refine J_skip ?_|refine J_exit ?_|refine J_ret ?_|refine J_region ?_ |refine J_drawn mixed (by kernel_rfl) ?_|refine aApp_sl ?_|refine aApp_old ?_|refine J_c ?_|refine Jc_true ?_|refine Jc_false ?_|exact Frz.f _|(refine Kont.go (by assumption) ?_)|(simp (config:={ maxSteps:=3000000 }) (disch:=omega) only [go_sem,Nat.reduceEqDiff,↓reduceIte,Nat.reduceAdd,Nat.reduceLT,Nat.reduceLeDiff,Int.reduceLT,Int.reduceLE,Int.reduceEq,Int.reduceNe,Int.reduceAdd,Int.reduceSub,Int.reduceMul,Int.reduceNeg,Int.reduceToNat,gN,gR,h0',lN,lR,tl,sR]))|refine And.intro (by omega) ?_|refine And.intro (And.intro (by omega) (by omega)) ?_))
     rw [h0'] at sN
     (repeat (first|(with_reducible first|refine W_seq fun K hK=>?_|refine J_block ?_|refine J_skip ?_|refine J_exit ?_|refine J_ret ?_|refine J_region ?_ |refine J_drawn mixed (by kernel_rfl) ?_|refine aApp_sl ?_|refine aApp_old ?_|refine J_c ?_|refine Jc_true ?_|refine Jc_false ?_|exact Frz.f _|(refine Kont.go (by assumption) ?_)|(simp (config:={ maxSteps:=3000000 }) (disch:=omega) only [go_sem,Nat.reduceEqDiff,↓reduceIte,Nat.reduceAdd,Nat.reduceLT,Nat.reduceLeDiff,Int.reduceLT,Int.reduceLE,Int.reduceEq,Int.reduceNe,Int.reduceAdd,Int.reduceSub,Int.reduceMul,Int.reduceNeg,Int.reduceToNat,gN,lN,lR,tl,sN]))|refine And.intro (by omega) ?_|refine And.intro (And.intro (by omega) (by omega)) ?_))
     refine ⟨y+1,by omega,by omega,weak_of ?_ ?_⟩<;>(try simp (disch:=omega) only [go_sem,Nat.reduceAdd,Nat.reduceLT,Nat.reduceEqDiff])<;>(try first|done|omega|rfl|exact ⟨rfl,rfl⟩|trivial)
    ·have h0':¬((gaN tw y (tw y):Nat):Int)=0:=by omega
     rw [if_neg h0,gD] at sR
     have hjf:=hj y hyN h0
     rw [gD] at hjf
     (repeat (first|(with_reducible first|refine W_seq fun K hK=>?_|refine J_block ?_|refine J_skip ?_|refine J_exit ?_|refine J_ret ?_|refine J_region ?_ |refine J_drawn mixed (by kernel_rfl) ?_|refine aApp_sl ?_|refine aApp_old ?_|refine J_c ?_|refine Jc_true ?_|refine Jc_false ?_|exact Frz.f _|(refine Kont.go (by assumption) ?_)|(simp (config:={ maxSteps:=3000000 }) (disch:=omega) only [go_sem,Nat.reduceEqDiff,↓reduceIte,Nat.reduceAdd,Nat.reduceLT,Nat.reduceLeDiff,Int.reduceLT,Int.reduceLE,Int.reduceEq,Int.reduceNe,Int.reduceAdd,Int.reduceSub,Int.reduceMul,Int.reduceNeg,Int.reduceToNat,gN,h0',gR,lN,lR,tl]))|refine And.intro (by omega) ?_|refine And.intro (And.intro (by omega) (by omega)) ?_))
     refine callQ_f hjf (by simp) ?_
     (repeat (first|(with_reducible first|refine W_seq fun K hK=>?_|refine J_block ?_|refine J_skip ?_|refine J_exit ?_|refine J_ret ?_|refine J_region ?_ |refine J_drawn mixed (by kernel_rfl) ?_|refine aApp_sl ?_|refine aApp_old ?_|refine J_c ?_|refine Jc_true ?_|refine Jc_false ?_|exact Frz.f _|(refine Kont.go (by assumption) ?_)|(simp (config:={ maxSteps:=3000000 }) (disch:=omega) only [go_sem,Nat.reduceEqDiff,↓reduceIte,Nat.reduceAdd,Nat.reduceLT,Nat.reduceLeDiff,Int.reduceLT,Int.reduceLE,Int.reduceEq,Int.reduceNe,Int.reduceAdd,Int.reduceSub,Int.reduceMul,Int.reduceNeg,Int.reduceToNat,sR,gN,lN,lR,tl]))|refine And.intro (by omega) ?_|refine And.intro (And.intro (by omega) (by omega)) ?_))
     (repeat (first|(with_reducible first|refine W_seq fun K hK=>?_|refine J_block ?_|refine J_skip ?_|refine J_exit ?_|refine J_ret ?_|refine J_region ?_ |refine J_drawn mixed (by kernel_rfl) ?_|refine aApp_sl ?_|refine aApp_old ?_|refine J_c ?_|refine Jc_true ?_|refine Jc_false ?_|exact Frz.f _|(refine Kont.go (by assumption) ?_)|(simp (config:={ maxSteps:=3000000 }) (disch:=omega) only [go_sem,Nat.reduceEqDiff,↓reduceIte,Nat.reduceAdd,Nat.reduceLT,Nat.reduceLeDiff,Int.reduceLT,Int.reduceLE,Int.reduceEq,Int.reduceNe,Int.reduceAdd,Int.reduceSub,Int.reduceMul,Int.reduceNeg,Int.reduceToNat,gN,lN,lR,tl,sN]))|refine And.intro (by omega) ?_|refine And.intro (And.intro (by omega) (by omega)) ?_))
     refine ⟨y+1,by omega,by omega,weak_of ?_ ?_⟩<;>(try simp (disch:=omega) only [go_sem,Nat.reduceAdd,Nat.reduceLT,Nat.reduceEqDiff])<;>(try first|done|omega|rfl|exact ⟨rfl,rfl⟩|trivial)
   ·have he:y=N:=by omega
    subst he
    (repeat (first|(with_reducible first|refine W_seq fun K hK=>?_|refine J_block ?_|refine J_skip ?_|refine J_exit ?_|refine J_ret ?_|refine J_region ?_ |refine J_drawn mixed (by kernel_rfl) ?_|refine aApp_sl ?_|refine aApp_old ?_|refine J_c ?_|refine Jc_true ?_|refine Jc_false ?_|exact Frz.f _|(refine Kont.go (by assumption) ?_)|(simp (config:={ maxSteps:=3000000 }) (disch:=omega) only [go_sem,Nat.reduceEqDiff,↓reduceIte,Nat.reduceAdd,Nat.reduceLT,Nat.reduceLeDiff,Int.reduceLT,Int.reduceLE,Int.reduceEq,Int.reduceNe,Int.reduceAdd,Int.reduceSub,Int.reduceMul,Int.reduceNeg,Int.reduceToNat]))|refine And.intro (by omega) ?_|refine And.intro (And.intro (by omega) (by omega)) ?_))
    exact Frz.own0 (by rw [List.map_map (f:=gaR op z tw qs y)];rfl) (by simp)
end Go.Proofs.YtmcgeppgfjlclaaGreatDoor
set_option linter.unusedVariables false
set_option linter.unusedSimpArgs false
namespace Go.Proofs.YtmcgeppgfjlclaaGreatDoor
open Go Go.RowKit
def aendMO (P:Program) (rvs:List ResultVar) (e:TypeId) (sz k:Nat) (es:List FV):Exit→AS→Prop
 | .normal,s|.ret,s=>aresults P rvs s fun vs=>∃i,vs=[.own i sz 0 k]∧s.H[i]?=some (some ⟨e,sz,es.map .f⟩)
 | _,_=>False
theorem callU_MO {P:Program} {f:FuncId} {fn:Func} {c:Code} (hf:P.funcs[f]?=some fn) (hb:fn.body=some c) (hok:enterOk P f=true) {zs:List AV} {e:TypeId} {sz k:Nat} {es0 es:List FV} (hfl:∀x∈es,FlatF x)
  (h:∀X:Cx,X.rd=none→J X P c (aendMO P fn.results.toList e sz k es) (ast0M zs [⟨e,sz,es0.map .f⟩] fn.ntmps)) {H:AH} {q:Nat} {xs:List AV} (hq:H[q]?=some (some ⟨e,sz,es0.map .f⟩)) (hxz:xs.length=zs.length)
  (hz:∀(j:Nat) x z,xs[j]?=some x→zs[j]?=some z→(z.ren (fun _=>q)=x∧z.lt0 1=true)∨∃y,z=.f y∧Frz (H.set q none) x y) :
  CallU P f xs H (fun u G=>u=.own H.length sz 0 k∧G=H.set q none++[some ⟨e,sz,es.map .f⟩]):=by
 refine ⟨hok,fun X w F loc t a ys R hys=>?_⟩
 have hqN:=hlt hq
 have hdead:∀(r:Nat) p,(H.set q none)[r]?=some (some p)→r≠q∧H[r]?=some (some p):=fun r p h=>by
  by_cases e:r=q
  ·subst e;rw [List.getElem?_set_self hqN] at h;cases h
  ·rw [List.getElem?_set_ne (Ne.symm e)] at h;exact ⟨e,h⟩
 have R1:RelF X F loc ⟨t,H.set q none⟩ a w:=R.drop (by simp) fun r p h=>(hdead r p h).2
 have hnl:¬Live ⟨t,H.set q none⟩ loc (loc q).1:=fun ⟨r,p,hr,e⟩=>(hdead r p hr).1 (R.inj r q _ _ (hdead r p hr).2 hq e)
 obtain ⟨G,hG⟩:∃G:Nat→Prop,G=fun b=>F b∨Live ⟨t,H.set q none⟩ loc b:=⟨_,rfl⟩
 have hGlt:∀b,G b→b<w.heap.size:=fun b h=>by rw [hG] at h;exact R1.live_lt h
 have hGq:¬G (loc q).1:=fun h=>by rw [hG] at h;exact h.elim (R.nF q _ hq) hnl
 have hlen1:(H.set q none).length=H.length:=List.length_set ..
 have hrep:zs.length=ys.size∧∀(j:Nat) z,zs[j]?=some z→Rep w G (fun _=>loc q) [AO.mk e sz (es0.map .f)].length z (ys.getD j undef):=by
  refine ⟨by rw [←hxz];exact hys.1,fun j z hj=>?_⟩
  have hjl:=glt hj
  have hxj:=List.getElem?_eq_getElem (l:=xs) (i:=j) (by omega)
  have hr:=hys.2 j _ hxj
  rcases hz j _ z hxj hj with ⟨h1,h2⟩|⟨y,rfl,hy⟩
  ·rw [←h1] at hr
   have:=hr.ren0 (g:=fun _=>q) h2
   exact this.mono (fun b hb=>by rw [hG];exact .inl hb) (fun _ _ _ _ h=>h) (Nat.le_refl _) (fun _ _=>rfl)
  ·have:=(hy.rep R1).1 _ (by show Rep w F loc (H.set q none).length _ _;rw [hlen1];exact hr)
   exact .f _ _ (this.mono (fun b hb=>by rw [hG];exact hb) fun _ _ _ _ h=>h)
 have hobj:∀(i:Nat) o,[AO.mk e sz (es0.map .f)][i]?=some o→ObjAt w G (fun _=>loc q) [AO.mk e sz (es0.map .f)].length i o∧¬G (loc q).1:=fun i o hi=>by
  cases i with
  | zero =>
   cases hi
   obtain ⟨hu,vs,hv,hvs,hc⟩:=R.obj q _ hq
   refine ⟨⟨hu,vs,hv,hvs,fun j c hj=>?_⟩,hGq⟩
   obtain ⟨u,h1,h2⟩:=hc j c hj
   replace hj:(flat (es0.map AV.f))[j]?=some c:=hj
   rw [flat_f,List.getElem?_map] at hj
   cases hcj:(flatF es0)[j]? with
   | none=>rw [hcj] at hj;cases hj
   | some y =>
    rw [hcj] at hj
    cases hj
    cases h2 with|f _ _ h2=>exact ⟨u,h1,.f _ _ (h2.mono (fun b hb=>by rw [hG];exact .inl hb) fun _ _ _ _ h=>h)⟩
  | succ i=>simp at hi
 have hTab:TabW w∧∀t'∈tabs,∀(i:Nat) o,[AO.mk e sz (es0.map .f)][i]?=some o→((fun _=>loc q) i).1≠t'.1:=⟨R.tabW,fun t' ht i o _=>R.tabO t' ht q _ hq⟩
 let O:Nat→Prop:=fun b=>∃(i:Nat) (o:AO),[AO.mk e sz (es0.map .f)][i]?=some o∧((fun (_:Nat)=>loc q) i).1=b
 have hO:∀b,O b→b=(loc q).1:=fun b ⟨i,o,_,e⟩=>e.symm
 refine calls_of_J (X:=⟨w,G,O,none,fun _=>false,#[],fun _=>none⟩) rfl hf hb (h ⟨w,G,O,none,fun _=>false,#[],fun _=>none⟩ rfl (okC_none (fun _=>rfl) _) _ w (rel0M hTab hGlt hrep hobj (fun i i' o o' hi hi' _=>by
  have h1:=glt hi;have h2:=glt hi';simp at h1 h2;omega))) ?_
 rintro ex a' w' s F' loc' hend R'
 have fin:(aresults P fn.results.toList s fun vs=>∃i,vs=[.own i sz 0 k]∧s.H[i]?=some (some ⟨e,sz,es.map .f⟩))→∃v,(results fn a'.tmps).run P w'=.ok v w'∧∃y F2 loc2 u H',(u=.own H.length sz 0 k∧H'=H.set q none++[some ⟨e,sz,es.map .f⟩])∧Ending.returned v=.returned y∧RelF X F2 loc2 ⟨t,H'⟩ a w'∧Rep w' F2 loc2 H'.length u y:=by
  intro hend
  obtain ⟨vs,us,⟨i,rfl,hi⟩,hl,hrs,hrun,hlen⟩:=aresults_sound R' _ hend
  obtain ⟨u,rfl⟩:∃u,us=[u]:=by
   match us,hl with
   | [u],_=>exact ⟨u,rfl⟩
  have hr:=hrs 0 _ u rfl rfl
  obtain ⟨huni,vs,hv,hvs,hc⟩:=R'.obj i _ hi
  cases hr with
  | own _ _ _ _ cap hri hk hm hs =>
   have hbel:=R'.below
   have R2:RelF X F loc ⟨t,H.set q none⟩ a w':=R1.stepO (F':=F) (O:=O) (fun b hb=>by rw [hO b hb];exact (R.new q _ hq).symm) (fun b hf hb=>by rw [hO b hb] at hf;exact R.nF q _ hq hf) (fun r p hp hb=>hnl ⟨r,p,hp,hO _ hb⟩) hbel (fun _ h=>h) (fun b hb=>Nat.lt_of_lt_of_le (R.hF b hb) hbel.size) (fun b h=>.inl h)
   have hnew:w.heap.size≤(loc' i).1∨(loc' i).1=(loc q).1:=(R'.new i _ hi).imp id fun h=>hO _ h
   have R3:=R2.adopt (g:=(loc' i).1) (o:=⟨e,sz,es.map .f⟩) (vs:=vs) (hnew.elim (fun h=>.inl (Nat.le_trans R.below.size h)) fun h=>by rw [h];exact R.new q _ hq)
    (fun hf=>hnew.elim (fun h=>by have:=R.hF _ hf;omega) fun h=>R.nF q _ hq (h▸hf)) (fun hl=>hnew.elim (fun h=>by have:=R1.live_lt (.inr hl);omega) fun h=>hnl (h▸hl)) huni hv (fun j c hj=>by
     obtain ⟨y,h1,h2⟩:=hc j c hj
     replace hj:(flat (es.map AV.f))[j]?=some c:=hj
     rw [flat_f,List.getElem?_map] at hj
     cases hcj:(flatF es)[j]? with
     | none=>rw [hcj] at hj;cases hj
     | some d =>
      rw [hcj] at hj
      cases hj
      obtain ⟨x,hx,hdx⟩:=List.mem_flatMap.1 (List.mem_of_getElem? hcj)
      have hdf:FlatF d:=by
       have hxf:=hfl x hx
       cases hxf with
       | v y=>simp only [FV.cells,List.mem_singleton] at hdx;subst hdx;exact .v y
       | agg cs hcs=>obtain ⟨m,hm⟩:=List.getElem?_of_mem (show d∈cs from hdx);exact hcs m d hm
       | tup cs hcs=>simp only [FV.cells,List.mem_singleton] at hdx;subst hdx;exact .tup cs hcs
      cases h2 with|f _ _ h2=>exact ⟨y,h1,.f _ _ (hdf.rep h2)⟩)
   refine ⟨_,results_run fn a'.tmps _ hrun,_,F,_,_,_,⟨rfl,rfl⟩,rfl,R3,?_⟩
   have:=Rep.own (w:=w') (F:=F) (loc:=ext loc (H.set q none).length ((loc' i).1,vs.size)) (N:=(H.set q none++[some (⟨e,sz,es.map AV.f⟩:AO)]).length) H.length sz 0 k cap (by simp) hk hm (by rw [show H.length=(H.set q none).length from hlen1.symm,ext_self,hvs,hs])
   rw [show ext loc (H.set q none).length ((loc' i).1,vs.size) H.length=((loc' i).1,vs.size) by rw [show H.length=(H.set q none).length from hlen1.symm,ext_self]] at this
   exact this
 cases ex with
 | normal=>exact fin hend
 | ret=>exact fin hend
 | _=>exact hend.elim
end Go.Proofs.YtmcgeppgfjlclaaGreatDoor
