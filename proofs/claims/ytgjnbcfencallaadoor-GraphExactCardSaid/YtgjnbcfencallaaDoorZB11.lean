/- Who is beside whom when parents are wed: walked, both sides. Conditions: what slices may hold. -/
import Derived.Test.YtgjnbcfencallaaDoorZGrH
set_option linter.unusedVariables false
set_option linter.unusedSimpArgs false
namespace Go.Proofs.YtgjnbcfencallaaDoor
open Go Go.RowKit
set_option maxRecDepth 100000 in
set_option maxHeartbeats 4000000 in
theorem lists_w {S:List Nat} (hS:∀v,S.getD v 0<256) (hl:S.length≤1000):Good Tryd.prog 46 [.fz 1 (S.map U)] (.fz 1 (gvs S)):=by
 have hgl:(gvs S).length=S.length:=gvs_len
 refine good_of Tryd.func46 rfl (by kernel_rfl) fun X hO hrd=>?_;rw [Tryd.ntmps46,Tryd.results46];simp only [ast0,List.map_cons,List.map_nil,List.length_cons,List.length_nil,Nat.reduceAdd,Nat.reduceSub,List.replicate_succ,List.replicate_zero,List.cons_append,List.nil_append]
 repeat (with_reducible first|refine W_seq fun K hK=>?_|refine J_block ?_|refine J_region ?_ |(refine Kont.go (by assumption) ?_)|(simp (config:={ maxSteps:=3000000 }) (disch:=omega) only [go_sem,List.length_map]))
 refine J_reserve ?_
 refine W_loop [3,5,8,9,10,11,12,13,14,15,16,17] (fun x:Nat=>[(3,sl 0 1 ((gvs S).take x)),(8,.f (I x))]) (fun x:Nat=>[ob 23 1 ((gvs S).take x)]) (fun x:Nat=>x≤S.length) (fun x:Nat=>S.length-x) (0) (Nat.zero_le _) (by refine weak_of ?_ ?_<;>simp (disch:=omega) only [go_sem]<;>first|rfl|exact ⟨rfl,rfl⟩|exact Or.inl rfl|exact ⟨Or.inl rfl,Or.inl rfl⟩|trivial|assumption|omega|(symm;assumption)|((repeat' apply And.intro)<;>first|rfl|omega|trivial|exact .inr ⟨rfl,rfl⟩|exact .inr rfl|(right;symm;assumption)|(symm;assumption)|assumption)) ?_
 rintro x hx
 have htl:((gvs S).take x).length=x:=by rw [List.length_take];omega
 simp only [go_sem]
 repeat (with_reducible first|refine W_seq fun K hK=>?_|refine J_region ?_ |refine J_c ?_|(refine Kont.go (by assumption) ?_)|(simp (config:={ maxSteps:=3000000 }) (disch:=omega) only [go_sem]))
 refine Jc_if (fun hxl=>?_) (fun hxl=>?_)<;>try simp only [decide_eq_true_eq,decide_eq_false_iff_not] at hxl
 ·have gx:=sets_get (P:=S) hxl
  have gg:=gvs_get (P:=S) hxl
  have htk:(gvs S).take x++[.fz 1 (Ns (els (S.getD x 0)))]=(gvs S).take (x+1):=by rw [List.take_add_one,gg];rfl
  have hli:=list_w (hS x)
  have hap:(((gvs S).take x).length+1)*24≤140737488355328:=by omega
  repeat (with_reducible first|refine W_seq fun K hK=>?_|refine J_block ?_|refine J_skip ?_|refine J_region ?_ |(refine Kont.go (by assumption) ?_)|(simp (config:={ maxSteps:=3000000 }) (disch:=omega) only [go_sem,↓reduceIte,gx]))
  (first|refine call_f (hli) rfl ?_|refine callQ_f (hli) rfl ?_|refine callHK_f (hli) rfl ?_|refine callH_f (hli) rfl ?_)
  repeat (first|(with_reducible first|refine J_region ?_ |refine aApp_sl ?_|(refine Kont.go (by assumption) ?_)|(simp (config:={ maxSteps:=3000000 }) (disch:=omega) only [go_sem,Nat.reduceEqDiff,↓reduceIte,Nat.reduceLeDiff,hap,htk]))|refine And.intro (by omega) ?_)
  refine ⟨x+1,by omega,by omega,weak_of ?_ ?_⟩<;>(try simp (disch:=omega) only [go_sem])<;>(try first|done|omega|rfl|exact ⟨rfl,rfl⟩|trivial)
 ·have he:x=S.length:=by omega
  subst he
  rw [show (gvs S).take S.length=gvs S by rw [←hgl,List.take_length]]
  repeat (with_reducible first|refine W_seq fun K hK=>?_|refine J_exit ?_|refine J_ret ?_|refine J_region ?_ |(refine Kont.go (by assumption) ?_)|(simp (config:={ maxSteps:=3000000 }) (disch:=omega) only [go_sem,↓reduceIte]))
  exact Frz.sl rfl
def fam (P:List Nat) (v:Nat):Nat:=P.getD v 0|||bit v
def mrB (P:List Nat) (v i u w:Nat):Bool:=!decide (u=w)&&((List.range v).any (fun x=>(fam P x).testBit u&&(fam P x).testBit w)||(decide (u∈(els (fam P v)).take i)&&(fam P v).testBit w))
def mrS (P:List Nat) (n v i u:Nat):Nat:=setB n (mrB P v i u)
def mrL (P:List Nat) (n v i:Nat):List Nat:=(List.range n).map (mrS P n v i)
section
variable {P : List Nat} {n v i u w : Nat}
theorem fam_bit:(fam P v).testBit u=(paO P u v||decide (u=v)):=by
 unfold fam paO
 rw [Nat.testBit_or,bit_bit]
 congr 1
 by_cases e:v=u
 ·subst e;simp
 ·have e':¬u=v:=fun h=>e h.symm
  simp [e,e']
theorem fam_lt (hg:GP n P) (hv:v<n) (h:(fam P v).testBit u=true):u<n:=by
 rw [fam_bit] at h
 rcases Bool.or_eq_true_iff.1 h with h|h
 ·exact (hg.pa u v h).1
 ·have:=of_decide_eq_true h;omega
theorem mrL_len:(mrL P n v i).length=n:=by simp [mrL]
theorem mrL_get (h:u<n):(mrL P n v i).getD u 0=mrS P n v i u:=by
 rw [lget_lt _ 0 (by rw [mrL_len];exact h)];simp [mrL]
theorem mrL_zero:mrL P n 0 0=List.replicate n 0:=by
 unfold mrL
 apply List.ext_getElem?
 intro j
 by_cases hj:j<n
 ·simp [hj]
  refine ext_bits' fun w=>?_
  unfold mrS
  rw [setB_bit,Nat.zero_testBit]
  simp [mrB]
 ·rw [List.getElem?_eq_none (by simp;omega),List.getElem?_eq_none (by simp;omega)]
theorem mrS_step (hg:GP n P) (hv:v<n) (hu:(els (fam P v))[i]?=some u):mrS P n v i u|||dif (fam P v) (bit u)=mrS P n v (i+1) u:=ext_bits' fun w=>by
 unfold mrS
 rw [Nat.testBit_or,dif_bit,bit_bit,setB_bit,setB_bit]
 have h1:decide (u∈(els (fam P v)).take i)=false:=decide_eq_false fun hm=>by
  have hnd:=els_nodup (s:=fam P v)
  rw [←List.take_append_drop i (els (fam P v))] at hnd
  have hd:u∈(els (fam P v)).drop i:=List.mem_of_getElem? (i:=0) (by rw [List.getElem?_drop];exact hu)
  exact (List.nodup_append.1 hnd).2.2 u hm u hd rfl
 have h2:decide (u∈(els (fam P v)).take (i+1))=true:=decide_eq_true (by rw [List.take_add_one,hu];simp)
 unfold mrB
 rw [h1,h2]
 cases hw:(fam P v).testBit w with
 | false=>simp
 | true =>
  have:=fam_lt hg hv hw
  by_cases e:u=w
  ·simp [e]
  ·simp [e,this]
theorem mrS_other (hu:(els (fam P v))[i]?=some u) (hw:w≠u):mrS P n v (i+1) w=mrS P n v i w:=ext_bits' fun x=>by
 unfold mrS
 rw [setB_bit,setB_bit]
 unfold mrB
 have:decide (w∈(els (fam P v)).take (i+1))=decide (w∈(els (fam P v)).take i):=by
  rw [List.take_add_one,hu];simp [hw]
 rw [this]
theorem mrL_step (hg:GP n P) (hv:v<n) (hu:(els (fam P v))[i]?=some u) (hun:u<n):(((mrL P n v i).map U).map AV.f).set u (.f (U (mrS P n v (i+1) u)))=((mrL P n v (i+1)).map U).map .f:=by
 rw [←List.map_set,←List.map_set]
 congr 2
 unfold mrL
 rw [range_set hun]
 refine List.map_congr_left fun k hk=>?_
 by_cases e:k=u
 ·rw [if_pos e,e]
 ·rw [if_neg e,mrS_other hu e]
theorem mrL_all (hg:GP n P) (hv:v<n):mrL P n v (els (fam P v)).length=mrL P n (v+1) 0:=by
 unfold mrL
 refine List.map_congr_left fun u hu=>ext_bits' fun w=>?_
 unfold mrS
 rw [setB_bit,setB_bit]
 congr 1
 unfold mrB
 rw [List.take_length,List.take_zero,List.range_succ,List.any_append]
 have e1:decide (u∈els (fam P v))=(fam P v).testBit u:=by
  rw [Bool.eq_iff_iff,decide_eq_true_eq,els_mem]
  exact ⟨fun h=>h.2,fun h=>⟨by have:=fam_lt hg hv h;have:=hg.n8;omega,h⟩⟩
 rw [e1]
 simp
theorem mrS_lt (hn:n≤8):mrS P n v i u<256:=setB_lt hn
theorem mrL_lt (hn:n≤8):∀u,(mrL P n v i).getD u 0<256:=fun u=>by
 rcases Nat.lt_or_ge u n with h|h
 ·rw [mrL_get h];exact mrS_lt hn
 ·rw [List.getD_eq_getElem?_getD,List.getElem?_eq_none (by rw [mrL_len];exact h)];decide
theorem mr_iff (hg:GP n P) (hv:v<n) (hu:u<n):mrB P n 0 v u=(((paO P u v||paO P v u)||(List.range n).any fun w=>paO P u w&&paO P v w)&&decide (u≠v)):=by
 unfold mrB
 rw [List.take_zero]
 rw [Bool.eq_iff_iff]
 simp only [Bool.and_eq_true,Bool.or_eq_true,List.any_eq_true,List.mem_range,decide_eq_true_eq,Bool.not_eq_true',decide_eq_false_iff_not,List.not_mem_nil,fam_bit,decide_false,Bool.false_eq_true,false_and,or_false,ne_eq]
 constructor
 ·rintro ⟨h1,x,hx,h2,h3⟩
  refine ⟨?_,fun h=>h1 h.symm⟩
  rcases h2 with h2|h2<;>rcases h3 with h3|h3
  ·exact .inr ⟨x,hx,h3,h2⟩
  ·subst h3;exact .inl (.inr h2)
  ·subst h2;exact .inl (.inl h3)
  ·exact absurd (h2.trans h3.symm) h1
 ·rintro ⟨h1,h2⟩
  refine ⟨fun h=>h2 h.symm,?_⟩
  rcases h1 with (h1|h1)|⟨w,hw,h1,h3⟩
  ·exact ⟨v,hv,.inr rfl,.inl h1⟩
  ·exact ⟨u,hu,.inl h1,.inr rfl⟩
  ·exact ⟨w,hw,.inl h3,.inl h1⟩
end
def morV (L:List (List Int)):List FV:=if ordE L=0 then gvs (mrL (setsOf L) L.length L.length 0) else []
set_option maxRecDepth 100000 in
set_option maxHeartbeats 8000000 in
theorem Moral_w (L:List (List Int)) (hL:OkIss L):Good Tryd.prog 17 [.fz 1 (L.map ints)] (.tup [.fz 1 (morV L),I (ordE L)]):=by
 have hc:=check_w2 L hL
 have hrs0:=reads_w L hL
 by_cases h0:ordE L=0
 case neg =>
  rw [show morV L=[] by unfold morV;rw [if_neg h0]]
  refine good_of Tryd.func17 rfl (by kernel_rfl) fun X hO hrd=>?_;rw [Tryd.ntmps17,Tryd.results17];simp only [ast0,List.map_cons,List.map_nil,List.length_cons,List.length_nil,Nat.reduceAdd,Nat.reduceSub,List.replicate_succ,List.replicate_zero,List.cons_append,List.nil_append]
  repeat (with_reducible first|refine W_seq fun K hK=>?_|refine J_region ?_ |(refine Kont.go (by assumption) ?_)|(simp (config:={ maxSteps:=3000000 }) (disch:=omega) only [go_sem]))
  (first|refine call_f (hc) rfl ?_|refine callQ_f (hc) rfl ?_|refine callHK_f (hc) rfl ?_|refine callH_f (hc) rfl ?_)
  repeat (with_reducible first|refine W_seq fun K hK=>?_|refine J_ret ?_|refine J_region ?_ |refine J_c ?_|refine Jc_true ?_|(refine Kont.go (by assumption) ?_)|(simp (config:={ maxSteps:=3000000 }) (disch:=omega) only [go_sem,h0]))
  exact ⟨_,rfl,FrzL.cons (.nil _) (FrzL.cons (.f _) (FrzL.nil _))⟩
 obtain ⟨hb,o,ho⟩:=ord_ok h0
 have hg:=GP.of hb
 have e3:rdR L=.own 56 1 ((setsOf L).map U):=by unfold rdR;rw [hb];rfl
 rw [hb,e3] at hrs0
 rw [h0] at hc ⊢
 rw [show morV L=gvs (mrL (setsOf L) L.length L.length 0) by unfold morV;rw [if_pos h0]]
 obtain ⟨n,hn⟩:∃n,n=L.length:=⟨_,rfl⟩
 obtain ⟨P,hP⟩:∃P,P=setsOf L:=⟨_,rfl⟩
 rw [←hn] at hg ⊢
 rw [←hP] at hg hrs0 ⊢
 have hl:=hg.len
 have hn8:=hg.n8
 have hsl:(P.map U).length=n:=by rw [List.length_map,hl]
 have hz:List.replicate n (AV.f (FV.v (.int .u64 0)))=((mrL P n 0 0).map U).map .f:=by rw [mrL_zero,List.map_replicate,List.map_replicate];rfl
 have hok:enterOk Tryd.prog 45=true:=by kernel_rfl
 have hli:=lists_w (S:=mrL P n n 0) (mrL_lt hn8) (by rw [mrL_len];omega)
 refine good_of Tryd.func17 rfl (by kernel_rfl) fun X hO hrd=>?_;rw [Tryd.ntmps17,Tryd.results17];simp only [ast0,List.map_cons,List.map_nil,List.length_cons,List.length_nil,Nat.reduceAdd,Nat.reduceSub,List.replicate_succ,List.replicate_zero,List.cons_append,List.nil_append]
 repeat (with_reducible first|refine W_seq fun K hK=>?_|refine J_region ?_ |(refine Kont.go (by assumption) ?_)|(simp (config:={ maxSteps:=3000000 }) (disch:=omega) only [go_sem]))
 (first|refine call_f (hc) rfl ?_|refine callQ_f (hc) rfl ?_|refine callHK_f (hc) rfl ?_|refine callH_f (hc) rfl ?_)
 repeat (with_reducible first|refine W_seq fun K hK=>?_|refine J_skip ?_|refine J_region ?_ |refine J_c ?_|refine Jc_false ?_|(refine Kont.go (by assumption) ?_)|(simp (config:={ maxSteps:=3000000 }) (disch:=omega) only [go_sem]))
 refine call_ot hrs0 (FrzL.fs [_]) ?_
 repeat (with_reducible first|refine W_seq fun K hK=>?_|(refine Kont.go (by assumption) ?_)|(simp (config:={ maxSteps:=3000000 }) (disch:=omega) only [go_sem]))
 refine J_freezeO (j:=5) rfl (by first|rfl|(simp;done)|(simp [*];done)) rfl ?_
 simp only [go_sem]
 repeat (first|(with_reducible first|refine W_seq fun K hK=>?_|refine J_block ?_|refine J_region ?_ |(refine Kont.go (by assumption) ?_)|(simp (config:={ maxSteps:=3000000 }) (disch:=omega) only [go_sem,↓reduceIte,Nat.reduceAdd,hsl,hz]))|refine And.intro (by omega) ?_)
 refine W_loop [8,9,10,11,27,28,29,30,31,32,33,34,35,36,37,38,39,40,41,42,43,44,45,46,47,48,49] (fun x:Nat=>[(27,.f (I x))]) (fun x:Nat=>[none,some ⟨56,1,((mrL P n x 0).map U).map .f⟩,some ⟨52,1,[.own 1 1 0 n]⟩]) (fun x:Nat=>x≤n) (fun x:Nat=>n-x) (0) (Nat.zero_le _) (by refine weak_of ?_ ?_<;>simp (disch:=omega) only [go_sem,Nat.reduceAdd]<;>first|rfl|exact ⟨rfl,rfl⟩|exact Or.inl rfl|exact ⟨Or.inl rfl,Or.inl rfl⟩|trivial|assumption|omega|(symm;assumption)|((repeat' apply And.intro)<;>first|rfl|omega|trivial|exact .inr ⟨rfl,rfl⟩|exact .inr rfl|(right;symm;assumption)|(symm;assumption)|assumption)) ?_
 rintro v hv
 simp only [go_sem]
 repeat (with_reducible first|refine W_seq fun K hK=>?_|refine J_region ?_ |refine J_c ?_|(refine Kont.go (by assumption) ?_)|(simp (config:={ maxSteps:=3000000 }) (disch:=omega) only [go_sem]))
 refine Jc_if (fun hvn=>?_) (fun hvn=>?_)<;>try simp only [decide_eq_true_eq,decide_eq_false_iff_not] at hvn
 ·have gv:=sets_get (P:=P) (v:=v) (by omega)
  have hfl:fam P v<256:=or_lt hg.lt8 (bit_lt (by omega))
  have ho:=u_or (hg.lt8 (v:=v)) (bit_lt (v:=v) (by omega))
  rw [show P.getD v 0|||bit v=fam P v from rfl] at ho
  have hsh:=u_shl (v:=v) (by omega)
  have hit:=all_iter (fam P v) hfl
  repeat (with_reducible first|refine W_seq fun K hK=>?_|refine J_block ?_|refine J_skip ?_|refine J_region ?_ |(refine Kont.go (by assumption) ?_)|(simp (config:={ maxSteps:=3000000 }) (disch:=omega) only [go_sem,↓reduceIte,Nat.reduceAdd,gv,ho,hsh]))
  refine J_rangeW hrd [11,38,39,40,41,42,43,44,45,46,47,48] (fun i=>[none,some ⟨56,1,((mrL P n v i).map U).map .f⟩,some ⟨52,1,[.own 1 1 0 n]⟩,some ⟨56,1,[.f (U (fam P v))]⟩]) rfl (hit) (by kernel_rfl) (by refine weak_of ?_ ?_<;>simp (disch:=omega) only [go_sem,Nat.reduceAdd]<;>first|rfl|exact ⟨rfl,rfl⟩|trivial|((repeat' apply And.intro)<;>first|rfl|trivial|exact .inl rfl|exact .inr ⟨rfl,rfl⟩|exact .inr rfl)) (by decide) (by kernel_rfl) (by kernel_rfl) ?_ ?_
  ·rintro i y hy X1 hX1 K hK
   obtain ⟨u,rfl,hu8,hus,hui,htk⟩:=els_take hy
   have hun:=fam_lt hg hvn hus
   have gu:(((mrL P n v i).map U).map AV.f)[u]?=some (.f (U (mrS P n v i u))):=by
    rw [List.getElem?_map,sets_get (by rw [mrL_len];exact hun),mrL_get hun];rfl
   have hsu:=u_shl hu8
   have hd:=u_an hfl (bit_lt hu8)
   have ho2:=u_or (mrS_lt (P:=P) (v:=v) (i:=i) (u:=u) hn8) (dif_lt (b:=bit u) hfl)
   rw [mrS_step hg hvn hui] at ho2
   have hst:=mrL_step hg hvn hui hun
   have hml:(((mrL P n v i).map U).map AV.f).length=n:=by rw [List.length_map,List.length_map,mrL_len]
   simp only [go_sem]
   repeat (with_reducible first|refine J_region ?_ |(refine Kont.go (by assumption) ?_)|(simp (config:={ maxSteps:=3000000 }) (disch:=omega) only [go_sem]))
   intro X2 hX2
   repeat (first|(with_reducible first|refine J_block ?_|refine J_drawn mixed (by kernel_rfl) ?_|(simp (config:={ maxSteps:=3000000 }) (disch:=omega) only [go_sem,↓reduceIte,gu,hsu,hd,ho2,hst]))|refine And.intro (by omega) ?_)
   refine rpost_n (weak_of ?_ ?_)<;>(try simp (disch:=omega) only [go_sem,Nat.reduceAdd])<;>(try first|done|omega|rfl|exact ⟨rfl,rfl⟩|trivial)
  ·have hel:((els (fam P v)).map Int.ofNat).length=(els (fam P v)).length:=by rw [List.length_map]
   rw [hel,mrL_all hg hvn]
   simp only [go_sem]
   repeat (with_reducible first|refine J_region ?_ |(refine Kont.go (by assumption) ?_)|(simp (config:={ maxSteps:=3000000 }) (disch:=omega) only [go_sem]))
   refine ⟨v+1,by omega,by omega,weak_of ?_ ?_⟩<;>(try simp (disch:=omega) only [go_sem,Nat.reduceAdd])<;>(try first|done|omega|rfl|exact ⟨rfl,rfl⟩|trivial)
 ·have he:v=n:=by omega
  subst he
  have hml:((mrL P v v 0).map U).length=v:=by rw [List.length_map,mrL_len]
  refine J_exit ?_
  repeat (with_reducible first|refine W_seq fun K hK=>?_|(refine Kont.go (by assumption) ?_)|(simp (config:={ maxSteps:=3000000 }) (disch:=omega) only [go_sem,↓reduceIte]))
  refine J_freezeA (r:=1) rfl ?_
  simp only [go_sem,Nat.reduceEqDiff,mrL_len]
  repeat (with_reducible first|refine J_region ?_ |(simp (config:={ maxSteps:=3000000 }) (disch:=omega) only [go_sem,↓reduceIte]))
  (first|refine call_f (hli) rfl ?_|refine callQ_f (hli) rfl ?_|refine callHK_f (hli) rfl ?_|refine callH_f (hli) rfl ?_)
  repeat (with_reducible first|refine J_ret ?_|(refine Kont.go (by assumption) ?_)|(simp (config:={ maxSteps:=3000000 }) (disch:=omega) only [go_sem]))
  exact ⟨_,rfl,FrzL.fs [_,_]⟩
end Go.Proofs.YtgjnbcfencallaaDoor
set_option linter.unusedVariables false
set_option linter.unusedSimpArgs false
namespace Go.Proofs.YtgjnbcfencallaaDoor
open Go Go.RowKit
def rwV (l:List FV):FV:=if l=[] then nilV else .fz 1 l
theorem Frz.rwV {H:AH} {l:List FV}:Frz H (.f (rwV l)) (.fz 1 l):=by
 unfold Go.Proofs.YtgjnbcfencallaaDoor.rwV
 split
 ·rename_i h;subst h;exact .nil _
 ·exact .f _
theorem fzr_sl_self {r sz:Nat} {l:List FV} (h:l≠[]):(sl r sz l).fzr r sz l=.f (.fz sz l):=by
 rw [sl_pos h,fzr_own,if_pos ⟨rfl,rfl,rfl,rfl⟩]
theorem mem_els {n u v:Nat} {P:List Nat} (hg:GP n P):decide (u∈els (P.getD v 0))=paO P u v:=by
 rw [Bool.eq_iff_iff,decide_eq_true_eq,els_mem]
 exact ⟨fun h=>h.2,fun h=>⟨by have:=(hg.pa u v h).1;have:=hg.n8;omega,h⟩⟩
def nrI (P:List Nat) (u v x:Nat):Bool:=(paO P u v||paO P v u)||(List.range x).any fun w=>paO P u w&&paO P v w
theorem nrI_next {P:List Nat} {u v x:Nat}:(nrI P u v x||(paO P u x&&paO P v x))=nrI P u v (x+1):=by
 unfold nrI
 rw [List.range_succ,List.any_append,Bool.or_assoc]
 simp
set_option maxRecDepth 100000 in
set_option maxHeartbeats 8000000 in
theorem rMoral_w (L:List (List Int)) (hL:OkIss L):Good Tryd.prog 18 [.fz 1 (L.map ints)] (.tup [.fz 1 (morV L),I (ordE L)]):=by
 have hc:=rcheck_w2 L hL
 by_cases h0:ordE L=0
 case neg =>
  rw [show morV L=[] by unfold morV;rw [if_neg h0]]
  refine good_of Tryd.func18 rfl (by kernel_rfl) fun X hO hrd=>?_;rw [Tryd.ntmps18,Tryd.results18];simp only [ast0,List.map_cons,List.map_nil,List.length_cons,List.length_nil,Nat.reduceAdd,Nat.reduceSub,List.replicate_succ,List.replicate_zero,List.cons_append,List.nil_append]
  repeat (with_reducible first|refine W_seq fun K hK=>?_|refine J_region ?_ |(refine Kont.go (by assumption) ?_)|(simp (config:={ maxSteps:=3000000 }) (disch:=omega) only [go_sem]))
  (first|refine call_f (hc) rfl ?_|refine callQ_f (hc) rfl ?_|refine callHK_f (hc) rfl ?_|refine callH_f (hc) rfl ?_)
  repeat (with_reducible first|refine W_seq fun K hK=>?_|refine J_ret ?_|refine J_region ?_ |refine J_c ?_|refine Jc_true ?_|(refine Kont.go (by assumption) ?_)|(simp (config:={ maxSteps:=3000000 }) (disch:=omega) only [go_sem,h0]))
  exact ⟨_,rfl,FrzL.cons (.nil _) (FrzL.cons (.f _) (FrzL.nil _))⟩
 obtain ⟨hb,o,ho⟩:=ord_ok h0
 have hg:=GP.of hb
 rw [h0] at hc ⊢
 rw [show morV L=gvs (mrL (setsOf L) L.length L.length 0) by unfold morV;rw [if_pos h0]]
 rw [gvs_of hb] at hc ⊢
 obtain ⟨n,hn⟩:∃n,n=L.length:=⟨_,rfl⟩
 obtain ⟨P,hP⟩:∃P,P=setsOf L:=⟨_,rfl⟩
 rw [←hn] at hg
 rw [←hP] at hg hc
 rw [←hn,←hP]
 have hl:=hg.len
 have hn8:=hg.n8
 have hgl:(gvs P).length=n:=by rw [gvs_len,hl]
 obtain ⟨rw_,hrw⟩:∃f:Nat→List FV,f=fun v=>Ns (flt (mrB P n 0 v) n):=⟨_,rfl⟩
 have hz:∀m,List.replicate m (AV.f nilV)=(fillL m 0 (fun v=>rwV (rw_ v)) nilV).map .f:=fun m=>by rw [fill_zero,List.map_replicate]
 refine good_of Tryd.func18 rfl (by kernel_rfl) fun X hO hrd=>?_;rw [Tryd.ntmps18,Tryd.results18];simp only [ast0,List.map_cons,List.map_nil,List.length_cons,List.length_nil,Nat.reduceAdd,Nat.reduceSub,List.replicate_succ,List.replicate_zero,List.cons_append,List.nil_append]
 repeat (with_reducible first|refine W_seq fun K hK=>?_|refine J_region ?_ |(refine Kont.go (by assumption) ?_)|(simp (config:={ maxSteps:=3000000 }) (disch:=omega) only [go_sem]))
 (first|refine call_f (hc) rfl ?_|refine callQ_f (hc) rfl ?_|refine callHK_f (hc) rfl ?_|refine callH_f (hc) rfl ?_)
 repeat (first|(with_reducible first|refine W_seq fun K hK=>?_|refine J_block ?_|refine J_skip ?_|refine J_region ?_ |refine J_c ?_|refine Jc_false ?_|(refine Kont.go (by assumption) ?_)|(simp (config:={ maxSteps:=3000000 }) (disch:=omega) only [go_sem,hgl,hz]))|refine And.intro (by omega) ?_)
 refine W_loop [6,7,8,9,10,11,12,13,22,23,24,25,26,27,28,29,30,31,32,33,34,35,36,37,38,39,40,41,42,43,44,45,46,47,48,49,50,51,52,53,54,55,56,57,58,59,60,61,62,63,64,65,66,67,68,69,70,71,72,73,74,75,76,77,78,79,80,81,82,83,84,85,86,87,88,89,90] (fun x:Nat=>[(6,.f (I x))]) (fun x:Nat=>[some ⟨23,1,(fillL n x (fun v=>rwV (rw_ v)) nilV).map .f⟩]) (fun x:Nat=>x≤n) (fun x:Nat=>n-x) (0) (Nat.zero_le _) (by refine weak_of ?_ ?_<;>simp (disch:=omega) only [go_sem]<;>first|rfl|exact ⟨rfl,rfl⟩|exact Or.inl rfl|exact ⟨Or.inl rfl,Or.inl rfl⟩|trivial|assumption|omega|(symm;assumption)|((repeat' apply And.intro)<;>first|rfl|omega|trivial|exact .inr ⟨rfl,rfl⟩|exact .inr rfl|(right;symm;assumption)|(symm;assumption)|assumption)) ?_
 rintro v hv
 simp only [go_sem]
 repeat (with_reducible first|refine W_seq fun K hK=>?_|refine J_region ?_ |refine J_c ?_|(refine Kont.go (by assumption) ?_)|(simp (config:={ maxSteps:=3000000 }) (disch:=omega) only [go_sem,hgl]))
 refine Jc_if (fun hvn=>?_) (fun hvn=>?_)<;>try simp only [decide_eq_true_eq,decide_eq_false_iff_not] at hvn
 ·repeat (with_reducible first|refine W_seq fun K hK=>?_|refine J_block ?_|refine J_skip ?_|refine J_region ?_ |(refine Kont.go (by assumption) ?_)|(simp (config:={ maxSteps:=3000000 }) (disch:=omega) only [go_sem]))
  refine J_reserve ?_
  have gself:∀y,(((fillL n v (fun v=>rwV (rw_ v)) nilV).map AV.f).set v y)[v]?=some y:=fun y=>List.getElem?_set_self (by simp [fill_len,hvn])
  have hlen:∀y,(((fillL n v (fun v=>rwV (rw_ v)) nilV).map AV.f).set v y).length=n:=fun y=>by simp [fill_len]
  have h00:(fillL n v (fun v=>rwV (rw_ v)) nilV).map AV.f=((fillL n v (fun v=>rwV (rw_ v)) nilV).map AV.f).set v (sl 1 1 (Ns (flt (mrB P n 0 v) 0))):=by
   apply List.ext_getElem?
   intro j
   by_cases e:j=v
   ·subst e;rw [gself,fillA_get hvn,if_neg (by omega)];rfl
   ·rw [List.getElem?_set_ne (Ne.symm e)]
  rw [h00]
  refine W_loop [7,8,9,10,11,12,13,28,29,30,31,32,33,34,35,36,37,38,39,40,41,42,43,44,45,46,47,48,49,50,51,52,53,54,55,56,57,58,59,60,61,62,63,64,65,66,67,68,69,70,71,72,73,74,75,76,77,78,79,80,81,82,83,84,85,86,87,88,89,90] (fun x:Nat=>[(7,.f (I x))]) (fun x:Nat=>[some ⟨23,1,((fillL n v (fun v=>rwV (rw_ v)) nilV).map AV.f).set v (sl 1 1 (Ns (flt (mrB P n 0 v) x)))⟩,ob 3 1 (Ns (flt (mrB P n 0 v) x))]) (fun x:Nat=>x≤n) (fun x:Nat=>n-x) (0) (Nat.zero_le _) (by refine weak_of ?_ ?_<;>simp (disch:=omega) only [go_sem,Nat.reduceAdd]<;>first|rfl|exact ⟨rfl,rfl⟩|exact Or.inl rfl|exact ⟨Or.inl rfl,Or.inl rfl⟩|trivial|assumption|omega|(symm;assumption)|((repeat' apply And.intro)<;>first|rfl|omega|trivial|exact .inr ⟨rfl,rfl⟩|exact .inr rfl|(right;symm;assumption)|(symm;assumption)|assumption)) ?_
  rintro u hu
  simp only [go_sem]
  repeat (with_reducible first|refine W_seq fun K hK=>?_|refine J_region ?_ |refine J_c ?_|(refine Kont.go (by assumption) ?_)|(simp (config:={ maxSteps:=3000000 }) (disch:=omega) only [go_sem,hgl]))
  refine Jc_if (fun hun=>?_) (fun hun=>?_)<;>try simp only [decide_eq_true_eq,decide_eq_false_iff_not] at hun
  ·have gv:=gvs_get (P:=P) (v:=v) (by omega)
   have gu:=gvs_get (P:=P) (v:=u) (by omega)
   have i1:=rinN_w u (els (P.getD v 0)) (by omega) (by have:=els_len (s:=P.getD v 0);omega)
   have i2:=rinN_w v (els (P.getD u 0)) (by omega) (by have:=els_len (s:=P.getD u 0);omega)
   rw [mem_els hg] at i1 i2
   repeat (with_reducible first|refine W_seq fun K hK=>?_|refine J_block ?_|refine J_skip ?_|refine J_region ?_ |(refine Kont.go (by assumption) ?_)|(simp (config:={ maxSteps:=3000000 }) (disch:=omega) only [go_sem,↓reduceIte,gv]))
   (first|refine call_f (i1) rfl ?_|refine callQ_f (i1) rfl ?_|refine callHK_f (i1) rfl ?_|refine callH_f (i1) rfl ?_)
   repeat (with_reducible first|refine W_seq fun K hK=>?_|refine J_region ?_ |(refine Kont.go (by assumption) ?_)|(simp (config:={ maxSteps:=3000000 }) (disch:=omega) only [go_sem,↓reduceIte,gu]))
   (first|refine call_f (i2) rfl ?_|refine callQ_f (i2) rfl ?_|refine callHK_f (i2) rfl ?_|refine callH_f (i2) rfl ?_)
   have hn0:nrI P u v 0=(paO P u v||paO P v u):=by simp [nrI]
   cases h1:paO P u v
   all_goals
    rw [h1] at hn0
    try rw [Bool.false_or] at hn0
    try rw [Bool.true_or] at hn0
    have hn1:=congrArg Value.bool hn0
    repeat (with_reducible first|refine W_seq fun K hK=>?_|refine J_block ?_|refine J_region ?_ |(refine Kont.go (by assumption) ?_)|(simp (config:={ maxSteps:=3000000 }) (disch:=omega) only [go_sem]))
    refine W_loop [10,11,12,13,50,51,52,53,54,55,56,57,58,59,60,61,62,63,64,65,66,67,68,69,70,71,72,73,74] (fun x:Nat=>[(10,.f (Bo (nrI P u v x))),(11,.f (I x))]) (fun x:Nat=>[some ⟨23,1,((fillL n v (fun v=>rwV (rw_ v)) nilV).map AV.f).set v (sl 1 1 (Ns (flt (mrB P n 0 v) u)))⟩,ob 3 1 (Ns (flt (mrB P n 0 v) u))]) (fun x:Nat=>x≤n) (fun x:Nat=>n-x) (0) (Nat.zero_le _) (by refine weak_of ?_ ?_<;>simp (disch:=omega) only [go_sem,Nat.reduceAdd]<;>first|rfl|exact ⟨rfl,rfl⟩|exact Or.inl rfl|exact ⟨Or.inl rfl,Or.inl rfl⟩|trivial|assumption|omega|(symm;assumption)|((repeat' apply And.intro)<;>first|rfl|omega|trivial|exact .inr ⟨rfl,rfl⟩|exact .inr rfl|(right;symm;assumption)|(symm;assumption)|assumption)) ?_
    rintro x hx
    simp only [go_sem]
    repeat (with_reducible first|refine W_seq fun K hK=>?_|refine J_region ?_ |refine J_c ?_|(refine Kont.go (by assumption) ?_)|(simp (config:={ maxSteps:=3000000 }) (disch:=omega) only [go_sem,hgl]))
    refine Jc_if (fun hxn=>?_) (fun hxn=>?_)<;>try simp only [decide_eq_true_eq,decide_eq_false_iff_not] at hxn
    ·have gx:=gvs_get (P:=P) (v:=x) (by omega)
     have j1:=rinN_w u (els (P.getD x 0)) (by omega) (by have:=els_len (s:=P.getD x 0);omega)
     have j2:=rinN_w v (els (P.getD x 0)) (by omega) (by have:=els_len (s:=P.getD x 0);omega)
     rw [mem_els hg] at j1 j2
     have hnx:=nrI_next (P:=P) (u:=u) (v:=v) (x:=x)
     repeat (with_reducible first|refine W_seq fun K hK=>?_|refine J_block ?_|refine J_skip ?_|refine J_region ?_ |(refine Kont.go (by assumption) ?_)|(simp (config:={ maxSteps:=3000000 }) (disch:=omega) only [go_sem,↓reduceIte,gx]))
     (first|refine call_f (j1) rfl ?_|refine callQ_f (j1) rfl ?_|refine callHK_f (j1) rfl ?_|refine callH_f (j1) rfl ?_)
     repeat (with_reducible first|refine W_seq fun K hK=>?_|refine J_region ?_ |(refine Kont.go (by assumption) ?_)|(simp (config:={ maxSteps:=3000000 }) (disch:=omega) only [go_sem,↓reduceIte,gx]))
     (first|refine call_f (j2) rfl ?_|refine callQ_f (j2) rfl ?_|refine callHK_f (j2) rfl ?_|refine callH_f (j2) rfl ?_)
     cases h3:nrI P u v x
     ·cases h4:paO P u x
      ·rw [h3,h4] at hnx
       repeat (with_reducible first|refine J_region ?_ |(refine Kont.go (by assumption) ?_)|(simp (config:={ maxSteps:=3000000 }) (disch:=omega) only [go_sem]))
       refine ⟨x+1,by omega,by omega,weak_of ?_ ?_⟩<;>(try simp (disch:=omega) only [go_sem,Nat.reduceAdd,←hnx,Bool.false_and,Bool.or_false])<;>(try first|done|omega|rfl|exact ⟨rfl,rfl⟩|trivial)
      ·rw [h3,h4] at hnx
       repeat (with_reducible first|refine J_region ?_ |(refine Kont.go (by assumption) ?_)|(simp (config:={ maxSteps:=3000000 }) (disch:=omega) only [go_sem]))
       refine ⟨x+1,by omega,by omega,weak_of ?_ ?_⟩<;>(try simp (disch:=omega) only [go_sem,Nat.reduceAdd,←hnx,Bool.true_and,Bool.false_or])<;>(try first|done|omega|rfl|exact ⟨rfl,rfl⟩|trivial)
     ·rw [h3] at hnx
      repeat (with_reducible first|refine J_region ?_ |(refine Kont.go (by assumption) ?_)|(simp (config:={ maxSteps:=3000000 }) (disch:=omega) only [go_sem]))
      refine ⟨x+1,by omega,by omega,weak_of ?_ ?_⟩<;>(try simp (disch:=omega) only [go_sem,Nat.reduceAdd,←hnx,Bool.true_or])<;>(try first|done|omega|rfl|exact ⟨rfl,rfl⟩|trivial)
    ·have he:x=n:=by omega
     subst he
     have hmr:=mr_iff hg hvn hun
     rw [show ((paO P u v||paO P v u)||(List.range x).any fun w=>paO P u w&&paO P v w)=nrI P u v x from rfl] at hmr
     cases h3:nrI P u v x
     ·rw [h3,Bool.false_and] at hmr
      have hfl:=flt_f hmr
      repeat (with_reducible first|refine W_seq fun K hK=>?_|refine J_skip ?_|refine J_exit ?_|refine J_region ?_ |refine J_c ?_|refine Jc_false ?_|(refine Kont.go (by assumption) ?_)|(simp (config:={ maxSteps:=3000000 }) (disch:=omega) only [go_sem,↓reduceIte]))
      refine ⟨u+1,by omega,by omega,weak_of ?_ ?_⟩<;>(try simp (disch:=omega) only [go_sem,Nat.reduceAdd,hfl])<;>(try first|done|omega|rfl|exact ⟨rfl,rfl⟩|trivial)
     ·rw [h3,Bool.true_and] at hmr
      by_cases e:u=v
      ·rw [decide_eq_false (by simp [e])] at hmr
       have hfl:=flt_f hmr
       have e':(u:Int)=(v:Int):=by rw [e]
       repeat (with_reducible first|refine W_seq fun K hK=>?_|refine J_skip ?_|refine J_exit ?_|refine J_region ?_ |refine J_c ?_|refine Jc_false ?_|(refine Kont.go (by assumption) ?_)|(simp (config:={ maxSteps:=3000000 }) (disch:=omega) only [go_sem,↓reduceIte,e']))
       refine ⟨u+1,by omega,by omega,weak_of ?_ ?_⟩<;>(try simp (disch:=omega) only [go_sem,Nat.reduceAdd,hfl])<;>(try first|done|omega|rfl|exact ⟨rfl,rfl⟩|trivial)
      ·rw [decide_eq_true e] at hmr
       have hfl:=flt_t hmr
       have e':¬(u:Int)=(v:Int):=by omega
       have hfn:(Ns (flt (mrB P x 0 v) u)).length≤u:=by rw [Ns_len];exact flt_len
       have hap:((Ns (flt (mrB P x 0 v) u)).length+1)*8≤140737488355328:=by omega
       repeat (first|(with_reducible first|refine W_seq fun K hK=>?_|refine J_exit ?_|refine J_region ?_ |refine aApp_sl ?_|refine J_c ?_|refine Jc_true ?_|(refine Kont.go (by assumption) ?_)|(simp (config:={ maxSteps:=3000000 }) (disch:=omega) only [go_sem,Nat.reduceEqDiff,↓reduceIte,Nat.reduceAdd,Nat.reduceLeDiff,e',gself,hap,Ns_snoc,List.set_set,Nat.reduceMul,Nat.le_refl,true_and,and_self]))|refine And.intro (by omega) ?_)
       refine ⟨u+1,by omega,by omega,weak_of ?_ ?_⟩<;>(try simp (disch:=omega) only [go_sem,Nat.reduceAdd,hfl])<;>(try first|done|omega|rfl|exact ⟨rfl,rfl⟩|trivial)
  ·have he:u=n:=by omega
   subst he
   have hrow:rw_ v=Ns (flt (mrB P u 0 v) u):=by rw [hrw]
   have hfs:=fillA_set (n:=u) (k:=v) (f:=fun v=>rwV (rw_ v)) (z:=nilV) (x:=rwV (Ns (flt (mrB P u 0 v) u))) hvn (by rw [←hrow])
   by_cases e:Ns (flt (mrB P u 0 v) u)=[]
   ·have e2:rwV (Ns (flt (mrB P u 0 v) u))=nilV:=by unfold rwV;rw [if_pos e]
    rw [e2] at hfs
    rw [e]
    have e3:sl 1 1 []=AV.f nilV:=rfl
    rw [e3,hfs]
    repeat (with_reducible first|refine J_exit ?_|refine J_region ?_ |(refine Kont.go (by assumption) ?_)|(simp (config:={ maxSteps:=3000000 }) (disch:=omega) only [go_sem,↓reduceIte]))
    refine ⟨v+1,by omega,by omega,weak_of ?_ ?_⟩<;>(try simp (disch:=omega) only [go_sem])<;>(try first|done|omega|rfl|exact ⟨rfl,rfl⟩|trivial)
   ·have e2:rwV (Ns (flt (mrB P u 0 v) u))=.fz 1 (Ns (flt (mrB P u 0 v) u)):=by unfold rwV;rw [if_neg e]
    rw [e2] at hfs
    refine J_exit ?_
    repeat (with_reducible first|(refine Kont.go (by assumption) ?_)|(simp (config:={ maxSteps:=3000000 }) (disch:=omega) only [go_sem,↓reduceIte]))
    refine J_freezeB (r:=1) rfl e ?_
    have hfz:=fzr_sl_self (r:=1) (sz:=1) e
    repeat (with_reducible first|refine J_region ?_ |(simp (config:={ maxSteps:=3000000 }) (disch:=omega) only [go_sem,Nat.reduceEqDiff,↓reduceIte,hfz,hfs]))
    refine ⟨v+1,by omega,by omega,weak_of ?_ ?_⟩<;>(try simp (disch:=omega) only [go_sem])<;>(try first|done|omega|rfl|exact ⟨rfl,rfl⟩|trivial)
 ·have he:v=n:=by omega
  subst he
  repeat (with_reducible first|refine W_seq fun K hK=>?_|refine J_exit ?_|refine J_ret ?_|refine J_region ?_ |(refine Kont.go (by assumption) ?_)|(simp (config:={ maxSteps:=3000000 }) (disch:=omega) only [go_sem,↓reduceIte]))
  refine ⟨_,rfl,FrzL.cons ?_ (FrzL.cons (.f _) (FrzL.nil _))⟩
  have hgm:(gvs (mrL P v v 0)).length=v:=by rw [gvs_len,mrL_len]
  refine Frz.own 0 1 0 v _ (gvs (mrL P v v 0)) rfl rfl (by show 0+v≤((fillL v v (fun v=>rwV (rw_ v)) nilV).map AV.f).length;rw [List.length_map,fill_len];omega) hgm fun j e d he hd=>?_
  have hjk:j<v:=by have:=glt hd;omega
  rw [Nat.zero_add] at he
  replace he:((fillL v v (fun v=>rwV (rw_ v)) nilV).map AV.f)[j]?=some e:=he
  rw [fillA_get hjk,if_pos hjk] at he
  rw [gvs_get (by rw [mrL_len];exact hjk),mrL_get hjk] at hd
  cases he;cases hd
  have:els (mrS P v v 0 j)=flt (mrB P v 0 j) v:=els_flt hn8
  rw [this,hrw]
  exact Frz.rwV
end Go.Proofs.YtgjnbcfencallaaDoor
