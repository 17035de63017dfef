/- Are lists of nodes in order, none in two of them: walked, the program's way and the document's. Conditions: what slices may hold. -/
import Derived.Test.YtgjnbcfencallaaDoorZB11
import Derived.Test.YtgjnbcfencallaaDoorZB12
set_option linter.unusedVariables false
set_option linter.unusedSimpArgs false
namespace Go.Proofs.YtgjnbcfencallaaDoor
open Go Go.RowKit
theorem compact_full {zs:List Int} (hs:zs.Pairwise (·≤ ·)):(Lib.compact zs).length=zs.length↔zs.Nodup:=by
 have hg:∀j (hj:j<zs.length),zs.toArray[j]! = zs[j]:=fun j hj=>by simp [hj]
 have hle:=List.pairwise_iff_getElem.1 hs
 have h1:(Lib.compact zs).length=zs.length↔∀j,j<zs.length→Lib.keeps zs.toArray j=true:=by
  unfold Lib.compact Lib.compactUpTo
  rw [List.length_map]
  constructor
  ·intro h j hj
   have h2:((List.range zs.length).filter (Lib.keeps zs.toArray)).length=(List.range zs.length).length:=by rw [h,List.length_range]
   exact List.length_filter_eq_length_iff.1 h2 j (List.mem_range.2 hj)
  ·intro h
   have h2:=List.length_filter_eq_length_iff.2 (fun a (ha:a∈List.range zs.length)=>h a (List.mem_range.1 ha))
   rw [h2,List.length_range]
 rw [h1]
 constructor
 ·intro h
  have hlt:∀i j (hi:i<zs.length) (hj:j<zs.length),i<j→zs[i]<zs[j]:=by
   intro i j
   induction j with
   | zero=>intro _ _ h;omega
   | succ j ih =>
    intro hi hj hij
    have hk:=of_decide_eq_true (h (j+1) hj)
    have hne:zs[j+1]≠zs[j]:=by
     rcases hk with hk|hk
     ·omega
     ·rwa [hg _ hj,show j+1-1=j by omega,hg j (by omega)] at hk
    have h2:=hle j (j+1) (by omega) hj (by omega)
    by_cases e:i=j
    ·subst e;omega
    ·have:=ih hi (by omega) (by omega);omega
  exact List.pairwise_iff_getElem.2 fun i j hi hj hij e=>by have:=hlt i j hi hj hij;omega
 ·intro h j hj
  refine decide_eq_true ?_
  by_cases e:j=0
  ·exact .inl e
  ·refine .inr ?_
   rw [hg j hj,hg (j-1) (by omega)]
   exact fun h2=>List.pairwise_iff_getElem.1 h (j-1) j (by omega) hj (by omega) h2.symm
def srtI (l:List Int):List Int:=l.mergeSort fun x y=>decide (x≤y)
theorem srtI_len {l:List Int}:(srtI l).length=l.length:=List.length_mergeSort l
theorem srtI_le (l:List Int):(srtI l).Pairwise (·≤ ·):=by
 have:=List.pairwise_mergeSort (le:=fun x y:Int=>decide (x≤y)) (fun a b c h1 h2=>by simp only [decide_eq_true_eq] at *;omega) (fun a b=>by simp only [Bool.or_eq_true,decide_eq_true_eq];omega) l
 exact this.imp fun h=>of_decide_eq_true h
theorem srtI_nodup (l:List Int):(srtI l).Nodup↔l.Nodup:=(List.mergeSort_perm l _).nodup_iff
def setsE (L LL:List (List Int)):Int:=if ordE L≠0 then ordE L else if apOk L.length LL=true then 0 else 11
theorem aApp_slz {s:AS} {e:TypeId} {T:TI} {r sz:Nat} {l es:List FV} {k:AV→AS→Prop} (h:sz=T.size∧s.H[r]?=some (ob e sz l)∧0<es.length∧(match T.zero with|some z=>z.cells.length=T.size|none=>False)∧0<T.size∧0<T.bytes∧(l.length+es.length)*T.bytes≤140737488355328 ∧
  k (sl r sz (l++es)) ⟨s.t.map (AV.kill r),(s.H.map (killO r)).set r (ob e sz (l++es))⟩):aApp e T s (sl r sz l) (.f (.fz sz es)) k:=by
 obtain ⟨h1,h2,h3,h4,h5,h6,h7,h8⟩:=h
 refine aApp_sl ⟨h1,h2,?_⟩
 exact ⟨rfl,es,rfl,h3,h4,h5,h6,h7,h8⟩
theorem ris_len8 {n:Nat} {l:List Int} (hn:n≤8) (h:risB n l=true):l.length≤8:=by
 have e:=congrArg List.length (ris_els hn h)
 rw [List.length_map,Ns_len] at e
 rw [e];exact els_len
set_option maxRecDepth 100000 in
set_option maxHeartbeats 8000000 in
theorem sets_w (L LL:List (List Int)) (hL:OkIss L) (hLl:LL.length≤4) (hLL:∀l∈LL,OkNs l):Good Tryd.prog 56 [.fz 1 (L.map ints),.fz 1 (LL.map ints)] (I (setsE L LL)):=by
 have hc:=check_w2 L hL
 by_cases h0:ordE L=0
 case neg =>
  rw [show setsE L LL=ordE L by unfold setsE;rw [if_pos h0]]
  refine good_of Tryd.func56 rfl (by kernel_rfl) fun X hO hrd=>?_;rw [Tryd.ntmps56,Tryd.results56];simp only [ast0,List.map_cons,List.map_nil,List.length_cons,List.length_nil,Nat.reduceAdd,Nat.reduceSub,List.replicate_succ,List.replicate_zero,List.cons_append,List.nil_append]
  (repeat (with_reducible first|refine W_seq fun K hK=>?_|refine J_region ?_ |(refine Kont.go (by assumption) ?_)|(simp (config:={ maxSteps:=3000000 }) (disch:=omega) only [go_sem])))
  (first|refine call_f (hc) rfl ?_|refine callQ_f (hc) rfl ?_|refine callHK_f (hc) rfl ?_|refine callH_f (hc) rfl ?_)
  (repeat (with_reducible first|refine W_seq fun K hK=>?_|refine J_ret ?_|refine J_region ?_ |refine J_c ?_|refine Jc_true ?_|exact Frz.f _|(refine Kont.go (by assumption) ?_)|(simp (config:={ maxSteps:=3000000 }) (disch:=omega) only [go_sem,h0])))
 obtain ⟨hb,_⟩:=ord_ok h0
 have hn8:=(GP.of hb).n8
 rw [h0] at hc
 obtain ⟨b,hbe⟩:∃b,b=setsE L LL:=⟨_,rfl⟩
 rw [←hbe]
 have bad:(∃i,i<LL.length∧risB L.length (LL.getD i [])=false)→b=11:=by
  rintro ⟨i,hi,h⟩
  rw [hbe];unfold setsE
  rw [if_neg (by rw [h0];decide),if_neg]
  unfold apOk
  rw [Bool.and_eq_true,List.all_eq_true]
  intro hh
  have:=hh.1 _ (List.getElem_mem hi)
  rw [←lget_lt LL [] hi,h] at this;cases this
 have hfl:∀i,i<LL.length→(LL.take (i+1)).flatten=(LL.take i).flatten++LL.getD i []:=fun i hi=>by
  rw [List.take_add_one,List.getElem?_eq_getElem hi,List.flatten_append,lget_lt LL [] hi];simp
 refine good_of Tryd.func56 rfl (by kernel_rfl) fun X hO hrd=>?_;rw [Tryd.ntmps56,Tryd.results56];simp only [ast0,List.map_cons,List.map_nil,List.length_cons,List.length_nil,Nat.reduceAdd,Nat.reduceSub,List.replicate_succ,List.replicate_zero,List.cons_append,List.nil_append]
 (repeat (with_reducible first|refine W_seq fun K hK=>?_|refine J_region ?_ |(refine Kont.go (by assumption) ?_)|(simp (config:={ maxSteps:=3000000 }) (disch:=omega) only [go_sem])))
 (first|refine call_f (hc) rfl ?_|refine callQ_f (hc) rfl ?_|refine callHK_f (hc) rfl ?_|refine callH_f (hc) rfl ?_)
 (repeat (with_reducible first|refine W_seq fun K hK=>?_|refine J_skip ?_|((fail_if_success refine J_region (id:=5) ?_);refine J_region ?_) |refine J_c ?_|refine Jc_false ?_|(refine Kont.go (by assumption) ?_)|(simp (config:={ maxSteps:=3000000 }) (disch:=omega) only [go_sem])))
 refine J_reserve ?_
 have h00:AV.f (.v (.slice none 0 0))=sl 0 1 ((LL.take 0).flatten.map I):=rfl
 (repeat (with_reducible first|refine J_block ?_|refine J_region ?_ |(refine Kont.go (by assumption) ?_)|(simp (config:={ maxSteps:=3000000 }) (disch:=omega) only [go_sem,List.length_map])))
 refine W_loop [4,6,8,9,10,18,19,20,21,22,23,24,25,26,27,28,29,30,31,32,33,34] (fun i:Nat=>[(6,sl 0 1 ((LL.take i).flatten.map I)),(18,.f (I i)),(4,.f (I 0))]) (fun i:Nat=>[ob 3 1 ((LL.take i).flatten.map I)]) (fun i:Nat=>i≤LL.length∧(∀j,j<i→risB L.length (LL.getD j [])=true)∧(LL.take i).flatten.length≤8*i) (fun i:Nat=>LL.length-i) (0) (⟨Nat.zero_le _,fun j h=>by omega,by simp⟩) (by refine weak_of ?_ ?_<;>simp (disch:=omega) only [go_sem]<;>first|rfl|exact ⟨rfl,rfl⟩|exact Or.inl rfl|exact ⟨Or.inl rfl,Or.inl rfl⟩|trivial|assumption|omega|(symm;assumption)|((repeat' apply And.intro)<;>first|rfl|omega|trivial|exact .inl rfl|exact .inr ⟨rfl,rfl⟩|exact .inr rfl|(right;symm;assumption)|(symm;assumption)|assumption)) ?_
 rintro i ⟨hi,hr,hlen⟩
 simp only [go_sem]
 (repeat (with_reducible first|refine W_seq fun K hK=>?_|refine J_region ?_ |refine J_c ?_|(refine Kont.go (by assumption) ?_)|(simp (config:={ maxSteps:=3000000 }) (disch:=omega) only [go_sem])))
 refine Jc_if (fun hil=>?_) (fun hil=>?_)<;>try simp only [decide_eq_true_eq,decide_eq_false_iff_not] at hil
 ·have gi:=map_get ints LL hil
  have g3:LL.getD i []=LL[i]:=lget_lt LL [] hil
  obtain ⟨l,hl⟩:∃l,l=LL[i]:=⟨_,rfl⟩
  have hli:OkNs l:=hLL l (by rw [hl];exact List.getElem_mem _)
  rw [←hl] at gi g3
  have ha:=Above_w L hL l hli
  have hfi:=hfl i hil
  rw [g3] at hfi
  have hae:abvE L l=if risB L.length l=true then 0 else 11:=by unfold abvE;rw [if_neg (by rw [h0];decide)]
  rw [hae] at ha
  (repeat (with_reducible first|refine W_seq fun K hK=>?_|refine J_block ?_|refine J_skip ?_|refine J_region ?_ |(refine Kont.go (by assumption) ?_)|(simp (config:={ maxSteps:=3000000 }) (disch:=omega) only [go_sem,↓reduceIte,gi])))
  (first|refine call_f (ha) rfl ?_|refine callQ_f (ha) rfl ?_|refine callHK_f (ha) rfl ?_|refine callH_f (ha) rfl ?_)
  cases hrb:risB L.length l with
  | false =>
   have hb11:=bad ⟨i,hil,by rw [g3];exact hrb⟩
   (repeat (with_reducible first|refine W_seq fun K hK=>?_|refine J_ret ?_|refine J_region ?_ |refine J_c ?_|refine Jc_true ?_|(refine Kont.go (by assumption) ?_)|(simp (config:={ maxSteps:=3000000 }) (disch:=omega) only [go_sem,↓reduceIte,Int.reduceEq])))
   rw [hb11];exact Frz.f _
  | true =>
   have hl8:=ris_len8 hn8 hrb
   obtain ⟨F,hF⟩:∃F,F=(LL.take i).flatten:=⟨_,rfl⟩
   rw [←hF] at hlen hfi ⊢
   have hrn:=upto_next (p:=fun j=>risB L.length (LL.getD j [])=true) hr (by rw [g3];exact hrb)
   have hln:(LL.take (i+1)).flatten.length≤8*(i+1):=by rw [hfi,List.length_append];omega
   by_cases hle:l=[]
   ·subst hle
    rw [List.append_nil] at hfi
    by_cases hF0:F=[]
    ·have e1:sl 0 1 (F.map I)=.f (.v (.slice none 0 0)):=by rw [hF0];rfl
     have e2:ob 3 1 (F.map I)=none:=by rw [hF0];rfl
     have e3:sl 0 1 ((LL.take (i+1)).flatten.map I)=.f (.v (.slice none 0 0)):=by rw [hfi,hF0];rfl
     have e4:ob 3 1 ((LL.take (i+1)).flatten.map I)=none:=by rw [hfi,hF0];rfl
     rw [e1,e2]
     (repeat (with_reducible first|refine W_seq fun K hK=>?_|refine J_skip ?_|refine J_region ?_ |refine J_c ?_|refine Jc_false ?_|(refine Kont.go (by assumption) ?_)|(simp (config:={ maxSteps:=3000000 }) (disch:=omega) only [go_sem,↓reduceIte])))
     refine aApp_nothing ⟨⟨rfl,rfl⟩,rfl,?_⟩
     (repeat (with_reducible first|refine J_region ?_ |(refine Kont.go (by assumption) ?_)|(simp (config:={ maxSteps:=3000000 }) (disch:=omega) only [go_sem])))
     refine ⟨i+1,⟨by omega,hrn,hln⟩,by omega,weak_of ?_ ?_⟩<;>(try simp (disch:=omega) only [go_sem,e3,e4])<;>(try first|done|omega|rfl|exact ⟨rfl,rfl⟩|trivial)
    ·have hne:F.map I≠[]:=fun h=>hF0 (List.map_eq_nil_iff.1 h)
     have e1:sl 0 1 (F.map I)=.own 0 1 0 F.length:=by rw [sl_pos hne,List.length_map]
     have e2:ob 3 1 (F.map I)=some ⟨3,1,(F.map I).map .f⟩:=ob_pos hne
     have e3:sl 0 1 ((LL.take (i+1)).flatten.map I)=.own 0 1 0 F.length:=by rw [hfi];exact e1
     have e4:ob 3 1 ((LL.take (i+1)).flatten.map I)=some ⟨3,1,(F.map I).map .f⟩:=by rw [hfi];exact e2
     have htk:((F.map I).map AV.f).take F.length=(F.map I).map .f:=List.take_of_length_le (by simp)
     have hal:F.length*8≤140737488355328:=by omega
     rw [e1,e2]
     (repeat (first|(with_reducible first|refine W_seq fun K hK=>?_|refine J_skip ?_|refine J_region ?_ |refine aApp_old ?_|refine J_c ?_|refine Jc_false ?_|(refine Kont.go (by assumption) ?_)|(simp (config:={ maxSteps:=3000000 }) (disch:=omega) only [go_sem,↓reduceIte,List.length_map,htk,hal,List.map_nil,List.length_nil,Nat.add_zero,List.append_nil]))|refine And.intro (by omega) ?_))
     refine ⟨i+1,⟨by omega,hrn,hln⟩,by omega,weak_ren [1] ⟨by decide,by first|decide|(simp;done)⟩ ?_ ?_⟩<;>(try simp (disch:=omega) only [go_sem,e3,e4])<;>(try first|done|omega|rfl|exact ⟨rfl,rfl⟩|trivial)
   ·have hlp:0<(l.map I).length:=by rw [List.length_map];exact List.length_pos_iff.2 hle
    have hap:(F.map I)++(l.map I)=(LL.take (i+1)).flatten.map I:=by rw [hfi,List.map_append]
    have hal:((F.map I).length+(l.map I).length)*8≤140737488355328:=by rw [List.length_map,List.length_map];omega
    (repeat (with_reducible first|refine W_seq fun K hK=>?_|refine J_skip ?_|refine J_region ?_ |refine J_c ?_|refine Jc_false ?_|(refine Kont.go (by assumption) ?_)|(simp (config:={ maxSteps:=3000000 }) (disch:=omega) only [go_sem,↓reduceIte])))
    refine aApp_slz ⟨rfl,rfl,hlp,rfl,by decide,by decide,hal,?_⟩
    rw [hap]
    (repeat (with_reducible first|refine J_region ?_ |(refine Kont.go (by assumption) ?_)|(simp (config:={ maxSteps:=3000000 }) (disch:=omega) only [go_sem])))
    refine ⟨i+1,⟨by omega,hrn,hln⟩,by omega,weak_of ?_ ?_⟩<;>(try simp (disch:=omega) only [go_sem])<;>(try first|done|omega|rfl|exact ⟨rfl,rfl⟩|trivial)
 ·have he:i=LL.length:=by omega
  rw [he] at hr hlen
  rw [List.take_length] at hlen
  have hai:LL.all (risB L.length)=true:=List.all_eq_true.2 fun l hl=>by
   obtain ⟨j,hj,e⟩:=List.getElem_of_mem hl
   have:=hr j hj
   rwa [lget_lt LL [] hj,e] at this
  obtain ⟨A,hA⟩:∃A,A=LL.flatten:=⟨_,rfl⟩
  have hbA:b=if A.Nodup then 0 else 11:=by
   rw [hbe];unfold setsE apOk
   rw [if_neg (by rw [h0];decide),hai,Bool.true_and,←hA]
   by_cases h:A.Nodup
   ·rw [decide_eq_true h,if_pos rfl,if_pos h]
   ·rw [decide_eq_false h,if_neg (by decide),if_neg h]
  rw [←hA] at hlen
  rw [he,List.take_length,←hA]
  by_cases hA0:A=[]
  ·have e1:sl 0 1 (A.map I)=.f (.v (.slice none 0 0)):=by rw [hA0];rfl
   have e2:ob 3 1 (A.map I)=none:=by rw [hA0];rfl
   have hb0:b=0:=by rw [hbA,hA0,if_pos List.nodup_nil]
   rw [e1,e2]
   (repeat (with_reducible first|refine W_seq fun K hK=>?_|refine J_exit ?_|refine J_region ?_ |(refine Kont.go (by assumption) ?_)|(simp (config:={ maxSteps:=3000000 }) (disch:=omega) only [go_sem,↓reduceIte])))
   (first|refine call_f (sort0_w) rfl ?_|refine callQ_f (sort0_w) rfl ?_|refine callHK_f (sort0_w) rfl ?_|refine callH_f (sort0_w) rfl ?_)
   (repeat (with_reducible first|refine W_seq fun K hK=>?_|refine J_region ?_ |(refine Kont.go (by assumption) ?_)|(simp (config:={ maxSteps:=3000000 }) (disch:=omega) only [go_sem])))
   (first|refine call_f (clone0_w) rfl ?_|refine callQ_f (clone0_w) rfl ?_|refine callHK_f (clone0_w) rfl ?_|refine callH_f (clone0_w) rfl ?_)
   (repeat (with_reducible first|(simp (config:={ maxSteps:=3000000 }) (disch:=omega) only [go_sem])))
   (first|refine call_f (compact0_w) rfl ?_|refine callQ_f (compact0_w) rfl ?_|refine callHK_f (compact0_w) rfl ?_|refine callH_f (compact0_w) rfl ?_)
   (repeat (with_reducible first|refine W_seq fun K hK=>?_|refine J_skip ?_|refine J_ret ?_|refine J_region ?_ |refine J_c ?_|refine Jc_false ?_|(refine Kont.go (by assumption) ?_)|(simp (config:={ maxSteps:=3000000 }) (disch:=omega) only [go_sem])))
   rw [hb0];exact Frz.f _
  ·have hne:A.map I≠[]:=fun h=>hA0 (List.map_eq_nil_iff.1 h)
   have e1:sl 0 1 (A.map I)=.own 0 1 0 A.length:=by rw [sl_pos hne,List.length_map]
   have e2:ob 3 1 (A.map I)=some ⟨3,1,(A.map I).map .f⟩:=ob_pos hne
   rw [e1,e2]
   have hs:=sort_u (H:=[some ⟨3,1,(A.map I).map AV.f⟩]) (q:=0) (zs:=A) rfl (by omega)
   have hsl:=srtI_len (l:=A)
   have hsn:=srtI_nodup A
   have hcf:=compact_full (srtI_le A)
   have hSd:A.mergeSort (fun x y=>decide (x≤y))=srtI A:=rfl
   rw [hSd] at hs
   obtain ⟨S,hS⟩:∃S,S=srtI A:=⟨_,rfl⟩
   rw [←hS] at hs hsl hsn hcf
   obtain ⟨z,S',rfl⟩:∃z S',S=z::S':=by
    cases S with
    | nil=>exact absurd (List.length_eq_zero_iff.1 (by rw [←hsl];rfl)) hA0
    | cons z S'=>exact ⟨z,S',rfl⟩
   have hcl:=cloneZ_w z S' (by simp only [List.length_cons] at hsl;omega)
   have hcp:=compact_u (H:=[some ⟨3,1,((z::S').map I).map AV.f⟩,some ⟨3,1,((z::S').map I).map AV.f⟩]) (q:=1) (zs:=z::S') rfl (by omega)
   obtain ⟨S,hS2⟩:∃S,S=z::S':=⟨_,rfl⟩
   rw [←hS2] at hs hsl hsn hcf hcl hcp
   obtain ⟨c,hc2⟩:∃c,c=(Lib.compact S).length:=⟨_,rfl⟩
   rw [←hc2] at hcf hcp
   (repeat (with_reducible first|refine W_seq fun K hK=>?_|refine J_exit ?_|refine J_region ?_ |(refine Kont.go (by assumption) ?_)|(simp (config:={ maxSteps:=3000000 }) (disch:=omega) only [go_sem,↓reduceIte])))
   refine call_u hs ?_
   (repeat (with_reducible first|refine W_seq fun K hK=>?_|refine J_region ?_ |(refine Kont.go (by assumption) ?_)|(simp (config:={ maxSteps:=3000000 }) (disch:=omega) only [go_sem])))
   refine call_o hcl (FrzL.cons (Frz.own0 rfl (by rw [List.length_map,hsl])) (FrzL.nil _)) ?_
   (repeat (with_reducible first|(simp (config:={ maxSteps:=3000000 }) (disch:=omega) only [go_sem,List.length_map])))
   refine call_u hcp ?_
   by_cases hnd:A.Nodup
   ·have hcA:(c:Int)=(A.length:Int):=by rw [hcf.2 (hsn.2 hnd),hsl]
    have hcA2:c=A.length:=by omega
    rw [if_pos hnd] at hbA
    (repeat (with_reducible first|refine W_seq fun K hK=>?_|refine J_skip ?_|refine J_ret ?_|refine J_region ?_ |refine J_c ?_|refine Jc_false ?_|(refine Kont.go (by assumption) ?_)|(simp (config:={ maxSteps:=3000000 }) (disch:=omega) only [go_sem,hcA2])))
    rw [hbA];exact Frz.f _
   ·have hcA2:¬c=A.length:=fun h=>hnd (hsn.1 (hcf.1 (by rw [h,hsl])))
    have hcA:¬(c:Int)=(A.length:Int):=by omega
    rw [if_neg hnd] at hbA
    (repeat (with_reducible first|refine W_seq fun K hK=>?_|refine J_ret ?_|refine J_region ?_ |refine J_c ?_|refine Jc_true ?_|(refine Kont.go (by assumption) ?_)|(simp (config:={ maxSteps:=3000000 }) (disch:=omega) only [go_sem,hcA])))
    rw [hbA];exact Frz.f _
set_option maxRecDepth 100000 in
theorem setsOK_w (L LL:List (List Int)) (hL:OkIss L) (hLl:LL.length≤4) (hLL:∀l∈LL,OkNs l):Good Tryd.prog 64 [.fz 1 (L.map ints),.fz 1 (LL.map ints)] (I (setsE L LL)):=by
 have hc:=rcheck_w2 L hL
 by_cases h0:ordE L=0
 case neg =>
  rw [show setsE L LL=ordE L by unfold setsE;rw [if_pos h0]]
  refine good_of Tryd.func64 rfl (by kernel_rfl) fun X hO hrd=>?_;rw [Tryd.ntmps64,Tryd.results64];simp only [ast0,List.map_cons,List.map_nil,List.length_cons,List.length_nil,Nat.reduceAdd,Nat.reduceSub,List.replicate_succ,List.replicate_zero,List.cons_append,List.nil_append]
  (repeat (with_reducible first|refine W_seq fun K hK=>?_|refine J_region ?_ |(refine Kont.go (by assumption) ?_)|(simp (config:={ maxSteps:=3000000 }) (disch:=omega) only [go_sem])))
  (first|refine call_f (hc) rfl ?_|refine callQ_f (hc) rfl ?_|refine callHK_f (hc) rfl ?_|refine callH_f (hc) rfl ?_)
  (repeat (with_reducible first|refine W_seq fun K hK=>?_|refine J_ret ?_|refine J_region ?_ |refine J_c ?_|refine Jc_true ?_|exact Frz.f _|(refine Kont.go (by assumption) ?_)|(simp (config:={ maxSteps:=3000000 }) (disch:=omega) only [go_sem,h0])))
 obtain ⟨hb,_⟩:=ord_ok h0
 have hn8:=(GP.of hb).n8
 rw [h0] at hc
 have ha:=apartSets_w hn8 LL hLl hLL
 have hbA:setsE L LL=if apOk L.length LL=true then 0 else 11:=by unfold setsE;rw [if_neg (by rw [h0];decide)]
 obtain ⟨b,hbe⟩:∃b,b=setsE L LL:=⟨_,rfl⟩
 rw [←hbe] at hbA ⊢
 refine good_of Tryd.func64 rfl (by kernel_rfl) fun X hO hrd=>?_;rw [Tryd.ntmps64,Tryd.results64];simp only [ast0,List.map_cons,List.map_nil,List.length_cons,List.length_nil,Nat.reduceAdd,Nat.reduceSub,List.replicate_succ,List.replicate_zero,List.cons_append,List.nil_append]
 (repeat (with_reducible first|refine W_seq fun K hK=>?_|refine J_region ?_ |(refine Kont.go (by assumption) ?_)|(simp (config:={ maxSteps:=3000000 }) (disch:=omega) only [go_sem])))
 (first|refine call_f (hc) rfl ?_|refine callQ_f (hc) rfl ?_|refine callHK_f (hc) rfl ?_|refine callH_f (hc) rfl ?_)
 (repeat (with_reducible first|refine W_seq fun K hK=>?_|refine J_skip ?_|refine J_region ?_ |refine J_c ?_|refine Jc_false ?_|(refine Kont.go (by assumption) ?_)|(simp (config:={ maxSteps:=3000000 }) (disch:=omega) only [go_sem,List.length_map])))
 (first|refine call_f (ha) rfl ?_|refine callQ_f (ha) rfl ?_|refine callHK_f (ha) rfl ?_|refine callH_f (ha) rfl ?_)
 cases hap:apOk L.length LL with
 | true =>
  rw [hap,if_pos rfl] at hbA
  (repeat (with_reducible first|refine W_seq fun K hK=>?_|refine J_skip ?_|refine J_ret ?_|refine J_region ?_ |refine J_c ?_|refine Jc_false ?_|(refine Kont.go (by assumption) ?_)|(simp (config:={ maxSteps:=3000000 }) (disch:=omega) only [go_sem])))
  rw [hbA];exact Frz.f _
 | false =>
  rw [hap,if_neg (by decide)] at hbA
  (repeat (with_reducible first|refine W_seq fun K hK=>?_|refine J_ret ?_|refine J_region ?_ |refine J_c ?_|refine Jc_true ?_|(refine Kont.go (by assumption) ?_)|(simp (config:={ maxSteps:=3000000 }) (disch:=omega) only [go_sem])))
  rw [hbA];exact Frz.f _
end Go.Proofs.YtgjnbcfencallaaDoor
set_option linter.unusedVariables false
set_option linter.unusedSimpArgs false
namespace Go.Proofs.YtgjnbcfencallaaDoor
open Go Go.RowKit
theorem rwV_cells {l:List FV}:(rwV l).cells=[rwV l]:=by unfold rwV;split<;>rfl
theorem flat_rw (rows:List (List FV)):flatF (rows.map rwV)=rows.map rwV:=by
 unfold flatF
 induction rows with
 | nil=>rfl
 | cons r rows ih=>rw [List.map_cons,List.flatMap_cons,ih,rwV_cells];rfl
theorem flat_fz (rows:List (List FV)):flatF (rows.map (FV.fz 1))=rows.map (FV.fz 1):=by
 unfold flatF
 induction rows with
 | nil=>rfl
 | cons r rows ih=>rw [List.map_cons,List.flatMap_cons,ih];rfl
theorem RepF.rows {rows:List (List FV)} {w:World} {F:Nat→Prop} {v:Value} (h:RepF w F (.fz 1 (rows.map rwV)) v):RepF w F (.fz 1 (rows.map (FV.fz 1))) v:=by
 generalize he:rows.map rwV=es at h
 cases h with
 | fz0 _ a cap hm =>
  have h0:rows=[]:=List.map_eq_nil_iff.1 he
  subst h0
  exact .fz0 _ _ _ hm
 | fz _ _ b off cap hF hn hm hu g hg hc =>
  subst he
  rw [flat_rw] at hg hc
  have hl:(rows.map rwV).length=(rows.map (FV.fz 1)).length:=by simp
  rw [hl] at hn ⊢
  refine .fz 1 _ b off cap hF hn hm (fun e he=>?_) g (fun j c hj=>?_) (fun j c hj=>?_)
  ·obtain ⟨r,_,rfl⟩:=List.mem_map.1 he;exact ⟨rfl,rfl⟩
  ·rw [flat_fz,List.getElem?_map] at hj
   cases hr:rows[j]? with
   | none=>rw [hr] at hj;cases hj
   | some r=>exact hg j (rwV r) (by rw [List.getElem?_map,hr];rfl)
  ·rw [flat_fz,List.getElem?_map] at hj
   cases hr:rows[j]? with
   | none=>rw [hr] at hj;cases hj
   | some r =>
    rw [hr] at hj
    cases hj
    have:=hc j (rwV r) (by rw [List.getElem?_map,hr];rfl)
    unfold rwV at this
    split at this
    ·rename_i h0
     subst h0
     generalize g j=x at this
     cases this
     exact .fz0 _ _ _ (Nat.zero_le _)
    ·exact this
theorem Good.rows {P:Program} {f:FuncId} {xs:List FV} {rows:List (List FV)} (h:Good P f xs (.fz 1 (rows.map rwV))):Good P f xs (.fz 1 (rows.map (FV.fz 1))) :=
 ⟨h.1,fun w G ys h1 h2 h3=>(h.2 w G ys h1 h2 h3).mono fun e w' ⟨v,he,hb,hr⟩=>⟨v,he,hb,hr.rows⟩⟩
def keepI (v:Nat) (A B:List Int) (u:Int):Bool:=!decide ((v:Int)∈A)&&!decide (u∈B)
def cutI (L:List (List Int)) (A B:List Int):List (List Int):=(List.range L.length).map fun v=>(L.getD v []).filter (keepI v A B)
def cutR (L:List (List Int)) (A B:List Int) (v i:Nat):List FV:=(((L.getD v []).take i).filter (keepI v A B)).map I
def cutO (L:List (List Int)) (A B:List Int) (x:Nat):List FV:=(List.range x).map fun v=>rwV (cutR L A B v (L.getD v []).length)
section
variable {L : List (List Int)} {A B : List Int} {v i x : Nat}
theorem cutO_len:(cutO L A B x).length=x:=by simp [cutO]
theorem cutO_next:cutO L A B x++[rwV (cutR L A B x (L.getD x []).length)]=cutO L A B (x+1):=by simp [cutO,List.range_succ]
theorem cutR_len:(cutR L A B v i).length≤i:=by
 unfold cutR;rw [List.length_map];exact Nat.le_trans (List.length_filter_le _ _) (by rw [List.length_take];omega)
theorem cutR_next (h:i<(L.getD v []).length):cutR L A B v (i+1)=cutR L A B v i++if keepI v A B (L.getD v [])[i]=true then [I (L.getD v [])[i]] else []:=by
 have key:∀(l:List Int) (h:i<l.length),((l.take (i+1)).filter (keepI v A B)).map I=((l.take i).filter (keepI v A B)).map I++if keepI v A B l[i]=true then [I l[i]] else []:=fun l h=>by
  rw [List.take_add_one,List.getElem?_eq_getElem h,List.filter_append,List.map_append]
  congr 1
  cases e:keepI v A B l[i]<;>simp [e]
 exact key _ h
theorem cutO_end:cutO L A B L.length=((cutI L A B).map fun l=>l.map I).map rwV:=by
 unfold cutO cutI
 rw [List.map_map,List.map_map]
 refine List.map_congr_left fun v hv=>?_
 show rwV _=rwV _
 unfold cutR
 rw [List.take_length]
theorem cutI_ints:((cutI L A B).map fun l=>l.map I).map (FV.fz 1)=(cutI L A B).map ints:=by rw [List.map_map];rfl
end
set_option maxRecDepth 100000 in
set_option maxHeartbeats 8000000 in
theorem cut_w (L:List (List Int)) (A B:List Int) (hL:OkIss L) (hl8:L.length≤8) (hA:OkNs A) (hB:OkNs B) (hLr:∀l∈L,l.length≤8):Good Tryd.prog 60 [.fz 1 (L.map ints),ints A,ints B] (.fz 1 ((cutI L A B).map ints)):=by
 rw [←cutI_ints]
 refine Good.rows ?_
 rw [←cutO_end]
 obtain ⟨n,hn⟩:∃n,n=L.length:=⟨_,rfl⟩
 have hLm:(L.map ints).length=n:=by rw [List.length_map,hn]
 refine good_of Tryd.func60 rfl (by kernel_rfl) fun X hO hrd=>?_;rw [Tryd.ntmps60,Tryd.results60];simp only [ast0,List.map_cons,List.map_nil,List.length_cons,List.length_nil,Nat.reduceAdd,Nat.reduceSub,List.replicate_succ,List.replicate_zero,List.cons_append,List.nil_append]
 (repeat (with_reducible first|refine W_seq fun K hK=>?_|((fail_if_success refine J_region (id:=2) ?_);refine J_region ?_) |(refine Kont.go (by assumption) ?_)|(simp (config:={ maxSteps:=3000000 }) (disch:=omega) only [go_sem])))
 refine J_reserve ?_
 have h0:AV.f (.v (.slice none 0 0))=sl 0 1 (cutO L A B 0):=rfl
 (repeat (with_reducible first|refine J_block ?_|refine J_region ?_ |(refine Kont.go (by assumption) ?_)|(simp (config:={ maxSteps:=3000000 }) (disch:=omega) only [go_sem,hLm])))
 refine W_loop [7,8,9,10,12,15,16,17,18,19,20,21,22,23,24,25,26,27,28,29,30,31,32,33,34,35,36,37,38,39,40,41,42,43,44,45] (fun x:Nat=>[(7,sl 0 1 (cutO L A B x)),(15,.f (I x))]) (fun x:Nat=>[ob 23 1 (cutO L A B x)]) (fun x:Nat=>x≤n) (fun x:Nat=>n-x) (0) (Nat.zero_le _) (by refine weak_of ?_ ?_<;>simp (disch:=omega) only [go_sem]<;>first|rfl|exact ⟨rfl,rfl⟩|exact Or.inl rfl|exact ⟨Or.inl rfl,Or.inl rfl⟩|trivial|assumption|omega|(symm;assumption)|((repeat' apply And.intro)<;>first|rfl|omega|trivial|exact .inl rfl|exact .inr ⟨rfl,rfl⟩|exact .inr rfl|(right;symm;assumption)|(symm;assumption)|assumption)) ?_
 rintro x hx
 simp only [go_sem]
 (repeat (with_reducible first|refine W_seq fun K hK=>?_|refine J_region ?_ |refine J_c ?_|(refine Kont.go (by assumption) ?_)|(simp (config:={ maxSteps:=3000000 }) (disch:=omega) only [go_sem])))
 refine Jc_if (fun hxn=>?_) (fun hxn=>?_)<;>try simp only [decide_eq_true_eq,decide_eq_false_iff_not] at hxn
 ·have hxl:x<L.length:=by omega
  have gx:=map_get ints L hxl
  have g3:L.getD x []=L[x]:=lget_lt L [] hxl
  have hlr:=hLr _ (List.getElem_mem hxl)
  obtain ⟨l,hl⟩:∃l,l=L[x]:=⟨_,rfl⟩
  rw [←hl] at gx g3 hlr
  (repeat (with_reducible first|refine W_seq fun K hK=>?_|refine J_block ?_|refine J_skip ?_|((fail_if_success refine J_region (id:=6) ?_);refine J_region ?_) |(refine Kont.go (by assumption) ?_)|(simp (config:={ maxSteps:=3000000 }) (disch:=omega) only [go_sem,↓reduceIte,gx])))
  refine J_reserve ?_
  have h1:AV.f (.v (.slice none 0 0))=sl 1 1 (cutR L A B x 0):=rfl
  (repeat (with_reducible first|refine J_block ?_|refine J_region ?_ |(refine Kont.go (by assumption) ?_)|(simp (config:={ maxSteps:=3000000 }) (disch:=omega) only [go_sem,List.length_map])))
  refine W_loop [10,12,22,23,24,25,26,27,28,29,30,31,32,33,34,35,36,37,38,39,40] (fun i:Nat=>[(10,sl 1 1 (cutR L A B x i)),(22,.f (I i))]) (fun i:Nat=>[ob 23 1 (cutO L A B x),ob 3 1 (cutR L A B x i)]) (fun i:Nat=>i≤l.length) (fun i:Nat=>l.length-i) (0) (Nat.zero_le _) (by refine weak_of ?_ ?_<;>simp (disch:=omega) only [go_sem,Nat.reduceAdd]<;>first|rfl|exact ⟨rfl,rfl⟩|exact Or.inl rfl|exact ⟨Or.inl rfl,Or.inl rfl⟩|trivial|assumption|omega|(symm;assumption)|((repeat' apply And.intro)<;>first|rfl|omega|trivial|exact .inl rfl|exact .inr ⟨rfl,rfl⟩|exact .inr rfl|(right;symm;assumption)|(symm;assumption)|assumption)) ?_
  rintro i hi
  simp only [go_sem]
  (repeat (with_reducible first|refine W_seq fun K hK=>?_|refine J_region ?_ |refine J_c ?_|(refine Kont.go (by assumption) ?_)|(simp (config:={ maxSteps:=3000000 }) (disch:=omega) only [go_sem])))
  refine Jc_if (fun hil=>?_) (fun hil=>?_)<;>try simp only [decide_eq_true_eq,decide_eq_false_iff_not] at hil
  ·have gi:=map_get I l hil
   have c1:=contZ_w (k:=(x:Int)) hA.1
   have c2:=contZ_w (k:=l[i]) hB.1
   have hcl:=cutR_len (L:=L) (A:=A) (B:=B) (v:=x) (i:=i)
   have hal:((cutR L A B x i).length+1)*8≤140737488355328:=by omega
   have hnx:=cutR_next (L:=L) (A:=A) (B:=B) (v:=x) (i:=i) (by rw [g3];exact hil)
   have g4:(L.getD x [])[i]'(by rw [g3];exact hil)=l[i]:=by simp only [g3]
   rw [g4] at hnx
   (repeat (with_reducible first|refine W_seq fun K hK=>?_|refine J_block ?_|refine J_skip ?_|refine J_region ?_ |(refine Kont.go (by assumption) ?_)|(simp (config:={ maxSteps:=3000000 }) (disch:=omega) only [go_sem,↓reduceIte,gi])))
   (first|refine call_f (c1) rfl ?_|refine callQ_f (c1) rfl ?_|refine callHK_f (c1) rfl ?_|refine callH_f (c1) rfl ?_)
   by_cases a:(x:Int)∈A
   ·rw [if_neg (by unfold keepI;rw [decide_eq_true a];simp),List.append_nil] at hnx
    rw [decide_eq_true a]
    (repeat (with_reducible first|refine J_skip ?_|refine J_region ?_ |refine J_c ?_|refine Jc_false ?_|(refine Kont.go (by assumption) ?_)|(simp (config:={ maxSteps:=3000000 }) (disch:=omega) only [go_sem])))
    refine ⟨i+1,by omega,by omega,weak_of ?_ ?_⟩<;>(try simp (disch:=omega) only [go_sem,Nat.reduceAdd,hnx])<;>(try first|done|omega|rfl|exact ⟨rfl,rfl⟩|trivial)
   ·rw [decide_eq_false a]
    (repeat (with_reducible first|(simp (config:={ maxSteps:=3000000 }) (disch:=omega) only [go_sem])))
    (first|refine call_f (c2) rfl ?_|refine callQ_f (c2) rfl ?_|refine callHK_f (c2) rfl ?_|refine callH_f (c2) rfl ?_)
    by_cases b:l[i]∈B
    ·rw [if_neg (by unfold keepI;rw [decide_eq_true b,decide_eq_false a];simp),List.append_nil] at hnx
     rw [decide_eq_true b]
     (repeat (with_reducible first|refine J_skip ?_|refine J_region ?_ |refine J_c ?_|refine Jc_false ?_|(refine Kont.go (by assumption) ?_)|(simp (config:={ maxSteps:=3000000 }) (disch:=omega) only [go_sem])))
     refine ⟨i+1,by omega,by omega,weak_of ?_ ?_⟩<;>(try simp (disch:=omega) only [go_sem,Nat.reduceAdd,hnx])<;>(try first|done|omega|rfl|exact ⟨rfl,rfl⟩|trivial)
    ·rw [if_pos (by unfold keepI;rw [decide_eq_false b,decide_eq_false a];rfl)] at hnx
     rw [decide_eq_false b]
     have hs:cutR L A B x i++[I l[i]]=cutR L A B x (i+1):=hnx.symm
     (repeat (with_reducible first|refine J_region ?_ |refine aApp_sl ?_|refine J_c ?_|refine Jc_true ?_|(refine Kont.go (by assumption) ?_)|(simp (config:={ maxSteps:=3000000 }) (disch:=omega) only [go_sem,Nat.reduceEqDiff,↓reduceIte,Nat.reduceAdd,Nat.reduceLeDiff,hal,hs,Nat.reduceMul,Nat.le_refl,true_and,and_self])))
     refine ⟨i+1,by omega,by omega,weak_of ?_ ?_⟩<;>(try simp (disch:=omega) only [go_sem,Nat.reduceAdd])<;>(try first|done|omega|rfl|exact ⟨rfl,rfl⟩|trivial)
  ·have he:i=(L.getD x []).length:=by rw [g3];omega
   have hnx:=cutO_next (L:=L) (A:=A) (B:=B) (x:=x)
   rw [←he] at hnx
   have hol:=cutO_len (L:=L) (A:=A) (B:=B) (x:=x)
   have hal:((cutO L A B x).length+1)*24≤140737488355328:=by omega
   by_cases e:cutR L A B x i=[]
   ·have e2:rwV (cutR L A B x i)=.v (.slice none 0 0):=by unfold rwV;rw [if_pos e]
    rw [e2] at hnx
    rw [e]
    have e3:sl 1 1 []=AV.f (.v (.slice none 0 0)):=rfl
    rw [e3]
    (repeat (first|(with_reducible first|refine J_exit ?_|refine J_region ?_ |refine aApp_sl ?_|(refine Kont.go (by assumption) ?_)|(simp (config:={ maxSteps:=3000000 }) (disch:=omega) only [go_sem,Nat.reduceEqDiff,↓reduceIte,Nat.reduceAdd,Nat.reduceLeDiff,hnx,hal]))|refine And.intro (by omega) ?_))
    refine ⟨x+1,by omega,by omega,weak_of ?_ ?_⟩<;>(try simp (disch:=omega) only [go_sem])<;>(try first|done|omega|rfl|exact ⟨rfl,rfl⟩|trivial)
   ·have e2:rwV (cutR L A B x i)=.fz 1 (cutR L A B x i):=by unfold rwV;rw [if_neg e]
    rw [e2] at hnx
    refine J_exit ?_
    (repeat (with_reducible first|(refine Kont.go (by assumption) ?_)|(simp (config:={ maxSteps:=3000000 }) (disch:=omega) only [go_sem,↓reduceIte])))
    refine J_freezeB (r:=1) rfl e ?_
    have hfz:=fzr_sl_self (r:=1) (sz:=1) e
    (repeat (first|(with_reducible first|refine J_region ?_ |refine aApp_sl ?_|(refine Kont.go (by assumption) ?_)|(simp (config:={ maxSteps:=3000000 }) (disch:=omega) only [go_sem,Nat.reduceEqDiff,↓reduceIte,Nat.reduceAdd,Nat.reduceLeDiff,hfz,hnx,hal,kill1_f]))|refine And.intro (by omega) ?_))
    refine ⟨x+1,by omega,by omega,weak_of ?_ ?_⟩<;>(try simp (disch:=omega) only [go_sem])<;>(try first|done|omega|rfl|exact ⟨rfl,rfl⟩|trivial)
 ·have he:x=L.length:=by omega
  rw [he]
  (repeat (with_reducible first|refine W_seq fun K hK=>?_|refine J_exit ?_|refine J_ret ?_|refine J_region ?_ |(refine Kont.go (by assumption) ?_)|(simp (config:={ maxSteps:=3000000 }) (disch:=omega) only [go_sem,↓reduceIte])))
  exact .sl rfl
set_option maxRecDepth 100000 in
set_option maxHeartbeats 8000000 in
theorem rcut_w (L:List (List Int)) (A B:List Int) (hL:OkIss L) (hl8:L.length≤8) (hA:OkNs A) (hB:OkNs B) (hLr:∀l∈L,l.length≤8):Good Tryd.prog 66 [.fz 1 (L.map ints),ints A,ints B] (.fz 1 ((cutI L A B).map ints)):=by
 rw [←cutI_ints]
 refine Good.rows ?_
 rw [←cutO_end]
 obtain ⟨n,hn⟩:∃n,n=L.length:=⟨_,rfl⟩
 have hLm:(L.map ints).length=n:=by rw [List.length_map,hn]
 refine good_of Tryd.func66 rfl (by kernel_rfl) fun X hO hrd=>?_;rw [Tryd.ntmps66,Tryd.results66];simp only [ast0,List.map_cons,List.map_nil,List.length_cons,List.length_nil,Nat.reduceAdd,Nat.reduceSub,List.replicate_succ,List.replicate_zero,List.cons_append,List.nil_append]
 (repeat (with_reducible first|refine W_seq fun K hK=>?_|((fail_if_success refine J_region (id:=2) ?_);refine J_region ?_) |(refine Kont.go (by assumption) ?_)|(simp (config:={ maxSteps:=3000000 }) (disch:=omega) only [go_sem])))
 refine J_reserve ?_
 have h0:AV.f (.v (.slice none 0 0))=sl 0 1 (cutO L A B 0):=rfl
 (repeat (with_reducible first|refine J_block ?_|refine J_region ?_ |(refine Kont.go (by assumption) ?_)|(simp (config:={ maxSteps:=3000000 }) (disch:=omega) only [go_sem])))
 refine W_loop [7,8,9,10,11,12,13,14,15,16,17,18,19,20,21,22,23,24,25,26,27,28,29,30,31,32,33,34,35,36,37,38,39,40,41,42,43,44,45,46,47,48,49,50,51,52,53,54,55,56,57,58,59] (fun x:Nat=>[(7,sl 0 1 (cutO L A B x)),(8,.f (I x))]) (fun x:Nat=>[ob 23 1 (cutO L A B x)]) (fun x:Nat=>x≤n) (fun x:Nat=>n-x) (0) (Nat.zero_le _) (by refine weak_of ?_ ?_<;>simp (disch:=omega) only [go_sem]<;>first|rfl|exact ⟨rfl,rfl⟩|exact Or.inl rfl|exact ⟨Or.inl rfl,Or.inl rfl⟩|trivial|assumption|omega|(symm;assumption)|((repeat' apply And.intro)<;>first|rfl|omega|trivial|exact .inl rfl|exact .inr ⟨rfl,rfl⟩|exact .inr rfl|(right;symm;assumption)|(symm;assumption)|assumption)) ?_
 rintro x hx
 simp only [go_sem]
 (repeat (with_reducible first|refine W_seq fun K hK=>?_|refine J_region ?_ |refine J_c ?_|(refine Kont.go (by assumption) ?_)|(simp (config:={ maxSteps:=3000000 }) (disch:=omega) only [go_sem,hLm])))
 refine Jc_if (fun hxn=>?_) (fun hxn=>?_)<;>try simp only [decide_eq_true_eq,decide_eq_false_iff_not] at hxn
 ·have hxl:x<L.length:=by omega
  have gx:=map_get ints L hxl
  have g3:L.getD x []=L[x]:=lget_lt L [] hxl
  have hlr:=hLr _ (List.getElem_mem hxl)
  have hlx:=(hL.2 _ (List.getElem_mem hxl)).2
  obtain ⟨l,hl⟩:∃l,l=L[x]:=⟨_,rfl⟩
  rw [←hl] at gx g3 hlr hlx
  have c1:=rin_w (x:Int) A (by omega) hA.1
  (repeat (with_reducible first|refine W_seq fun K hK=>?_|refine J_block ?_|refine J_skip ?_|((fail_if_success refine J_region (id:=6) ?_);refine J_region ?_) |(refine Kont.go (by assumption) ?_)|(simp (config:={ maxSteps:=3000000 }) (disch:=omega) only [go_sem])))
  refine J_reserve ?_
  have h1:AV.f (.v (.slice none 0 0))=sl 1 1 (cutR L A B x 0):=rfl
  (repeat (with_reducible first|refine J_region ?_ |(simp (config:={ maxSteps:=3000000 }) (disch:=omega) only [go_sem])))
  (first|refine call_f (c1) rfl ?_|refine callQ_f (c1) rfl ?_|refine callHK_f (c1) rfl ?_|refine callH_f (c1) rfl ?_)
  (repeat (with_reducible first|refine W_seq fun K hK=>?_|refine J_block ?_|refine J_region ?_ |(refine Kont.go (by assumption) ?_)|(simp (config:={ maxSteps:=3000000 }) (disch:=omega) only [go_sem])))
  refine W_loop [9,11,12,22,23,24,25,26,27,28,29,30,31,32,33,34,35,36,37,38,39,40,41,42,43,44,45,46,47,48,49,50,51,52,53,54,55] (fun i:Nat=>[(9,sl 1 1 (cutR L A B x i)),(11,.f (I i))]) (fun i:Nat=>[ob 23 1 (cutO L A B x),ob 3 1 (cutR L A B x i)]) (fun i:Nat=>i≤l.length) (fun i:Nat=>l.length-i) (0) (Nat.zero_le _) (by refine weak_of ?_ ?_<;>simp (disch:=omega) only [go_sem,Nat.reduceAdd]<;>first|rfl|exact ⟨rfl,rfl⟩|exact Or.inl rfl|exact ⟨Or.inl rfl,Or.inl rfl⟩|trivial|assumption|omega|(symm;assumption)|((repeat' apply And.intro)<;>first|rfl|omega|trivial|exact .inl rfl|exact .inr ⟨rfl,rfl⟩|exact .inr rfl|(right;symm;assumption)|(symm;assumption)|assumption)) ?_
  rintro i hi
  simp only [go_sem]
  (repeat (with_reducible first|refine W_seq fun K hK=>?_|refine J_region ?_ |refine J_c ?_|(refine Kont.go (by assumption) ?_)|(simp (config:={ maxSteps:=3000000 }) (disch:=omega) only [go_sem,↓reduceIte,gx,List.length_map])))
  refine Jc_if (fun hil=>?_) (fun hil=>?_)<;>try simp only [decide_eq_true_eq,decide_eq_false_iff_not] at hil
  ·have gi:=map_get I l hil
   have c2:=rin_w l[i] B (hlx _ (List.getElem_mem hil)) hB.1
   have hcl:=cutR_len (L:=L) (A:=A) (B:=B) (v:=x) (i:=i)
   have hal:((cutR L A B x i).length+1)*8≤140737488355328:=by omega
   have hnx:=cutR_next (L:=L) (A:=A) (B:=B) (v:=x) (i:=i) (by rw [g3];exact hil)
   have g4:(L.getD x [])[i]'(by rw [g3];exact hil)=l[i]:=by simp only [g3]
   rw [g4] at hnx
   (repeat (with_reducible first|refine W_seq fun K hK=>?_|refine J_block ?_|refine J_skip ?_|refine J_region ?_ |(refine Kont.go (by assumption) ?_)|(simp (config:={ maxSteps:=3000000 }) (disch:=omega) only [go_sem,↓reduceIte,gx,gi])))
   (first|refine call_f (c2) rfl ?_|refine callQ_f (c2) rfl ?_|refine callHK_f (c2) rfl ?_|refine callH_f (c2) rfl ?_)
   by_cases a:(x:Int)∈A
   ·rw [if_neg (by unfold keepI;rw [decide_eq_true a];simp),List.append_nil] at hnx
    have ad:decide ((x:Int)∈A)=true:=decide_eq_true a
    (repeat (with_reducible first|refine W_seq fun K hK=>?_|refine J_skip ?_|refine J_region ?_ |refine J_c ?_|refine Jc_false ?_|(refine Kont.go (by assumption) ?_)|(simp (config:={ maxSteps:=3000000 }) (disch:=omega) only [go_sem,a])))
    refine ⟨i+1,by omega,by omega,weak_of ?_ ?_⟩<;>(try simp (disch:=omega) only [go_sem,Nat.reduceAdd,hnx])<;>(try first|done|omega|rfl|exact ⟨rfl,rfl⟩|trivial)
   ·have ad:decide ((x:Int)∈A)=false:=decide_eq_false a
    by_cases b:l[i]∈B
    ·rw [if_neg (by unfold keepI;rw [decide_eq_true b,decide_eq_false a];simp),List.append_nil] at hnx
     have bd:decide (l[i]∈B)=true:=decide_eq_true b
     (repeat (with_reducible first|refine W_seq fun K hK=>?_|refine J_skip ?_|refine J_region ?_ |refine J_c ?_|refine Jc_false ?_|(refine Kont.go (by assumption) ?_)|(simp (config:={ maxSteps:=3000000 }) (disch:=omega) only [go_sem,a,b])))
     refine ⟨i+1,by omega,by omega,weak_of ?_ ?_⟩<;>(try simp (disch:=omega) only [go_sem,Nat.reduceAdd,hnx])<;>(try first|done|omega|rfl|exact ⟨rfl,rfl⟩|trivial)
    ·rw [if_pos (by unfold keepI;rw [decide_eq_false b,decide_eq_false a];rfl)] at hnx
     have bd:decide (l[i]∈B)=false:=decide_eq_false b
     have hs:cutR L A B x i++[I l[i]]=cutR L A B x (i+1):=hnx.symm
     (repeat (with_reducible first|refine W_seq fun K hK=>?_|refine J_region ?_ |refine aApp_sl ?_|refine J_c ?_|refine Jc_true ?_|(refine Kont.go (by assumption) ?_)|(simp (config:={ maxSteps:=3000000 }) (disch:=omega) only [go_sem,Nat.reduceEqDiff,↓reduceIte,Nat.reduceAdd,Nat.reduceLeDiff,a,b,hal,hs,gx,gi,List.length_map,Nat.reduceMul,Nat.le_refl,true_and,and_self])))
     refine ⟨i+1,by omega,by omega,weak_of ?_ ?_⟩<;>(try simp (disch:=omega) only [go_sem,Nat.reduceAdd])<;>(try first|done|omega|rfl|exact ⟨rfl,rfl⟩|trivial)
  ·have he:i=(L.getD x []).length:=by rw [g3];omega
   have hnx:=cutO_next (L:=L) (A:=A) (B:=B) (x:=x)
   rw [←he] at hnx
   have hol:=cutO_len (L:=L) (A:=A) (B:=B) (x:=x)
   have hal:((cutO L A B x).length+1)*24≤140737488355328:=by omega
   by_cases e:cutR L A B x i=[]
   ·have e2:rwV (cutR L A B x i)=.v (.slice none 0 0):=by unfold rwV;rw [if_pos e]
    rw [e2] at hnx
    rw [e]
    have e3:sl 1 1 []=AV.f (.v (.slice none 0 0)):=rfl
    rw [e3]
    (repeat (first|(with_reducible first|refine J_exit ?_|refine J_region ?_ |refine aApp_sl ?_|(refine Kont.go (by assumption) ?_)|(simp (config:={ maxSteps:=3000000 }) (disch:=omega) only [go_sem,Nat.reduceEqDiff,↓reduceIte,Nat.reduceAdd,Nat.reduceLeDiff,hnx,hal]))|refine And.intro (by omega) ?_))
    refine ⟨x+1,by omega,by omega,weak_of ?_ ?_⟩<;>(try simp (disch:=omega) only [go_sem])<;>(try first|done|omega|rfl|exact ⟨rfl,rfl⟩|trivial)
   ·have e2:rwV (cutR L A B x i)=.fz 1 (cutR L A B x i):=by unfold rwV;rw [if_neg e]
    rw [e2] at hnx
    refine J_exit ?_
    (repeat (with_reducible first|(refine Kont.go (by assumption) ?_)|(simp (config:={ maxSteps:=3000000 }) (disch:=omega) only [go_sem,↓reduceIte])))
    refine J_freezeB (r:=1) rfl e ?_
    have hfz:=fzr_sl_self (r:=1) (sz:=1) e
    (repeat (first|(with_reducible first|refine J_region ?_ |refine aApp_sl ?_|(refine Kont.go (by assumption) ?_)|(simp (config:={ maxSteps:=3000000 }) (disch:=omega) only [go_sem,Nat.reduceEqDiff,↓reduceIte,Nat.reduceAdd,Nat.reduceLeDiff,hfz,hnx,hal,kill1_f]))|refine And.intro (by omega) ?_))
    refine ⟨x+1,by omega,by omega,weak_of ?_ ?_⟩<;>(try simp (disch:=omega) only [go_sem])<;>(try first|done|omega|rfl|exact ⟨rfl,rfl⟩|trivial)
 ·have he:x=L.length:=by omega
  rw [he]
  (repeat (with_reducible first|refine W_seq fun K hK=>?_|refine J_exit ?_|refine J_ret ?_|refine J_region ?_ |(refine Kont.go (by assumption) ?_)|(simp (config:={ maxSteps:=3000000 }) (disch:=omega) only [go_sem,↓reduceIte])))
  exact .sl rfl
end Go.Proofs.YtgjnbcfencallaaDoor
