/- Sums and greatest numbers may be taken in any order; a table that has nothing of a variable may be taken out of the sum over it: walked and proved. Conditions: what slices may hold. -/
import Derived.Test.YtmcgeppgfjlclaaGreatDoorZB23
import Derived.SevenTiedAt
set_option linter.unusedVariables false
set_option linter.unusedSimpArgs false
namespace Go.Proofs.YtmcgeppgfjlclaaGreatDoor
open Go Go.RowKit
theorem opT_comm (most:Bool) (a b:Rat):opT most a b=opT most b a:=by
 cases most with
 | false=>exact Rat.add_comm a b
 | true=>exact gtrS_comm a b
theorem opT_assoc (most:Bool) (a b c:Rat):opT most (opT most a b) c=opT most a (opT most b c):=by
 cases most with
 | false=>exact Rat.add_assoc a b c
 | true=>exact gtrS_assoc a b c
theorem swZ (raw:List Int) {n:Nat} (h1:1≤n) (h8:n≤8):OkT (szR raw n) [] where
 z1:=by rw [szR_len];exact h1
 z8:=by rw [szR_len];exact h8
 zp m hm:=by obtain ⟨i,_,rfl⟩:=List.mem_map.1 hm;exact szX_le.1
 z4 m hm:=by obtain ⟨i,_,rfl⟩:=List.mem_map.1 hm;have:=(szX_le (raw:=raw) (i:=i)).2;omega
 ris:=List.Pairwise.nil
 lt v hv:=by cases hv
theorem TbOk.up {j k:Nat} {Z l:List Nat} {xs:List FV} {qs:List Rat} (h:TbOk j Z l xs qs) (hk:j≤k):TbOk k Z l xs qs:=⟨h.ok,Frs.up h.fr hk,h.len⟩
theorem uni_all {n:Nat} {la:List Nat} (h:∀v∈la,v<n):uniT n la (List.range n)=List.range n:=by
 unfold uniT
 exact List.filter_eq_self.2 fun v hv=>decide_eq_true (.inr hv)
set_option maxRecDepth 100000 in
set_option maxHeartbeats 16000000 in
theorem law_w (raw x y:List Int) (u v:Int) (hr:∀a∈raw,-9223372036854775808≤a∧a≤9223372036854775807) (hx:∀a∈x,-9223372036854775808≤a∧a≤9223372036854775807) (hy:∀a∈y,-9223372036854775808≤a∧a≤9223372036854775807)
  (hu:-9223372036854775808≤u∧u≤9223372036854775807) (hv:-9223372036854775808≤v∧v≤9223372036854775807) (hrl:raw.length≤140737488355328) (hxl:x.length≤140737488355328) (hyl:y.length≤140737488355328) :
  Good Tryz.prog 3 [ints raw,ints x,ints y,I u,I v] (Bo true):=by
 by_cases hlen:(512:Int)<(raw.length:Int)+(x.length:Int)+(y.length:Int)
 case pos =>
  refine good_of Tryz.func3 rfl (by kernel_rfl) fun X hO hrd=>?_;rw [Tryz.ntmps3,Tryz.results3];simp only [ast0,List.map_cons,List.map_nil,List.length_cons,List.length_nil,Nat.reduceAdd,Nat.reduceSub,List.replicate_succ,List.replicate_zero,List.cons_append,List.nil_append]
  (repeat (first|(with_reducible first|refine W_seq fun K hK=>?_|refine J_block ?_|refine J_skip ?_|refine J_exit ?_|refine J_ret ?_|refine J_region ?_ |refine J_drawn mixed (by kernel_rfl) ?_|refine aApp_sl ?_|refine aApp_old ?_|refine J_c ?_|refine Jc_true ?_|refine Jc_false ?_|exact Frz.f _|(refine Kont.go (by assumption) ?_)|(simp (config:={ maxSteps:=3000000 }) (disch:=omega) only [go_sem,Nat.reduceEqDiff,↓reduceIte,Nat.reduceAdd,Nat.reduceLT,Nat.reduceLeDiff,Int.reduceLT,Int.reduceLE,Int.reduceEq,Int.reduceNe,Int.reduceAdd,Int.reduceSub,Int.reduceMul,Int.reduceNeg,Int.reduceToNat,List.length_map,hlen]))|refine call_f (pickI _ _ (by omega) (by omega) (by omega) (by omega)) rfl ?_|refine callQ_f (pickI _ _ (by omega) (by omega) (by omega) (by omega)) rfl ?_|refine And.intro (by omega) ?_|refine And.intro (And.intro (by omega) (by omega)) ?_))
 have hp3:=pickN_lt (raw.length:Int) (n:=3) (by omega)
 have hsz:=sizesOf_w raw hr (by omega)
 obtain ⟨n,hn⟩:∃n,n=3+pickN raw.length 3:=⟨_,rfl⟩
 rw [←hn] at hsz
 obtain ⟨Z,hZ⟩:∃Z,Z=szR raw n:=⟨_,rfl⟩
 have h0:=swZ raw (n:=n) (by omega) (by omega)
 rw [←hZ] at hsz h0
 have hZl:Z.length=n:=by rw [hZ];exact szR_len
 have hpu:=pickN_lt u (n:=n) (by omega)
 have hpv:=pickN_lt v (n:=n) (by omega)
 have hku:Good Tryz.prog 6 [I u,I (n:Int)] (I ((pickN u n:Nat):Int)):=by
  have:=pickI u (n:Int) (by omega) (by omega) (by omega) (by omega);exact this
 have hkv:Good Tryz.prog 6 [I v,I (n:Int)] (I ((pickN v n:Nat):Int)):=by
  have:=pickI v (n:Int) (by omega) (by omega) (by omega) (by omega);exact this
 obtain ⟨u',hu'⟩:∃u',u'=pickN u n:=⟨_,rfl⟩
 obtain ⟨v',hv'⟩:∃v',v'=pickN v n:=⟨_,rfl⟩
 rw [←hu'] at hpu hku
 rw [←hv'] at hpv hkv
 have hall:=rall_w (Ns Z) (by rw [Ns_len];omega)
 rw [Ns_len,hZl] at hall
 have hB:OkT Z (List.range n):=h0.sub List.pairwise_lt_range fun w hw=>by rw [hZl];exact List.mem_range.1 hw
 have htb:=tableOf_w raw hB hr (by omega)
 have hBc:=hB.cnt
 have hBR:=tbR_row (raw:=raw) hBc
 have okB:=tbOk_c hB hBR tbR_len
 obtain ⟨qb,hqb⟩:∃qb,qb=tbR raw (cntS (szT Z) (List.range n)):=⟨_,rfl⟩
 rw [←hqb] at htb hBR okB
 have hsm:=rsome_w x n hx (by omega) (by omega) (by omega)
 have hpwS:(someL x n n).Pairwise (·< ·):=List.Pairwise.filter _ List.pairwise_lt_range
 have hltS:∀w∈someL x n n,w<n:=fun w hw=>List.mem_range.1 (List.mem_filter.1 hw).1
 obtain ⟨sx,hsx⟩:∃sx,sx=someL x n n:=⟨_,rfl⟩
 rw [←hsx] at hsm hpwS hltS
 have hSx:OkT Z sx:=h0.sub hpwS fun w hw=>by rw [hZl];exact hltS w hw
 have hsxl:=hSx.len
 have hA_lt:∀w∈lessT sx v',w<n:=fun w hw=>hltS w (mem_lessT.1 hw).1
 have hle:=rless_w sx [v'] (by omega) (by simp) (fun w hw=>by have:=hltS w hw;omega)
 have hlf:=rless_fresh sx [v'] (by omega) (by simp) (fun w hw=>by have:=hltS w hw;omega)
 rw [lessM_one] at hle hlf
 have hA:OkT Z (lessT sx v'):=hSx.less
 have hva:v'∉lessT sx v':=fun h=>(mem_lessT.1 h).2 rfl
 obtain ⟨la,hla⟩:∃la,la=lessT sx v':=⟨_,rfl⟩
 rw [←hla] at hle hlf hA hva hA_lt
 have hta:=tableOf_w y hA hy (by omega)
 have hAc:=hA.cnt
 have hAR:=tbR_row (raw:=y) hAc
 have okA:=tbOk_c hA hAR tbR_len
 obtain ⟨qa,hqa⟩:∃qa,qa=tbR y (cntS (szT Z) la):=⟨_,rfl⟩
 rw [←hqa] at hta hAR okA
 have hbu:Tryz.prog.underlying 4=some .bool:=by kernel_rfl
 refine good_of Tryz.func3 rfl (by kernel_rfl) fun X hO hrd=>?_;rw [Tryz.ntmps3,Tryz.results3];simp only [ast0,List.map_cons,List.map_nil,List.length_cons,List.length_nil,Nat.reduceAdd,Nat.reduceSub,List.replicate_succ,List.replicate_zero,List.cons_append,List.nil_append]
 (repeat (first|(with_reducible first|refine W_seq fun K hK=>?_|refine J_block ?_|refine J_skip ?_|refine J_exit ?_|refine J_ret ?_|refine J_region ?_ |refine J_drawn mixed (by kernel_rfl) ?_|refine aApp_sl ?_|refine aApp_old ?_|refine J_c ?_|refine Jc_true ?_|refine Jc_false ?_|exact Frz.f _|(refine Kont.go (by assumption) ?_)|(simp (config:={ maxSteps:=3000000 }) (disch:=omega) only [go_sem,Nat.reduceEqDiff,↓reduceIte,Nat.reduceAdd,Nat.reduceLT,Nat.reduceLeDiff,Int.reduceLT,Int.reduceLE,Int.reduceEq,Int.reduceNe,Int.reduceAdd,Int.reduceSub,Int.reduceMul,Int.reduceNeg,Int.reduceToNat,List.length_map,hlen]))|refine call_f (pickI _ _ (by omega) (by omega) (by omega) (by omega)) rfl ?_|refine callQ_f (pickI _ _ (by omega) (by omega) (by omega) (by omega)) rfl ?_|refine And.intro (by omega) ?_|refine And.intro (And.intro (by omega) (by omega)) ?_))
 (first|refine call_f (hsz) rfl ?_|refine callQ_f (hsz) rfl ?_|refine callHK_f (hsz) rfl ?_|refine callH_f (hsz) rfl ?_)
 (repeat (first|(with_reducible first|refine W_seq fun K hK=>?_|refine J_block ?_|refine J_skip ?_|refine J_exit ?_|refine J_ret ?_|refine J_region ?_ |refine J_drawn mixed (by kernel_rfl) ?_|refine aApp_sl ?_|refine aApp_old ?_|refine J_c ?_|refine Jc_true ?_|refine Jc_false ?_|exact Frz.f _|(refine Kont.go (by assumption) ?_)|(simp (config:={ maxSteps:=3000000 }) (disch:=omega) only [go_sem,Nat.reduceEqDiff,↓reduceIte,Nat.reduceAdd,Nat.reduceLT,Nat.reduceLeDiff,Int.reduceLT,Int.reduceLE,Int.reduceEq,Int.reduceNe,Int.reduceAdd,Int.reduceSub,Int.reduceMul,Int.reduceNeg,Int.reduceToNat,Ns_len,hZl,←hu',←hv']))|refine call_f (pickI _ _ (by omega) (by omega) (by omega) (by omega)) rfl ?_|refine callQ_f (pickI _ _ (by omega) (by omega) (by omega) (by omega)) rfl ?_|refine And.intro (by omega) ?_|refine And.intro (And.intro (by omega) (by omega)) ?_))
 (first|refine call_f (hall) rfl ?_|refine callQ_f (hall) rfl ?_|refine callHK_f (hall) rfl ?_|refine callH_f (hall) rfl ?_)
 (repeat (first|(with_reducible first|refine W_seq fun K hK=>?_|refine J_block ?_|refine J_skip ?_|refine J_exit ?_|refine J_ret ?_|refine J_region ?_ |refine J_drawn mixed (by kernel_rfl) ?_|refine aApp_sl ?_|refine aApp_old ?_|refine J_c ?_|refine Jc_true ?_|refine Jc_false ?_|exact Frz.f _|(refine Kont.go (by assumption) ?_)|(simp (config:={ maxSteps:=3000000 }) (disch:=omega) only [go_sem,Nat.reduceEqDiff,↓reduceIte,Nat.reduceAdd,Nat.reduceLT,Nat.reduceLeDiff,Int.reduceLT,Int.reduceLE,Int.reduceEq,Int.reduceNe,Int.reduceAdd,Int.reduceSub,Int.reduceMul,Int.reduceNeg,Int.reduceToNat]))|refine call_f (pickI _ _ (by omega) (by omega) (by omega) (by omega)) rfl ?_|refine callQ_f (pickI _ _ (by omega) (by omega) (by omega) (by omega)) rfl ?_|refine And.intro (by omega) ?_|refine And.intro (And.intro (by omega) (by omega)) ?_))
 (first|refine call_f (htb) rfl ?_|refine callQ_f (htb) rfl ?_|refine callHK_f (htb) rfl ?_|refine callH_f (htb) rfl ?_)
 (repeat (first|(with_reducible first|refine W_seq fun K hK=>?_|refine J_block ?_|refine J_skip ?_|refine J_exit ?_|refine J_ret ?_|refine J_region ?_ |refine J_drawn mixed (by kernel_rfl) ?_|refine aApp_sl ?_|refine aApp_old ?_|refine J_c ?_|refine Jc_true ?_|refine Jc_false ?_|exact Frz.f _|(refine Kont.go (by assumption) ?_)|(simp (config:={ maxSteps:=3000000 }) (disch:=omega) only [go_sem,Nat.reduceEqDiff,↓reduceIte,Nat.reduceAdd,Nat.reduceLT,Nat.reduceLeDiff,Int.reduceLT,Int.reduceLE,Int.reduceEq,Int.reduceNe,Int.reduceAdd,Int.reduceSub,Int.reduceMul,Int.reduceNeg,Int.reduceToNat,Ns_len,hZl]))|refine call_f (pickI _ _ (by omega) (by omega) (by omega) (by omega)) rfl ?_|refine callQ_f (pickI _ _ (by omega) (by omega) (by omega) (by omega)) rfl ?_|refine And.intro (by omega) ?_|refine And.intro (And.intro (by omega) (by omega)) ?_))
 (first|refine call_f (hsm) rfl ?_|refine callQ_f (hsm) rfl ?_|refine callHK_f (hsm) rfl ?_|refine callH_f (hsm) rfl ?_)
 (repeat (first|(with_reducible first|refine W_seq fun K hK=>?_|refine J_block ?_|refine J_skip ?_|refine J_exit ?_|refine J_ret ?_|refine J_region ?_ |refine J_drawn mixed (by kernel_rfl) ?_|refine aApp_sl ?_|refine aApp_old ?_|refine J_c ?_|refine Jc_true ?_|refine Jc_false ?_|exact Frz.f _|(refine Kont.go (by assumption) ?_)|(simp (config:={ maxSteps:=3000000 }) (disch:=omega) only [go_sem,Nat.reduceEqDiff,↓reduceIte,Nat.reduceAdd,Nat.reduceLT,Nat.reduceLeDiff,Int.reduceLT,Int.reduceLE,Int.reduceEq,Int.reduceNe,Int.reduceAdd,Int.reduceSub,Int.reduceMul,Int.reduceNeg,Int.reduceToNat]))|refine call_f (pickI _ _ (by omega) (by omega) (by omega) (by omega)) rfl ?_|refine callQ_f (pickI _ _ (by omega) (by omega) (by omega) (by omega)) rfl ?_|refine And.intro (by omega) ?_|refine And.intro (And.intro (by omega) (by omega)) ?_))
 refine call_fr hle hlf (FrzL.cons (.f _) (FrzL.cons (Frz.own0 (ds:=Ns [v']) rfl rfl) (FrzL.nil _))) ?_
 (repeat (first|(with_reducible first|refine W_seq fun K hK=>?_|refine J_block ?_|refine J_skip ?_|refine J_exit ?_|refine J_ret ?_|refine J_region ?_ |refine J_drawn mixed (by kernel_rfl) ?_|refine aApp_sl ?_|refine aApp_old ?_|refine J_c ?_|refine Jc_true ?_|refine Jc_false ?_|exact Frz.f _|(refine Kont.go (by assumption) ?_)|(simp (config:={ maxSteps:=3000000 }) (disch:=omega) only [go_sem,Nat.reduceEqDiff,↓reduceIte,Nat.reduceAdd,Nat.reduceLT,Nat.reduceLeDiff,Int.reduceLT,Int.reduceLE,Int.reduceEq,Int.reduceNe,Int.reduceAdd,Int.reduceSub,Int.reduceMul,Int.reduceNeg,Int.reduceToNat]))|refine call_f (pickI _ _ (by omega) (by omega) (by omega) (by omega)) rfl ?_|refine callQ_f (pickI _ _ (by omega) (by omega) (by omega) (by omega)) rfl ?_|refine And.intro (by omega) ?_|refine And.intro (And.intro (by omega) (by omega)) ?_))
 (first|refine call_f (hta) rfl ?_|refine callQ_f (hta) rfl ?_|refine callHK_f (hta) rfl ?_|refine callH_f (hta) rfl ?_)
 (repeat (first|(with_reducible first|refine W_seq fun K hK=>?_|refine J_block ?_|refine J_skip ?_|refine J_exit ?_|refine J_ret ?_|refine J_region ?_ |refine J_drawn mixed (by kernel_rfl) ?_|refine aApp_sl ?_|refine aApp_old ?_|refine J_c ?_|refine Jc_true ?_|refine Jc_false ?_|exact Frz.f _|(refine Kont.go (by assumption) ?_)|(simp (config:={ maxSteps:=3000000 }) (disch:=omega) only [go_sem,Nat.reduceEqDiff,↓reduceIte,Nat.reduceAdd,Nat.reduceLT,Nat.reduceLeDiff,Int.reduceLT,Int.reduceLE,Int.reduceEq,Int.reduceNe,Int.reduceAdd,Int.reduceSub,Int.reduceMul,Int.reduceNeg,Int.reduceToNat]))|refine call_f (pickI _ _ (by omega) (by omega) (by omega) (by omega)) rfl ?_|refine callQ_f (pickI _ _ (by omega) (by omega) (by omega) (by omega)) rfl ?_|refine And.intro (by omega) ?_|refine And.intro (And.intro (by omega) (by omega)) ?_))
 refine J_mask [58] (by refine weak_of ?_ ?_<;>simp (disch:=omega) only [go_sem,Nat.reduceAdd,Nat.reduceLT,Nat.reduceEqDiff]<;>first|rfl|exact ⟨rfl,rfl⟩|exact Or.inl rfl|exact ⟨Or.inl rfl,Or.inl rfl⟩|trivial|assumption|omega|(symm;assumption)|((repeat' apply And.intro)<;>first|rfl|omega|trivial|exact .inr ⟨rfl,rfl⟩|exact .inr rfl|(right;symm;assumption)|(symm;assumption)|assumption)) ?_;simp only [go_sem,Nat.reduceAdd,Nat.reduceLT,Nat.reduceEqDiff]
 refine W_loop [10,14,15,16,17,18,19,62,63,64,65,66,67,68,69,70,71,72,73,74,75,76,77,78,79,80,81,82,83,84,85,86,87,88,89,90,91,92,93,94,95,96,97,98,99,100,101,102,103,104,105,106,107,108,109,110,111,112,113,114,115,116,117,118,119,120,121,122] (fun i:Nat=>[(14,.f (I i))]) (fun i:Nat=>[oT (tabV (List.range n) (qb.map fr)),none,oT (tabV la (qa.map fr))]) (fun i:Nat=>i≤2) (fun i:Nat=>2-i) (0) (Nat.zero_le _) (by refine weak_of ?_ ?_<;>simp (disch:=omega) only [go_sem,Nat.reduceAdd,Nat.reduceLT,Nat.reduceEqDiff]<;>first|rfl|exact ⟨rfl,rfl⟩|exact Or.inl rfl|exact ⟨Or.inl rfl,Or.inl rfl⟩|trivial|assumption|omega|(symm;assumption)|((repeat' apply And.intro)<;>first|rfl|omega|trivial|exact .inl rfl|exact .inr ⟨rfl,rfl⟩|exact .inr rfl|(right;symm;assumption)|(symm;assumption)|assumption)) ?_
 ·rintro i hi
  simp only [go_sem,Nat.reduceAdd,Nat.reduceLT,Nat.reduceEqDiff]
  (repeat (first|(with_reducible first|refine W_seq fun K hK=>?_|refine J_block ?_|refine J_skip ?_|refine J_exit ?_|refine J_ret ?_|refine J_region ?_ |refine J_drawn mixed (by kernel_rfl) ?_|refine aApp_sl ?_|refine aApp_old ?_|refine J_c ?_|refine Jc_true ?_|refine Jc_false ?_|exact Frz.f _|(refine Kont.go (by assumption) ?_)|(simp (config:={ maxSteps:=3000000 }) (disch:=omega) only [go_sem,Nat.reduceEqDiff,↓reduceIte,Nat.reduceAdd,Nat.reduceLT,Nat.reduceLeDiff,Int.reduceLT,Int.reduceLE,Int.reduceEq,Int.reduceNe,Int.reduceAdd,Int.reduceSub,Int.reduceMul,Int.reduceNeg,Int.reduceToNat]))|refine call_f (pickI _ _ (by omega) (by omega) (by omega) (by omega)) rfl ?_|refine callQ_f (pickI _ _ (by omega) (by omega) (by omega) (by omega)) rfl ?_|refine And.intro (by omega) ?_|refine And.intro (And.intro (by omega) (by omega)) ?_))
  refine Jc_if (fun hi2=>?_) (fun hi2=>?_)<;>try simp only [decide_eq_true_eq,decide_eq_false_iff_not,Bool.not_eq_true',Bool.not_eq_false',Bool.not_true,Bool.not_false,Int.ofNat_lt,Int.ofNat_le,Int.natCast_inj,Classical.not_not] at hi2
  ·have hur:u'∈List.range n:=List.mem_range.2 hpu
   have hvr:v'∈List.range n:=List.mem_range.2 hpv
   obtain ⟨most,hmo⟩:∃most,most=decide ((i:Int)=1):=⟨_,rfl⟩
   have o1:=out_w okB (by omega) (by omega) hur most
   have o2:=out_w okB (by omega) (by omega) hvr most
   have r1:=outT_row hB (v:=u') (by omega) hBR (by omega) most
   have r2:=outT_row hB (v:=v') (by omega) hBR (by omega) most
   have k1:=tbOk_c (hB.less (v:=u')) r1 outT_len
   have k2:=tbOk_c (hB.less (v:=v')) r2 outT_len
   have hsw:=fun h=>out_out (op:=opT most) (qs:=qb) hB (u:=u') (v:=v') (by omega) (by omega) h (opT_comm most) (opT_assoc most)
   obtain ⟨s1,hs1⟩:∃s1,s1=outT (opT most) Z (List.range n) u' qb:=⟨_,rfl⟩
   obtain ⟨s2,hs2⟩:∃s2,s2=outT (opT most) Z (List.range n) v' qb:=⟨_,rfl⟩
   rw [←hs1] at o1 r1 k1
   rw [←hs2] at o2 r2 k2
   rw [←hs1,←hs2] at hsw
   (repeat (first|(with_reducible first|refine W_seq fun K hK=>?_|refine J_block ?_|refine J_skip ?_|refine J_exit ?_|refine J_ret ?_|refine J_region ?_ |refine J_drawn mixed (by kernel_rfl) ?_|refine aApp_sl ?_|refine aApp_old ?_|refine J_c ?_|refine Jc_true ?_|refine Jc_false ?_|exact Frz.f _|(refine Kont.go (by assumption) ?_)|(simp (config:={ maxSteps:=3000000 }) (disch:=omega) only [go_sem,Nat.reduceEqDiff,↓reduceIte,Nat.reduceAdd,Nat.reduceLT,Nat.reduceLeDiff,Int.reduceLT,Int.reduceLE,Int.reduceEq,Int.reduceNe,Int.reduceAdd,Int.reduceSub,Int.reduceMul,Int.reduceNeg,Int.reduceToNat,←hmo]))|refine call_f (pickI _ _ (by omega) (by omega) (by omega) (by omega)) rfl ?_|refine callQ_f (pickI _ _ (by omega) (by omega) (by omega) (by omega)) rfl ?_|refine And.intro (by omega) ?_|refine And.intro (And.intro (by omega) (by omega)) ?_))
   (first|refine call_f (o1) rfl ?_|refine callQ_f (o1) rfl ?_|refine callHK_f (o1) rfl ?_|refine callH_f (o1) rfl ?_)
   (repeat (first|(with_reducible first|refine W_seq fun K hK=>?_|refine J_block ?_|refine J_skip ?_|refine J_exit ?_|refine J_ret ?_|refine J_region ?_ |refine J_drawn mixed (by kernel_rfl) ?_|refine aApp_sl ?_|refine aApp_old ?_|refine J_c ?_|refine Jc_true ?_|refine Jc_false ?_|exact Frz.f _|(refine Kont.go (by assumption) ?_)|(simp (config:={ maxSteps:=3000000 }) (disch:=omega) only [go_sem,Nat.reduceEqDiff,↓reduceIte,Nat.reduceAdd,Nat.reduceLT,Nat.reduceLeDiff,Int.reduceLT,Int.reduceLE,Int.reduceEq,Int.reduceNe,Int.reduceAdd,Int.reduceSub,Int.reduceMul,Int.reduceNeg,Int.reduceToNat]))|refine call_f (pickI _ _ (by omega) (by omega) (by omega) (by omega)) rfl ?_|refine callQ_f (pickI _ _ (by omega) (by omega) (by omega) (by omega)) rfl ?_|refine And.intro (by omega) ?_|refine And.intro (And.intro (by omega) (by omega)) ?_))
   (first|refine call_f (o2) rfl ?_|refine callQ_f (o2) rfl ?_|refine callHK_f (o2) rfl ?_|refine callH_f (o2) rfl ?_)
   (repeat (first|(with_reducible first|refine W_seq fun K hK=>?_|refine J_block ?_|refine J_skip ?_|refine J_exit ?_|refine J_ret ?_|refine J_region ?_ |refine J_drawn mixed (by kernel_rfl) ?_|refine aApp_sl ?_|refine aApp_old ?_|refine J_c ?_|refine Jc_true ?_|refine Jc_false ?_|exact Frz.f _|(refine Kont.go (by assumption) ?_)|(simp (config:={ maxSteps:=3000000 }) (disch:=omega) only [go_sem,Nat.reduceEqDiff,↓reduceIte,Nat.reduceAdd,Nat.reduceLT,Nat.reduceLeDiff,Int.reduceLT,Int.reduceLE,Int.reduceEq,Int.reduceNe,Int.reduceAdd,Int.reduceSub,Int.reduceMul,Int.reduceNeg,Int.reduceToNat]))|refine call_f (pickI _ _ (by omega) (by omega) (by omega) (by omega)) rfl ?_|refine callQ_f (pickI _ _ (by omega) (by omega) (by omega) (by omega)) rfl ?_|refine And.intro (by omega) ?_|refine And.intro (And.intro (by omega) (by omega)) ?_))
   by_cases huv:u'=v'
   ·have hn1:(v':Int)∉(lessT (List.range n) u').map Int.ofNat:=fun h=>by
     obtain ⟨a,ha,e⟩:=List.mem_map.1 h
     have e:(a:Int)=(v':Int):=e
     exact (mem_lessT.1 ha).2 (by omega)
    have hn2:(u':Int)∉(lessT (List.range n) v').map Int.ofNat:=fun h=>by
     obtain ⟨a,ha,e⟩:=List.mem_map.1 h
     have e:(a:Int)=(u':Int):=e
     exact (mem_lessT.1 ha).2 (by omega)
    have o3:=out0_w k1 hn1 most
    have o4:=out0_w k2 hn2 most
    have st:=sameTable0_w
    have hI:decide ((u':Int)=(v':Int))=true:=decide_eq_true (by omega)
    (first|refine call_f (o3) rfl ?_|refine callQ_f (o3) rfl ?_|refine callHK_f (o3) rfl ?_|refine callH_f (o3) rfl ?_)
    (repeat (first|(with_reducible first|refine W_seq fun K hK=>?_|refine J_block ?_|refine J_skip ?_|refine J_exit ?_|refine J_ret ?_|refine J_region ?_ |refine J_drawn mixed (by kernel_rfl) ?_|refine aApp_sl ?_|refine aApp_old ?_|refine J_c ?_|refine Jc_true ?_|refine Jc_false ?_|exact Frz.f _|(refine Kont.go (by assumption) ?_)|(simp (config:={ maxSteps:=3000000 }) (disch:=omega) only [go_sem,Nat.reduceEqDiff,↓reduceIte,Nat.reduceAdd,Nat.reduceLT,Nat.reduceLeDiff,Int.reduceLT,Int.reduceLE,Int.reduceEq,Int.reduceNe,Int.reduceAdd,Int.reduceSub,Int.reduceMul,Int.reduceNeg,Int.reduceToNat]))|refine call_f (pickI _ _ (by omega) (by omega) (by omega) (by omega)) rfl ?_|refine callQ_f (pickI _ _ (by omega) (by omega) (by omega) (by omega)) rfl ?_|refine And.intro (by omega) ?_|refine And.intro (And.intro (by omega) (by omega)) ?_))
    (first|refine call_f (o4) rfl ?_|refine callQ_f (o4) rfl ?_|refine callHK_f (o4) rfl ?_|refine callH_f (o4) rfl ?_)
    (repeat (first|(with_reducible first|refine W_seq fun K hK=>?_|refine J_block ?_|refine J_skip ?_|refine J_exit ?_|refine J_ret ?_|refine J_region ?_ |refine J_drawn mixed (by kernel_rfl) ?_|refine aApp_sl ?_|refine aApp_old ?_|refine J_c ?_|refine Jc_true ?_|refine Jc_false ?_|exact Frz.f _|(refine Kont.go (by assumption) ?_)|(simp (config:={ maxSteps:=3000000 }) (disch:=omega) only [go_sem,Nat.reduceEqDiff,↓reduceIte,Nat.reduceAdd,Nat.reduceLT,Nat.reduceLeDiff,Int.reduceLT,Int.reduceLE,Int.reduceEq,Int.reduceNe,Int.reduceAdd,Int.reduceSub,Int.reduceMul,Int.reduceNeg,Int.reduceToNat,hI,bin_neb hbu,beq_self_eq_true,Bool.not_true]))|refine call_f (pickI _ _ (by omega) (by omega) (by omega) (by omega)) rfl ?_|refine callQ_f (pickI _ _ (by omega) (by omega) (by omega) (by omega)) rfl ?_|refine And.intro (by omega) ?_|refine And.intro (And.intro (by omega) (by omega)) ?_))
    (first|refine call_f (st) rfl ?_|refine callQ_f (st) rfl ?_|refine callHK_f (st) rfl ?_|refine callH_f (st) rfl ?_)
    (repeat (first|(with_reducible first|refine W_seq fun K hK=>?_|refine J_block ?_|refine J_skip ?_|refine J_exit ?_|refine J_ret ?_|refine J_region ?_ |refine J_drawn mixed (by kernel_rfl) ?_|refine aApp_sl ?_|refine aApp_old ?_|refine J_c ?_|refine Jc_true ?_|refine Jc_false ?_|exact Frz.f _|(refine Kont.go (by assumption) ?_)|(simp (config:={ maxSteps:=3000000 }) (disch:=omega) only [go_sem,Nat.reduceEqDiff,↓reduceIte,Nat.reduceAdd,Nat.reduceLT,Nat.reduceLeDiff,Int.reduceLT,Int.reduceLE,Int.reduceEq,Int.reduceNe,Int.reduceAdd,Int.reduceSub,Int.reduceMul,Int.reduceNeg,Int.reduceToNat]))|refine call_f (pickI _ _ (by omega) (by omega) (by omega) (by omega)) rfl ?_|refine callQ_f (pickI _ _ (by omega) (by omega) (by omega) (by omega)) rfl ?_|refine And.intro (by omega) ?_|refine And.intro (And.intro (by omega) (by omega)) ?_))
    refine ⟨i+1,by omega,by omega,weak_of ?_ ?_⟩<;>(try simp (disch:=omega) only [go_sem,Nat.reduceAdd,Nat.reduceLT,Nat.reduceEqDiff])<;>(try first|done|omega|rfl|exact ⟨rfl,rfl⟩|trivial)
   ·have hI:¬(u':Int)=(v':Int):=by omega
    have o3:=out_w k1 (by omega) (by omega) (v:=v') (mem_lessT.2 ⟨hvr,Ne.symm huv⟩) most
    have o4:=out_w k2 (by omega) (by omega) (v:=u') (mem_lessT.2 ⟨hur,huv⟩) most
    rw [hsw huv,less_less] at o3
    have st:=sameTable_w (lessT (lessT (List.range n) v') u') (outT (opT most) Z (lessT (List.range n) v') u' s2) (by have:=(hB.less (v:=v')).less (v:=u') |>.len;omega) (by rw [outT_len];have:=((hB.less (v:=v')).less (v:=u')).cnt;omega)
    (first|refine call_f (o3) rfl ?_|refine callQ_f (o3) rfl ?_|refine callHK_f (o3) rfl ?_|refine callH_f (o3) rfl ?_)
    (repeat (first|(with_reducible first|refine W_seq fun K hK=>?_|refine J_block ?_|refine J_skip ?_|refine J_exit ?_|refine J_ret ?_|refine J_region ?_ |refine J_drawn mixed (by kernel_rfl) ?_|refine aApp_sl ?_|refine aApp_old ?_|refine J_c ?_|refine Jc_true ?_|refine Jc_false ?_|exact Frz.f _|(refine Kont.go (by assumption) ?_)|(simp (config:={ maxSteps:=3000000 }) (disch:=omega) only [go_sem,Nat.reduceEqDiff,↓reduceIte,Nat.reduceAdd,Nat.reduceLT,Nat.reduceLeDiff,Int.reduceLT,Int.reduceLE,Int.reduceEq,Int.reduceNe,Int.reduceAdd,Int.reduceSub,Int.reduceMul,Int.reduceNeg,Int.reduceToNat]))|refine call_f (pickI _ _ (by omega) (by omega) (by omega) (by omega)) rfl ?_|refine callQ_f (pickI _ _ (by omega) (by omega) (by omega) (by omega)) rfl ?_|refine And.intro (by omega) ?_|refine And.intro (And.intro (by omega) (by omega)) ?_))
    (first|refine call_f (o4) rfl ?_|refine callQ_f (o4) rfl ?_|refine callHK_f (o4) rfl ?_|refine callH_f (o4) rfl ?_)
    (repeat (first|(with_reducible first|refine W_seq fun K hK=>?_|refine J_block ?_|refine J_skip ?_|refine J_exit ?_|refine J_ret ?_|refine J_region ?_ |refine J_drawn mixed (by kernel_rfl) ?_|refine aApp_sl ?_|refine aApp_old ?_|refine J_c ?_|refine Jc_true ?_|refine Jc_false ?_|exact Frz.f _|(refine Kont.go (by assumption) ?_)|(simp (config:={ maxSteps:=3000000 }) (disch:=omega) only [go_sem,Nat.reduceEqDiff,↓reduceIte,Nat.reduceAdd,Nat.reduceLT,Nat.reduceLeDiff,Int.reduceLT,Int.reduceLE,Int.reduceEq,Int.reduceNe,Int.reduceAdd,Int.reduceSub,Int.reduceMul,Int.reduceNeg,Int.reduceToNat,hI,bin_neb hbu,beq_self_eq_true,Bool.not_true]))|refine call_f (pickI _ _ (by omega) (by omega) (by omega) (by omega)) rfl ?_|refine callQ_f (pickI _ _ (by omega) (by omega) (by omega) (by omega)) rfl ?_|refine And.intro (by omega) ?_|refine And.intro (And.intro (by omega) (by omega)) ?_))
    (first|refine call_f (st) rfl ?_|refine callQ_f (st) rfl ?_|refine callHK_f (st) rfl ?_|refine callH_f (st) rfl ?_)
    (repeat (first|(with_reducible first|refine W_seq fun K hK=>?_|refine J_block ?_|refine J_skip ?_|refine J_exit ?_|refine J_ret ?_|refine J_region ?_ |refine J_drawn mixed (by kernel_rfl) ?_|refine aApp_sl ?_|refine aApp_old ?_|refine J_c ?_|refine Jc_true ?_|refine Jc_false ?_|exact Frz.f _|(refine Kont.go (by assumption) ?_)|(simp (config:={ maxSteps:=3000000 }) (disch:=omega) only [go_sem,Nat.reduceEqDiff,↓reduceIte,Nat.reduceAdd,Nat.reduceLT,Nat.reduceLeDiff,Int.reduceLT,Int.reduceLE,Int.reduceEq,Int.reduceNe,Int.reduceAdd,Int.reduceSub,Int.reduceMul,Int.reduceNeg,Int.reduceToNat]))|refine call_f (pickI _ _ (by omega) (by omega) (by omega) (by omega)) rfl ?_|refine callQ_f (pickI _ _ (by omega) (by omega) (by omega) (by omega)) rfl ?_|refine And.intro (by omega) ?_|refine And.intro (And.intro (by omega) (by omega)) ?_))
    refine ⟨i+1,by omega,by omega,weak_of ?_ ?_⟩<;>(try simp (disch:=omega) only [go_sem,Nat.reduceAdd,Nat.reduceLT,Nat.reduceEqDiff])<;>(try first|done|omega|rfl|exact ⟨rfl,rfl⟩|trivial)
  ·have hvr:v'∈List.range n:=List.mem_range.2 hpv
   have hpr:=product_w okA okB (by omega) (by omega)
   have hpr2:=product_w okB okA (by omega) (by omega)
   rw [pro_comm,uniT_comm] at hpr2
   rw [hZl,uni_all hA_lt] at hpr hpr2
   have rp:=proT_row (Z:=Z) (la:=la) (lb:=List.range n) hAR hBR (by omega) (by omega)
   have lp:=proT_len (Z:=Z) (la:=la) (lb:=List.range n) (qa:=qa) (qb:=qb)
   rw [hZl,uni_all hA_lt] at lp
   have hpo:=pro_out (qa:=qa) (qb:=qb) (v:=v') hA hB (by omega) hva
   rw [hZl,uni_all hA_lt] at hpo
   have hlu:=less_uni (n:=n) (la:=la) (lb:=List.range n) (v:=v') hva
   rw [uni_all hA_lt] at hlu
   have okP:=tbOk_c hB rp lp
   have o5:=out_w okP (by omega) (by omega) hvr false
   have o6:=out_w okB (by omega) (by omega) hvr false
   have r6:=outT_row hB (v:=v') (by omega) hBR (by omega) false
   have k6:=tbOk_c (hB.less (v:=v')) r6 outT_len
   have e56:outT (opT false) Z (List.range n) v' (proT Z la (List.range n) qa qb)=proT Z la (lessT (List.range n) v') qa (outT (opT false) Z (List.range n) v' qb):=hpo
   have pr3:=product_w (okA.up (k:=36) (by omega)) k6 (by omega) (by omega)
   rw [←e56,hZl,←hlu] at pr3
   have l6:(outT (opT false) Z (List.range n) v' (proT Z la (List.range n) qa qb)).length≤65536:=by rw [outT_len];exact (hB.less (v:=v')).cnt
   have st1:=sameTable_w (lessT (List.range n) v') (outT (opT false) Z (List.range n) v' (proT Z la (List.range n) qa qb)) (by have:=(hB.less (v:=v')).len;omega) (by omega)
   have st2:=sameTable_w (List.range n) (proT Z la (List.range n) qa qb) (by rw [List.length_range];omega) (by rw [lp];omega)
   (repeat (first|(with_reducible first|refine W_seq fun K hK=>?_|refine J_block ?_|refine J_skip ?_|refine J_exit ?_|refine J_ret ?_|refine J_region ?_ |refine J_drawn mixed (by kernel_rfl) ?_|refine aApp_sl ?_|refine aApp_old ?_|refine J_c ?_|refine Jc_true ?_|refine Jc_false ?_|exact Frz.f _|(refine Kont.go (by assumption) ?_)|(simp (config:={ maxSteps:=3000000 }) (disch:=omega) only [go_sem,Nat.reduceEqDiff,↓reduceIte,Nat.reduceAdd,Nat.reduceLT,Nat.reduceLeDiff,Int.reduceLT,Int.reduceLE,Int.reduceEq,Int.reduceNe,Int.reduceAdd,Int.reduceSub,Int.reduceMul,Int.reduceNeg,Int.reduceToNat]))|refine call_f (pickI _ _ (by omega) (by omega) (by omega) (by omega)) rfl ?_|refine callQ_f (pickI _ _ (by omega) (by omega) (by omega) (by omega)) rfl ?_|refine And.intro (by omega) ?_|refine And.intro (And.intro (by omega) (by omega)) ?_))
   (first|refine call_f (hpr) rfl ?_|refine callQ_f (hpr) rfl ?_|refine callHK_f (hpr) rfl ?_|refine callH_f (hpr) rfl ?_)
   (repeat (first|(with_reducible first|refine W_seq fun K hK=>?_|refine J_block ?_|refine J_skip ?_|refine J_exit ?_|refine J_ret ?_|refine J_region ?_ |refine J_drawn mixed (by kernel_rfl) ?_|refine aApp_sl ?_|refine aApp_old ?_|refine J_c ?_|refine Jc_true ?_|refine Jc_false ?_|exact Frz.f _|(refine Kont.go (by assumption) ?_)|(simp (config:={ maxSteps:=3000000 }) (disch:=omega) only [go_sem,Nat.reduceEqDiff,↓reduceIte,Nat.reduceAdd,Nat.reduceLT,Nat.reduceLeDiff,Int.reduceLT,Int.reduceLE,Int.reduceEq,Int.reduceNe,Int.reduceAdd,Int.reduceSub,Int.reduceMul,Int.reduceNeg,Int.reduceToNat]))|refine call_f (pickI _ _ (by omega) (by omega) (by omega) (by omega)) rfl ?_|refine callQ_f (pickI _ _ (by omega) (by omega) (by omega) (by omega)) rfl ?_|refine And.intro (by omega) ?_|refine And.intro (And.intro (by omega) (by omega)) ?_))
   (first|refine call_f (o5) rfl ?_|refine callQ_f (o5) rfl ?_|refine callHK_f (o5) rfl ?_|refine callH_f (o5) rfl ?_)
   (repeat (first|(with_reducible first|refine W_seq fun K hK=>?_|refine J_block ?_|refine J_skip ?_|refine J_exit ?_|refine J_ret ?_|refine J_region ?_ |refine J_drawn mixed (by kernel_rfl) ?_|refine aApp_sl ?_|refine aApp_old ?_|refine J_c ?_|refine Jc_true ?_|refine Jc_false ?_|exact Frz.f _|(refine Kont.go (by assumption) ?_)|(simp (config:={ maxSteps:=3000000 }) (disch:=omega) only [go_sem,Nat.reduceEqDiff,↓reduceIte,Nat.reduceAdd,Nat.reduceLT,Nat.reduceLeDiff,Int.reduceLT,Int.reduceLE,Int.reduceEq,Int.reduceNe,Int.reduceAdd,Int.reduceSub,Int.reduceMul,Int.reduceNeg,Int.reduceToNat]))|refine call_f (pickI _ _ (by omega) (by omega) (by omega) (by omega)) rfl ?_|refine callQ_f (pickI _ _ (by omega) (by omega) (by omega) (by omega)) rfl ?_|refine And.intro (by omega) ?_|refine And.intro (And.intro (by omega) (by omega)) ?_))
   (first|refine call_f (o6) rfl ?_|refine callQ_f (o6) rfl ?_|refine callHK_f (o6) rfl ?_|refine callH_f (o6) rfl ?_)
   (repeat (first|(with_reducible first|refine W_seq fun K hK=>?_|refine J_block ?_|refine J_skip ?_|refine J_exit ?_|refine J_ret ?_|refine J_region ?_ |refine J_drawn mixed (by kernel_rfl) ?_|refine aApp_sl ?_|refine aApp_old ?_|refine J_c ?_|refine Jc_true ?_|refine Jc_false ?_|exact Frz.f _|(refine Kont.go (by assumption) ?_)|(simp (config:={ maxSteps:=3000000 }) (disch:=omega) only [go_sem,Nat.reduceEqDiff,↓reduceIte,Nat.reduceAdd,Nat.reduceLT,Nat.reduceLeDiff,Int.reduceLT,Int.reduceLE,Int.reduceEq,Int.reduceNe,Int.reduceAdd,Int.reduceSub,Int.reduceMul,Int.reduceNeg,Int.reduceToNat]))|refine call_f (pickI _ _ (by omega) (by omega) (by omega) (by omega)) rfl ?_|refine callQ_f (pickI _ _ (by omega) (by omega) (by omega) (by omega)) rfl ?_|refine And.intro (by omega) ?_|refine And.intro (And.intro (by omega) (by omega)) ?_))
   (first|refine call_f (pr3) rfl ?_|refine callQ_f (pr3) rfl ?_|refine callHK_f (pr3) rfl ?_|refine callH_f (pr3) rfl ?_)
   (repeat (first|(with_reducible first|refine W_seq fun K hK=>?_|refine J_block ?_|refine J_skip ?_|refine J_exit ?_|refine J_ret ?_|refine J_region ?_ |refine J_drawn mixed (by kernel_rfl) ?_|refine aApp_sl ?_|refine aApp_old ?_|refine J_c ?_|refine Jc_true ?_|refine Jc_false ?_|exact Frz.f _|(refine Kont.go (by assumption) ?_)|(simp (config:={ maxSteps:=3000000 }) (disch:=omega) only [go_sem,Nat.reduceEqDiff,↓reduceIte,Nat.reduceAdd,Nat.reduceLT,Nat.reduceLeDiff,Int.reduceLT,Int.reduceLE,Int.reduceEq,Int.reduceNe,Int.reduceAdd,Int.reduceSub,Int.reduceMul,Int.reduceNeg,Int.reduceToNat]))|refine call_f (pickI _ _ (by omega) (by omega) (by omega) (by omega)) rfl ?_|refine callQ_f (pickI _ _ (by omega) (by omega) (by omega) (by omega)) rfl ?_|refine And.intro (by omega) ?_|refine And.intro (And.intro (by omega) (by omega)) ?_))
   (first|refine call_f (hpr2) rfl ?_|refine callQ_f (hpr2) rfl ?_|refine callHK_f (hpr2) rfl ?_|refine callH_f (hpr2) rfl ?_)
   (repeat (first|(with_reducible first|refine W_seq fun K hK=>?_|refine J_block ?_|refine J_skip ?_|refine J_exit ?_|refine J_ret ?_|refine J_region ?_ |refine J_drawn mixed (by kernel_rfl) ?_|refine aApp_sl ?_|refine aApp_old ?_|refine J_c ?_|refine Jc_true ?_|refine Jc_false ?_|exact Frz.f _|(refine Kont.go (by assumption) ?_)|(simp (config:={ maxSteps:=3000000 }) (disch:=omega) only [go_sem,Nat.reduceEqDiff,↓reduceIte,Nat.reduceAdd,Nat.reduceLT,Nat.reduceLeDiff,Int.reduceLT,Int.reduceLE,Int.reduceEq,Int.reduceNe,Int.reduceAdd,Int.reduceSub,Int.reduceMul,Int.reduceNeg,Int.reduceToNat]))|refine call_f (pickI _ _ (by omega) (by omega) (by omega) (by omega)) rfl ?_|refine callQ_f (pickI _ _ (by omega) (by omega) (by omega) (by omega)) rfl ?_|refine And.intro (by omega) ?_|refine And.intro (And.intro (by omega) (by omega)) ?_))
   (first|refine call_f (hpr) rfl ?_|refine callQ_f (hpr) rfl ?_|refine callHK_f (hpr) rfl ?_|refine callH_f (hpr) rfl ?_)
   (repeat (first|(with_reducible first|refine W_seq fun K hK=>?_|refine J_block ?_|refine J_skip ?_|refine J_exit ?_|refine J_ret ?_|refine J_region ?_ |refine J_drawn mixed (by kernel_rfl) ?_|refine aApp_sl ?_|refine aApp_old ?_|refine J_c ?_|refine Jc_true ?_|refine Jc_false ?_|exact Frz.f _|(refine Kont.go (by assumption) ?_)|(simp (config:={ maxSteps:=3000000 }) (disch:=omega) only [go_sem,Nat.reduceEqDiff,↓reduceIte,Nat.reduceAdd,Nat.reduceLT,Nat.reduceLeDiff,Int.reduceLT,Int.reduceLE,Int.reduceEq,Int.reduceNe,Int.reduceAdd,Int.reduceSub,Int.reduceMul,Int.reduceNeg,Int.reduceToNat]))|refine call_f (pickI _ _ (by omega) (by omega) (by omega) (by omega)) rfl ?_|refine callQ_f (pickI _ _ (by omega) (by omega) (by omega) (by omega)) rfl ?_|refine And.intro (by omega) ?_|refine And.intro (And.intro (by omega) (by omega)) ?_))
   (first|refine call_f (st1) rfl ?_|refine callQ_f (st1) rfl ?_|refine callHK_f (st1) rfl ?_|refine callH_f (st1) rfl ?_)
   (repeat (first|(with_reducible first|refine W_seq fun K hK=>?_|refine J_block ?_|refine J_skip ?_|refine J_exit ?_|refine J_ret ?_|refine J_region ?_ |refine J_drawn mixed (by kernel_rfl) ?_|refine aApp_sl ?_|refine aApp_old ?_|refine J_c ?_|refine Jc_true ?_|refine Jc_false ?_|exact Frz.f _|(refine Kont.go (by assumption) ?_)|(simp (config:={ maxSteps:=3000000 }) (disch:=omega) only [go_sem,Nat.reduceEqDiff,↓reduceIte,Nat.reduceAdd,Nat.reduceLT,Nat.reduceLeDiff,Int.reduceLT,Int.reduceLE,Int.reduceEq,Int.reduceNe,Int.reduceAdd,Int.reduceSub,Int.reduceMul,Int.reduceNeg,Int.reduceToNat]))|refine call_f (pickI _ _ (by omega) (by omega) (by omega) (by omega)) rfl ?_|refine callQ_f (pickI _ _ (by omega) (by omega) (by omega) (by omega)) rfl ?_|refine And.intro (by omega) ?_|refine And.intro (And.intro (by omega) (by omega)) ?_))
   (first|refine call_f (st2) rfl ?_|refine callQ_f (st2) rfl ?_|refine callHK_f (st2) rfl ?_|refine callH_f (st2) rfl ?_)
   (repeat (first|(with_reducible first|refine W_seq fun K hK=>?_|refine J_block ?_|refine J_skip ?_|refine J_exit ?_|refine J_ret ?_|refine J_region ?_ |refine J_drawn mixed (by kernel_rfl) ?_|refine aApp_sl ?_|refine aApp_old ?_|refine J_c ?_|refine Jc_true ?_|refine Jc_false ?_|exact Frz.f _|(refine Kont.go (by assumption) ?_)|(simp (config:={ maxSteps:=3000000 }) (disch:=omega) only [go_sem,Nat.reduceEqDiff,↓reduceIte,Nat.reduceAdd,Nat.reduceLT,Nat.reduceLeDiff,Int.reduceLT,Int.reduceLE,Int.reduceEq,Int.reduceNe,Int.reduceAdd,Int.reduceSub,Int.reduceMul,Int.reduceNeg,Int.reduceToNat]))|refine call_f (pickI _ _ (by omega) (by omega) (by omega) (by omega)) rfl ?_|refine callQ_f (pickI _ _ (by omega) (by omega) (by omega) (by omega)) rfl ?_|refine And.intro (by omega) ?_|refine And.intro (And.intro (by omega) (by omega)) ?_))
end Go.Proofs.YtmcgeppgfjlclaaGreatDoor
set_option linter.unusedVariables false
set_option linter.unusedSimpArgs false
namespace Go.Proofs.YtmcgeppgfjlclaaGreatDoor
open Go
theorem goes_none {P:Program} (h:P.funcs.any Func.goes=false) (f:FuncId):P.goes f=false:=by
 have hx:∀g:FuncId,(P.funcs[g]?).any Func.goes=false:=fun g=>by
  cases hg:P.funcs[g]? with
  | none=>rfl
  | some fn =>
   show Func.goes fn=false
   cases hf:Func.goes fn with
   | false=>rfl
   | true =>
    have hm:fn∈P.funcs:=Array.mem_of_getElem? hg
    have:P.funcs.any Func.goes=true:=Array.any_eq_true'.2 ⟨fn,hm,hf⟩
    rw [h] at this;cases this
 unfold Program.goes
 rw [h,Bool.and_false,Bool.or_false,List.any_eq_false]
 intro g _
 rw [hx g]
 decide
theorem goesBy_none {P:Program} {c:OpenClaim} (h:P.funcs.any Func.goes=false) (hs:c.start=.entering):false=c.goesBy P:=by
 unfold OpenClaim.goesBy Program.goesAt Program.goesFrom
 rw [hs]
 cases P.funcNamed c.func with
 | none=>rfl
 | some f=>show false=(P.goes f||false);rw [goes_none h];rfl
end Go.Proofs.YtmcgeppgfjlclaaGreatDoor
