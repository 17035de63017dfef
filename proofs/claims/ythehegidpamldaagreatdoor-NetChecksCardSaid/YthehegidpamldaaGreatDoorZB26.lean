/- Nets: Joint, the program's and the document's: walked. Conditions: what slices may hold; numbers of at most 10^7 bytes. -/
import Derived.Test.YthehegidpamldaaGreatDoorZB21
import Derived.Test.YthehegidpamldaaGreatDoorZB24
import Derived.Test.YthehegidpamldaaGreatDoorZB23
import Derived.Test.YthehegidpamldaaGreatDoorZB22
import Derived.Test.YthehegidpamldaaGreatDoorZB14
import Derived.Test.YthehegidpamldaaGreatDoorZB12
set_option linter.unusedVariables false
set_option linter.unusedSimpArgs false
namespace Go.Proofs.YthehegidpamldaaGreatDoor
open Go Go.RowKit
def jntF (V:List VarD) (P:List (List Int)) (M:List (List Rat)) (a:Nat→Nat):Nat→Rat
 | 0=>((1:Int):Rat)
 | i+1=>jntF V P M a i*rowG (szN V) (paN P i) i (M.getD i []) a
def jntE (Z:List Nat) (at_:List Int):Int:=if at_.length≠Z.length then 8 else if atB Z (List.range Z.length) at_=true then 0 else 12
section
variable {k : Nat} {V : List VarD} {P : List (List Int)} {RR : List FV} {M : List (List Rat)} {at_ : List Int}
theorem jntF_fz (h:NetOk k V P RR M) {a:Nat→Nat} (hr:∀i,i<V.length→Fz (rowG (szN V) (paN P i) i (M.getD i []) a) k):∀{i:Nat},i≤V.length→Fz (jntF V P M a i) (8+i*k):=by
 intro i
 induction i with
 | zero=>intro _;have h1:Fz ((1:Int):Rat) 8:=(IsFr.int (by omega) (by omega)).fz (by omega);rw [Nat.zero_mul,Nat.add_zero];exact h1
 | succ i ih =>
  intro hi
  have h1:=(ih (by omega)).mul (hr i (by omega))
  show Fz (jntF V P M a i*_) _
  rw [Nat.succ_mul,←Nat.add_assoc]
  exact h1
theorem jntF_zero {a:Nat→Nat} {i n:Nat} (h:rowG (szN V) (paN P i) i (M.getD i []) a=0) (hi:i<n):jntF V P M a n=0:=by
 induction n with
 | zero=>omega
 | succ n ih =>
  show jntF V P M a n*_=0
  by_cases e:i=n
  ·subst e;rw [h,Rat.mul_zero]
  ·rw [ih (by omega),Rat.zero_mul]
theorem net_okR (he:netE (ordE P) V P M=0):OkT (szN V) (List.range (szN V).length):=by
 obtain ⟨⟨hP,_⟩,hE,_,_,_⟩:=netE_zero he
 obtain ⟨⟨h1,_⟩,_⟩:=listsB_iff.1 (ordE_lists hE)
 have hT:=(netG he (v:=0) (by omega)).ok
 exact hT.sub List.pairwise_lt_range fun v hv=>List.mem_range.1 hv
theorem atB_nat {Z:List Nat} (hl:at_.length=Z.length) (h:atB Z (List.range Z.length) at_=true):∃A:List Nat,at_=A.map Int.ofNat∧A.length=Z.length∧∀u,u<Z.length→A.getD u 0<szT Z u:=by
 have hb:=atB_iff.1 h
 have hg:∀u,u<Z.length→(List.range Z.length).getD u 0=u:=fun u hu=>by rw [lget_lt _ 0 (by rw [List.length_range];exact hu),List.getElem_range]
 have hnn:∀x∈at_,0≤x:=fun x hx=>by
  obtain ⟨i,hi,rfl⟩:=List.getElem_of_mem hx
  have:=(hb i (by rw [List.length_range];omega)).1
  rwa [lget_lt at_ 0 hi] at this
 refine ⟨at_.map Int.toNat,(natOf hnn).symm,by rw [List.length_map];exact hl,fun u hu=>?_⟩
 have h1:=hb u (by rw [List.length_range];exact hu)
 rw [hg u hu,lget_lt at_ 0 (by omega)] at h1
 rw [lget_lt _ 0 (by rw [List.length_map];omega),List.getElem_map]
 omega
theorem range_map {n:Nat}:(List.range n).map (fun j:Nat=>I (j:Int))=Ns (List.range n):=by unfold Ns;rfl
set_option maxRecDepth 100000 in
theorem jointE_w (h:NetOk k V P RR M) (he:netE (ordE P) V P M≠0):Good Tryz.prog 11 [netV V (P.map ints) RR,ints at_] (.tup [frN,I (netE (ordE P) V P M)]):=by
 have hc:=netCheck_w h
 refine good_of Tryz.func11 rfl (by kernel_rfl) fun X hO hrd=>?_;rw [Tryz.ntmps11,Tryz.results11];simp only [ast0,List.map_cons,List.map_nil,List.length_cons,List.length_nil,Nat.reduceAdd,Nat.reduceSub,List.replicate_succ,List.replicate_zero,List.cons_append,List.nil_append]
 (repeat (with_reducible first|refine W_seq fun K hK=>?_|refine J_region ?_ |(refine Kont.go (by assumption) ?_)|(simp (config:={ maxSteps:=3000000 }) (disch:=omega) only [go_sem,↓reduceIte,Nat.reduceAdd])))
 (first|refine call_f (hc) rfl ?_|refine callQ_f (hc) rfl ?_|refine callHK_f (hc) rfl ?_|refine callH_f (hc) rfl ?_)
 (repeat (with_reducible first|refine W_seq fun K hK=>?_|refine J_ret ?_|refine J_region ?_ |refine J_c ?_|refine Jc_true ?_|(refine Kont.go (by assumption) ?_)|(simp (config:={ maxSteps:=3000000 }) (disch:=omega) only [go_sem,↓reduceIte,Nat.reduceAdd,he])))
 exact ⟨_,rfl,FrzL.fs [_,_]⟩
set_option maxRecDepth 100000 in
theorem rjointE_w (h:NetOk k V P RR M) (he:netE (ordE P) V P M≠0):Good Tryz.prog 12 [netV V (P.map ints) RR,ints at_] (.tup [frN,I (netE (ordE P) V P M)]):=by
 have hc:=rnetCheck_w h
 refine good_of Tryz.func12 rfl (by kernel_rfl) fun X hO hrd=>?_;rw [Tryz.ntmps12,Tryz.results12];simp only [ast0,List.map_cons,List.map_nil,List.length_cons,List.length_nil,Nat.reduceAdd,Nat.reduceSub,List.replicate_succ,List.replicate_zero,List.cons_append,List.nil_append]
 (repeat (with_reducible first|refine W_seq fun K hK=>?_|refine J_region ?_ |(refine Kont.go (by assumption) ?_)|(simp (config:={ maxSteps:=3000000 }) (disch:=omega) only [go_sem,↓reduceIte,Nat.reduceAdd])))
 (first|refine call_f (hc) rfl ?_|refine callQ_f (hc) rfl ?_|refine callHK_f (hc) rfl ?_|refine callH_f (hc) rfl ?_)
 (repeat (with_reducible first|refine W_seq fun K hK=>?_|refine J_ret ?_|refine J_region ?_ |refine J_c ?_|refine Jc_true ?_|(refine Kont.go (by assumption) ?_)|(simp (config:={ maxSteps:=3000000 }) (disch:=omega) only [go_sem,↓reduceIte,Nat.reduceAdd,he])))
 exact ⟨_,rfl,FrzL.fs [_,_]⟩
theorem jnt_get {A:List Nat} {u:Nat}:(((A.map Int.ofNat).getD u 0).toNat)=A.getD u 0:=by
 by_cases h:u<A.length
 ·rw [lget_lt _ 0 (by rw [List.length_map];exact h),List.getElem_map,lget_lt A 0 h];rfl
 ·rw [List.getD_eq_getElem?_getD,List.getElem?_eq_none (by rw [List.length_map];omega),List.getD_eq_getElem?_getD,List.getElem?_eq_none (by omega)];rfl
set_option maxRecDepth 100000 in
set_option maxHeartbeats 8000000 in
theorem jointX_w (h:NetOk k V P RR M) (he:netE (ordE P) V P M=0) (hat:at_.length≤140737488355328) (hx:jntE (szN V) at_≠0):Good Tryz.prog 11 [netV V (P.map ints) RR,ints at_] (.tup [frN,I (jntE (szN V) at_)]):=by
 have hc:=netCheck_w h
 rw [he] at hc
 have hV:=h.lV
 have hsz:=sizes_w V (P.map ints) RR hV
 have hR:=net_okR he
 have hZl:(szN V).length=V.length:=szN_len
 have hz8:=hR.z8
 have hix:Good Tryz.prog 45 [.fz 1 (Ns (szN V)),.fz 1 (Ns (List.range V.length)),ints at_] (.tup [I 0,I (jntE (szN V) at_)]):=by
  have h1:=index_w at_ hR hat
  rw [List.length_range] at h1
  unfold jntE at hx ⊢
  by_cases hl:at_.length≠(szN V).length
  ·rw [if_pos hl] at h1 ⊢
   rw [hZl] at h1;exact h1
  ·rw [if_neg hl] at h1 hx ⊢
   by_cases hb:atB (szN V) (List.range (szN V).length) at_=true
   ·rw [if_pos hb] at hx;exact absurd rfl hx
   ·rw [if_neg hb] at h1 ⊢
    rw [hZl] at h1;exact h1
 have hNl:(Ns (szN V)).length=V.length:=by rw [Ns_len,hZl]
 have hz1:List.replicate V.length (AV.f (.v (.int .i64 0)))=(fillL V.length 0 (fun j:Nat=>I (j:Int)) (I 0)).map .f:=by rw [fill_zero,List.map_replicate]
 have hby:(8:Int)*(V.length:Int)≤281474976710656:=by omega
 generalize jntE (szN V) at_=e at *
 have hxe:=hx
 refine good_of Tryz.func11 rfl (by kernel_rfl) fun X hO hrd=>?_;rw [Tryz.ntmps11,Tryz.results11];simp only [ast0,List.map_cons,List.map_nil,List.length_cons,List.length_nil,Nat.reduceAdd,Nat.reduceSub,List.replicate_succ,List.replicate_zero,List.cons_append,List.nil_append]
 (repeat (with_reducible first|refine W_seq fun K hK=>?_|refine J_region ?_ |(refine Kont.go (by assumption) ?_)|(simp (config:={ maxSteps:=3000000 }) (disch:=omega) only [go_sem,↓reduceIte,Nat.reduceAdd])))
 (first|refine call_f (hc) rfl ?_|refine callQ_f (hc) rfl ?_|refine callHK_f (hc) rfl ?_|refine callH_f (hc) rfl ?_)
 (repeat (with_reducible first|refine W_seq fun K hK=>?_|refine J_skip ?_|refine J_region ?_ |refine J_c ?_|refine Jc_false ?_|(refine Kont.go (by assumption) ?_)|(simp (config:={ maxSteps:=3000000 }) (disch:=omega) only [go_sem,↓reduceIte,Nat.reduceAdd])))
 (first|refine call_f (hsz) rfl ?_|refine callQ_f (hsz) rfl ?_|refine callHK_f (hsz) rfl ?_|refine callH_f (hsz) rfl ?_)
 (repeat (first|(with_reducible first|refine W_seq fun K hK=>?_|refine J_block ?_|refine J_region ?_ |(refine Kont.go (by assumption) ?_)|(simp (config:={ maxSteps:=3000000 }) (disch:=omega) only [go_sem,Nat.reduceAdd,hNl,hz1]))|refine And.intro (by omega) ?_))
 refine W_loop [9,27,28,29,30,31,32,33,34] (fun x:Nat=>[(27,.f (I x))]) (fun x:Nat=>[oNt (V.map varF) (P.map ints) RR,oF frN,some ⟨3,1,(fillL V.length x (fun j:Nat=>I (j:Int)) (I 0)).map .f⟩]) (fun x:Nat=>x≤V.length) (fun x:Nat=>V.length-x) (0) (Nat.zero_le _) (by refine weak_of ?_ ?_<;>simp (disch:=omega) only [go_sem,Nat.reduceAdd]<;>first|rfl|exact ⟨rfl,rfl⟩|exact Or.inl rfl|exact ⟨Or.inl rfl,Or.inl rfl⟩|trivial|assumption|omega|(symm;assumption)|((repeat' apply And.intro)<;>first|rfl|omega|trivial|exact .inl rfl|exact .inr ⟨rfl,rfl⟩|exact .inr rfl|(right;symm;assumption)|(symm;assumption)|assumption)) ?_
 rintro x hx
 simp only [go_sem]
 (repeat (with_reducible first|refine W_seq fun K hK=>?_|refine J_region ?_ |refine J_c ?_|(refine Kont.go (by assumption) ?_)|(simp (config:={ maxSteps:=3000000 }) (disch:=omega) only [go_sem])))
 refine Jc_if (fun hxl=>?_) (fun hxl=>?_)<;>try simp only [decide_eq_true_eq,decide_eq_false_iff_not] at hxl
 ·have hst:((fillL V.length x (fun j:Nat=>I (j:Int)) (I 0)).map AV.f).set x (.f (I (x:Int)))=(fillL V.length (x+1) (fun j:Nat=>I (j:Int)) (I 0)).map .f:=fillA_set hxl rfl
  have hge:((fillL V.length x (fun j:Nat=>I (j:Int)) (I 0)).map AV.f)[x]?=some (.f (I 0)):=by rw [fillA_get hxl,if_neg (Nat.lt_irrefl _)]
  (repeat (first|(with_reducible first|refine W_seq fun K hK=>?_|refine J_block ?_|refine J_skip ?_|refine J_region ?_ |(refine Kont.go (by assumption) ?_)|(simp (config:={ maxSteps:=3000000 }) (disch:=omega) only [go_sem,↓reduceIte,hst,hge]))|refine And.intro (by omega) ?_))
  refine ⟨x+1,by omega,by omega,weak_of ?_ ?_⟩<;>(try simp (disch:=omega) only [go_sem,Nat.reduceAdd])<;>(try first|done|omega|rfl|exact ⟨rfl,rfl⟩|trivial)
 ·have hex:x=V.length:=by omega
  subst hex
  have hfa:fillL V.length V.length (fun j:Nat=>I (j:Int)) (I 0)=Ns (List.range V.length):=by rw [fill_all];exact range_map
  rw [hfa]
  (repeat (with_reducible first|refine W_seq fun K hK=>?_|refine J_exit ?_|(refine Kont.go (by assumption) ?_)|(simp (config:={ maxSteps:=3000000 }) (disch:=omega) only [go_sem,↓reduceIte])))
  have hrl:V.length=(Ns (List.range V.length)).length:=by rw [Ns_len,List.length_range]
  refine J_freezeO (j:=8) rfl (by first|exact hrl|exact hrl.symm) rfl ?_
  (repeat (with_reducible first|refine J_region ?_ |(simp (config:={ maxSteps:=3000000 }) (disch:=omega) only [go_sem,Nat.reduceEqDiff,↓reduceIte])))
  (first|refine call_f (hix) rfl ?_|refine callQ_f (hix) rfl ?_|refine callHK_f (hix) rfl ?_|refine callH_f (hix) rfl ?_)
  (repeat (with_reducible first|refine W_seq fun K hK=>?_|refine J_ret ?_|refine J_region ?_ |refine J_c ?_|refine Jc_true ?_|(refine Kont.go (by assumption) ?_)|(simp (config:={ maxSteps:=3000000 }) (disch:=omega) only [go_sem,↓reduceIte,Nat.reduceAdd,hxe])))
  exact ⟨_,rfl,FrzL.fs [_,_]⟩
set_option maxRecDepth 100000 in
set_option maxHeartbeats 8000000 in
theorem joint_w (h:NetOk k V P RR M) (he:netE (ordE P) V P M=0) (hx:jntE (szN V) at_=0):Good Tryz.prog 11 [netV V (P.map ints) RR,ints at_] (.tup [fr (jntF V P M (fun u=>(at_.getD u 0).toNat) V.length),I 0]):=by
 have hc:=netCheck_w h
 rw [he] at hc
 have hV:=h.lV
 have hsz:=sizes_w V (P.map ints) RR hV
 have hR:=net_okR he
 have hZl:(szN V).length=V.length:=szN_len
 have hz8:=hR.z8
 unfold jntE at hx
 by_cases hl:at_.length≠(szN V).length
 ·rw [if_pos hl] at hx;exact absurd hx (by decide)
 rw [if_neg hl] at hx
 by_cases hb:atB (szN V) (List.range (szN V).length) at_=true
 rotate_left
 ·rw [if_neg hb] at hx;exact absurd hx (by decide)
 have hix:=index_w at_ hR (by omega)
 rw [List.length_range,if_neg hl,if_pos hb,hZl] at hix
 obtain ⟨A,rfl,hAl,hAz⟩:=atB_nat (Decidable.not_not.1 hl) hb
 simp only [jnt_get]
 rw [ints_Ns] at hix ⊢
 have hNl:(Ns (szN V)).length=V.length:=by rw [Ns_len,hZl]
 have hz1:List.replicate V.length (AV.f (.v (.int .i64 0)))=(fillL V.length 0 (fun j:Nat=>I (j:Int)) (I 0)).map .f:=by rw [fill_zero,List.map_replicate]
 have hby:(8:Int)*(V.length:Int)≤281474976710656:=by omega
 generalize horT (szN V) (List.range V.length) (A.map Int.ofNat) V.length=hor at hix
 have hra:∀i,i<V.length→∃(idx:Nat) (xs:List FV) (g:Bool) (n d:ByteArray),RR[i]?=some (.fz 3 xs)∧idx<xs.length∧xs[idx]?=some (frR g n d)∧IsFr (frR g n d) (rowG (szN V) (paN P i) i (M.getD i []) fun u=>A.getD u 0) k ∧
   Good Tryz.prog 40 [netV V (P.map ints) RR,I (i:Int),.fz 1 (Ns (List.range V.length)),.fz 1 (Ns A)] (I (idx:Int)):=fun i hi=>by
  have hG:=netG he hi
  obtain ⟨xs,hr,hq⟩:=h.hM.at hG.ml
  have hql:=hG.len
  rw [lget_lt M [] hG.ml] at hql ⊢
  have ia:=row_lt (Z:=szN V) (pa:=paN P i) (v:=i) (a:=fun u=>A.getD u 0) (fun w hw=>hAz w (hG.ok.lt w hw)) (hAz i (by omega))
  rw [←hql] at ia
  obtain ⟨g,n,d,x1,f1⟩:=hq.at3 ia
  have hsp:=spot_w (PP:=P.map ints) (RR:=RR) (A:=A) (a:=fun u=>A.getD u 0) hV hG.ok hR hi hG.get (List.mem_range.2 (by omega)) (fun w hw=>List.mem_range.2 (hG.ok.lt w hw)) (by rw [List.length_range];exact hAl) (fun j hj=>by
   rw [List.length_range] at hj
   rw [lget_lt (List.range _) 0 (by rw [List.length_range];exact hj),List.getElem_range]) (fun w hw=>hAz w (List.mem_range.1 hw))
  rw [hZl] at hsp
  unfold rowG
  rw [lget_lt _ 0 ia]
  exact ⟨_,xs,g,n,d,hr,by rw [hq.len];exact ia,x1,f1,hsp⟩
 have hfz:∀{i:Nat},i≤V.length→Fz (jntF V P M (fun u=>A.getD u 0) i) (8+i*k):=jntF_fz h (a:=fun u=>A.getD u 0) (fun i hi=>by
  obtain ⟨_,_,_,_,_,_,_,_,f1,_⟩:=hra i hi
  exact f1.fz h.k1)
 have hkk:=h.kk
 have hb9:∀i,i≤V.length→8+i*k≤34359738368:=fun i hi=>by
  have:=Nat.mul_le_mul (show i≤8 by omega) hkk
  omega
 refine good_of Tryz.func11 rfl (by kernel_rfl) fun X hO hrd=>?_;rw [Tryz.ntmps11,Tryz.results11];simp only [ast0,List.map_cons,List.map_nil,List.length_cons,List.length_nil,Nat.reduceAdd,Nat.reduceSub,List.replicate_succ,List.replicate_zero,List.cons_append,List.nil_append]
 (repeat (with_reducible first|refine W_seq fun K hK=>?_|refine J_region ?_ |(refine Kont.go (by assumption) ?_)|(simp (config:={ maxSteps:=3000000 }) (disch:=omega) only [go_sem,↓reduceIte,Nat.reduceAdd])))
 (first|refine call_f (hc) rfl ?_|refine callQ_f (hc) rfl ?_|refine callHK_f (hc) rfl ?_|refine callH_f (hc) rfl ?_)
 (repeat (with_reducible first|refine W_seq fun K hK=>?_|refine J_skip ?_|refine J_region ?_ |refine J_c ?_|refine Jc_false ?_|(refine Kont.go (by assumption) ?_)|(simp (config:={ maxSteps:=3000000 }) (disch:=omega) only [go_sem,↓reduceIte,Nat.reduceAdd])))
 (first|refine call_f (hsz) rfl ?_|refine callQ_f (hsz) rfl ?_|refine callHK_f (hsz) rfl ?_|refine callH_f (hsz) rfl ?_)
 (repeat (first|(with_reducible first|refine W_seq fun K hK=>?_|refine J_block ?_|refine J_region ?_ |(refine Kont.go (by assumption) ?_)|(simp (config:={ maxSteps:=3000000 }) (disch:=omega) only [go_sem,Nat.reduceAdd,hNl,hz1]))|refine And.intro (by omega) ?_))
 refine W_loop [9,27,28,29,30,31,32,33,34] (fun x:Nat=>[(27,.f (I x))]) (fun x:Nat=>[oNt (V.map varF) (P.map ints) RR,oF frN,some ⟨3,1,(fillL V.length x (fun j:Nat=>I (j:Int)) (I 0)).map .f⟩]) (fun x:Nat=>x≤V.length) (fun x:Nat=>V.length-x) (0) (Nat.zero_le _) (by refine weak_of ?_ ?_<;>simp (disch:=omega) only [go_sem,Nat.reduceAdd]<;>first|rfl|exact ⟨rfl,rfl⟩|exact Or.inl rfl|exact ⟨Or.inl rfl,Or.inl rfl⟩|trivial|assumption|omega|(symm;assumption)|((repeat' apply And.intro)<;>first|rfl|omega|trivial|exact .inl rfl|exact .inr ⟨rfl,rfl⟩|exact .inr rfl|(right;symm;assumption)|(symm;assumption)|assumption)) ?_
 rintro x hx
 simp only [go_sem]
 (repeat (with_reducible first|refine W_seq fun K hK=>?_|refine J_region ?_ |refine J_c ?_|(refine Kont.go (by assumption) ?_)|(simp (config:={ maxSteps:=3000000 }) (disch:=omega) only [go_sem])))
 refine Jc_if (fun hxl=>?_) (fun hxl=>?_)<;>try simp only [decide_eq_true_eq,decide_eq_false_iff_not] at hxl
 ·have hst:((fillL V.length x (fun j:Nat=>I (j:Int)) (I 0)).map AV.f).set x (.f (I (x:Int)))=(fillL V.length (x+1) (fun j:Nat=>I (j:Int)) (I 0)).map .f:=fillA_set hxl rfl
  have hge:((fillL V.length x (fun j:Nat=>I (j:Int)) (I 0)).map AV.f)[x]?=some (.f (I 0)):=by rw [fillA_get hxl,if_neg (Nat.lt_irrefl _)]
  (repeat (first|(with_reducible first|refine W_seq fun K hK=>?_|refine J_block ?_|refine J_skip ?_|refine J_region ?_ |(refine Kont.go (by assumption) ?_)|(simp (config:={ maxSteps:=3000000 }) (disch:=omega) only [go_sem,↓reduceIte,hst,hge]))|refine And.intro (by omega) ?_))
  refine ⟨x+1,by omega,by omega,weak_of ?_ ?_⟩<;>(try simp (disch:=omega) only [go_sem,Nat.reduceAdd])<;>(try first|done|omega|rfl|exact ⟨rfl,rfl⟩|trivial)
 ·have hex:x=V.length:=by omega
  subst hex
  have hfa:fillL V.length V.length (fun j:Nat=>I (j:Int)) (I 0)=Ns (List.range V.length):=by rw [fill_all];exact range_map
  rw [hfa]
  (repeat (with_reducible first|refine W_seq fun K hK=>?_|refine J_exit ?_|(refine Kont.go (by assumption) ?_)|(simp (config:={ maxSteps:=3000000 }) (disch:=omega) only [go_sem,↓reduceIte])))
  have hrl:V.length=(Ns (List.range V.length)).length:=by rw [Ns_len,List.length_range]
  refine J_freezeO (j:=8) rfl (by first|exact hrl|exact hrl.symm) rfl ?_
  (repeat (with_reducible first|refine J_region ?_ |(simp (config:={ maxSteps:=3000000 }) (disch:=omega) only [go_sem,Nat.reduceEqDiff,↓reduceIte])))
  (first|refine call_f (hix) rfl ?_|refine callQ_f (hix) rfl ?_|refine callHK_f (hix) rfl ?_|refine callH_f (hix) rfl ?_)
  (repeat (first|(with_reducible first|refine W_seq fun K hK=>?_|refine J_block ?_|refine J_skip ?_|refine J_region ?_ |refine J_c ?_|refine Jc_false ?_|(refine Kont.go (by assumption) ?_)|(simp (config:={ maxSteps:=3000000 }) (disch:=omega) only [go_sem,↓reduceIte,Nat.reduceAdd,Ns_len,List.length_range]))|refine call_f (of_good (by omega) (by omega)) rfl ?_))
  have hj0:fr ((1:Int):Rat)=fr (jntF V P M (fun u=>A.getD u 0) 0):=rfl
  rw [hj0]
  refine W_loop [13,49,50,51,52,53,54,55,56,57,58,59,60,61,62,63,64,65,66] (fun y:Nat=>[(49,.f (I y))]) (fun y:Nat=>[oNt (V.map varF) (P.map ints) RR,oF frN,none,oF (fr (jntF V P M (fun u=>A.getD u 0) y))]) (fun y:Nat=>y≤V.length) (fun y:Nat=>V.length-y) (0) (Nat.zero_le _) (by refine weak_of ?_ ?_<;>simp (disch:=omega) only [go_sem,Nat.reduceAdd]<;>first|rfl|exact ⟨rfl,rfl⟩|exact Or.inl rfl|exact ⟨Or.inl rfl,Or.inl rfl⟩|trivial|assumption|omega|(symm;assumption)|((repeat' apply And.intro)<;>first|rfl|omega|trivial|exact .inl rfl|exact .inr ⟨rfl,rfl⟩|exact .inr rfl|(right;symm;assumption)|(symm;assumption)|assumption)) ?_
  rintro y hy
  simp only [go_sem]
  (repeat (with_reducible first|refine W_seq fun K hK=>?_|refine J_region ?_ |refine J_c ?_|(refine Kont.go (by assumption) ?_)|(simp (config:={ maxSteps:=3000000 }) (disch:=omega) only [go_sem])))
  refine Jc_if (fun hyl=>?_) (fun hyl=>?_)<;>try simp only [decide_eq_true_eq,decide_eq_false_iff_not] at hyl
  ·obtain ⟨idx,xs,g,n,d,hr,hidx,x1,f1,hsp⟩:=hra y hyl
   have f0:IsFr (fr (jntF V P M (fun u=>A.getD u 0) y)) _ _:=.c (hfz hy)
   have hb1:=hb9 y hy
   have hnx:jntF V P M (fun u=>A.getD u 0) y*rowG (szN V) (paN P y) y (M.getD y []) (fun u=>A.getD u 0)=jntF V P M (fun u=>A.getD u 0) (y+1):=rfl
   generalize jntF V P M (fun u=>A.getD u 0) y=jn0 at f0 hnx ⊢
   generalize rowG (szN V) (paN P y) y (M.getD y []) (fun u=>A.getD u 0)=rg at f1 hnx
   (repeat (with_reducible first|refine W_seq fun K hK=>?_|refine J_block ?_|refine J_skip ?_|refine J_region ?_ |refine J_drawn mixed (by kernel_rfl) ?_|(refine Kont.go (by assumption) ?_)|(simp (config:={ maxSteps:=3000000 }) (disch:=omega) only [go_sem,↓reduceIte,Nat.reduceAdd,hr])))
   (first|refine call_f (hsp) rfl ?_|refine callQ_f (hsp) rfl ?_|refine callHK_f (hsp) rfl ?_|refine callH_f (hsp) rfl ?_)
   (repeat (first|(with_reducible first|refine J_region ?_ |(refine Kont.go (by assumption) ?_)|(simp (config:={ maxSteps:=3000000 }) (disch:=omega) only [go_sem,↓reduceIte,Nat.reduceAdd,x1,hnx]))|refine callQ_f (mul_w (by assumption) (by assumption) (by omega) (by omega)) rfl ?_))
   refine ⟨y+1,by omega,by omega,weak_of ?_ ?_⟩<;>(try simp (disch:=omega) only [go_sem,Nat.reduceAdd])<;>(try first|done|omega|rfl|exact ⟨rfl,rfl⟩|trivial)
  ·have hey:y=V.length:=by omega
   subst hey
   (repeat (with_reducible first|refine W_seq fun K hK=>?_|refine J_exit ?_|refine J_ret ?_|refine J_region ?_ |(refine Kont.go (by assumption) ?_)|(simp (config:={ maxSteps:=3000000 }) (disch:=omega) only [go_sem,↓reduceIte,Nat.reduceAdd])))
   exact ⟨_,rfl,FrzL.fs [_,_]⟩
set_option maxRecDepth 100000 in
set_option maxHeartbeats 8000000 in
theorem rjoint0_w (h:NetOk k V P RR M) (he:netE (ordE P) V P M=0) {A:List Nat} (hAl:A.length=V.length) (hAz:∀u,u<V.length→A.getD u 0<szT (szN V) u):Good Tryz.prog 49 [netV V (P.map ints) RR,.fz 1 (Ns A)] (fr (jntF V P M (fun u=>A.getD u 0) V.length)):=by
 have hV:=h.lV
 have hR:=net_okR he
 have hZl:(szN V).length=V.length:=szN_len
 have hz8:=hR.z8
 have hra:∀i,i<V.length→∃(g:Bool) (n d:ByteArray),IsFr (frR g n d) (rowG (szN V) (paN P i) i (M.getD i []) fun u=>A.getD u 0) k ∧
   Good Tryz.prog 43 [netV V (P.map ints) RR,I (i:Int),.fz 1 (Ns A)] (frR g n d):=fun i hi=>by
  have hG:=netG he hi
  obtain ⟨xs,hr,hq⟩:=h.hM.at hG.ml
  have hql:=hG.len
  rw [lget_lt M [] hG.ml] at hql ⊢
  have hlt:∀w∈paN P i,w<V.length:=fun w hw=>by have:=hG.ok.lt w hw;omega
  have ia:=row_lt (Z:=szN V) (pa:=paN P i) (v:=i) (a:=fun u=>A.getD u 0) (fun w hw=>hAz w (hlt w hw)) (hAz i hi)
  rw [←hql] at ia
  obtain ⟨g,n,d,x1,f1⟩:=hq.at3 ia
  have hsp:=rowAt_w (PP:=P.map ints) (RR:=RR) (A:=A) (a:=fun u=>A.getD u 0) hG.ok hi hG.get hr hAl (fun u hu=>rfl) (fun w hw=>hAz w (hlt w hw)) (hAz i hi) x1
  unfold rowG
  rw [lget_lt _ 0 ia]
  exact ⟨g,n,d,f1,hsp⟩
 have hfz:∀{i:Nat},i≤V.length→Fz (jntF V P M (fun u=>A.getD u 0) i) (8+i*k):=jntF_fz h (a:=fun u=>A.getD u 0) (fun i hi=>by
  obtain ⟨_,_,_,f1,_⟩:=hra i hi
  exact f1.fz h.k1)
 have hkk:=h.kk
 have hb9:∀i,i≤V.length→8+i*k≤34359738368:=fun i hi=>by
  have:=Nat.mul_le_mul (show i≤8 by omega) hkk
  omega
 obtain ⟨R,hRe⟩:∃R,R=jntF V P M (fun u=>A.getD u 0) V.length:=⟨_,rfl⟩
 rw [←hRe]
 have hj0:fr ((1:Int):Rat)=fr (jntF V P M (fun u=>A.getD u 0) 0):=rfl
 refine good_of Tryz.func49 rfl (by kernel_rfl) fun X hO hrd=>?_;rw [Tryz.ntmps49,Tryz.results49];simp only [ast0,List.map_cons,List.map_nil,List.length_cons,List.length_nil,Nat.reduceAdd,Nat.reduceSub,List.replicate_succ,List.replicate_zero,List.cons_append,List.nil_append]
 (repeat (first|(with_reducible first|refine W_seq fun K hK=>?_|refine J_block ?_|refine J_region ?_ |(refine Kont.go (by assumption) ?_)|(simp (config:={ maxSteps:=3000000 }) (disch:=omega) only [go_sem,↓reduceIte,Nat.reduceAdd]))|refine call_f (rof_frac (by omega) (by omega)) rfl ?_))
 rw [hj0]
 refine W_loop [6,7,8,10,11,12,13,14,15,16,17,18,19,20,21,22,23,24,25,26,27] (fun y:Nat=>[(6,.f (I y))]) (fun y:Nat=>[oNt (V.map varF) (P.map ints) RR,oF frN,oF (fr (jntF V P M (fun u=>A.getD u 0) y))]) (fun y:Nat=>y≤V.length) (fun y:Nat=>V.length-y) (0) (Nat.zero_le _) (by refine weak_of ?_ ?_<;>simp (disch:=omega) only [go_sem,Nat.reduceAdd]<;>first|rfl|exact ⟨rfl,rfl⟩|exact Or.inl rfl|exact ⟨Or.inl rfl,Or.inl rfl⟩|trivial|assumption|omega|(symm;assumption)|((repeat' apply And.intro)<;>first|rfl|omega|trivial|exact .inl rfl|exact .inr ⟨rfl,rfl⟩|exact .inr rfl|(right;symm;assumption)|(symm;assumption)|assumption)) ?_
 rintro y hy
 simp only [go_sem]
 (repeat (with_reducible first|refine W_seq fun K hK=>?_|refine J_region ?_ |refine J_c ?_|(refine Kont.go (by assumption) ?_)|(simp (config:={ maxSteps:=3000000 }) (disch:=omega) only [go_sem,↓reduceIte,List.length_map])))
 refine Jc_if (fun hyl=>?_) (fun hyl=>?_)<;>try simp only [decide_eq_true_eq,decide_eq_false_iff_not] at hyl
 ·obtain ⟨g,n,d,f1,hsp⟩:=hra y hyl
  have f0:IsFr (fr (jntF V P M (fun u=>A.getD u 0) y)) _ _:=.c (hfz hy)
  have hb1:=hb9 y hy
  have hnx:jntF V P M (fun u=>A.getD u 0) y*rowG (szN V) (paN P y) y (M.getD y []) (fun u=>A.getD u 0)=jntF V P M (fun u=>A.getD u 0) (y+1):=rfl
  have hz:rowG (szN V) (paN P y) y (M.getD y []) (fun u=>A.getD u 0)=0→R=((0:Int):Rat):=fun h=>by rw [hRe,jntF_zero h hyl];rfl
  generalize jntF V P M (fun u=>A.getD u 0) y=jn0 at f0 hnx ⊢
  generalize rowG (szN V) (paN P y) y (M.getD y []) (fun u=>A.getD u 0)=rg at f1 hnx hz
  (repeat (with_reducible first|refine W_seq fun K hK=>?_|refine J_block ?_|refine J_skip ?_|refine J_region ?_ |(refine Kont.go (by assumption) ?_)|(simp (config:={ maxSteps:=3000000 }) (disch:=omega) only [go_sem,↓reduceIte,Nat.reduceAdd])))
  (first|refine call_f (hsp) rfl ?_|refine callQ_f (hsp) rfl ?_|refine callHK_f (hsp) rfl ?_|refine callH_f (hsp) rfl ?_)
  (repeat (first|(with_reducible first|refine W_seq fun K hK=>?_|refine J_region ?_ |refine J_c ?_|(refine Kont.go (by assumption) ?_)|(simp (config:={ maxSteps:=3000000 }) (disch:=omega) only [go_sem,↓reduceIte,Nat.reduceAdd]))|refine call_f (rzero_w (by assumption) (by omega)) rfl ?_))
  by_cases hrg:rg=0
  ·rw [decide_eq_true hrg]
   (repeat (first|(with_reducible first|refine W_seq fun K hK=>?_|refine J_ret ?_|refine J_region ?_ |refine Jc_true ?_|(refine Kont.go (by assumption) ?_)|(simp (config:={ maxSteps:=3000000 }) (disch:=omega) only [go_sem,↓reduceIte,Nat.reduceAdd]))|refine call_f (rof_frac (by omega) (by omega)) rfl ?_))
   rw [hz hrg];exact Frz.f _
  ·rw [decide_eq_false hrg]
   (repeat (first|(with_reducible first|refine J_skip ?_|refine J_region ?_ |refine Jc_false ?_|(refine Kont.go (by assumption) ?_)|(simp (config:={ maxSteps:=3000000 }) (disch:=omega) only [go_sem,↓reduceIte,Nat.reduceAdd,hnx]))|refine call_f (rmul_w (by assumption) (by assumption) (by omega) (by omega)) rfl ?_))
   refine ⟨y+1,by omega,by omega,weak_of ?_ ?_⟩<;>(try simp (disch:=omega) only [go_sem,Nat.reduceAdd])<;>(try first|done|omega|rfl|exact ⟨rfl,rfl⟩|trivial)
 ·have hey:y=V.length:=by omega
  subst hey
  rw [←hRe]
  (repeat (with_reducible first|refine W_seq fun K hK=>?_|refine J_exit ?_|refine J_ret ?_|refine J_region ?_ |exact Frz.f _|(refine Kont.go (by assumption) ?_)|(simp (config:={ maxSteps:=3000000 }) (disch:=omega) only [go_sem,↓reduceIte,Nat.reduceAdd])))
set_option maxRecDepth 100000 in
set_option maxHeartbeats 8000000 in
theorem rjointX_w (h:NetOk k V P RR M) (he:netE (ordE P) V P M=0) (hat:at_.length≤140737488355328) (hx:jntE (szN V) at_≠0):Good Tryz.prog 12 [netV V (P.map ints) RR,ints at_] (.tup [frN,I (jntE (szN V) at_)]):=by
 have hc:=rnetCheck_w h
 rw [he] at hc
 have hV:=h.lV
 have hsz:=rsizes_w V (P.map ints) RR hV
 have hR:=net_okR he
 have hZl:(szN V).length=V.length:=szN_len
 have hz8:=hR.z8
 have hix:Good Tryz.prog 48 [.fz 1 (Ns (szN V)),.fz 1 (Ns (List.range V.length)),ints at_] (.tup [I 0,I (jntE (szN V) at_)]):=by
  have h1:=rindex_w at_ hR hat
  rw [List.length_range] at h1
  unfold jntE at hx ⊢
  by_cases hl:at_.length≠(szN V).length
  ·rw [if_pos hl] at h1 ⊢
   rw [hZl] at h1;exact h1
  ·rw [if_neg hl] at h1 hx ⊢
   by_cases hb:atB (szN V) (List.range (szN V).length) at_=true
   ·rw [if_pos hb] at hx;exact absurd rfl hx
   ·rw [if_neg hb] at h1 ⊢
    rw [hZl] at h1;exact h1
 have hal:=rall_w (Ns (szN V)) (by rw [Ns_len];omega)
 rw [Ns_len,hZl] at hal
 generalize jntE (szN V) at_=e at *
 refine good_of Tryz.func12 rfl (by kernel_rfl) fun X hO hrd=>?_;rw [Tryz.ntmps12,Tryz.results12];simp only [ast0,List.map_cons,List.map_nil,List.length_cons,List.length_nil,Nat.reduceAdd,Nat.reduceSub,List.replicate_succ,List.replicate_zero,List.cons_append,List.nil_append]
 (repeat (with_reducible first|refine W_seq fun K hK=>?_|refine J_region ?_ |(refine Kont.go (by assumption) ?_)|(simp (config:={ maxSteps:=3000000 }) (disch:=omega) only [go_sem,↓reduceIte,Nat.reduceAdd])))
 (first|refine call_f (hc) rfl ?_|refine callQ_f (hc) rfl ?_|refine callHK_f (hc) rfl ?_|refine callH_f (hc) rfl ?_)
 (repeat (with_reducible first|refine W_seq fun K hK=>?_|refine J_skip ?_|refine J_region ?_ |refine J_c ?_|refine Jc_false ?_|(refine Kont.go (by assumption) ?_)|(simp (config:={ maxSteps:=3000000 }) (disch:=omega) only [go_sem,↓reduceIte,Nat.reduceAdd])))
 (first|refine call_f (hsz) rfl ?_|refine callQ_f (hsz) rfl ?_|refine callHK_f (hsz) rfl ?_|refine callH_f (hsz) rfl ?_)
 (repeat (with_reducible first|refine W_seq fun K hK=>?_|refine J_region ?_ |(refine Kont.go (by assumption) ?_)|(simp (config:={ maxSteps:=3000000 }) (disch:=omega) only [go_sem])))
 (first|refine call_f (hal) rfl ?_|refine callQ_f (hal) rfl ?_|refine callHK_f (hal) rfl ?_|refine callH_f (hal) rfl ?_)
 (repeat (with_reducible first|(simp (config:={ maxSteps:=3000000 }) (disch:=omega) only [go_sem])))
 (first|refine call_f (hix) rfl ?_|refine callQ_f (hix) rfl ?_|refine callHK_f (hix) rfl ?_|refine callH_f (hix) rfl ?_)
 (repeat (with_reducible first|refine W_seq fun K hK=>?_|refine J_ret ?_|refine J_region ?_ |refine J_c ?_|refine Jc_true ?_|(refine Kont.go (by assumption) ?_)|(simp (config:={ maxSteps:=3000000 }) (disch:=omega) only [go_sem,↓reduceIte,Nat.reduceAdd,hx])))
 exact ⟨_,rfl,FrzL.fs [_,_]⟩
set_option maxRecDepth 100000 in
set_option maxHeartbeats 8000000 in
theorem rjoint_w (h:NetOk k V P RR M) (he:netE (ordE P) V P M=0) (hx:jntE (szN V) at_=0):Good Tryz.prog 12 [netV V (P.map ints) RR,ints at_] (.tup [fr (jntF V P M (fun u=>(at_.getD u 0).toNat) V.length),I 0]):=by
 have hc:=rnetCheck_w h
 rw [he] at hc
 have hV:=h.lV
 have hsz:=rsizes_w V (P.map ints) RR hV
 have hR:=net_okR he
 have hZl:(szN V).length=V.length:=szN_len
 have hz8:=hR.z8
 unfold jntE at hx
 by_cases hl:at_.length≠(szN V).length
 ·rw [if_pos hl] at hx;exact absurd hx (by decide)
 rw [if_neg hl] at hx
 by_cases hb:atB (szN V) (List.range (szN V).length) at_=true
 rotate_left
 ·rw [if_neg hb] at hx;exact absurd hx (by decide)
 have hix:=rindex_w at_ hR (by omega)
 rw [List.length_range,if_neg hl,if_pos hb,hZl] at hix
 obtain ⟨A,rfl,hAl,hAz⟩:=atB_nat (Decidable.not_not.1 hl) hb
 simp only [jnt_get]
 rw [ints_Ns] at hix ⊢
 have hj:=rjoint0_w h he (A:=A) (by omega) (fun u hu=>hAz u (by omega))
 generalize horT (szN V) (List.range V.length) (A.map Int.ofNat) V.length=hor at hix
 have hal:=rall_w (Ns (szN V)) (by rw [Ns_len];omega)
 rw [Ns_len,hZl] at hal
 refine good_of Tryz.func12 rfl (by kernel_rfl) fun X hO hrd=>?_;rw [Tryz.ntmps12,Tryz.results12];simp only [ast0,List.map_cons,List.map_nil,List.length_cons,List.length_nil,Nat.reduceAdd,Nat.reduceSub,List.replicate_succ,List.replicate_zero,List.cons_append,List.nil_append]
 (repeat (with_reducible first|refine W_seq fun K hK=>?_|refine J_region ?_ |(refine Kont.go (by assumption) ?_)|(simp (config:={ maxSteps:=3000000 }) (disch:=omega) only [go_sem,↓reduceIte,Nat.reduceAdd])))
 (first|refine call_f (hc) rfl ?_|refine callQ_f (hc) rfl ?_|refine callHK_f (hc) rfl ?_|refine callH_f (hc) rfl ?_)
 (repeat (with_reducible first|refine W_seq fun K hK=>?_|refine J_skip ?_|refine J_region ?_ |refine J_c ?_|refine Jc_false ?_|(refine Kont.go (by assumption) ?_)|(simp (config:={ maxSteps:=3000000 }) (disch:=omega) only [go_sem,↓reduceIte,Nat.reduceAdd])))
 (first|refine call_f (hsz) rfl ?_|refine callQ_f (hsz) rfl ?_|refine callHK_f (hsz) rfl ?_|refine callH_f (hsz) rfl ?_)
 (repeat (with_reducible first|refine W_seq fun K hK=>?_|refine J_region ?_ |(refine Kont.go (by assumption) ?_)|(simp (config:={ maxSteps:=3000000 }) (disch:=omega) only [go_sem])))
 (first|refine call_f (hal) rfl ?_|refine callQ_f (hal) rfl ?_|refine callHK_f (hal) rfl ?_|refine callH_f (hal) rfl ?_)
 (repeat (with_reducible first|(simp (config:={ maxSteps:=3000000 }) (disch:=omega) only [go_sem])))
 (first|refine call_f (hix) rfl ?_|refine callQ_f (hix) rfl ?_|refine callHK_f (hix) rfl ?_|refine callH_f (hix) rfl ?_)
 (repeat (with_reducible first|refine W_seq fun K hK=>?_|refine J_skip ?_|refine J_region ?_ |refine J_c ?_|refine Jc_false ?_|(refine Kont.go (by assumption) ?_)|(simp (config:={ maxSteps:=3000000 }) (disch:=omega) only [go_sem,↓reduceIte,Nat.reduceAdd])))
 (first|refine call_f (hj) rfl ?_|refine callQ_f (hj) rfl ?_|refine callHK_f (hj) rfl ?_|refine callH_f (hj) rfl ?_)
 (repeat (with_reducible first|refine J_ret ?_|(refine Kont.go (by assumption) ?_)|(simp (config:={ maxSteps:=3000000 }) (disch:=omega) only [go_sem,↓reduceIte,Nat.reduceAdd])))
 exact ⟨_,rfl,FrzL.fs [_,_]⟩
end
end Go.Proofs.YthehegidpamldaaGreatDoor
set_option linter.unusedVariables false
set_option linter.unusedSimpArgs false
namespace Go.Proofs.YthehegidpamldaaGreatDoor
open Go Go.RowKit
section
variable {Z l la lb : List Nat} {qs qa qb : List Rat} {k j v : Nat}
end
set_option maxRecDepth 100000 in
theorem sameTable_w (l:List Nat) (qs:List Rat) (hl:l.length≤1000) (hq:qs.length≤1000000):Good Tryz.prog 18 [tabV l (qs.map fr),tabV l (qs.map fr)] (Bo true):=by
 have h1:=sameInts_w (l.map Int.ofNat) (by rw [List.length_map];omega)
 rw [ints_Ns] at h1
 have h2:=sameFracs_w qs (by omega)
 refine good_of Tryz.func18 rfl (by kernel_rfl) fun X hO hrd=>?_;rw [Tryz.ntmps18,Tryz.results18];simp only [ast0,List.map_cons,List.map_nil,List.length_cons,List.length_nil,Nat.reduceAdd,Nat.reduceSub,List.replicate_succ,List.replicate_zero,List.cons_append,List.nil_append]
 (repeat (with_reducible first|refine W_seq fun K hK=>?_|refine J_region ?_ |(refine Kont.go (by assumption) ?_)|(simp (config:={ maxSteps:=3000000 }) (disch:=omega) only [go_sem,↓reduceIte,Nat.reduceAdd])))
 (first|refine call_f (h1) rfl ?_|refine callQ_f (h1) rfl ?_|refine callHK_f (h1) rfl ?_|refine callH_f (h1) rfl ?_)
 (repeat (with_reducible first|(simp (config:={ maxSteps:=3000000 }) (disch:=omega) only [go_sem,↓reduceIte])))
 (first|refine call_f (h2) rfl ?_|refine callQ_f (h2) rfl ?_|refine callHK_f (h2) rfl ?_|refine callH_f (h2) rfl ?_)
 (repeat (with_reducible first|refine J_ret ?_|exact Frz.f _|(refine Kont.go (by assumption) ?_)|(simp (config:={ maxSteps:=3000000 }) (disch:=omega) only [go_sem])))
set_option maxRecDepth 100000 in
theorem sameTable0_w:Good Tryz.prog 18 [tab0,tab0] (Bo true):=by
 have h1:=sameInts_w [] (by simp)
 have h2:=sameFracs_w [] (by simp)
 refine good_of Tryz.func18 rfl (by kernel_rfl) fun X hO hrd=>?_;rw [Tryz.ntmps18,Tryz.results18];simp only [ast0,List.map_cons,List.map_nil,List.length_cons,List.length_nil,Nat.reduceAdd,Nat.reduceSub,List.replicate_succ,List.replicate_zero,List.cons_append,List.nil_append]
 (repeat (with_reducible first|refine W_seq fun K hK=>?_|refine J_region ?_ |(refine Kont.go (by assumption) ?_)|(simp (config:={ maxSteps:=3000000 }) (disch:=omega) only [go_sem,↓reduceIte,Nat.reduceAdd])))
 refine call_fl h1 (.v _) (FrzL.cons (.nil _) (FrzL.cons (.nil _) (FrzL.nil _))) ?_
 (repeat (with_reducible first|(simp (config:={ maxSteps:=3000000 }) (disch:=omega) only [go_sem,↓reduceIte])))
 refine call_fl h2 (.v _) (FrzL.cons (.nil _) (FrzL.cons (.nil _) (FrzL.nil _))) ?_
 (repeat (with_reducible first|refine J_ret ?_|exact Frz.f _|(refine Kont.go (by assumption) ?_)|(simp (config:={ maxSteps:=3000000 }) (disch:=omega) only [go_sem])))
end Go.Proofs.YthehegidpamldaaGreatDoor
set_option linter.unusedVariables false
set_option linter.unusedSimpArgs false
namespace Go.Proofs.YthehegidpamldaaGreatDoor
open Go Go.RowKit
theorem eqR_nn:eqR false ⟨#[]⟩ ⟨#[]⟩ false ⟨#[]⟩ ⟨#[]⟩=true:=by decide
set_option maxRecDepth 100000 in
theorem noughtN_w:Good Tryz.prog 57 [frN] (Bo true):=by
 refine good_of Tryz.func57 rfl (by kernel_rfl) fun X hO hrd=>?_;rw [Tryz.ntmps57,Tryz.results57];simp only [ast0,List.map_cons,List.map_nil,List.length_cons,List.length_nil,Nat.reduceAdd,Nat.reduceSub,List.replicate_succ,List.replicate_zero,List.cons_append,List.nil_append]
 (repeat (with_reducible first|refine W_seq fun K hK=>?_|refine J_ret ?_|refine J_region ?_ |refine J_drawn mixed (by kernel_rfl) ?_|exact Frz.f _|(refine Kont.go (by assumption) ?_)|(simp (config:={ maxSteps:=3000000 }) (disch:=omega) only [go_sem,↓reduceIte,Nat.reduceAdd,eqR_nn,true_and,and_self])))
set_option maxRecDepth 100000 in
theorem oneFracN_err {e:Int} (he:e≠0):Good Tryz.prog 19 [frN,I e,frN,I e] (Bo true):=by
 refine good_of Tryz.func19 rfl (by kernel_rfl) fun X hO hrd=>?_;rw [Tryz.ntmps19,Tryz.results19];simp only [ast0,List.map_cons,List.map_nil,List.length_cons,List.length_nil,Nat.reduceAdd,Nat.reduceSub,List.replicate_succ,List.replicate_zero,List.cons_append,List.nil_append]
 (repeat (with_reducible first|refine W_seq fun K hK=>?_|refine J_region ?_ |(refine Kont.go (by assumption) ?_)|(simp (config:={ maxSteps:=3000000 }) (disch:=omega) only [go_sem,↓reduceIte,Nat.reduceAdd,he])))
 refine call_f noughtN_w rfl ?_
 (repeat (with_reducible first|refine J_ret ?_|exact Frz.f _|(refine Kont.go (by assumption) ?_)|(simp (config:={ maxSteps:=3000000 }) (disch:=omega) only [go_sem])))
set_option maxRecDepth 100000 in
theorem oneFracN_ok {q:Rat}:Good Tryz.prog 19 [fr q,I 0,fr q,I 0] (Bo true):=by
 refine good_of Tryz.func19 rfl (by kernel_rfl) fun X hO hrd=>?_;rw [Tryz.ntmps19,Tryz.results19];simp only [ast0,List.map_cons,List.map_nil,List.length_cons,List.length_nil,Nat.reduceAdd,Nat.reduceSub,List.replicate_succ,List.replicate_zero,List.cons_append,List.nil_append]
 (repeat (with_reducible first|refine W_seq fun K hK=>?_|refine J_ret ?_|refine J_region ?_ |exact Frz.f _|(refine Kont.go (by assumption) ?_)|(simp (config:={ maxSteps:=3000000 }) (disch:=omega) only [go_sem,↓reduceIte,Nat.reduceAdd,decide_true])))
end Go.Proofs.YthehegidpamldaaGreatDoor
