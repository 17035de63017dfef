/- What is apart, the program's way: walked. Conditions: what slices may hold. -/
import Derived.Test.YtgjnbcfencallaaDoorZGrN
import Derived.Test.YtgjnbcfencallaaDoorZB06
import Derived.ChangeSame
import Derived.ProofKit
import Derived.OpenShut
import Derived.Deep.DeepHandedRow
import Derived.Lib.LaidTab
import GoSem.PinnedTables
import Derived.Test.YtgjnbcfencallaaDoorZB05
import Derived.Carry
import Derived.SizedLaws
import Derived.ChangeArms
set_option linter.unusedVariables false
set_option linter.unusedSimpArgs false
namespace Go.Proofs.YtgjnbcfencallaaDoor
open Go Go.RowKit
noncomputable def gotS (P:List Nat) (n x z:Nat):Nat:=setB n fun v=>@decide (z.testBit v=false∧∃d,Ball (paO P) (anO P n z) z.testBit x.testBit v d) (Classical.propDecidable _)
section
variable {P : List Nat} {n x y z : Nat}
theorem gotS_is (hg:GP n P) (hx:∀v,x.testBit v=true→v<n):IsGot P n x z (gotS P n x z):=fun v=>by
 unfold gotS
 rw [setB_bit,Bool.and_eq_true,decide_eq_true_eq,@decide_eq_true_iff _ (Classical.propDecidable _)]
 refine ⟨fun h=>h.2,fun h=>⟨?_,h⟩⟩
 obtain ⟨_,d,hb⟩:=h
 cases hb with
 | start hx'=>exact hx v hx'
 | down _ _ hp=>exact (hg.pa _ _ hp).2
 | up _ _ hp=>exact (hg.pa _ _ hp).1
theorem and_zero {a b:Nat}:a&&&b=0↔∀v,a.testBit v=true→b.testBit v=true→False:=by
 constructor
 ·intro h v h1 h2
  have e:(a&&&b).testBit v=false:=by rw [h];exact Nat.zero_testBit v
  rw [Nat.testBit_and,h1,h2] at e
  cases e
 ·intro h
  refine ext_bits' fun v=>?_
  rw [Nat.testBit_and,Nat.zero_testBit]
  cases h1:a.testBit v with
  | false=>rfl
  | true =>
   cases h2:b.testBit v with
   | false=>rfl
   | true=>exact (h v h1 h2).elim
theorem apV_got (hg:GP n P) {rk:Nat→Nat} (hrk:∀u v,paO P u v=true→rk u<rk v) (hx:∀v,x.testBit v=true→v<n) (hz:∀v,z.testBit v=true→v<n)
  (hxz:x&&&z=0) (hyz:y&&&z=0):apV P n x y z=decide (gotS P n x z&&&y=0):=by
 have hn8:=hg.n8
 have hi:=apart_iff (pa:=paO P) (An:=anO P n z) (Z:=z.testBit) (X:=x.testBit) (Y:=y.testBit) (n:=n) (anO_up hg.pa) (anO_self hz) (acyc hrk) hx hg.pa (fun v hv=>by
  cases h:z.testBit v with
  | false=>rfl
  | true=>exact (and_zero.1 hxz v hv h).elim)
 rw [Bool.eq_iff_iff,decide_eq_true_eq,and_zero]
 unfold apV
 rw [Bool.not_eq_true',List.any_eq_false]
 constructor
 ·intro h t h1 h2
  obtain ⟨h3,d,h4⟩:=(gotS_is hg hx t).1 h1
  obtain ⟨v,h5,h6⟩:=hi.2 ⟨t,d,h4,h2⟩
  exact h v (els_mem.2 ⟨by have:=hx v h5;omega,h5⟩) h6
 ·intro h v hv h1
  obtain ⟨t,d,h2,h3⟩:=hi.1 ⟨v,(els_mem.1 hv).2,h1⟩
  refine h t ((gotS_is hg hx t).2 ⟨?_,d,h2⟩) h3
  cases hzt:z.testBit t with
  | false=>rfl
  | true=>exact (and_zero.1 hyz t h3 hzt).elim
end
theorem ris_nodup {n:Nat} {l:List Int} (hn:n≤8) (h:risB n l=true):l.Nodup∧∀v∈l,∃u:Nat,v=(u:Int)∧(setI l).testBit u=true:=by
 have hr:=risB_iff.1 h
 have hnn:=(ris_nn (x:=l.length) hr).2
 constructor
 ·have hlt:∀i j,i<j→j<l.length→l.getD i 0<l.getD j 0:=by
   intro i j
   induction j with
   | zero=>intro h;omega
   | succ j ih =>
    intro hij hj
    have h1:=(hr (j+1) hj).1
    rw [prevI_next] at h1
    by_cases e:i=j
    ·subst e;exact h1
    ·exact Int.lt_trans (ih (by omega) (by omega)) h1
  rw [List.nodup_iff_pairwise_ne,List.pairwise_iff_getElem]
  intro i j hi hj hij
  have h1:=hlt i j hij hj
  rw [lget_lt l 0 hi,lget_lt l 0 hj] at h1
  omega
 ·intro v hv
  obtain ⟨j,hj,e⟩:=List.getElem_of_mem hv
  have h0:=hnn j hj
  rw [lget_lt l 0 hj,e] at h0
  obtain ⟨u,hu⟩:=Int.eq_ofNat_of_zero_le h0
  exact ⟨u,hu,by rw [set_mem h];exact decide_eq_true (by rw [←hu];exact hv)⟩
theorem disj_iff {n:Nat} {a b:List Int} (hn:n≤8) (ha:risB n a=true) (hb:risB n b=true):(∀x∈a,∀y∈b,x≠y)↔setI a&&&setI b=0:=by
 rw [and_zero]
 constructor
 ·intro h v h1 h2
  rw [set_mem ha] at h1
  rw [set_mem hb] at h2
  exact h _ (of_decide_eq_true h1) _ (of_decide_eq_true h2) rfl
 ·intro h x hx y hy e
  obtain ⟨u,h1,h2⟩:=(ris_nodup hn ha).2 x hx
  obtain ⟨w,h3,h4⟩:=(ris_nodup hn hb).2 y hy
  have:u=w:=by omega
  subst this
  exact h u h2 h4
theorem apOk_iff {n:Nat} {x y z:List Int} (hn:n≤8) (hx:risB n x=true) (hy:risB n y=true) (hz:risB n z=true) :
  apOk n [x,y,z]=(decide (setI x&&&setI y=0)&&decide (setI x&&&setI z=0)&&decide (setI y&&&setI z=0)):=by
 unfold apOk
 have h1:[x,y,z].all (risB n)=true:=by simp [hx,hy,hz]
 rw [h1,Bool.true_and,Bool.eq_iff_iff]
 simp only [decide_eq_true_eq,Bool.and_eq_true]
 rw [←disj_iff hn hx hy,←disj_iff hn hx hz,←disj_iff hn hy hz]
 have e:[x,y,z].flatten=x++(y++z):=by simp
 rw [e,List.nodup_append,List.nodup_append]
 constructor
 ·rintro ⟨_,⟨_,_,h2⟩,h3⟩
  exact ⟨⟨fun a ha b hb=>h3 a ha b (List.mem_append_left _ hb),fun a ha b hb=>h3 a ha b (List.mem_append_right _ hb)⟩,h2⟩
 ·rintro ⟨⟨h2,h3⟩,h4⟩
  refine ⟨(ris_nodup hn hx).1,⟨(ris_nodup hn hy).1,(ris_nodup hn hz).1,h4⟩,fun a ha b hb=>?_⟩
  rcases List.mem_append.1 hb with hb|hb
  ·exact h2 a ha b hb
  ·exact h3 a ha b hb
theorem apOk_ris {n:Nat} {x y z:List Int} (h:¬(risB n x=true∧risB n y=true∧risB n z=true)):apOk n [x,y,z]=false:=by
 cases he:apOk n [x,y,z] with
 | false=>rfl
 | true=>exact absurd (ap_ris he) h
set_option maxRecDepth 100000 in
set_option maxHeartbeats 8000000 in
theorem Apart_w (L:List (List Int)) (hL:OkIss L) (x y z:List Int) (hx:OkNs x) (hy:OkNs y) (hz:OkNs z) :
  Good Tryd.prog 15 [.fz 1 (L.map ints),ints x,ints y,ints z] (.tup [Bo (aprB L x y z),I (aprE L x y z)]):=by
 have hc:=check_w2 L hL
 have hrs0:=reads_w L hL
 by_cases h0:ordE L=0
 case neg =>
  rw [show aprB L x y z=false by unfold aprB;rw [if_neg fun h=>h0 h.1],show aprE L x y z=ordE L by unfold aprE;rw [if_pos h0]]
  refine good_of Tryd.func15 rfl (by kernel_rfl) fun X hO hrd=>?_;rw [Tryd.ntmps15,Tryd.results15];simp only [ast0,List.map_cons,List.map_nil,List.length_cons,List.length_nil,Nat.reduceAdd,Nat.reduceSub,List.replicate_succ,List.replicate_zero,List.cons_append,List.nil_append]
  (repeat (with_reducible first|refine W_seq fun K hK=>?_|refine J_region ?_ |(refine Kont.go (by assumption) ?_)|(simp (config:={ maxSteps:=3000000 }) (disch:=omega) only [go_sem])))
  (first|refine call_f (hc) rfl ?_|refine callQ_f (hc) rfl ?_|refine callHK_f (hc) rfl ?_|refine callH_f (hc) rfl ?_)
  (repeat (with_reducible first|refine W_seq fun K hK=>?_|refine J_ret ?_|refine J_region ?_ |refine J_c ?_|refine Jc_true ?_|(refine Kont.go (by assumption) ?_)|(simp (config:={ maxSteps:=3000000 }) (disch:=omega) only [go_sem,h0])))
  exact ⟨_,rfl,FrzL.fs [_,_]⟩
 obtain ⟨hb,o,ho⟩:=ord_ok h0
 have hg:=GP.of hb
 have hn8:=hg.n8
 have e3:rdR L=.own 56 1 ((setsOf L).map U):=by unfold rdR;rw [hb];rfl
 rw [hb,e3] at hrs0
 rw [h0] at hc
 have hsl:((setsOf L).map U).length=L.length:=by rw [List.length_map,setsOf_len]
 have r1:=read_w x (n:=L.length) hn8 hx.2 hx.1
 have r2:=read_w y (n:=L.length) hn8 hy.2 hy.1
 have r3:=read_w z (n:=L.length) hn8 hz.2 hz.1
 have l1:=readS_lt (l:=x) hn8
 have l2:=readS_lt (l:=y) hn8
 have l3:=readS_lt (l:=z) hn8
 have a1:=u_and l1 l2
 have a2:=u_and l1 l3
 have a3:=u_and l2 l3
 obtain ⟨vB,hvB⟩:∃vB,vB=aprB L x y z:=⟨_,rfl⟩
 obtain ⟨vE,hvE⟩:∃vE,vE=aprE L x y z:=⟨_,rfl⟩
 rw [←hvB,←hvE]
 have bad:apOk L.length [x,y,z]=false→vB=false∧vE=11:=fun h=>by
  exact ⟨by rw [hvB];unfold aprB;exact if_neg fun h'=>(by rw [h] at h';cases h'.2),by rw [hvE];unfold aprE;rw [if_neg (fun h'=>h' h0),if_neg (by rw [h];decide)]⟩
 refine good_of Tryd.func15 rfl (by kernel_rfl) fun X hO hrd=>?_;rw [Tryd.ntmps15,Tryd.results15];simp only [ast0,List.map_cons,List.map_nil,List.length_cons,List.length_nil,Nat.reduceAdd,Nat.reduceSub,List.replicate_succ,List.replicate_zero,List.cons_append,List.nil_append]
 (repeat (with_reducible first|refine W_seq fun K hK=>?_|refine J_region ?_ |(refine Kont.go (by assumption) ?_)|(simp (config:={ maxSteps:=3000000 }) (disch:=omega) only [go_sem])))
 (first|refine call_f (hc) rfl ?_|refine callQ_f (hc) rfl ?_|refine callHK_f (hc) rfl ?_|refine callH_f (hc) rfl ?_)
 (repeat (with_reducible first|refine W_seq fun K hK=>?_|refine J_skip ?_|refine J_region ?_ |refine J_c ?_|refine Jc_false ?_|(refine Kont.go (by assumption) ?_)|(simp (config:={ maxSteps:=3000000 }) (disch:=omega) only [go_sem])))
 refine call_ot hrs0 (FrzL.fs [_]) ?_
 (repeat (with_reducible first|refine W_seq fun K hK=>?_|refine J_region ?_ |(refine Kont.go (by assumption) ?_)|(simp (config:={ maxSteps:=3000000 }) (disch:=omega) only [go_sem,hsl])))
 (first|refine call_f (r1) rfl ?_|refine callQ_f (r1) rfl ?_|refine callHK_f (r1) rfl ?_|refine callH_f (r1) rfl ?_)
 (repeat (with_reducible first|refine W_seq fun K hK=>?_|refine J_region ?_ |(refine Kont.go (by assumption) ?_)|(simp (config:={ maxSteps:=3000000 }) (disch:=omega) only [go_sem])))
 (first|refine call_f (r2) rfl ?_|refine callQ_f (r2) rfl ?_|refine callHK_f (r2) rfl ?_|refine callH_f (r2) rfl ?_)
 (repeat (with_reducible first|refine W_seq fun K hK=>?_|refine J_region ?_ |(refine Kont.go (by assumption) ?_)|(simp (config:={ maxSteps:=3000000 }) (disch:=omega) only [go_sem])))
 (first|refine call_f (r3) rfl ?_|refine callQ_f (r3) rfl ?_|refine callHK_f (r3) rfl ?_|refine callH_f (r3) rfl ?_)
 (repeat (with_reducible first|refine W_seq fun K hK=>?_|refine J_region ?_ |(refine Kont.go (by assumption) ?_)|(simp (config:={ maxSteps:=3000000 }) (disch:=omega) only [go_sem])))
 by_cases hris:risB L.length x=true∧risB L.length y=true∧risB L.length z=true
 case neg =>
  obtain ⟨e1,e2⟩:=bad (apOk_ris hris)
  cases h1:risB L.length x with
  | false =>
   (repeat (with_reducible first|refine W_seq fun K hK=>?_|refine J_ret ?_|refine J_region ?_ |refine J_c ?_|refine Jc_true ?_|(refine Kont.go (by assumption) ?_)|(simp (config:={ maxSteps:=3000000 }) (disch:=omega) only [go_sem])))
   rw [e1,e2];exact ⟨_,rfl,FrzL.fs [_,_]⟩
  | true =>
   cases h2:risB L.length y with
   | false =>
    (repeat (with_reducible first|refine W_seq fun K hK=>?_|refine J_ret ?_|refine J_region ?_ |refine J_c ?_|refine Jc_true ?_|(refine Kont.go (by assumption) ?_)|(simp (config:={ maxSteps:=3000000 }) (disch:=omega) only [go_sem])))
    rw [e1,e2];exact ⟨_,rfl,FrzL.fs [_,_]⟩
   | true =>
    cases h3:risB L.length z with
    | false =>
     (repeat (with_reducible first|refine W_seq fun K hK=>?_|refine J_ret ?_|refine J_region ?_ |refine J_c ?_|refine Jc_true ?_|(refine Kont.go (by assumption) ?_)|(simp (config:={ maxSteps:=3000000 }) (disch:=omega) only [go_sem])))
     rw [e1,e2];exact ⟨_,rfl,FrzL.fs [_,_]⟩
    | true=>exact absurd ⟨h1,h2,h3⟩ hris
 obtain ⟨q1,q2,q3⟩:=hris
 have hap:=apOk_iff hn8 q1 q2 q3
 have s1:readS L.length x=setI x:=by unfold readS;rw [if_pos q1]
 have s2:readS L.length y=setI y:=by unfold readS;rw [if_pos q2]
 have s3:readS L.length z=setI z:=by unfold readS;rw [if_pos q3]
 have c0:∀v:Nat,v=0→((v:Nat):Int)=0:=fun v h=>by rw [h];rfl
 rw [q1,q2,q3,s1,s2,s3]
 rw [s1,s2] at a1
 rw [s1,s3] at a2
 rw [s2,s3] at a3
 by_cases d1:setI x&&&setI y=0
 case neg =>
  obtain ⟨e1,e2⟩:=bad (by rw [hap,decide_eq_false d1];rfl)
  have d1':¬((setI x&&&setI y:Nat):Int)=0:=by omega
  (repeat (with_reducible first|refine W_seq fun K hK=>?_|refine J_ret ?_|refine J_region ?_ |refine J_c ?_|refine Jc_true ?_|(refine Kont.go (by assumption) ?_)|(simp (config:={ maxSteps:=3000000 }) (disch:=omega) only [go_sem,a1,d1'])))
  rw [e1,e2];exact ⟨_,rfl,FrzL.fs [_,_]⟩
 by_cases d2:setI x&&&setI z=0
 case neg =>
  obtain ⟨e1,e2⟩:=bad (by rw [hap,decide_eq_true d1,decide_eq_false d2];rfl)
  have d1':=c0 _ d1
  have d2':¬((setI x&&&setI z:Nat):Int)=0:=by omega
  (repeat (with_reducible first|refine W_seq fun K hK=>?_|refine J_ret ?_|refine J_region ?_ |refine J_c ?_|refine Jc_true ?_|(refine Kont.go (by assumption) ?_)|(simp (config:={ maxSteps:=3000000 }) (disch:=omega) only [go_sem,a1,a2,d1',d2'])))
  rw [e1,e2];exact ⟨_,rfl,FrzL.fs [_,_]⟩
 by_cases d3:setI y&&&setI z=0
 case neg =>
  obtain ⟨e1,e2⟩:=bad (by rw [hap,decide_eq_true d1,decide_eq_true d2,decide_eq_false d3];rfl)
  have d1':=c0 _ d1
  have d2':=c0 _ d2
  have d3':¬((setI y&&&setI z:Nat):Int)=0:=by omega
  (repeat (with_reducible first|refine W_seq fun K hK=>?_|refine J_ret ?_|refine J_region ?_ |refine J_c ?_|refine Jc_true ?_|(refine Kont.go (by assumption) ?_)|(simp (config:={ maxSteps:=3000000 }) (disch:=omega) only [go_sem,a1,a2,a3,d1',d2',d3'])))
  rw [e1,e2];exact ⟨_,rfl,FrzL.fs [_,_]⟩
 have hok:apOk L.length [x,y,z]=true:=by rw [hap,decide_eq_true d1,decide_eq_true d2,decide_eq_true d3];rfl
 have d1':=c0 _ d1
 have d2':=c0 _ d2
 have d3':=c0 _ d3
 have hx3:∀v,(setI x).testBit v=true→v<L.length:=fun v hv=>setI_mem q1 hv
 have hz3:∀v,(setI z).testBit v=true→v<L.length:=fun v hv=>setI_mem q3 hv
 obtain ⟨rk,_,hrk⟩:=ord_rank hg.pa ho
 have hapV:=apV_got hg hrk hx3 hz3 d2 d3
 have hgs:=gotS_is (P:=setsOf L) (n:=L.length) (x:=setI x) (z:=setI z) hg hx3
 have hre:=reach_ex hg hx3 hz3 _ hgs
 have hg8:=hgs.lt hg hx3
 rw [s2] at l2
 have a4:=u_and hg8 l2
 have e1:vB=decide (gotS (setsOf L) L.length (setI x) (setI z)&&&setI y=0):=by
  rw [hvB]
  unfold aprB
  rw [if_pos ⟨h0,hok⟩,hapV]
 have e2:vE=0:=by rw [hvE];unfold aprE;rw [if_neg (fun h'=>h' h0),if_pos hok]
 (repeat (with_reducible first|refine W_seq fun K hK=>?_|refine J_skip ?_|refine J_c ?_|refine Jc_false ?_|(refine Kont.go (by assumption) ?_)|(simp (config:={ maxSteps:=3000000 }) (disch:=omega) only [go_sem,a1,a2,a3,d1',d2',d3'])))
 refine J_freezeO (j:=11) rfl (by first|rfl|(simp;done)|(simp [*];done)) rfl ?_
 simp only [go_sem]
 (repeat (with_reducible first|refine J_region ?_ |(simp (config:={ maxSteps:=3000000 }) (disch:=omega) only [go_sem])))
 (first|refine call_f (hre) rfl ?_|refine callQ_f (hre) rfl ?_|refine callHK_f (hre) rfl ?_|refine callH_f (hre) rfl ?_)
 (repeat (with_reducible first|refine J_ret ?_|(refine Kont.go (by assumption) ?_)|(simp (config:={ maxSteps:=3000000 }) (disch:=omega) only [go_sem,a4])))
 rw [e1,e2];exact ⟨_,rfl,FrzL.fs [_,_]⟩
end Go.Proofs.YtgjnbcfencallaaDoor
set_option linter.unusedVariables false
set_option linter.unusedSimpArgs false
namespace Go.Proofs.YtgjnbcfencallaaDoor
open Go Go.RowKit
set_option maxRecDepth 100000 in
theorem sameInts_w (l:List Int) (hn:l.length≤140737488355328):Good Tryd.prog 10 [ints l,ints l] (Bo true):=by
 refine good_of Tryd.func10 rfl (by kernel_rfl) fun X hO hrd=>?_;rw [Tryd.ntmps10,Tryd.results10];simp only [ast0,List.map_cons,List.map_nil,List.length_cons,List.length_nil,Nat.reduceAdd,Nat.reduceSub,List.replicate_succ,List.replicate_zero,List.cons_append,List.nil_append]
 (repeat (with_reducible first|refine W_seq fun K hK=>?_|refine J_block ?_|refine J_skip ?_|refine J_region ?_ |refine J_c ?_|refine Jc_false ?_|(refine Kont.go (by assumption) ?_)|(simp (config:={ maxSteps:=3000000 }) (disch:=omega) only [go_sem,List.length_map])))
 refine W_loop [4,5,11,12,13,14,15,16,17,18,19,20,21,22,23,24,25] (fun x:Nat=>[(5,.f (I x))]) (fun x:Nat=>[]) (fun x:Nat=>x≤l.length) (fun x:Nat=>l.length-x) (0) (Nat.zero_le _) (by refine weak_of ?_ ?_<;>simp (disch:=omega) only [go_sem]<;>first|rfl|exact ⟨rfl,rfl⟩|exact Or.inl rfl|exact ⟨Or.inl rfl,Or.inl rfl⟩|trivial|assumption|omega|(symm;assumption)|((repeat' apply And.intro)<;>first|rfl|omega|trivial|exact .inr ⟨rfl,rfl⟩|exact .inr rfl|(right;symm;assumption)|(symm;assumption)|assumption)) ?_
 rintro i hi
 simp only [go_sem]
 (repeat (with_reducible first|refine W_seq fun K hK=>?_|refine J_region ?_ |refine J_c ?_|(refine Kont.go (by assumption) ?_)|(simp (config:={ maxSteps:=3000000 }) (disch:=omega) only [go_sem,List.length_map])))
 refine Jc_if (fun hlt=>?_) (fun hlt=>?_)<;>try simp only [decide_eq_true_eq,decide_eq_false_iff_not] at hlt
 ·(repeat (with_reducible first|refine W_seq fun K hK=>?_|refine J_block ?_|refine J_skip ?_|refine J_region ?_ |refine J_drawn mixed (by kernel_rfl) ?_|refine J_c ?_|refine Jc_false ?_|(refine Kont.go (by assumption) ?_)|(simp (config:={ maxSteps:=3000000 }) (disch:=omega) only [go_sem,↓reduceIte,map_get I l hlt,hlt])))
  refine ⟨i+1,by omega,by omega,weak_of ?_ ?_⟩<;>(try simp (disch:=omega) only [go_sem])<;>(try first|done|omega|rfl|exact ⟨rfl,rfl⟩|trivial)
 ·(repeat (with_reducible first|refine W_seq fun K hK=>?_|refine J_exit ?_|refine J_ret ?_|refine J_region ?_ |exact Frz.f _|(refine Kont.go (by assumption) ?_)|(simp (config:={ maxSteps:=3000000 }) (disch:=omega) only [go_sem,↓reduceIte])))
set_option maxRecDepth 100000 in
theorem sameLists_w (m:List (List Int)) (hn:m.length≤140737488355328) (hr:∀r∈m,r.length≤140737488355328):Good Tryd.prog 19 [.fz 1 (m.map ints),.fz 1 (m.map ints)] (Bo true):=by
 refine good_of Tryd.func19 rfl (by kernel_rfl) fun X hO hrd=>?_;rw [Tryd.ntmps19,Tryd.results19];simp only [ast0,List.map_cons,List.map_nil,List.length_cons,List.length_nil,Nat.reduceAdd,Nat.reduceSub,List.replicate_succ,List.replicate_zero,List.cons_append,List.nil_append]
 (repeat (with_reducible first|refine W_seq fun K hK=>?_|refine J_block ?_|refine J_skip ?_|refine J_region ?_ |refine J_c ?_|refine Jc_false ?_|(refine Kont.go (by assumption) ?_)|(simp (config:={ maxSteps:=3000000 }) (disch:=omega) only [go_sem,List.length_map])))
 refine W_loop [4,5,11,12,13,14,15,16,17,18,19,20,21,22,23,24,25,26] (fun x:Nat=>[(5,.f (I x))]) (fun x:Nat=>[]) (fun x:Nat=>x≤m.length) (fun x:Nat=>m.length-x) (0) (Nat.zero_le _) (by refine weak_of ?_ ?_<;>simp (disch:=omega) only [go_sem]<;>first|rfl|exact ⟨rfl,rfl⟩|exact Or.inl rfl|exact ⟨Or.inl rfl,Or.inl rfl⟩|trivial|assumption|omega|(symm;assumption)|((repeat' apply And.intro)<;>first|rfl|omega|trivial|exact .inr ⟨rfl,rfl⟩|exact .inr rfl|(right;symm;assumption)|(symm;assumption)|assumption)) ?_
 rintro i hi
 simp only [go_sem]
 (repeat (with_reducible first|refine W_seq fun K hK=>?_|refine J_region ?_ |refine J_c ?_|(refine Kont.go (by assumption) ?_)|(simp (config:={ maxSteps:=3000000 }) (disch:=omega) only [go_sem,List.length_map])))
 refine Jc_if (fun hlt=>?_) (fun hlt=>?_)<;>try simp only [decide_eq_true_eq,decide_eq_false_iff_not] at hlt
 ·(repeat (with_reducible first|refine W_seq fun K hK=>?_|refine J_block ?_|refine J_skip ?_|refine J_drawn mixed (by kernel_rfl) ?_|(refine Kont.go (by assumption) ?_)|(simp (config:={ maxSteps:=3000000 }) (disch:=omega) only [go_sem,↓reduceIte,map_get ints m hlt,hlt])))
  refine callQ_f (sameInts_w m[i] (hr _ (List.getElem_mem _))) rfl ?_
  (repeat (with_reducible first|refine J_skip ?_|refine J_region ?_ |refine J_c ?_|refine Jc_false ?_|(refine Kont.go (by assumption) ?_)|(simp (config:={ maxSteps:=3000000 }) (disch:=omega) only [go_sem])))
  refine ⟨i+1,by omega,by omega,weak_of ?_ ?_⟩<;>(try simp (disch:=omega) only [go_sem])<;>(try first|done|omega|rfl|exact ⟨rfl,rfl⟩|trivial)
 ·(repeat (with_reducible first|refine W_seq fun K hK=>?_|refine J_exit ?_|refine J_ret ?_|refine J_region ?_ |exact Frz.f _|(refine Kont.go (by assumption) ?_)|(simp (config:={ maxSteps:=3000000 }) (disch:=omega) only [go_sem,↓reduceIte])))
def hvGo (n:Nat):List (List Int)→Nat
 | []=>n
 | r::l=>if n≤512 then hvGo (n+r.length) l else n
set_option maxRecDepth 100000 in
theorem heavyLists_w (L:List (List Int)) (hl:L.length≤140737488355328) (hr:∀r∈L,r.length≤140737488355328):∃b,Good Tryd.prog 7 [.fz 1 (L.map ints)] (Bo b):=by
 obtain ⟨g,hg⟩:∃g,g=hvGo L.length L:=⟨_,rfl⟩
 refine ⟨decide ((512:Int)<((g:Nat):Int)),?_⟩
 refine good_of Tryd.func7 rfl (by kernel_rfl) fun X hO hrd=>?_;rw [Tryd.ntmps7,Tryd.results7];simp only [ast0,List.map_cons,List.map_nil,List.length_cons,List.length_nil,Nat.reduceAdd,Nat.reduceSub,List.replicate_succ,List.replicate_zero,List.cons_append,List.nil_append]
 (repeat (with_reducible first|refine W_seq fun K hK=>?_|refine J_block ?_|refine J_region ?_ |(refine Kont.go (by assumption) ?_)|(simp (config:={ maxSteps:=3000000 }) (disch:=omega) only [go_sem,List.length_map])))
 refine W_loop [3,4,7,8,9,10,11,12,13,14,15,16,17,18,19,20,21,22,23] (fun x:Nat × Nat=>[(3,.f (I x.2)),(4,.f (I x.1))]) (fun x:Nat × Nat=>[]) (fun x:Nat × Nat=>x.1≤L.length∧hvGo x.2 (L.drop x.1)=g∧x.2≤281474976710656) (fun x:Nat × Nat=>L.length-x.1) ((0,L.length)) (⟨Nat.zero_le _,hg.symm,by simp only;omega⟩) (by refine weak_of ?_ ?_<;>simp (disch:=omega) only [go_sem]<;>first|rfl|exact ⟨rfl,rfl⟩|exact Or.inl rfl|exact ⟨Or.inl rfl,Or.inl rfl⟩|trivial|assumption|omega|(symm;assumption)|((repeat' apply And.intro)<;>first|rfl|omega|trivial|exact .inr ⟨rfl,rfl⟩|exact .inr rfl|(right;symm;assumption)|(symm;assumption)|assumption)) ?_
 rintro ⟨i,n⟩ ⟨hi,hn,hb⟩
 simp only at hi hn hb
 simp only [go_sem]
 by_cases hlt:i<L.length
 ·have hd:L.drop i=L[i]::L.drop (i+1):=List.drop_eq_getElem_cons hlt
  rw [hd] at hn
  unfold hvGo at hn
  have hri:=hr _ (List.getElem_mem hlt)
  by_cases hle:n≤512
  ·rw [if_pos hle] at hn
   have hle':(n:Int)≤512:=by omega
   (repeat (with_reducible first|refine W_seq fun K hK=>?_|refine J_block ?_|refine J_skip ?_|refine J_region ?_ |refine J_c ?_|refine Jc_true ?_|(refine Kont.go (by assumption) ?_)|(simp (config:={ maxSteps:=3000000 }) (disch:=omega) only [go_sem,↓reduceIte,List.length_map,hlt,hle',map_get ints L hlt,true_and])))
   refine ⟨(i+1,n+L[i].length),⟨by simp only;omega,hn,by simp only;omega⟩,by simp only;omega,weak_of ?_ ?_⟩<;>(try simp (disch:=omega) only [go_sem])<;>(try first|done|omega|rfl|exact ⟨rfl,rfl⟩|trivial)
  ·rw [if_neg hle] at hn
   have hle':¬(n:Int)≤512:=by omega
   (repeat (with_reducible first|refine W_seq fun K hK=>?_|refine J_exit ?_|refine J_ret ?_|refine J_region ?_ |refine J_c ?_|refine Jc_false ?_|(refine Kont.go (by assumption) ?_)|(simp (config:={ maxSteps:=3000000 }) (disch:=omega) only [go_sem,↓reduceIte,List.length_map,hlt,hle',true_and])))
   rw [hn];exact Frz.f _
 ·have hd:L.drop i=[]:=List.drop_of_length_le (by omega)
  rw [hd] at hn
  unfold hvGo at hn
  (repeat (with_reducible first|refine W_seq fun K hK=>?_|refine J_exit ?_|refine J_ret ?_|refine J_region ?_ |refine J_c ?_|refine Jc_false ?_|(refine Kont.go (by assumption) ?_)|(simp (config:={ maxSteps:=3000000 }) (disch:=omega) only [go_sem,↓reduceIte,List.length_map,hlt,true_and])))
  rw [hn];exact Frz.f _
end Go.Proofs.YtgjnbcfencallaaDoor
set_option linter.unusedVariables false
set_option linter.unusedSimpArgs false
namespace Go.Proofs.YtgjnbcfencallaaDoor
open Go Go.RowKit
theorem sameNs_w (l:List Nat) (h:l.length≤1000000):Good Tryd.prog 10 [.fz 1 (Ns l),.fz 1 (Ns l)] (Bo true):=by
 have h1:=sameInts_w (l.map Int.ofNat) (by rw [List.length_map];omega)
 have e1:ints (l.map Int.ofNat)=.fz 1 (Ns l):=by unfold Ns;simp [ints]
 rw [e1] at h1
 exact h1
theorem sameGvs_w (S:List Nat) (h:S.length≤1000000):Good Tryd.prog 19 [.fz 1 (gvs S),.fz 1 (gvs S)] (Bo true):=by
 have h1:=sameLists_w (S.map fun s=>(els s).map Int.ofNat) (by rw [List.length_map];omega) (fun r hr=>by
  obtain ⟨s,_,rfl⟩:=List.mem_map.1 hr
  rw [List.length_map]
  have:=els_len (s:=s)
  omega)
 have e1:(S.map fun s=>(els s).map Int.ofNat).map ints=gvs S:=by
  unfold gvs
  rw [List.map_map]
  refine List.map_congr_left fun s _=>?_
  show ints ((els s).map Int.ofNat)=_
  unfold Ns;simp [ints]
 rw [e1] at h1
 exact h1
theorem morV_gvs (L:List (List Int)):∃S:List Nat,morV L=gvs S∧S.length≤8:=by
 by_cases h0:ordE L=0
 ·obtain ⟨hb,_⟩:=ord_ok h0
  exact ⟨_,by unfold morV;rw [if_pos h0],by rw [mrL_len];exact (GP.of hb).n8⟩
 ·exact ⟨[],by unfold morV;rw [if_neg h0];rfl,by simp⟩
theorem ordL_len (L:List (List Int)):(ordL L).length≤8:=by
 unfold ordL
 split
 ·rename_i hb
  have hg:=GP.of hb
  cases ho:ordN (setsOf L) L.length L.length [] with
  | none=>simp
  | some l =>
   have:=(ordN_spec hg.pa _ OrdI.nil ho).2
   have:=hg.n8
   simp at *
   omega
 ·simp
theorem abvL_len (L:List (List Int)) (l:List Int):(abvL L l).length≤8:=by
 unfold abvL
 split
 ·exact els_len
 ·simp
set_option maxRecDepth 100000 in
set_option maxHeartbeats 8000000 in
theorem graphExact_good (L:List (List Int)) (l x y z:List Int) (hL:OkIss L) (hl:OkNs l) (hx:OkNs x) (hy:OkNs y) (hz:OkNs z) :
  Good Tryd.prog 3 [.fz 1 (L.map ints),ints l,ints x,ints y,ints z] (Bo true):=by
 obtain ⟨b,hb⟩:=heavyLists_w L hL.1 fun r hr=>(hL.2 r hr).1
 have o1:=order_w L hL
 have o2:=rorder_w L hL
 have c1:=check_w2 L hL
 have c2:=rcheck_w2 L hL
 have a1:=Above_w L hL l hl
 have a2:=rAbove_w L hL l hl
 have p1:=Apart_w L hL x y z hx hy hz
 have p2:=rApart_w L hL x y z hx hy hz
 have m1:=Moral_w L hL
 have m2:=rMoral_w L hL
 have s1:=sameNs_w (ordL L) (by have:=ordL_len L;omega)
 have s2:=sameNs_w (abvL L l) (by have:=abvL_len L l;omega)
 obtain ⟨S,hS,hSl⟩:=morV_gvs L
 have s3:=sameGvs_w S (by omega)
 rw [hS] at m1 m2
 have hl1:=hl.1
 have hx1:=hx.1
 have hy1:=hy.1
 have hz1:=hz.1
 refine good_of Tryd.func3 rfl (by kernel_rfl) fun X hO hrd=>?_;rw [Tryd.ntmps3,Tryd.results3];simp only [ast0,List.map_cons,List.map_nil,List.length_cons,List.length_nil,Nat.reduceAdd,Nat.reduceSub,List.replicate_succ,List.replicate_zero,List.cons_append,List.nil_append]
 (repeat (with_reducible first|refine W_seq fun K hK=>?_|refine J_region ?_ |(refine Kont.go (by assumption) ?_)|(simp (config:={ maxSteps:=3000000 }) (disch:=omega) only [go_sem])))
 (first|refine call_f (hb) rfl ?_|refine callQ_f (hb) rfl ?_|refine callHK_f (hb) rfl ?_|refine callH_f (hb) rfl ?_)
 cases b with
 | true=>(repeat (with_reducible first|refine W_seq fun K hK=>?_|refine J_ret ?_|refine J_region ?_ |refine J_c ?_|refine Jc_true ?_|exact Frz.f _|(refine Kont.go (by assumption) ?_)|(simp (config:={ maxSteps:=3000000 }) (disch:=omega) only [go_sem])))
 | false =>
  (repeat (with_reducible first|refine J_c ?_|(refine Kont.go (by assumption) ?_)|(simp (config:={ maxSteps:=3000000 }) (disch:=omega) only [go_sem,List.length_map,true_and])))
  refine Jc_if (fun hgt=>?_) (fun hgt=>?_)<;>try simp only [decide_eq_true_eq,decide_eq_false_iff_not] at hgt
  ·(repeat (with_reducible first|refine W_seq fun K hK=>?_|refine J_ret ?_|refine J_region ?_ |exact Frz.f _|(refine Kont.go (by assumption) ?_)|(simp (config:={ maxSteps:=3000000 }) (disch:=omega) only [go_sem])))
  ·(repeat (with_reducible first|refine W_seq fun K hK=>?_|refine J_skip ?_|refine J_region ?_ |(refine Kont.go (by assumption) ?_)|(simp (config:={ maxSteps:=3000000 }) (disch:=omega) only [go_sem])))
   (first|refine call_f (o1) rfl ?_|refine callQ_f (o1) rfl ?_|refine callHK_f (o1) rfl ?_|refine callH_f (o1) rfl ?_)
   (repeat (with_reducible first|refine W_seq fun K hK=>?_|refine J_region ?_ |(refine Kont.go (by assumption) ?_)|(simp (config:={ maxSteps:=3000000 }) (disch:=omega) only [go_sem])))
   (first|refine call_f (o2) rfl ?_|refine callQ_f (o2) rfl ?_|refine callHK_f (o2) rfl ?_|refine callH_f (o2) rfl ?_)
   (repeat (with_reducible first|refine W_seq fun K hK=>?_|refine J_region ?_ |(refine Kont.go (by assumption) ?_)|(simp (config:={ maxSteps:=3000000 }) (disch:=omega) only [go_sem])))
   (first|refine call_f (s1) rfl ?_|refine callQ_f (s1) rfl ?_|refine callHK_f (s1) rfl ?_|refine callH_f (s1) rfl ?_)
   (repeat (with_reducible first|(simp (config:={ maxSteps:=3000000 }) (disch:=omega) only [go_sem])))
   (first|refine call_f (c1) rfl ?_|refine callQ_f (c1) rfl ?_|refine callHK_f (c1) rfl ?_|refine callH_f (c1) rfl ?_)
   (repeat (with_reducible first|(simp (config:={ maxSteps:=3000000 }) (disch:=omega) only [go_sem])))
   (first|refine call_f (c2) rfl ?_|refine callQ_f (c2) rfl ?_|refine callHK_f (c2) rfl ?_|refine callH_f (c2) rfl ?_)
   (repeat (with_reducible first|refine W_seq fun K hK=>?_|refine J_skip ?_|refine J_region ?_ |refine J_c ?_|refine Jc_false ?_|(refine Kont.go (by assumption) ?_)|(simp (config:={ maxSteps:=3000000 }) (disch:=omega) only [go_sem])))
   (first|refine call_f (a1) rfl ?_|refine callQ_f (a1) rfl ?_|refine callHK_f (a1) rfl ?_|refine callH_f (a1) rfl ?_)
   (repeat (with_reducible first|refine W_seq fun K hK=>?_|refine J_region ?_ |(refine Kont.go (by assumption) ?_)|(simp (config:={ maxSteps:=3000000 }) (disch:=omega) only [go_sem])))
   (first|refine call_f (a2) rfl ?_|refine callQ_f (a2) rfl ?_|refine callHK_f (a2) rfl ?_|refine callH_f (a2) rfl ?_)
   (repeat (with_reducible first|refine W_seq fun K hK=>?_|refine J_region ?_ |(refine Kont.go (by assumption) ?_)|(simp (config:={ maxSteps:=3000000 }) (disch:=omega) only [go_sem])))
   (first|refine call_f (s2) rfl ?_|refine callQ_f (s2) rfl ?_|refine callHK_f (s2) rfl ?_|refine callH_f (s2) rfl ?_)
   (repeat (with_reducible first|refine W_seq fun K hK=>?_|refine J_skip ?_|refine J_region ?_ |refine J_c ?_|refine Jc_false ?_|(refine Kont.go (by assumption) ?_)|(simp (config:={ maxSteps:=3000000 }) (disch:=omega) only [go_sem])))
   (first|refine call_f (p1) rfl ?_|refine callQ_f (p1) rfl ?_|refine callHK_f (p1) rfl ?_|refine callH_f (p1) rfl ?_)
   (repeat (with_reducible first|refine W_seq fun K hK=>?_|refine J_region ?_ |(refine Kont.go (by assumption) ?_)|(simp (config:={ maxSteps:=3000000 }) (disch:=omega) only [go_sem])))
   (first|refine call_f (p2) rfl ?_|refine callQ_f (p2) rfl ?_|refine callHK_f (p2) rfl ?_|refine callH_f (p2) rfl ?_)
   (repeat (with_reducible first|refine W_seq fun K hK=>?_|refine J_region ?_ |(refine Kont.go (by assumption) ?_)|(simp (config:={ maxSteps:=3000000 }) (disch:=omega) only [go_sem])))
   (first|refine call_f (m1) rfl ?_|refine callQ_f (m1) rfl ?_|refine callHK_f (m1) rfl ?_|refine callH_f (m1) rfl ?_)
   (repeat (with_reducible first|refine W_seq fun K hK=>?_|refine J_region ?_ |(refine Kont.go (by assumption) ?_)|(simp (config:={ maxSteps:=3000000 }) (disch:=omega) only [go_sem])))
   (first|refine call_f (m2) rfl ?_|refine callQ_f (m2) rfl ?_|refine callHK_f (m2) rfl ?_|refine callH_f (m2) rfl ?_)
   (repeat (with_reducible first|refine W_seq fun K hK=>?_|refine J_region ?_ |(refine Kont.go (by assumption) ?_)|(simp (config:={ maxSteps:=3000000 }) (disch:=omega) only [go_sem,bin_eqb Tryd.underlying4,beq_self_eq_true])))
   (first|refine call_f (s3) rfl ?_|refine callQ_f (s3) rfl ?_|refine callHK_f (s3) rfl ?_|refine callH_f (s3) rfl ?_)
   (repeat (with_reducible first|refine J_ret ?_|exact Frz.f _|(refine Kont.go (by assumption) ?_)|(simp (config:={ maxSteps:=3000000 }) (disch:=omega) only [go_sem])))
end Go.Proofs.YtgjnbcfencallaaDoor
namespace Go.Proofs.YtgjnbcfencallaaDoor
open Go Go.ChangeShapes Go.ChangeAt Go.RowKit
variable {H : Type} {enc : TypeId × Value → H} {P : Program}

def relay (cs:Array Value):Obj→Obj
 | .cells _ t frozen=>.cells cs t frozen
 | o=>o
def firstCells:Array Value:=(Go.Pinned.utf8FirstZ.map fun n:Nat=>Value.int .u8 (n:Int)).toArray
end Go.Proofs.YtgjnbcfencallaaDoor
set_option linter.unusedVariables false
set_option linter.unusedSimpArgs false
namespace Go.Proofs.YtgjnbcfencallaaDoor
open Go Go.RowKit Go.ChangeShapes

def Old (w:World):Nat→Prop:=fun b=>b<w.heap.size
section
variable {P : Program} {H : Type}
theorem all_of_each {ts:List TypeId} {ds:List (DataW H)} (h:(DataW.weightsEach P ts ds).all (·≤ reachBytes)=true) {j:Nat} {t:TypeId} {d:DataW H} (ht:ts[j]?=some t) (hd:ds[j]?=some d):(d.weights P t).all (·≤ reachBytes)=true :=
 List.all_eq_true.2 fun n hn=>List.all_eq_true.1 h n (DataW.weights_mem_each ht hd n hn)
theorem mem_weightsAll {e:TypeId} {d:DataW H}:∀{ds:List (DataW H)},d∈ds→∀n∈d.weights P e,n∈DataW.weightsAll P e ds
 | [],h,_,_=>by cases h
 | x::r,h,n,hn=>by
  rw [DataW.weightsAll,List.mem_append]
  rcases List.mem_cons.1 h with rfl|h
  ·exact .inl hn
  ·exact .inr (mem_weightsAll h n hn)
structure Opens (P : Program) (t : TypeId) {α : Type} (F : α → FV) (Ok : α → Prop) : Prop where
  len : ∀ a, (F a).cells.length = P.cellsOf t
  st : ∀ a, (F a).st = true
  rd : ∀ {H : Type} (enc : TypeId × Value → H) (w : World) (fuel : Nat) (cs : List Value) (x : DataW H × List MemPlace), DataW.trod enc P w 0 (fun _ => true) true fuel t cs = some x → (x.1.weights P t).all (· ≤ reachBytes) = true →
    ∃ a, Ok a ∧ cs.length = P.cellsOf t ∧ ∀ (j : Nat) c, (F a).cells[j]? = some c → RepF w (Old w) c (cs.getD j undef)
  up : ∀ (a : α) (w : World) (r : Reach) (b : Nat) (v : Value), Value.okWide P w r b t v → v.cells.toList.length = P.cellsOf t → (∀ (j : Nat) c, (F a).cells[j]? = some c → RepF w (Old w) c (v.cells.toList.getD j undef)) → RepF w (Old w) (F a) v
theorem Opens.arg {t:TypeId} {α:Type} {F:α→FV} {Ok:α→Prop} (h:Opens P t F Ok) {enc:TypeId × Value→H} {w:World} {v:Value} {d:DataW H} {p:List MemPlace} {r:Reach} {b:Nat} (hval:Value.okWide P w r b t v)
  (hT:DataW.Trod enc P w 0 (fun _=>true) true t v d p) (hwt:(d.weights P t).all (·≤ reachBytes)=true):∃a,Ok a∧RepF w (Old w) (F a) v:=by
 obtain ⟨fuel,hf⟩:=hT
 obtain ⟨a,h1,h2,h3⟩:=h.rd enc w fuel _ _ hf hwt
 exact ⟨a,h1,h.up a w r b v hval h2 h3⟩
theorem Opens.map {t:TypeId} {α:Type} {F:α→FV} {Ok Ok':α→Prop} (h:Opens P t F Ok) (hk:∀a,Ok a→Ok' a):Opens P t F Ok' :=
 ⟨h.len,h.st,fun enc w fuel cs x hx hw=>by obtain ⟨a,h1,h2⟩:=h.rd enc w fuel cs x hx hw;exact ⟨a,hk a h1,h2⟩,h.up⟩
theorem one_up {t:TypeId} {w:World} {v:Value} {c:FV} (hn:∀cs,v≠.agg cs) (h:∀(j:Nat) d,[c][j]?=some d→RepF w (Old w) d (v.cells.toList.getD j undef)):RepF w (Old w) c v:=by
 have e:v.cells.toList=[v]:=by cases v<;>first|rfl|exact absurd rfl (hn _)
 have:=h 0 c rfl
 rw [e] at this
 exact this
theorem one_rd {w:World} {c:FV} {v:Value} (h:RepF w (Old w) c v):∀(j:Nat) d,[c][j]?=some d→RepF w (Old w) d ([v].getD j undef):=fun j d hj=>by
 cases j with
 | zero=>simp at hj;subst hj;exact h
 | succ j=>simp at hj
theorem Opens.int {t:TypeId} {k:IntKind} (ht:P.underlying t=some (.int k)) (h1:P.cellsOf t=1):Opens P t (fun n:Int=>.v (.int k n)) (fun n=>(Lit.int k n).wf=true) where
 len a:=by rw [h1];rfl
 st a:=rfl
 rd enc w fuel cs x hx hw:=by
  obtain ⟨n,rfl,rfl,h⟩:=DataW.trod_int ht hx
  exact ⟨n,h,by rw [h1];rfl,one_rd (.v _)⟩
 up a w r b v hv _ h:=one_up (t:=t) (fun cs e=>by subst e;simp [Value.okWide,Cell.okWide,Cell.ok,ht] at hv) h
theorem Opens.bool {t:TypeId} (ht:P.underlying t=some .bool) (h1:P.cellsOf t=1):Opens P t (fun b:Bool=>.v (.bool b)) (fun _=>True) where
 len a:=by rw [h1];rfl
 st a:=rfl
 rd enc w fuel cs x hx hw:=by
  obtain ⟨n,rfl,rfl⟩:=DataW.trod_bool ht hx
  exact ⟨n,trivial,by rw [h1];rfl,one_rd (.v _)⟩
 up a w r b v hv _ h:=one_up (t:=t) (fun cs e=>by subst e;simp [Value.okWide,Cell.okWide,Cell.ok,ht] at hv) h
theorem Opens.string {t:TypeId} (ht:P.underlying t=some .string) (h1:P.cellsOf t=1):Opens P t (fun s:ByteArray=>.v (.string s)) (fun s=>s.size≤reachBytes) where
 len a:=by rw [h1];rfl
 st a:=rfl
 rd enc w fuel cs x hx hw:=by
  obtain ⟨s,rfl,rfl,h⟩:=DataW.trod_string ht hx
  have:=List.all_eq_true.1 hw s.data.toList.length (by simp [DataW.weights])
  rw [bytes_size] at this
  exact ⟨s,by simpa using this,by rw [h1];rfl,one_rd (.v _)⟩
 up a w r b v hv _ h:=one_up (t:=t) (fun cs e=>by subst e;simp [Value.okWide,Cell.okWide,Cell.ok,ht] at hv) h
theorem spot_of_cell {w:World} {a:Addr} {u:Value} (h:w.cell? a=some u):a.spot=none:=by
 unfold World.cell? at h
 split at h
 ·split at h
  ·cases h
  ·rename_i hs;simpa using hs
 ·cases h
theorem add_add {a:Addr} (hs:a.spot=none) (i j:Nat):(a.add i).add j=⟨a.block,a.off+(i+j),none⟩:=by
 obtain ⟨b,o,s⟩:=a
 simp only at hs
 subst hs
 unfold Addr.add
 split<;>split<;>simp_all<;>omega
theorem flatF_at {sz:Nat} {es:List FV} (hu:UniF sz es) (h0:0<sz) {j:Nat} {c:FV} (h:(flatF es)[j]?=some c):∃e,es[j/sz]?=some e∧e.cells[j%sz]?=some c:=by
 have h1:=flat_get (uni_f.2 hu) (i:=j/sz) (Nat.mod_lt j h0)
 rw [Nat.mul_comm,Nat.div_add_mod,flat_f,List.getElem?_map,h,List.getElem?_map] at h1
 cases he:es[j/sz]? with
 | none=>rw [he] at h1;cases h1
 | some e =>
  rw [he] at h1
  simp only [Option.map_some,Option.bind_some,cells_f,List.getElem?_map] at h1
  cases hc:e.cells[j%sz]? with
  | none=>rw [hc] at h1;cases h1
  | some d=>rw [hc] at h1;cases h1;exact ⟨e,rfl,hc⟩
theorem Opens.slice {t e:TypeId} {α:Type} {F:α→FV} {Ok:α→Prop} (h:Opens P e F Ok) {n:Nat} (ht:P.underlying t=some (.slice e)) (hn:P.cellsOf e=n) (h0:0<n) (h1:P.cellsOf t=1) :
  Opens P t (fun l:List α=>.fz n (l.map F)) (fun l=>l.length*P.bytesOf e≤reachBytes∧∀a∈l,Ok a) where
 len a:=by rw [h1];rfl
 st a:=rfl
 rd {H} enc w fuel cs x hx hw:=by
  rcases DataW.trod_slice ht hx with ⟨rfl,rfl⟩|⟨a,len,cap,elems,rest,m,_,rfl,rfl,_,hl,hm,hlen,hel,_,_⟩
  ·exact ⟨[],⟨by simp,by simp⟩,by rw [h1];rfl,one_rd (.fz0 _ _ _ (by simp))⟩
  ·rw [hn] at hel
   have hwa:∀y∈elems,(y.1.weights P e).all (·≤ reachBytes)=true:=fun y hy=>List.all_eq_true.2 fun k hk=>List.all_eq_true.1 hw k (by
    simp only [DataW.weights,ht,List.mem_cons,List.mem_append]
    exact .inr (.inl (mem_weightsAll (List.mem_map.2 ⟨y,hy,rfl⟩) k hk)))
   have hwl:len*P.bytesOf e≤reachBytes:=by
    have:=List.all_eq_true.1 hw ((elems.length+rest.length)*P.bytesOf e) (by simp [DataW.weights,ht])
    have h2:(elems.length+rest.length)*P.bytesOf e≤reachBytes:=by simpa using this
    rw [Nat.add_mul,hlen] at h2
    omega
   have each:∀i:Fin len,∃b:α,Ok b∧∀(j:Nat) c,(F b).cells[j]?=some c→∃u,w.cell? ((a.add (i.1*n)).add j)=some u∧RepF w (Old w) c u:=fun i=>by
    have hi:=hel i.1 i.2
    have hy:elems[i.1]?=some (elems[i.1]'(by rw [hlen];exact i.2)):=List.getElem?_eq_getElem _
    rw [hy] at hi
    obtain ⟨cs',hc,hd⟩:=Option.bind_eq_some_iff.1 hi
    obtain ⟨b,hb1,hb2,hb3⟩:=h.rd enc w m cs' _ hd (hwa _ (List.getElem_mem _))
    refine ⟨b,hb1,fun j c hj=>⟨cs'.getD j undef,?_,hb3 j c hj⟩⟩
    have hjn:j<n:=by rw [←hn,←h.len b];exact glt hj
    rw [(World.cells?_some hc).2.2 j hjn,List.getD_eq_getElem?_getD]
    have:j<cs'.length:=by rw [(World.cells?_some hc).2.1];exact hjn
    rw [List.getElem?_eq_getElem this];rfl
   let A:Fin len→α:=fun i=>Classical.choose (each i)
   have hA:∀i,Ok (A i)∧∀(j:Nat) c,(F (A i)).cells[j]?=some c→∃u,w.cell? ((a.add (i.1*n)).add j)=some u∧RepF w (Old w) c u:=fun i=>Classical.choose_spec (each i)
   refine ⟨List.ofFn A,⟨by rw [List.length_ofFn];exact hwl,fun b hb=>by obtain ⟨i,rfl⟩:=List.mem_ofFn.1 hb;exact (hA i).1⟩,by rw [h1];rfl,one_rd ?_⟩
   by_cases hz:len=0
   ·subst hz
    have:List.ofFn A=[]:=by simp
    rw [this]
    exact .fz0 _ _ _ hm
   ·have hpos:0<len:=by omega
    have hfirst:∃u,w.cell? a=some u:=by
     obtain ⟨_,h3⟩:=hA ⟨0,hpos⟩
     have hl0:0<(F (A ⟨0,hpos⟩)).cells.length:=by rw [h.len,hn];exact h0
     obtain ⟨u,hu,_⟩:=h3 0 _ (List.getElem?_eq_getElem hl0)
     exact ⟨u,by simpa [Addr.add] using hu⟩
    obtain ⟨u0,hu0⟩:=hfirst
    have hs:=spot_of_cell hu0
    have hblk:a.block<w.heap.size:=block_lt_of_cell hu0
    have hel2:∀x∈(List.ofFn A).map F,x.cells.length=n∧x.st=true:=fun x hx=>by
     obtain ⟨b,_,rfl⟩:=List.mem_map.1 hx
     exact ⟨by rw [h.len,hn],h.st b⟩
    have key:∀(j:Nat) c,(flatF ((List.ofFn A).map F))[j]?=some c→∃u,w.cell? ⟨a.block,a.off+j,none⟩=some u∧RepF w (Old w) c u:=fun j c hj=>by
     obtain ⟨e',he1,he2⟩:=flatF_at hel2 h0 hj
     rw [List.getElem?_map] at he1
     cases hb:(List.ofFn A)[j/n]? with
     | none=>rw [hb] at he1;cases he1
     | some b =>
      rw [hb] at he1
      cases he1
      have hjl:j/n<len:=by have:=glt hb;simpa using this
      have hbe:b=A ⟨j/n,hjl⟩:=by
       rw [List.getElem?_eq_getElem (by simpa using hjl)] at hb
       simpa using hb.symm
      subst hbe
      obtain ⟨u,h3,h4⟩:=(hA ⟨j/n,hjl⟩).2 (j%n) c he2
      rw [add_add hs,Nat.mul_comm,Nat.div_add_mod] at h3
      exact ⟨u,h3,h4⟩
    have hval:(Value.slice (some a) len cap)=.slice (some ⟨a.block,a.off,none⟩) ((List.ofFn A).map F).length cap:=by
     obtain ⟨b,o,s⟩:=a
     simp only at hs
     subst hs
     simp
    rw [hval]
    refine .fz n _ a.block a.off cap hblk (by simpa using hl) hm hel2 (fun j=>(w.cell? ⟨a.block,a.off+j,none⟩).getD undef) (fun j c hj=>?_) fun j c hj=>?_
    ·obtain ⟨u,h3,_⟩:=key j c hj
     rw [h3];rfl
    ·obtain ⟨u,h3,h4⟩:=key j c hj
     rw [h3];exact h4
 up a w r b v hv _ h:=one_up (t:=t) (fun cs e=>by subst e;simp [Value.okWide,Cell.okWide,Cell.ok,ht] at hv) h
theorem repFL_nil {w:World} {F:Nat→Prop}:RepFL w F [] #[]:=⟨rfl,fun j x h=>by simp at h⟩
theorem repFL_cons {w:World} {F:Nat→Prop} {c:FV} {v:Value} {cs:List FV} {vs:List Value} (h:RepF w F c v) (hs:RepFL w F cs vs.toArray):RepFL w F (c::cs) (v::vs).toArray :=
 ⟨by simpa using hs.1,fun j x hj=>by
  cases j with
  | zero=>simp at hj;subst hj;simpa [Array.getD_eq_getD_getElem?] using h
  | succ j=>simpa [Array.getD_eq_getD_getElem?] using hs.2 j x (by simpa using hj)⟩
theorem trodAll_below {enc:TypeId × Value→H} {W W':World} (hl:laidOutB P=true) (hb:Below W.heap.size W W'):∀{ts:List TypeId} {vs:List Value} {ds:List (DataW H)} {ps:List MemPlace},ts.all (fun t=>P.readableRec t&&decide (t<P.types.size))=true →
  DataW.TrodAll enc P W 0 (fun _=>true) true ts vs ds ps→(∀x∈ps,x.block<W.heap.size)→DataW.TrodAll enc P W' 0 (fun b=>decide (b<W.heap.size)) true ts vs ds ps
 | [],vs,ds,ps,_,h,_=>by
  obtain ⟨rfl,rfl,rfl⟩:=trodAll_nil h
  rfl
 | t::ts,vs,ds,ps,hr,h,hlt=>by
  obtain ⟨v,vs',d,ds',p,q,rfl,rfl,rfl,hd,hrest⟩:=trodAll_cons h
  simp only [List.all_cons,Bool.and_eq_true,decide_eq_true_eq] at hr
  exact ⟨p,q,Below.trod hl hr.1.1 hr.1.2 hd hb (fun x hx=>hlt x (List.mem_append.2 (.inl hx))),trodAll_below hl hb hr.2 hrest (fun x hx=>hlt x (List.mem_append.2 (.inr hx))),rfl⟩
theorem post_of_below {enc:TypeId × Value→H} {f:Func} {s:ChangeSpec} {apart fresh handsOn:Bool} {W W':World} {args:Array Value} {v:Value} {ds gs:List (DataW H)} {before:List MemPlace} {ts:List TypeId} (hts:f.params.toList=ts) (hl:laidOutB P=true)
  (hrd:ts.all (fun t=>P.readableRec t&&decide (t<P.types.size))=true) (hvars:s.vars=[])
  (hW:DataW.Whole enc P f.params.toList s.vars apart W args.toList ds gs before) (hsa:(s.fn H (ds++gs)).args=ds) (hsv:(s.fn H (ds++gs)).vars=[])
  (hres:∀(b:Nat) (sp:Nat→Bool) (hd:Bool),DataW.TrodAll enc P W' b sp hd f.resultTypes.toList (v.resultList f.resultTypes.size) (s.fn H (ds++gs)).results [])
  (hb:Below W.heap.size W W'):s.post enc P f apart fresh handsOn false W args v W':=by
 have hW0:=hW
 have hold:∀p∈before,p.block<W.heap.size:=fun p hp=>hW.lt p hp
 obtain ⟨p,q,hA,hV,rfl,hfz,hnd⟩:=hW
 have hV0:=hV
 rw [hvars] at hV0
 obtain ⟨hg0,hq0⟩:=trodVars_none hV0
 subst hq0
 subst hts
 have hA':=trodAll_below hl hb hrd hA (fun x hx=>hold x (List.mem_append.2 (.inl hx)))
 refine ⟨ds,gs,p++[],[],p,[],hW0,hres _ _ _,by rw [hsa];exact hA',?_,World.keptBut_mono (fun x hx=>⟨hx,Or.inr (by simpa using hx)⟩) (hb.frame (·∈ p++[])),fun h=>by cases h⟩
 rw [hvars,hsv];rfl
end
end Go.Proofs.YtgjnbcfencallaaDoor
set_option linter.unusedVariables false
set_option linter.unusedSimpArgs false
namespace Go.Proofs.YtgjnbcfencallaaDoor
open Go Go.RowKit
def OkI (n:Int):Prop:=-9223372036854775808≤n∧n≤9223372036854775807
def OkIs (l:List Int):Prop:=l.length≤140737488355328∧∀x∈l,OkI x
theorem reach_8 {n m:Nat} (h:n*m≤reachBytes) (hm:0<m):n≤140737488351232:=by
 have e:reachBytes=140737488351232:=by decide
 rw [e] at h
 exact Nat.le_trans (Nat.le_mul_of_pos_right n hm) h
theorem oI:Opens Tryd.prog 3 I OkI:=(Opens.int Tryd.underlying3 (by kernel_rfl)).map fun n h=>Go.bounds_i64 h
theorem oIs:Opens Tryd.prog 23 ints OkIs:=(oI.slice Tryd.underlying23 (by kernel_rfl) (by decide) (by kernel_rfl)).map fun l h=>⟨Nat.le_trans (reach_8 h.1 (by decide +kernel)) (by decide),h.2⟩
theorem oIss:Opens Tryd.prog 22 (fun l:List (List Int)=>.fz 1 (l.map ints)) (fun l=>l.length≤140737488355328∧∀r∈l,OkIs r):=(oIs.slice Tryd.underlying22 (by kernel_rfl) (by decide) (by kernel_rfl)).map fun l h=>⟨Nat.le_trans (reach_8 h.1 (by decide +kernel)) (by decide),h.2⟩
end Go.Proofs.YtgjnbcfencallaaDoor
