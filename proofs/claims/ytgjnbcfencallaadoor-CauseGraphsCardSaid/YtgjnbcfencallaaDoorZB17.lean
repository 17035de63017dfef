/- What is apart, the program's way: walked. Conditions: what slices may hold. -/
import Derived.Test.YtgjnbcfencallaaDoorZGrN
import Derived.Test.YtgjnbcfencallaaDoorZB14
set_option linter.unusedVariables false
set_option linter.unusedSimpArgs false
namespace Go.Proofs.YtgjnbcfencallaaDoor
open Go Go.RowKit
noncomputable def gotS (P:List Nat) (n x z:Nat):Nat:=setB n fun v=>@decide (z.testBit v=false∧∃d,Ball (paO P) (anO P n z) z.testBit x.testBit v d) (Classical.propDecidable _)
section
variable {P : List Nat} {n x y z : Nat}
theorem gotS_is (hg:GP n P) (hx:∀v,x.testBit v=true→v<n):IsGot P n x z (gotS P n x z):=fun v=>by
 unfold gotS
 rw [setB_bit,Bool.and_eq_true,decide_eq_true_eq,@decide_eq_true_iff _ (Classical.propDecidable _)]
 refine ⟨fun h=>h.2,fun h=>⟨?_,h⟩⟩
 obtain ⟨_,d,hb⟩:=h
 cases hb with
 | start hx'=>exact hx v hx'
 | down _ _ hp=>exact (hg.pa _ _ hp).2
 | up _ _ hp=>exact (hg.pa _ _ hp).1
theorem and_zero {a b:Nat}:a&&&b=0↔∀v,a.testBit v=true→b.testBit v=true→False:=by
 constructor
 ·intro h v h1 h2
  have e:(a&&&b).testBit v=false:=by rw [h];exact Nat.zero_testBit v
  rw [Nat.testBit_and,h1,h2] at e
  cases e
 ·intro h
  refine ext_bits' fun v=>?_
  rw [Nat.testBit_and,Nat.zero_testBit]
  cases h1:a.testBit v with
  | false=>rfl
  | true =>
   cases h2:b.testBit v with
   | false=>rfl
   | true=>exact (h v h1 h2).elim
theorem apV_got (hg:GP n P) {rk:Nat→Nat} (hrk:∀u v,paO P u v=true→rk u<rk v) (hx:∀v,x.testBit v=true→v<n) (hz:∀v,z.testBit v=true→v<n)
  (hxz:x&&&z=0) (hyz:y&&&z=0):apV P n x y z=decide (gotS P n x z&&&y=0):=by
 have hn8:=hg.n8
 have hi:=apart_iff (pa:=paO P) (An:=anO P n z) (Z:=z.testBit) (X:=x.testBit) (Y:=y.testBit) (n:=n) (anO_up hg.pa) (anO_self hz) (acyc hrk) hx hg.pa (fun v hv=>by
  cases h:z.testBit v with
  | false=>rfl
  | true=>exact (and_zero.1 hxz v hv h).elim)
 rw [Bool.eq_iff_iff,decide_eq_true_eq,and_zero]
 unfold apV
 rw [Bool.not_eq_true',List.any_eq_false]
 constructor
 ·intro h t h1 h2
  obtain ⟨h3,d,h4⟩:=(gotS_is hg hx t).1 h1
  obtain ⟨v,h5,h6⟩:=hi.2 ⟨t,d,h4,h2⟩
  exact h v (els_mem.2 ⟨by have:=hx v h5;omega,h5⟩) h6
 ·intro h v hv h1
  obtain ⟨t,d,h2,h3⟩:=hi.1 ⟨v,(els_mem.1 hv).2,h1⟩
  refine h t ((gotS_is hg hx t).2 ⟨?_,d,h2⟩) h3
  cases hzt:z.testBit t with
  | false=>rfl
  | true=>exact (and_zero.1 hyz t h3 hzt).elim
end
theorem ris_nodup {n:Nat} {l:List Int} (hn:n≤8) (h:risB n l=true):l.Nodup∧∀v∈l,∃u:Nat,v=(u:Int)∧(setI l).testBit u=true:=by
 have hr:=risB_iff.1 h
 have hnn:=(ris_nn (x:=l.length) hr).2
 constructor
 ·have hlt:∀i j,i<j→j<l.length→l.getD i 0<l.getD j 0:=by
   intro i j
   induction j with
   | zero=>intro h;omega
   | succ j ih =>
    intro hij hj
    have h1:=(hr (j+1) hj).1
    rw [prevI_next] at h1
    by_cases e:i=j
    ·subst e;exact h1
    ·exact Int.lt_trans (ih (by omega) (by omega)) h1
  rw [List.nodup_iff_pairwise_ne,List.pairwise_iff_getElem]
  intro i j hi hj hij
  have h1:=hlt i j hij hj
  rw [lget_lt l 0 hi,lget_lt l 0 hj] at h1
  omega
 ·intro v hv
  obtain ⟨j,hj,e⟩:=List.getElem_of_mem hv
  have h0:=hnn j hj
  rw [lget_lt l 0 hj,e] at h0
  obtain ⟨u,hu⟩:=Int.eq_ofNat_of_zero_le h0
  exact ⟨u,hu,by rw [set_mem h];exact decide_eq_true (by rw [←hu];exact hv)⟩
theorem disj_iff {n:Nat} {a b:List Int} (hn:n≤8) (ha:risB n a=true) (hb:risB n b=true):(∀x∈a,∀y∈b,x≠y)↔setI a&&&setI b=0:=by
 rw [and_zero]
 constructor
 ·intro h v h1 h2
  rw [set_mem ha] at h1
  rw [set_mem hb] at h2
  exact h _ (of_decide_eq_true h1) _ (of_decide_eq_true h2) rfl
 ·intro h x hx y hy e
  obtain ⟨u,h1,h2⟩:=(ris_nodup hn ha).2 x hx
  obtain ⟨w,h3,h4⟩:=(ris_nodup hn hb).2 y hy
  have:u=w:=by omega
  subst this
  exact h u h2 h4
theorem apOk_iff {n:Nat} {x y z:List Int} (hn:n≤8) (hx:risB n x=true) (hy:risB n y=true) (hz:risB n z=true) :
  apOk n [x,y,z]=(decide (setI x&&&setI y=0)&&decide (setI x&&&setI z=0)&&decide (setI y&&&setI z=0)):=by
 unfold apOk
 have h1:[x,y,z].all (risB n)=true:=by simp [hx,hy,hz]
 rw [h1,Bool.true_and,Bool.eq_iff_iff]
 simp only [decide_eq_true_eq,Bool.and_eq_true]
 rw [←disj_iff hn hx hy,←disj_iff hn hx hz,←disj_iff hn hy hz]
 have e:[x,y,z].flatten=x++(y++z):=by simp
 rw [e,List.nodup_append,List.nodup_append]
 constructor
 ·rintro ⟨_,⟨_,_,h2⟩,h3⟩
  exact ⟨⟨fun a ha b hb=>h3 a ha b (List.mem_append_left _ hb),fun a ha b hb=>h3 a ha b (List.mem_append_right _ hb)⟩,h2⟩
 ·rintro ⟨⟨h2,h3⟩,h4⟩
  refine ⟨(ris_nodup hn hx).1,⟨(ris_nodup hn hy).1,(ris_nodup hn hz).1,h4⟩,fun a ha b hb=>?_⟩
  rcases List.mem_append.1 hb with hb|hb
  ·exact h2 a ha b hb
  ·exact h3 a ha b hb
theorem apOk_ris {n:Nat} {x y z:List Int} (h:¬(risB n x=true∧risB n y=true∧risB n z=true)):apOk n [x,y,z]=false:=by
 cases he:apOk n [x,y,z] with
 | false=>rfl
 | true=>exact absurd (ap_ris he) h
set_option maxRecDepth 100000 in
set_option maxHeartbeats 8000000 in
theorem Apart_w (L:List (List Int)) (hL:OkIss L) (x y z:List Int) (hx:OkNs x) (hy:OkNs y) (hz:OkNs z) :
  Good Tryd.prog 15 [.fz 1 (L.map ints),ints x,ints y,ints z] (.tup [Bo (aprB L x y z),I (aprE L x y z)]):=by
 have hc:=check_w2 L hL
 have hrs0:=reads_w L hL
 by_cases h0:ordE L=0
 case neg =>
  rw [show aprB L x y z=false by unfold aprB;rw [if_neg fun h=>h0 h.1],show aprE L x y z=ordE L by unfold aprE;rw [if_pos h0]]
  refine good_of Tryd.func15 rfl (by kernel_rfl) fun X hO hrd=>?_;rw [Tryd.ntmps15,Tryd.results15];simp only [ast0,List.map_cons,List.map_nil,List.length_cons,List.length_nil,Nat.reduceAdd,Nat.reduceSub,List.replicate_succ,List.replicate_zero,List.cons_append,List.nil_append]
  (repeat (with_reducible first|refine W_seq fun K hK=>?_|refine J_region ?_ |(refine Kont.go (by assumption) ?_)|(simp (config:={ maxSteps:=3000000 }) (disch:=omega) only [go_sem])))
  (first|refine call_f (hc) rfl ?_|refine callQ_f (hc) rfl ?_|refine callHK_f (hc) rfl ?_|refine callH_f (hc) rfl ?_)
  (repeat (with_reducible first|refine W_seq fun K hK=>?_|refine J_ret ?_|refine J_region ?_ |refine J_c ?_|refine Jc_true ?_|(refine Kont.go (by assumption) ?_)|(simp (config:={ maxSteps:=3000000 }) (disch:=omega) only [go_sem,h0])))
  exact ⟨_,rfl,FrzL.fs [_,_]⟩
 obtain ⟨hb,o,ho⟩:=ord_ok h0
 have hg:=GP.of hb
 have hn8:=hg.n8
 have e3:rdR L=.own 56 1 ((setsOf L).map U):=by unfold rdR;rw [hb];rfl
 rw [hb,e3] at hrs0
 rw [h0] at hc
 have hsl:((setsOf L).map U).length=L.length:=by rw [List.length_map,setsOf_len]
 have r1:=read_w x (n:=L.length) hn8 hx.2 hx.1
 have r2:=read_w y (n:=L.length) hn8 hy.2 hy.1
 have r3:=read_w z (n:=L.length) hn8 hz.2 hz.1
 have l1:=readS_lt (l:=x) hn8
 have l2:=readS_lt (l:=y) hn8
 have l3:=readS_lt (l:=z) hn8
 have a1:=u_and l1 l2
 have a2:=u_and l1 l3
 have a3:=u_and l2 l3
 obtain ⟨vB,hvB⟩:∃vB,vB=aprB L x y z:=⟨_,rfl⟩
 obtain ⟨vE,hvE⟩:∃vE,vE=aprE L x y z:=⟨_,rfl⟩
 rw [←hvB,←hvE]
 have bad:apOk L.length [x,y,z]=false→vB=false∧vE=11:=fun h=>by
  exact ⟨by rw [hvB];unfold aprB;exact if_neg fun h'=>(by rw [h] at h';cases h'.2),by rw [hvE];unfold aprE;rw [if_neg (fun h'=>h' h0),if_neg (by rw [h];decide)]⟩
 refine good_of Tryd.func15 rfl (by kernel_rfl) fun X hO hrd=>?_;rw [Tryd.ntmps15,Tryd.results15];simp only [ast0,List.map_cons,List.map_nil,List.length_cons,List.length_nil,Nat.reduceAdd,Nat.reduceSub,List.replicate_succ,List.replicate_zero,List.cons_append,List.nil_append]
 (repeat (with_reducible first|refine W_seq fun K hK=>?_|refine J_region ?_ |(refine Kont.go (by assumption) ?_)|(simp (config:={ maxSteps:=3000000 }) (disch:=omega) only [go_sem])))
 (first|refine call_f (hc) rfl ?_|refine callQ_f (hc) rfl ?_|refine callHK_f (hc) rfl ?_|refine callH_f (hc) rfl ?_)
 (repeat (with_reducible first|refine W_seq fun K hK=>?_|refine J_skip ?_|refine J_region ?_ |refine J_c ?_|refine Jc_false ?_|(refine Kont.go (by assumption) ?_)|(simp (config:={ maxSteps:=3000000 }) (disch:=omega) only [go_sem])))
 refine call_ot hrs0 (FrzL.fs [_]) ?_
 (repeat (with_reducible first|refine W_seq fun K hK=>?_|refine J_region ?_ |(refine Kont.go (by assumption) ?_)|(simp (config:={ maxSteps:=3000000 }) (disch:=omega) only [go_sem,hsl])))
 (first|refine call_f (r1) rfl ?_|refine callQ_f (r1) rfl ?_|refine callHK_f (r1) rfl ?_|refine callH_f (r1) rfl ?_)
 (repeat (with_reducible first|refine W_seq fun K hK=>?_|refine J_region ?_ |(refine Kont.go (by assumption) ?_)|(simp (config:={ maxSteps:=3000000 }) (disch:=omega) only [go_sem])))
 (first|refine call_f (r2) rfl ?_|refine callQ_f (r2) rfl ?_|refine callHK_f (r2) rfl ?_|refine callH_f (r2) rfl ?_)
 (repeat (with_reducible first|refine W_seq fun K hK=>?_|refine J_region ?_ |(refine Kont.go (by assumption) ?_)|(simp (config:={ maxSteps:=3000000 }) (disch:=omega) only [go_sem])))
 (first|refine call_f (r3) rfl ?_|refine callQ_f (r3) rfl ?_|refine callHK_f (r3) rfl ?_|refine callH_f (r3) rfl ?_)
 (repeat (with_reducible first|refine W_seq fun K hK=>?_|refine J_region ?_ |(refine Kont.go (by assumption) ?_)|(simp (config:={ maxSteps:=3000000 }) (disch:=omega) only [go_sem])))
 by_cases hris:risB L.length x=true∧risB L.length y=true∧risB L.length z=true
 case neg =>
  obtain ⟨e1,e2⟩:=bad (apOk_ris hris)
  cases h1:risB L.length x with
  | false =>
   (repeat (with_reducible first|refine W_seq fun K hK=>?_|refine J_ret ?_|refine J_region ?_ |refine J_c ?_|refine Jc_true ?_|(refine Kont.go (by assumption) ?_)|(simp (config:={ maxSteps:=3000000 }) (disch:=omega) only [go_sem])))
   rw [e1,e2];exact ⟨_,rfl,FrzL.fs [_,_]⟩
  | true =>
   cases h2:risB L.length y with
   | false =>
    (repeat (with_reducible first|refine W_seq fun K hK=>?_|refine J_ret ?_|refine J_region ?_ |refine J_c ?_|refine Jc_true ?_|(refine Kont.go (by assumption) ?_)|(simp (config:={ maxSteps:=3000000 }) (disch:=omega) only [go_sem])))
    rw [e1,e2];exact ⟨_,rfl,FrzL.fs [_,_]⟩
   | true =>
    cases h3:risB L.length z with
    | false =>
     (repeat (with_reducible first|refine W_seq fun K hK=>?_|refine J_ret ?_|refine J_region ?_ |refine J_c ?_|refine Jc_true ?_|(refine Kont.go (by assumption) ?_)|(simp (config:={ maxSteps:=3000000 }) (disch:=omega) only [go_sem])))
     rw [e1,e2];exact ⟨_,rfl,FrzL.fs [_,_]⟩
    | true=>exact absurd ⟨h1,h2,h3⟩ hris
 obtain ⟨q1,q2,q3⟩:=hris
 have hap:=apOk_iff hn8 q1 q2 q3
 have s1:readS L.length x=setI x:=by unfold readS;rw [if_pos q1]
 have s2:readS L.length y=setI y:=by unfold readS;rw [if_pos q2]
 have s3:readS L.length z=setI z:=by unfold readS;rw [if_pos q3]
 have c0:∀v:Nat,v=0→((v:Nat):Int)=0:=fun v h=>by rw [h];rfl
 rw [q1,q2,q3,s1,s2,s3]
 rw [s1,s2] at a1
 rw [s1,s3] at a2
 rw [s2,s3] at a3
 by_cases d1:setI x&&&setI y=0
 case neg =>
  obtain ⟨e1,e2⟩:=bad (by rw [hap,decide_eq_false d1];rfl)
  have d1':¬((setI x&&&setI y:Nat):Int)=0:=by omega
  (repeat (with_reducible first|refine W_seq fun K hK=>?_|refine J_ret ?_|refine J_region ?_ |refine J_c ?_|refine Jc_true ?_|(refine Kont.go (by assumption) ?_)|(simp (config:={ maxSteps:=3000000 }) (disch:=omega) only [go_sem,a1,d1'])))
  rw [e1,e2];exact ⟨_,rfl,FrzL.fs [_,_]⟩
 by_cases d2:setI x&&&setI z=0
 case neg =>
  obtain ⟨e1,e2⟩:=bad (by rw [hap,decide_eq_true d1,decide_eq_false d2];rfl)
  have d1':=c0 _ d1
  have d2':¬((setI x&&&setI z:Nat):Int)=0:=by omega
  (repeat (with_reducible first|refine W_seq fun K hK=>?_|refine J_ret ?_|refine J_region ?_ |refine J_c ?_|refine Jc_true ?_|(refine Kont.go (by assumption) ?_)|(simp (config:={ maxSteps:=3000000 }) (disch:=omega) only [go_sem,a1,a2,d1',d2'])))
  rw [e1,e2];exact ⟨_,rfl,FrzL.fs [_,_]⟩
 by_cases d3:setI y&&&setI z=0
 case neg =>
  obtain ⟨e1,e2⟩:=bad (by rw [hap,decide_eq_true d1,decide_eq_true d2,decide_eq_false d3];rfl)
  have d1':=c0 _ d1
  have d2':=c0 _ d2
  have d3':¬((setI y&&&setI z:Nat):Int)=0:=by omega
  (repeat (with_reducible first|refine W_seq fun K hK=>?_|refine J_ret ?_|refine J_region ?_ |refine J_c ?_|refine Jc_true ?_|(refine Kont.go (by assumption) ?_)|(simp (config:={ maxSteps:=3000000 }) (disch:=omega) only [go_sem,a1,a2,a3,d1',d2',d3'])))
  rw [e1,e2];exact ⟨_,rfl,FrzL.fs [_,_]⟩
 have hok:apOk L.length [x,y,z]=true:=by rw [hap,decide_eq_true d1,decide_eq_true d2,decide_eq_true d3];rfl
 have d1':=c0 _ d1
 have d2':=c0 _ d2
 have d3':=c0 _ d3
 have hx3:∀v,(setI x).testBit v=true→v<L.length:=fun v hv=>setI_mem q1 hv
 have hz3:∀v,(setI z).testBit v=true→v<L.length:=fun v hv=>setI_mem q3 hv
 obtain ⟨rk,_,hrk⟩:=ord_rank hg.pa ho
 have hapV:=apV_got hg hrk hx3 hz3 d2 d3
 have hgs:=gotS_is (P:=setsOf L) (n:=L.length) (x:=setI x) (z:=setI z) hg hx3
 have hre:=reach_ex hg hx3 hz3 _ hgs
 have hg8:=hgs.lt hg hx3
 rw [s2] at l2
 have a4:=u_and hg8 l2
 have e1:vB=decide (gotS (setsOf L) L.length (setI x) (setI z)&&&setI y=0):=by
  rw [hvB]
  unfold aprB
  rw [if_pos ⟨h0,hok⟩,hapV]
 have e2:vE=0:=by rw [hvE];unfold aprE;rw [if_neg (fun h'=>h' h0),if_pos hok]
 (repeat (with_reducible first|refine W_seq fun K hK=>?_|refine J_skip ?_|refine J_c ?_|refine Jc_false ?_|(refine Kont.go (by assumption) ?_)|(simp (config:={ maxSteps:=3000000 }) (disch:=omega) only [go_sem,a1,a2,a3,d1',d2',d3'])))
 refine J_freezeO (j:=11) rfl (by first|rfl|(simp;done)|(simp [*];done)) rfl ?_
 simp only [go_sem]
 (repeat (with_reducible first|refine J_region ?_ |(simp (config:={ maxSteps:=3000000 }) (disch:=omega) only [go_sem])))
 (first|refine call_f (hre) rfl ?_|refine callQ_f (hre) rfl ?_|refine callHK_f (hre) rfl ?_|refine callH_f (hre) rfl ?_)
 (repeat (with_reducible first|refine J_ret ?_|(refine Kont.go (by assumption) ?_)|(simp (config:={ maxSteps:=3000000 }) (disch:=omega) only [go_sem,a4])))
 rw [e1,e2];exact ⟨_,rfl,FrzL.fs [_,_]⟩
end Go.Proofs.YtgjnbcfencallaaDoor
set_option linter.unusedVariables false
set_option linter.unusedSimpArgs false
namespace Go.Proofs.YtgjnbcfencallaaDoor
open Go Go.RowKit
theorem Ns_ints (l:List Nat):FV.fz 1 (Ns l)=ints (l.map Int.ofNat):=by show _=FV.fz 1 ((l.map Int.ofNat).map I);rw [List.map_map];rfl
theorem ok_one {x:Int} (h:-9223372036854775808≤x∧x≤9223372036854775807):OkNs [x]:=⟨by simp,fun y hy=>by rw [List.mem_singleton.1 hy];exact h⟩
theorem fz_one {H:List (Option AO)} {r:Nat} {x:Int} (ho:H[r]?=some (some ⟨3,1,[.f (I x)]⟩)):Frz H (.own r 1 0 1) (ints [x]):=Frz.own0 (ds:=[I x]) ho rfl
set_option maxRecDepth 100000 in
set_option maxHeartbeats 8000000 in
theorem below_w (L:List (List Int)) (hL:OkIss L) (h8:L.length≤8) (x:Int) (hx:-9223372036854775808≤x∧x≤9223372036854775807):GoodO Tryd.prog 67 [.fz 1 (L.map ints),I x] (rvZ (belI L x)):=by
 obtain ⟨R,hR⟩:∃R,R=rvZ (belI L x):=⟨_,rfl⟩
 have hend:∀{H:AH} {r:Nat},H[r]?=some (ob 3 1 ((belK L x L.length).map I))→ownR H (sl r 1 ((belK L x L.length).map I)) R:=fun h=>by rw [hR];exact rvZ_end h
 rw [←hR]
 have hLm:(L.map ints).length=L.length:=List.length_map ..
 refine goodO_of Tryd.func67 rfl (by kernel_rfl) fun X hO hrd=>?_;rw [Tryd.ntmps67,Tryd.results67];simp only [ast0,List.map_cons,List.map_nil,List.length_cons,List.length_nil,Nat.reduceAdd,Nat.reduceSub,List.replicate_succ,List.replicate_zero,List.cons_append,List.nil_append]
 (repeat (with_reducible first|refine W_seq fun K hK=>?_|((fail_if_success refine J_region (id:=2) ?_);refine J_region ?_) |(refine Kont.go (by assumption) ?_)|(simp (config:={ maxSteps:=3000000 }) (disch:=omega) only [go_sem])))
 refine J_reserve ?_
 have h0:AV.f (.v (.slice none 0 0))=sl 0 1 ((belK L x 0).map I):=rfl
 (repeat (with_reducible first|refine J_block ?_|refine J_region ?_ |(refine Kont.go (by assumption) ?_)|(simp (config:={ maxSteps:=3000000 }) (disch:=omega) only [go_sem,hLm])))
 refine W_loop [5,6,7,8,11,12,13,14,15,16,17,18,19,20,21,22,23,24,25,26,27,28,29,30,31,32,33] (fun k:Nat=>[(5,sl 0 1 ((belK L x k).map I)),(11,.f (I k))]) (fun k:Nat=>[ob 3 1 ((belK L x k).map I)]) (fun k:Nat=>k≤L.length) (fun k:Nat=>L.length-k) (0) (Nat.zero_le _) (by refine weak_of ?_ ?_<;>simp (disch:=omega) only [go_sem]<;>first|rfl|exact ⟨rfl,rfl⟩|exact Or.inl rfl|exact ⟨Or.inl rfl,Or.inl rfl⟩|trivial|assumption|omega|(symm;assumption)|((repeat' apply And.intro)<;>first|rfl|omega|trivial|exact .inl rfl|exact .inr ⟨rfl,rfl⟩|exact .inr rfl|(right;symm;assumption)|(symm;assumption)|assumption)) ?_
 rintro k hk
 simp only [go_sem]
 (repeat (with_reducible first|refine W_seq fun K hK=>?_|refine J_region ?_ |refine J_c ?_|(refine Kont.go (by assumption) ?_)|(simp (config:={ maxSteps:=3000000 }) (disch:=omega) only [go_sem])))
 refine Jc_if (fun hkl=>?_) (fun hkl=>?_)<;>try simp only [decide_eq_true_eq,decide_eq_false_iff_not] at hkl
 ·have ha:=Above_w L hL [(k:Int)] (ok_one (by omega))
  rw [Ns_ints] at ha
  have hal8:((abvL L [(k:Int)]).map Int.ofNat).length≤140737488355328:=by
   rw [List.length_map];unfold abvL;split
   ·have:=els_len (s:=abv (setsOf L) L.length (setI [(k:Int)]));omega
   ·simp
  have hc:=contZ_w (k:=x) hal8
  have hnx:=belK_next (L:=L) (x:=x) (k:=k)
  have hkn:=belK_len (L:=L) (x:=x) (k:=k)
  have hap:((belK L x k).length+1)*8≤140737488355328:=by omega
  (repeat (first|(with_reducible first|refine W_seq fun K hK=>?_|refine J_block ?_|refine J_skip ?_|refine J_region ?_ |(refine Kont.go (by assumption) ?_)|(simp (config:={ maxSteps:=3000000 }) (disch:=omega) only [go_sem,↓reduceIte]))|refine And.intro (by omega) ?_))
  refine call_u (callU_fz (q:=1) ha rfl (FrzL.cons (.f _) (FrzL.cons (fz_one rfl) (FrzL.nil _)))) ?_
  by_cases e:(k:Int)=x
  ·have hT:¬belT L x k=true:=fun h=>(of_decide_eq_true (Bool.and_eq_true_iff.1 h).1) e
   rw [if_neg hT,List.append_nil] at hnx
   (repeat (with_reducible first|refine W_seq fun K hK=>?_|refine J_skip ?_|refine J_region ?_ |refine J_c ?_|refine Jc_false ?_|(refine Kont.go (by assumption) ?_)|(simp (config:={ maxSteps:=3000000 }) (disch:=omega) only [go_sem,e])))
   refine ⟨k+1,by omega,by omega,weak_of ?_ ?_⟩<;>(try simp (disch:=omega) only [go_sem,hnx])<;>(try first|done|omega|rfl|exact ⟨rfl,rfl⟩|trivial)
  ·by_cases m:x∈(abvL L [(k:Int)]).map Int.ofNat
   ·have hT:belT L x k=true:=Bool.and_eq_true_iff.2 ⟨decide_eq_true e,decide_eq_true m⟩
    have hsn:(belK L x k).map I++[I (k:Int)]=(belK L x (k+1)).map I:=by rw [hnx,if_pos hT];exact Is_snoc
    rw [decide_eq_true m] at hc
    (repeat (with_reducible first|refine W_seq fun K hK=>?_|refine J_region ?_ |(refine Kont.go (by assumption) ?_)|(simp (config:={ maxSteps:=3000000 }) (disch:=omega) only [go_sem,e])))
    (first|refine call_f (hc) rfl ?_|refine callQ_f (hc) rfl ?_|refine callHK_f (hc) rfl ?_|refine callH_f (hc) rfl ?_)
    (repeat (first|(with_reducible first|refine J_region ?_ |refine aApp_sl ?_|refine J_c ?_|refine Jc_true ?_|(refine Kont.go (by assumption) ?_)|(simp (config:={ maxSteps:=3000000 }) (disch:=omega) only [go_sem,Nat.reduceEqDiff,↓reduceIte,Nat.reduceAdd,Nat.reduceLeDiff,hap,hsn,List.length_map]))|refine And.intro (by omega) ?_))
    refine ⟨k+1,by omega,by omega,weak_of ?_ ?_⟩<;>(try simp (disch:=omega) only [go_sem])<;>(try first|done|omega|rfl|exact ⟨rfl,rfl⟩|trivial)
   ·have hT:¬belT L x k=true:=fun h=>m (of_decide_eq_true (Bool.and_eq_true_iff.1 h).2)
    rw [if_neg hT,List.append_nil] at hnx
    rw [decide_eq_false m] at hc
    (repeat (with_reducible first|refine W_seq fun K hK=>?_|refine J_region ?_ |(refine Kont.go (by assumption) ?_)|(simp (config:={ maxSteps:=3000000 }) (disch:=omega) only [go_sem,e])))
    (first|refine call_f (hc) rfl ?_|refine callQ_f (hc) rfl ?_|refine callHK_f (hc) rfl ?_|refine callH_f (hc) rfl ?_)
    (repeat (with_reducible first|refine J_skip ?_|refine J_region ?_ |refine J_c ?_|refine Jc_false ?_|(refine Kont.go (by assumption) ?_)|(simp (config:={ maxSteps:=3000000 }) (disch:=omega) only [go_sem])))
    refine ⟨k+1,by omega,by omega,weak_of ?_ ?_⟩<;>(try simp (disch:=omega) only [go_sem,hnx])<;>(try first|done|omega|rfl|exact ⟨rfl,rfl⟩|trivial)
 ·have he:k=L.length:=by omega
  subst he
  (repeat (with_reducible first|refine W_seq fun K hK=>?_|refine J_exit ?_|refine J_ret ?_|refine J_region ?_ |(refine Kont.go (by assumption) ?_)|(simp (config:={ maxSteps:=3000000 }) (disch:=omega) only [go_sem,↓reduceIte])))
  exact hend rfl
theorem frz_three {H:List (Option AO)} {r:Nat} {e:TypeId} {a b c:AV} {x y z:FV} (ho:H[r]?=some (some ⟨e,1,[a,b,c]⟩)) (ha:Frz H a x) (hb:Frz H b y) (hc:Frz H c z):Frz H (.own r 1 0 3) (.fz 1 [x,y,z]) :=
 .own r 1 0 3 _ _ ho rfl (by simp) rfl fun j u v h1 h2=>by
  match j,h1,h2 with
  | 0,h1,h2=>cases h1;cases h2;exact ha
  | 1,h1,h2=>cases h1;cases h2;exact hb
  | 2,h1,h2=>cases h1;cases h2;exact hc
  | j+3,h1,h2=>simp at h2
def Pr (b:Bool) (e:Int):FV:=.tup [Bo b,I e]
theorem flat_pr {b:Bool} {e:Int}:FlatF (Pr b e):=.tup _ fun j c h=>by
 match j,h with
 | 0,h=>cases h;exact .v _
 | 1,h=>cases h;exact .v _
 | j+2,h=>simp at h
theorem ok_nil:OkNs []:=⟨by simp,fun y hy=>by cases hy⟩
theorem sets3 {x y:Int} {z:List Int} (hx:-9223372036854775808≤x∧x≤9223372036854775807) (hy:-9223372036854775808≤y∧y≤9223372036854775807) (hz:OkNs z):∀l∈[[x],[y],z],OkNs l:=fun l hl=>by
 simp only [List.mem_cons,List.not_mem_nil,or_false] at hl
 rcases hl with rfl|rfl|rfl
 ·exact ok_one hx
 ·exact ok_one hy
 ·exact hz
set_option maxRecDepth 100000 in
set_option maxHeartbeats 8000000 in
theorem backDoor_w (L:List (List Int)) (hL:OkIss L) (x y:Int) (z:List Int) (hx:-9223372036854775808≤x∧x≤9223372036854775807) (hy:-9223372036854775808≤y∧y≤9223372036854775807) (hz:OkNs z) :
  Good Tryd.prog 30 [.fz 1 (L.map ints),I x,I y,ints z] (Pr (bdB L x y z) (bdE L x y z)):=by
 have hs:Good Tryd.prog 56 [.fz 1 (L.map ints),.fz 1 [ints [x],ints [y],ints z]] (I (setsX L x y z)):=sets_w L [[x],[y],z] hL (by simp) (sets3 hx hy hz)
 by_cases h0:setsX L x y z=0
 case neg =>
  rw [show bdB L x y z=false by unfold bdB;rw [if_pos h0],show bdE L x y z=setsX L x y z by unfold bdE;rw [if_pos h0]]
  refine good_of Tryd.func30 rfl (by kernel_rfl) fun X hO hrd=>?_;rw [Tryd.ntmps30,Tryd.results30];simp only [ast0,List.map_cons,List.map_nil,List.length_cons,List.length_nil,Nat.reduceAdd,Nat.reduceSub,List.replicate_succ,List.replicate_zero,List.cons_append,List.nil_append]
  (repeat (first|(with_reducible first|refine W_seq fun K hK=>?_|refine J_region ?_ |(refine Kont.go (by assumption) ?_)|(simp (config:={ maxSteps:=3000000 }) (disch:=omega) only [go_sem,↓reduceIte,Nat.reduceAdd]))|refine And.intro (by omega) ?_))
  refine call_fl hs (.v _) (FrzL.cons (.f _) (FrzL.cons (frz_three rfl (fz_one rfl) (fz_one rfl) (.f _)) (FrzL.nil _))) ?_
  (repeat (with_reducible first|refine W_seq fun K hK=>?_|refine J_ret ?_|refine J_region ?_ |refine J_c ?_|refine Jc_true ?_|(refine Kont.go (by assumption) ?_)|(simp (config:={ maxSteps:=3000000 }) (disch:=omega) only [go_sem,h0])))
  exact ⟨_,rfl,FrzL.fs [_,_]⟩
 have hbe:bdE L x y z=0:=by unfold bdE;rw [if_neg (by omega)]
 obtain ⟨ho,ha⟩:=sets_ok h0
 obtain ⟨hxr,hyr,hzr,_⟩:=bd_in h0
 have hn8:=(GP.of (ord_ok ho).1).n8
 have hbl:=Good.ofO (below_w L hL hn8 x hx)
 have hany:=bd_any h0
 have hbll:=belK_len (L:=L) (x:=x) (k:=L.length)
 have hcu:=cut_w L [] [x] hL hn8 ok_nil (ok_one hx) (cut_rows8 ho)
 have hap:=Apart_w (cutI L [] [x]) (cutI_ok hL) [x] [y] z (ok_one hx) (ok_one hy) hz
 rw [apr_zero ho ha] at hap
 rw [h0] at hs
 rw [hbe]
 obtain ⟨b,hb⟩:∃b,b=bdB L x y z:=⟨_,rfl⟩
 have hbv:b=if bdX L x z=true then false else aprB (cutI L [] [x]) [x] [y] z:=by rw [hb];unfold bdB;rw [if_neg (by omega)]
 rw [←hb]
 obtain ⟨l,hl⟩:∃l,l=belI L x:=⟨_,rfl⟩
 rw [←hl] at hbl hany
 have hll:l.length≤8:=by rw [hl];exact Nat.le_trans hbll hn8
 refine good_of Tryd.func30 rfl (by kernel_rfl) fun X hO hrd=>?_;rw [Tryd.ntmps30,Tryd.results30];simp only [ast0,List.map_cons,List.map_nil,List.length_cons,List.length_nil,Nat.reduceAdd,Nat.reduceSub,List.replicate_succ,List.replicate_zero,List.cons_append,List.nil_append]
 (repeat (first|(with_reducible first|refine W_seq fun K hK=>?_|refine J_region ?_ |(refine Kont.go (by assumption) ?_)|(simp (config:={ maxSteps:=3000000 }) (disch:=omega) only [go_sem,↓reduceIte,Nat.reduceAdd]))|refine And.intro (by omega) ?_))
 refine call_fl hs (.v _) (FrzL.cons (.f _) (FrzL.cons (frz_three rfl (fz_one rfl) (fz_one rfl) (.f _)) (FrzL.nil _))) ?_
 (repeat (with_reducible first|refine W_seq fun K hK=>?_|refine J_skip ?_|refine J_region ?_ |refine J_c ?_|refine Jc_false ?_|(refine Kont.go (by assumption) ?_)|(simp (config:={ maxSteps:=3000000 }) (disch:=omega) only [go_sem])))
 (first|refine call_f (hbl) rfl ?_|refine callQ_f (hbl) rfl ?_|refine callHK_f (hbl) rfl ?_|refine callH_f (hbl) rfl ?_)
 (repeat (with_reducible first|refine J_block ?_|(refine Kont.go (by assumption) ?_)|(simp (config:={ maxSteps:=3000000 }) (disch:=omega) only [go_sem,List.length_map])))
 refine J_drop [15,17,19] (by refine weak_of ?_ ?_<;>simp (disch:=omega) only [go_sem]<;>first|rfl|exact ⟨rfl,rfl⟩|exact Or.inl rfl|exact ⟨Or.inl rfl,Or.inl rfl⟩|trivial|assumption|omega|(symm;assumption)|((repeat' apply And.intro)<;>first|rfl|omega|trivial|exact .inr ⟨rfl,rfl⟩|exact .inr rfl|(right;symm;assumption)|(symm;assumption)|assumption)) ?_;simp only [go_sem]
 refine W_loop [8,9,12,28,29,30,31,32,33,34,35] (fun i:Nat=>[(8,.f (Bo false)),(9,.f (I 0)),(28,.f (I i))]) (fun i:Nat=>[]) (fun i:Nat=>i≤l.length∧∀j,j<i→decide (l.getD j 0∈z)=false) (fun i:Nat=>l.length-i) (0) (⟨Nat.zero_le _,fun j h=>by omega⟩) (by refine weak_of ?_ ?_<;>simp (disch:=omega) only [go_sem]<;>first|rfl|exact ⟨rfl,rfl⟩|exact Or.inl rfl|exact ⟨Or.inl rfl,Or.inl rfl⟩|trivial|assumption|omega|(symm;assumption)|((repeat' apply And.intro)<;>first|rfl|omega|trivial|exact .inl rfl|exact .inr ⟨rfl,rfl⟩|exact .inr rfl|(right;symm;assumption)|(symm;assumption)|assumption)) ?_
 rintro i ⟨hi,hp⟩
 simp only [go_sem]
 (repeat (with_reducible first|refine W_seq fun K hK=>?_|refine J_region ?_ |refine J_c ?_|(refine Kont.go (by assumption) ?_)|(simp (config:={ maxSteps:=3000000 }) (disch:=omega) only [go_sem])))
 refine Jc_if (fun hil=>?_) (fun hil=>?_)<;>try simp only [decide_eq_true_eq,decide_eq_false_iff_not] at hil
 ·have gi:=map_get I l hil
  have g3:l.getD i 0=l[i]:=lget_lt l 0 hil
  have hc:=contZ_w (k:=l[i]) hz.1
  (repeat (with_reducible first|refine W_seq fun K hK=>?_|refine J_block ?_|refine J_skip ?_|refine J_region ?_ |(refine Kont.go (by assumption) ?_)|(simp (config:={ maxSteps:=3000000 }) (disch:=omega) only [go_sem,↓reduceIte,gi])))
  (first|refine call_f (hc) rfl ?_|refine callQ_f (hc) rfl ?_|refine callHK_f (hc) rfl ?_|refine callH_f (hc) rfl ?_)
  by_cases hm:l[i]∈z
  ·have hbx:bdX L x z=true:=by rw [hany];exact List.any_eq_true.2 ⟨_,List.getElem_mem hil,decide_eq_true hm⟩
   rw [if_pos hbx] at hbv
   rw [decide_eq_true hm]
   (repeat (with_reducible first|refine W_seq fun K hK=>?_|refine J_ret ?_|refine J_region ?_ |refine J_c ?_|refine Jc_true ?_|(refine Kont.go (by assumption) ?_)|(simp (config:={ maxSteps:=3000000 }) (disch:=omega) only [go_sem])))
   rw [hbv]
   exact ⟨_,rfl,FrzL.fs [_,_]⟩
  ·rw [decide_eq_false hm]
   (repeat (with_reducible first|refine J_skip ?_|refine J_region ?_ |refine J_c ?_|refine Jc_false ?_|(refine Kont.go (by assumption) ?_)|(simp (config:={ maxSteps:=3000000 }) (disch:=omega) only [go_sem])))
   refine ⟨i+1,⟨by omega,upto_next (p:=fun j=>decide (l.getD j 0∈z)=false) hp (by rw [g3];exact decide_eq_false hm)⟩,by omega,weak_of ?_ ?_⟩<;>(try simp (disch:=omega) only [go_sem])<;>(try first|done|omega|rfl|exact ⟨rfl,rfl⟩|trivial)
 ·have he:i=l.length:=by omega
  subst he
  have hbx:¬bdX L x z=true:=by
   rw [hany,List.any_eq_true]
   rintro ⟨v,hv,hd⟩
   obtain ⟨j,hj,rfl⟩:=List.getElem_of_mem hv
   have:=hp j hj
   rw [lget_lt l 0 hj,hd] at this
   cases this
  rw [if_neg hbx] at hbv
  (repeat (first|(with_reducible first|refine W_seq fun K hK=>?_|refine J_exit ?_|refine J_region ?_ |(refine Kont.go (by assumption) ?_)|(simp (config:={ maxSteps:=3000000 }) (disch:=omega) only [go_sem,↓reduceIte]))|refine And.intro (by omega) ?_))
  refine call_u (callU_fz (q:=0) hcu rfl (FrzL.cons (.f _) (FrzL.cons (.nil _) (FrzL.cons (fz_one rfl) (FrzL.nil _))))) ?_
  (repeat (first|(with_reducible first|(simp (config:={ maxSteps:=3000000 }) (disch:=omega) only [go_sem,↓reduceIte,Nat.reduceAdd]))|refine And.intro (by omega) ?_))
  refine call_fl hap flat_pr (FrzL.cons (.f _) (FrzL.cons (fz_one rfl) (FrzL.cons (fz_one rfl) (FrzL.cons (.f _) (FrzL.nil _))))) ?_
  (repeat (with_reducible first|refine J_ret ?_|(refine Kont.go (by assumption) ?_)|(simp (config:={ maxSteps:=3000000 }) (disch:=omega) only [go_sem])))
  rw [hbv]
  exact ⟨_,rfl,FrzL.fs [_,_]⟩
theorem isAbv {L:List (List Int)} (h0:ordE L=0) {x v:Int} (hx:0≤x∧x<(L.length:Int)) (hv:0≤v∧v<(L.length:Int)) :
  Good Tryd.prog 68 [.fz 1 (L.map ints),I x,I v] (Bo (wsh (paO (setsOf L)) L.length x.toNat v.toNat)):=by
 obtain ⟨hb,o,ho⟩:=ord_ok h0
 have hg:=GP.of hb
 obtain ⟨rk,_,hrk⟩:=ord_rank hg.pa ho
 have h:=isAbove_w hg hrk (a:=x.toNat) (by omega) (rk v.toNat+1) v.toNat (by omega) (Nat.lt_succ_self _)
 rw [gvs_of hb]
 rwa [Int.toNat_of_nonneg hx.1,Int.toNat_of_nonneg hv.1] at h
set_option maxRecDepth 100000 in
set_option maxHeartbeats 8000000 in
theorem rbackDoor_w (L:List (List Int)) (hL:OkIss L) (x y:Int) (z:List Int) (hx:-9223372036854775808≤x∧x≤9223372036854775807) (hy:-9223372036854775808≤y∧y≤9223372036854775807) (hz:OkNs z) :
  Good Tryd.prog 31 [.fz 1 (L.map ints),I x,I y,ints z] (Pr (bdB L x y z) (bdE L x y z)):=by
 have hs:Good Tryd.prog 64 [.fz 1 (L.map ints),.fz 1 [ints [x],ints [y],ints z]] (I (setsX L x y z)):=setsOK_w L [[x],[y],z] hL (by simp) (sets3 hx hy hz)
 by_cases h0:setsX L x y z=0
 case neg =>
  rw [show bdB L x y z=false by unfold bdB;rw [if_pos h0],show bdE L x y z=setsX L x y z by unfold bdE;rw [if_pos h0]]
  refine good_of Tryd.func31 rfl (by kernel_rfl) fun X hO hrd=>?_;rw [Tryd.ntmps31,Tryd.results31];simp only [ast0,List.map_cons,List.map_nil,List.length_cons,List.length_nil,Nat.reduceAdd,Nat.reduceSub,List.replicate_succ,List.replicate_zero,List.cons_append,List.nil_append]
  (repeat (first|(with_reducible first|refine W_seq fun K hK=>?_|refine J_region ?_ |(refine Kont.go (by assumption) ?_)|(simp (config:={ maxSteps:=3000000 }) (disch:=omega) only [go_sem,↓reduceIte,Nat.reduceAdd]))|refine And.intro (by omega) ?_))
  refine call_fl hs (.v _) (FrzL.cons (.f _) (FrzL.cons (frz_three rfl (fz_one rfl) (fz_one rfl) (.f _)) (FrzL.nil _))) ?_
  (repeat (with_reducible first|refine W_seq fun K hK=>?_|refine J_ret ?_|refine J_region ?_ |refine J_c ?_|refine Jc_true ?_|(refine Kont.go (by assumption) ?_)|(simp (config:={ maxSteps:=3000000 }) (disch:=omega) only [go_sem,h0])))
  exact ⟨_,rfl,FrzL.fs [_,_]⟩
 have hbe:bdE L x y z=0:=by unfold bdE;rw [if_neg (by omega)]
 obtain ⟨ho,ha⟩:=sets_ok h0
 obtain ⟨hxr,hyr,hzr,_⟩:=bd_in h0
 have hn8:=(GP.of (ord_ok ho).1).n8
 have hcu:=rcut_w L [] [x] hL hn8 ok_nil (ok_one hx) (cut_rows8 ho)
 have hap:=rApart_w (cutI L [] [x]) (cutI_ok hL) [x] [y] z (ok_one hx) (ok_one hy) hz
 rw [apr_zero ho ha] at hap
 rw [h0] at hs
 rw [hbe]
 obtain ⟨b,hb⟩:∃b,b=bdB L x y z:=⟨_,rfl⟩
 have hbv:b=if bdX L x z=true then false else aprB (cutI L [] [x]) [x] [y] z:=by rw [hb];unfold bdB;rw [if_neg (by omega)]
 rw [←hb]
 have hz1:=hz.1
 refine good_of Tryd.func31 rfl (by kernel_rfl) fun X hO hrd=>?_;rw [Tryd.ntmps31,Tryd.results31];simp only [ast0,List.map_cons,List.map_nil,List.length_cons,List.length_nil,Nat.reduceAdd,Nat.reduceSub,List.replicate_succ,List.replicate_zero,List.cons_append,List.nil_append]
 (repeat (first|(with_reducible first|refine W_seq fun K hK=>?_|refine J_region ?_ |(refine Kont.go (by assumption) ?_)|(simp (config:={ maxSteps:=3000000 }) (disch:=omega) only [go_sem,↓reduceIte,Nat.reduceAdd]))|refine And.intro (by omega) ?_))
 refine call_fl hs (.v _) (FrzL.cons (.f _) (FrzL.cons (frz_three rfl (fz_one rfl) (fz_one rfl) (.f _)) (FrzL.nil _))) ?_
 (repeat (with_reducible first|refine W_seq fun K hK=>?_|refine J_block ?_|refine J_skip ?_|refine J_region ?_ |refine J_c ?_|refine Jc_false ?_|(refine Kont.go (by assumption) ?_)|(simp (config:={ maxSteps:=3000000 }) (disch:=omega) only [go_sem])))
 refine J_drop [15,17,19] (by refine weak_of ?_ ?_<;>simp (disch:=omega) only [go_sem]<;>first|rfl|exact ⟨rfl,rfl⟩|exact Or.inl rfl|exact ⟨Or.inl rfl,Or.inl rfl⟩|trivial|assumption|omega|(symm;assumption)|((repeat' apply And.intro)<;>first|rfl|omega|trivial|exact .inr ⟨rfl,rfl⟩|exact .inr rfl|(right;symm;assumption)|(symm;assumption)|assumption)) ?_;simp only [go_sem]
 refine W_loop [8,9,11,12,24,25,26,27,28,29,30,31,32,33,34,35,36,37] (fun i:Nat=>[(8,.f (Bo false)),(9,.f (I 0)),(11,.f (I i))]) (fun i:Nat=>[]) (fun i:Nat=>i≤z.length∧∀j,j<i→wsh (paO (setsOf L)) L.length x.toNat (z.getD j 0).toNat=false) (fun i:Nat=>z.length-i) (0) (⟨Nat.zero_le _,fun j h=>by omega⟩) (by refine weak_of ?_ ?_<;>simp (disch:=omega) only [go_sem]<;>first|rfl|exact ⟨rfl,rfl⟩|exact Or.inl rfl|exact ⟨Or.inl rfl,Or.inl rfl⟩|trivial|assumption|omega|(symm;assumption)|((repeat' apply And.intro)<;>first|rfl|omega|trivial|exact .inl rfl|exact .inr ⟨rfl,rfl⟩|exact .inr rfl|(right;symm;assumption)|(symm;assumption)|assumption)) ?_
 rintro i ⟨hi,hp⟩
 simp only [go_sem]
 (repeat (with_reducible first|refine W_seq fun K hK=>?_|refine J_region ?_ |refine J_c ?_|(refine Kont.go (by assumption) ?_)|(simp (config:={ maxSteps:=3000000 }) (disch:=omega) only [go_sem,List.length_map])))
 refine Jc_if (fun hil=>?_) (fun hil=>?_)<;>try simp only [decide_eq_true_eq,decide_eq_false_iff_not] at hil
 ·have gi:=map_get I z hil
  have g3:z.getD i 0=z[i]:=lget_lt z 0 hil
  have hc:=isAbv ho hxr ((ris_pw.1 hzr).2 _ (List.getElem_mem hil))
  (repeat (with_reducible first|refine W_seq fun K hK=>?_|refine J_block ?_|refine J_skip ?_|refine J_region ?_ |(refine Kont.go (by assumption) ?_)|(simp (config:={ maxSteps:=3000000 }) (disch:=omega) only [go_sem,↓reduceIte,gi])))
  (first|refine call_f (hc) rfl ?_|refine callQ_f (hc) rfl ?_|refine callHK_f (hc) rfl ?_|refine callH_f (hc) rfl ?_)
  cases hm:wsh (paO (setsOf L)) L.length x.toNat z[i].toNat with
  | true =>
   have hbx:bdX L x z=true:=List.any_eq_true.2 ⟨_,List.getElem_mem hil,hm⟩
   rw [if_pos hbx] at hbv
   (repeat (with_reducible first|refine W_seq fun K hK=>?_|refine J_ret ?_|refine J_region ?_ |refine J_c ?_|refine Jc_true ?_|(refine Kont.go (by assumption) ?_)|(simp (config:={ maxSteps:=3000000 }) (disch:=omega) only [go_sem])))
   rw [hbv]
   exact ⟨_,rfl,FrzL.fs [_,_]⟩
  | false =>
   (repeat (with_reducible first|refine W_seq fun K hK=>?_|refine J_skip ?_|refine J_region ?_ |refine J_c ?_|refine Jc_false ?_|(refine Kont.go (by assumption) ?_)|(simp (config:={ maxSteps:=3000000 }) (disch:=omega) only [go_sem])))
   refine ⟨i+1,⟨by omega,upto_next (p:=fun j=>wsh (paO (setsOf L)) L.length x.toNat (z.getD j 0).toNat=false) hp (by rw [g3];exact hm)⟩,by omega,weak_of ?_ ?_⟩<;>(try simp (disch:=omega) only [go_sem])<;>(try first|done|omega|rfl|exact ⟨rfl,rfl⟩|trivial)
 ·have he:i=z.length:=by omega
  subst he
  have hbx:¬bdX L x z=true:=by
   unfold bdX
   rw [List.any_eq_true]
   rintro ⟨v,hv,hd⟩
   obtain ⟨j,hj,rfl⟩:=List.getElem_of_mem hv
   have:=hp j hj
   rw [lget_lt z 0 hj,hd] at this
   cases this
  rw [if_neg hbx] at hbv
  (repeat (first|(with_reducible first|refine W_seq fun K hK=>?_|refine J_exit ?_|refine J_region ?_ |(refine Kont.go (by assumption) ?_)|(simp (config:={ maxSteps:=3000000 }) (disch:=omega) only [go_sem,↓reduceIte]))|refine And.intro (by omega) ?_))
  refine call_u (callU_fz (q:=0) hcu rfl (FrzL.cons (.f _) (FrzL.cons (.nil _) (FrzL.cons (fz_one rfl) (FrzL.nil _))))) ?_
  (repeat (first|(with_reducible first|(simp (config:={ maxSteps:=3000000 }) (disch:=omega) only [go_sem,↓reduceIte,Nat.reduceAdd]))|refine And.intro (by omega) ?_))
  refine call_fl hap flat_pr (FrzL.cons (.f _) (FrzL.cons (fz_one rfl) (FrzL.cons (fz_one rfl) (FrzL.cons (.f _) (FrzL.nil _))))) ?_
  (repeat (with_reducible first|refine J_ret ?_|(refine Kont.go (by assumption) ?_)|(simp (config:={ maxSteps:=3000000 }) (disch:=omega) only [go_sem])))
  rw [hbv]
  exact ⟨_,rfl,FrzL.fs [_,_]⟩
end Go.Proofs.YtgjnbcfencallaaDoor
