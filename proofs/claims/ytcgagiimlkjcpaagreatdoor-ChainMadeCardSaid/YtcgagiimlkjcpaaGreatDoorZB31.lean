/- The law ChainExact: it returns true. Condition: what slices may hold. -/
import Derived.Test.YtcgagiimlkjcpaaGreatDoorZB27
import Derived.Test.YtcgagiimlkjcpaaGreatDoorZB28
import Derived.Test.YtcgagiimlkjcpaaGreatDoorZB29
import Derived.Test.YtcgagiimlkjcpaaGreatDoorZB20
import Derived.Test.YtcgagiimlkjcpaaGreatDoorZB30
import Derived.SevenTiedAt
set_option linter.unusedVariables false
set_option linter.unusedSimpArgs false
namespace Go.Proofs.YtcgagiimlkjcpaaGreatDoor
open Go Go.RowKit
set_option maxRecDepth 100000 in
theorem rhits_var {b:Nat} {ys:List FV} {m:List (List Rat)} {l:List Int} (hm:FrM b ys m) (h1:1≤b) (hb:b≤10000) (hmx:m.length≤140737488355328) (h0:chkM m=0) (hw:∀x∈l,-9223372036854775808≤x∧x≤9223372036854775807) (hl:l.length≤140737488355328) (hr:risB m.length l=false) :
  Good Tryz.prog 27 [.fz 1 ys,ints l] (.tup [frs [],I 11]):=by
 have hk:=rcheck_w hm h1 (by omega) hmx
 rw [h0] at hk
 have hn6:=(chk_sq hm h0).1.le
 have hs:=rising_w l (n:=m.length) (by omega) hw hl
 rw [hr] at hs
 have hyl:ys.length=m.length:=hm.len
 refine good_of Tryz.func27 rfl (by kernel_rfl) fun X hO hrd=>?_;rw [Tryz.ntmps27,Tryz.results27];simp only [ast0,List.map_cons,List.map_nil,List.length_cons,List.length_nil,Nat.reduceAdd,Nat.reduceSub,List.replicate_succ,List.replicate_zero,List.cons_append,List.nil_append]
 repeat (with_reducible first|refine W_seq fun K hK=>?_|refine J_region ?_ |(refine Kont.go (by assumption) ?_)|(simp (config:={ maxSteps:=3000000 }) (disch:=omega) only [go_sem]))
 refine call_f hk rfl ?_
 repeat (with_reducible first|refine W_seq fun K hK=>?_|refine J_skip ?_|refine J_region ?_ |refine J_c ?_|refine Jc_false ?_|(refine Kont.go (by assumption) ?_)|(simp (config:={ maxSteps:=3000000 }) (disch:=omega) only [go_sem,hyl]))
 refine call_f hs rfl ?_
 repeat (with_reducible first|refine W_seq fun K hK=>?_|refine J_ret ?_|refine J_region ?_ |refine J_c ?_|refine Jc_true ?_|(refine Kont.go (by assumption) ?_)|(simp (config:={ maxSteps:=3000000 }) (disch:=omega) only [go_sem]))
 exact ⟨_,rfl,FrzL.cons (.nil _) (FrzL.cons (.f _) (FrzL.nil _))⟩
def Both2 (f g:FuncId) (xs:List FV) (v:FV) (e:Int):Prop:=Good Tryz.prog f xs (.tup [v,I e])∧Good Tryz.prog g xs (.tup [v,I e])∧-9223372036854775808≤e∧e≤9223372036854775807
theorem chkM_64 (m:List (List Rat)):0≤chkM m∧chkM m≤9:=by
 unfold chkM sqM
 split
 ·omega
 ·split
  ·omega
  ·split<;>omega
theorem ris_sorted {n:Nat} {l:List Int} (h:risB n l=true):∃t:List Nat,l=t.map Int.ofNat∧(∀s∈t,s<n)∧t.Nodup:=by
 have hr:=risB_iff.1 h
 have hnn:=(ris_nn (x:=l.length) hr).2
 have hlt:∀i j,i<j→j<l.length→l.getD i 0<l.getD j 0:=by
  intro i j hij
  induction j with
  | zero=>omega
  | succ j ih =>
   intro hj
   have h1:=(hr (j+1) hj).1
   rw [prevI_next] at h1
   by_cases e:i=j
   ·rw [e];exact h1
   ·have:=ih (by omega) (by omega)
    omega
 refine ⟨l.map Int.toNat,?_,fun s hs=>?_,?_⟩
 ·rw [List.map_map]
  conv=>lhs;rw [←List.map_id l]
  refine List.map_congr_left fun x hx=>?_
  obtain ⟨i,hi,e⟩:=List.getElem_of_mem hx
  have:=hnn i hi
  rw [lget_lt l 0 hi,e] at this
  show x=Int.ofNat x.toNat
  exact (Int.toNat_of_nonneg this).symm
 ·obtain ⟨x,hx,rfl⟩:=List.mem_map.1 hs
  obtain ⟨i,hi,e⟩:=List.getElem_of_mem hx
  have h1:=hnn i hi
  have h2:=(hr i hi).2
  rw [lget_lt l 0 hi,e] at h1 h2
  omega
 ·refine List.pairwise_iff_getElem.2 fun i j hi hj hij e=>?_
  rw [List.length_map] at hi hj
  rw [List.getElem_map,List.getElem_map] at e
  have h1:=hlt i j hij hj
  have h2:=hnn i hi
  have h3:=hnn j hj
  rw [lget_lt l 0 hi,lget_lt l 0 hj] at h1
  rw [lget_lt l 0 hi] at h2
  rw [lget_lt l 0 hj] at h3
  omega
section
variable {b : Nat} {ys : List FV} {m : List (List Rat)}
theorem both_classes (hm:FrM b ys m) (h1:1≤b) (hb:b≤1000) (hmx:m.length≤140737488355328):∃(C:List (List Nat)) (S:List Bool) (e:Int),
  Good Tryz.prog 21 [.fz 1 ys] (.tup [.fz 1 (C.map fun l=>.fz 1 (Ns l)),.fz 1 (S.map Bo),I e])∧Good Tryz.prog 22 [.fz 1 ys] (.tup [.fz 1 (C.map fun l=>.fz 1 (Ns l)),.fz 1 (S.map Bo),I e]) ∧
  0≤e∧e≤9∧C.length≤6∧S.length≤6∧∀l∈C,l.length≤6:=by
 have h64:=chkM_64 m
 by_cases h0:chkM m=0
 ·obtain ⟨hsq,hn1,hch⟩:=chk_sq hm h0
  have hn6:=hsq.le
  refine ⟨repL m.length (wsh (edg m) m.length) m.length,shutL m.length (wsh (edg m) m.length) m.length,0,classes_w hm h1 (by omega) hmx h0,rclasses_w hm h1 (by omega) hmx h0,by omega,by omega,?_,?_,fun l hl=>?_⟩
  ·unfold repL;rw [List.length_map];exact Nat.le_trans (List.length_filter_le _ _) (by simp;exact hn6)
  ·unfold shutL;rw [List.length_map];exact Nat.le_trans (List.length_filter_le _ _) (by simp;exact hn6)
  ·unfold repL at hl
   obtain ⟨i,hi,rfl⟩:=List.mem_map.1 hl
   exact Nat.le_trans (nodup_le cls_nodup fun a ha=>(cls_mem.1 ha).1) hn6
 ·exact ⟨[],[],chkM m,classes_err hm h1 (by omega) hmx h0,rclasses_err hm h1 (by omega) hmx h0,by omega,by omega,by simp,by simp,fun l hl=>by cases hl⟩
theorem both_still (hm:FrM b ys m) (h1:1≤b) (hb:b≤700) (hmx:m.length≤140737488355328) (h5:chkM m=0→m.length≤5):∃(q:List Rat) (e:Int) (B:Bool) (eT:Int),Both2 24 25 [.fz 1 ys] (frs q) e∧q.length≤6∧Both2 30 31 [.fz 1 ys] (Bo B) eT:=by
 have h64:=chkM_64 m
 by_cases h0:chkM m=0
 case neg =>
  have s1:=still_err_w hm h1 (by omega) hmx h0
  have s2:=rstill_err hm h1 (by omega) hmx h0
  exact ⟨[],chkM m,false,chkM m,⟨s1,s2,by omega,by omega⟩,by simp,turns_err h0 s1,rturns_err h0 s2,by omega,by omega⟩
 obtain ⟨hsq,hn1,hch⟩:=chk_sq hm h0
 have hn5:=h5 h0
 cases ho:oneB m with
 | false =>
  have s1:=still_no hm h1 (by omega) hmx h0 ho
  have s2:=rstill_no hm h1 (by omega) hmx h0 ho
  exact ⟨[],13,false,13,⟨s1,s2,by omega,by omega⟩,by simp,turns_err (by omega) s1,rturns_err (by omega) s2,by omega,by omega⟩
 | true =>
  obtain ⟨r,l,p,hO,s1⟩:=still_yes hm h1 (by omega) hmx h0 ho
  have s2:=rstill_yes hm h1 (by omega) hn5 h0 hO
  have hl5:l.length≤5:=Nat.le_trans hO.ln hn5
  have hsz:szG (b+9) l.length≤1000000:=by
   have:∀d,d≤5→szG (b+9) d≤1000000:=by
    intro d hd
    have e:d=0∨d=1∨d=2∨d=3∨d=4∨d=5:=by omega
    rcases e with rfl|rfl|rfl|rfl|rfl|rfl<;>simp only [szG]<;>omega
   exact this _ hl5
  exact ⟨(List.range m.length).map p,0,_,0,⟨s1,s2,by omega,by omega⟩,by simp;omega,turns_w hsq h1 (by omega) hsz hO.fz s1,rturns_w hsq h1 (by omega) (by omega) hO.fz s2,by omega,by omega⟩
theorem both_hits (hm:FrM b ys m) (h1:1≤b) (hb:b≤1000) (hmx:m.length≤140737488355328) {tl:List Int} (hw:∀x∈tl,-9223372036854775808≤x∧x≤9223372036854775807) (hl:tl.length≤1000) :
  ∃(q:List Rat) (e:Int),Both2 26 27 [.fz 1 ys,ints tl] (frs q) e∧q.length≤6:=by
 have h64:=chkM_64 m
 by_cases h0:chkM m=0
 case neg=>exact ⟨[],chkM m,⟨hits_err hm h1 (by omega) hmx h0,rhits_err hm h1 (by omega) hmx h0,by omega,by omega⟩,by simp⟩
 obtain ⟨hsq,hn1,hch⟩:=chk_sq hm h0
 have hn6:=hsq.le
 cases hr:risB m.length tl with
 | false=>exact ⟨[],11,⟨hits_var hm h1 (by omega) hmx h0 hw (by omega) hr,rhits_var hm h1 (by omega) hmx h0 hw (by omega) hr,by omega,by omega⟩,by simp⟩
 | true =>
  obtain ⟨t,rfl,ht,hnd⟩:=ris_sorted hr
  have eNs:ints (t.map Int.ofNat)=.fz 1 (Ns t):=by unfold Ns;simp [ints]
  rw [eNs]
  have htl:t.length≤m.length:=nodup_le hnd ht
  refine ⟨hitL m t,0,⟨hits_w hm h1 (by omega) hmx h0 (by omega) ht hr,rhits_w hm h1 (by omega) hn6 h0 (by omega) ht hnd hr,by omega,by omega⟩,?_⟩
  have hs:Sto m.length (at2 m):=sto_of rfl (fun r hr=>hsq.sq r hr) hch
  obtain ⟨h,hh,_⟩:=hitL_spec (l:=t) hs rfl ht
  rw [hh];simp;exact hn6
theorem both_back (hm:FrM b ys m) (h1:1≤b) (hb:b≤1000) (hmx:m.length≤140737488355328) (i:Int) :
  ∃(v:FV) (e:Int),Both2 28 29 [.fz 1 ys,I i] v e∧((e≠0∧v=zF)∨(e=0∧∃q,v=fr q)):=by
 have h64:=chkM_64 m
 by_cases h0:chkM m=0
 case neg=>exact ⟨zF,chkM m,⟨back_err hm h1 (by omega) hmx h0,rback_err hm h1 (by omega) hmx h0,by omega,by omega⟩,.inl ⟨h0,rfl⟩⟩
 by_cases hi:i<0∨(m.length:Int)≤i
 ·exact ⟨zF,11,⟨back_var hm h1 (by omega) hmx h0 hi,rback_var hm h1 (by omega) hmx h0 hi,by omega,by omega⟩,.inl ⟨by omega,rfl⟩⟩
 obtain ⟨k,rfl⟩:=Int.eq_ofNat_of_zero_le (show 0≤i by omega)
 have hkm:k<m.length:=by omega
 obtain ⟨hsq,hn1,hch⟩:=chk_sq hm h0
 have hn6:=hsq.le
 obtain ⟨q,l,c,hB,hc,hci,hcf,hl,hS,hnd⟩:=bck_ex (m:=m) rfl hn6 hkm
 cases hclo:clo m.length (wsh (edg m) m.length) k with
 | false=>exact ⟨zF,16,⟨back_no hm h1 (by omega) hmx h0 hB (by rw [hS,hclo]),rback_no hm h1 (by omega) hmx h0 hkm hclo,by omega,by omega⟩,.inl ⟨by omega,rfl⟩⟩
 | true =>
  have hs:Sto m.length (at2 m):=sto_of rfl (fun r hr=>hsq.sq r hr) hch
  have hirr:=irr_cls hs hkm hclo
  rw [←hl] at hirr
  obtain ⟨x,hx,_⟩:=bck_x hirr hnd hc
  rw [hci] at hx
  have hRl:(bckR m l k).length=l.length:=by rw [hx];simp
  have h3:=back_w hm h1 (by omega) hmx h0 hB hc hci hcf hRl
  rw [hS,hclo,if_pos rfl] at h3
  exact ⟨_,0,⟨h3,rback_yes hm h1 hb hn6 h0 hkm hclo hl hc hci,by omega,by omega⟩,.inr ⟨rfl,_,rfl⟩⟩
end
theorem placesF (C:List (List Nat)):(C.map fun l=>FV.fz 1 (Ns l))=(C.map fun l=>l.map Int.ofNat).map ints:=by
 rw [List.map_map]
 refine List.map_congr_left fun l _=>?_
 show FV.fz 1 (Ns l)=ints (l.map Int.ofNat)
 unfold Ns;simp [ints]
set_option maxRecDepth 100000 in
theorem neq_bool (A B:Operand) (a b:Bool) (K:AV→Prop):aBin Tryz.prog .neq 4 A B (.f (.v (.bool a))) (.f (.v (.bool b))) K=K (.f (.v (.bool (a != b)))):=by
 have hrun:∀w:World,(do eqGuard .neq 4 A B (.bool a) (.bool b);binOp .neq 4 (.bool a) (.bool b)).run Tryz.prog w=.ok (.bool (a != b)) w:=fun w=>by
  cases a<;>cases b<;>rfl
 refine propext ⟨fun h=>?_,fun h=>?_⟩
 ·obtain ⟨u,v,r,hu,hv,hw,hk⟩:=h
  cases hu;cases hv
  have:=(hrun default).symm.trans (hw default)
  cases this
  exact hk
 ·exact ⟨_,_,_,rfl,rfl,hrun,h⟩
theorem pwR_len {m:List (List Rat)} {k:Int}:(pwR m k).length≤m.length∧∀r∈pwR m k,r.length≤m.length:=by
 unfold pwR
 split
 ·refine ⟨by simp [mxL],fun r hr=>?_⟩
  obtain ⟨i,_,rfl⟩:=List.mem_map.1 hr
  simp
 ·exact ⟨by simp,fun r hr=>by cases hr⟩
theorem stpR_len {p:List Rat} {m:List (List Rat)}:(stpR p m).length≤m.length:=by
 unfold stpR
 split
 ·rw [tmR_len];exact Nat.le_refl _
 ·simp
set_option maxRecDepth 100000 in
set_option maxHeartbeats 8000000 in
theorem chainExact_good (q:List (List F3)) (p:List F3) (k:Int) (tl:List Int) (i:Int) (hq:q.length≤140737488355328∧∀r∈q,OkFs r) (hp:OkFs p) (hk:OkI k) (hto:OkIs tl) (hi:OkI i) :
  Good Tryz.prog 3 [.fz 1 (q.map raws),raws p,I k,ints tl,I i] (Bo true):=by
 have bp:=fbN_le hp
 have hhv:=heavyMatrix_w q hq
 have htl:=hto.1
 have hql:=hq.1
 refine good_of Tryz.func3 rfl (by kernel_rfl) fun X hO hrd=>?_;rw [Tryz.ntmps3,Tryz.results3];simp only [ast0,List.map_cons,List.map_nil,List.length_cons,List.length_nil,Nat.reduceAdd,Nat.reduceSub,List.replicate_succ,List.replicate_zero,List.cons_append,List.nil_append]
 by_cases hg1:rbGo q.length q≤700
 case neg =>
  have hd:decide (700<rbGo q.length q)=true:=decide_eq_true (by omega)
  rw [hd] at hhv
  repeat (with_reducible first|refine W_seq fun K hK=>?_|refine J_region ?_ |(refine Kont.go (by assumption) ?_)|(simp (config:={ maxSteps:=3000000 }) (disch:=omega) only [go_sem]))
  refine call_f hhv rfl ?_
  repeat (with_reducible first|refine W_seq fun K hK=>?_|refine J_ret ?_|refine J_region ?_ |refine J_c ?_|refine Jc_true ?_|exact Frz.f _|(refine Kont.go (by assumption) ?_)|(simp (config:={ maxSteps:=3000000 }) (disch:=omega) only [go_sem]))
 have hd:decide (700<rbGo q.length q)=false:=decide_eq_false (by omega)
 rw [hd] at hhv
 by_cases hg2:fbN p+tl.length≤300
 case neg =>
  have hgt:(300:Int)<(fbN p:Int)+(tl.length:Int):=by omega
  repeat (with_reducible first|refine W_seq fun K hK=>?_|refine J_region ?_ |(refine Kont.go (by assumption) ?_)|(simp (config:={ maxSteps:=3000000 }) (disch:=omega) only [go_sem]))
  refine call_f hhv rfl ?_
  repeat (with_reducible first|(simp (config:={ maxSteps:=3000000 }) (disch:=omega) only [go_sem]))
  refine call_f (fracBytes_w p hp) rfl ?_
  repeat (with_reducible first|refine W_seq fun K hK=>?_|refine J_ret ?_|refine J_region ?_ |refine J_c ?_|refine Jc_true ?_|exact Frz.f _|(refine Kont.go (by assumption) ?_)|(simp (config:={ maxSteps:=3000000 }) (disch:=omega) only [go_sem,List.length_map,hgt]))
 have hgt:¬(300:Int)<(fbN p:Int)+(tl.length:Int):=by omega
 by_cases hg3:q.length=6
 ·have a1:(5:Int)<(q.length:Int):=by omega
  have a2:(q.length:Int)<7:=by omega
  repeat (with_reducible first|refine W_seq fun K hK=>?_|refine J_region ?_ |(refine Kont.go (by assumption) ?_)|(simp (config:={ maxSteps:=3000000 }) (disch:=omega) only [go_sem]))
  refine call_f hhv rfl ?_
  repeat (with_reducible first|(simp (config:={ maxSteps:=3000000 }) (disch:=omega) only [go_sem]))
  refine call_f (fracBytes_w p hp) rfl ?_
  repeat (with_reducible first|refine W_seq fun K hK=>?_|refine J_ret ?_|refine J_region ?_ |refine J_c ?_|refine Jc_true ?_|exact Frz.f _|(refine Kont.go (by assumption) ?_)|(simp (config:={ maxSteps:=3000000 }) (disch:=omega) only [go_sem,List.length_map,hgt,a1,a2]))
 obtain ⟨h1,h2⟩:=rbGo_each hg1
 have fp:=fbN_frs (b:=700) (by omega) (show fbN p≤700 by omega)
 have lp:=fbN_len (l:=p)
 obtain ⟨m,hm⟩:∃m:List (List Rat),m=q.map fun r=>r.map rv3:=⟨_,rfl⟩
 have fq:FrM 700 (q.map raws) m:=by
  rw [hm]
  exact ⟨by simp,fun i r hr=>by
   rw [List.getElem?_map] at hr ⊢
   cases hx:q[i]? with
   | none=>rw [hx] at hr;cases hr
   | some x=>rw [hx] at hr;cases hr;exact ⟨_,rfl,fbN_frs (by omega) (h2 x (List.mem_of_getElem? hx))⟩⟩
 have hml:m.length=q.length:=by rw [hm];simp
 have h64:=chkM_64 m
 have hs5:chkM m=0→m.length≤5:=fun h=>by have:=(chk_sq fq h).1.le;omega
 obtain ⟨k',hk',hk5⟩:∃k':Int,(if 5<k then (17:Int) else k)=k'∧(k'≤5∨k'=17):=by
  by_cases h:5<k
  ·exact ⟨17,by rw [if_pos h],.inr rfl⟩
  ·exact ⟨k,by rw [if_neg h],.inl (by omega)⟩
 have hk64:-9223372036854775808≤k'∧k'≤9223372036854775807:=by have:=hk.1;have:=hk.2;rw [←hk'];split<;>omega
 have hmx:m.length≤140737488355328:=by omega
 have c1:=step_w fp fq (by omega) (by omega) (by omega) (by omega) (by simp;omega) hmx
 have c2:=rstep_w fp fq (by omega) (by omega) (by omega) (by omega) (by simp;omega) hmx
 have c3:=check_w fq (by omega) (by omega) hmx
 have c4:=rcheck_w fq (by omega) (by omega) hmx
 obtain ⟨sq,hsq⟩:∃sq,sq=stpR (p.map rv3) m:=⟨_,rfl⟩
 obtain ⟨se,hse⟩:∃se,se=stpE (p.map rv3) m:=⟨_,rfl⟩
 have hsl:sq.length≤m.length:=by rw [hsq];exact stpR_len
 rw [←hsq,←hse] at c1 c2
 have c5:=sameFracs_w sq (by omega)
 have c6:=power_w fq (by omega) (by omega) hmx k' hk64.1 hk64.2
 have c7:=rpower_w fq (by omega) (by omega) hmx k' hk64.1 hk5
 have hpl:=pwR_len (m:=m) (k:=k')
 obtain ⟨pq,hpq⟩:∃pq,pq=pwR m k':=⟨_,rfl⟩
 obtain ⟨pe,hpe⟩:∃pe,pe=pwE m k':=⟨_,rfl⟩
 rw [←hpq,←hpe] at c6 c7
 rw [←hpq] at hpl
 have c8:=sameRows_w pq (by omega) (fun r hr=>by have:=hpl.2 r hr;omega)
 obtain ⟨C,S,e3,c9,c10,b1,b2,hCl,hSl,hCm⟩:=both_classes fq (by omega) (by omega) hmx
 have c11:=sameLists_w (C.map fun l=>l.map Int.ofNat) (by simp;omega) (fun r hr=>by
  obtain ⟨l,hl,rfl⟩:=List.mem_map.1 hr
  have:=hCm l hl
  simp;omega)
 rw [←placesF] at c11
 obtain ⟨tq,te,B,be,⟨c12,c13,b3,b4⟩,htq,c14,c15,b5,b6⟩:=both_still fq (by omega) (by omega) hmx hs5
 have c16:=sameFracs_w tq (by omega)
 obtain ⟨hq2,he2,⟨c17,c18,b7,b8⟩,hhl⟩:=both_hits fq (by omega) (by omega) hmx hto.2 (by omega)
 have c19:=sameFracs_w hq2 (by omega)
 obtain ⟨bv,bve,⟨c20,c21,b9,b10⟩,hbv⟩:=both_back fq (by omega) (by omega) hmx i
 have hyl:(q.map raws).length=q.length:=by simp
 have lS:(S.map Bo).length=S.length:=by simp
 have hbb:(B==B)=true:=by cases B<;>rfl
 have hbn1:(false != false)=false:=rfl
 have hbn2:(true != true)=false:=rfl
 have a3:¬((5:Int)<(q.length:Int)∧(q.length:Int)<7):=by omega
 have a4:(5:Int)<(q.length:Int)→¬(q.length:Int)<7:=by omega
 clear hsq hse hpq hpe hd hg1
 by_cases h5:(5:Int)<(q.length:Int)
 ·have h7:=a4 h5
  repeat (with_reducible first|refine W_seq fun K hK=>?_|refine J_region ?_ |(refine Kont.go (by assumption) ?_)|(simp (config:={ maxSteps:=3000000 }) (disch:=omega) only [go_sem]))
  refine call_f hhv rfl ?_
  repeat (with_reducible first|(simp (config:={ maxSteps:=3000000 }) (disch:=omega) only [go_sem]))
  refine call_f (fracBytes_w p hp) rfl ?_
  repeat (with_reducible first|refine W_seq fun K hK=>?_|refine J_skip ?_|refine J_region ?_ |refine J_c ?_|refine Jc_false ?_|(refine Kont.go (by assumption) ?_)|(simp (config:={ maxSteps:=3000000 }) (disch:=omega) only [go_sem,List.length_map,hgt,h5,h7]))
  refine Jc_join (by assumption) [2] (fun z:Int=>[(2,.f (I z))]) (fun z:Int=>[]) (fun z:Int=>z=k') ?_ ?_
  ·by_cases h:5<k
   ·have hkk:k'=17:=by rw [←hk',if_pos h]
    subst hkk
    repeat (with_reducible first|refine J_region ?_ |refine Jc_true ?_|(simp (config:={ maxSteps:=3000000 }) (disch:=omega) only [go_sem,h]))
    (refine weak_of ?_ ?_<;>(try simp only [go_sem])<;>(try first|done|omega|rfl|exact ⟨rfl,rfl⟩|trivial))
   ·have hkk:k'=k:=by rw [←hk',if_neg h]
    subst hkk
    repeat (with_reducible first|refine J_skip ?_|refine Jc_false ?_|(simp (config:={ maxSteps:=3000000 }) (disch:=omega) only [go_sem,h]))
    (refine weak_of ?_ ?_<;>(try simp only [go_sem])<;>(try first|done|omega|rfl|exact ⟨rfl,rfl⟩|trivial))
  ·intro z hz
   rw [hz]
   simp only [go_sem]
   repeat (with_reducible first|refine W_seq fun K hK=>?_|refine J_region ?_ |(simp (config:={ maxSteps:=3000000 }) (disch:=omega) only [go_sem]))
   refine call_f c1 rfl ?_
   repeat (with_reducible first|refine W_seq fun K hK=>?_|refine J_region ?_ |(refine Kont.go (by assumption) ?_)|(simp (config:={ maxSteps:=3000000 }) (disch:=omega) only [go_sem]))
   refine call_f c2 rfl ?_
   repeat (with_reducible first|refine W_seq fun K hK=>?_|refine J_region ?_ |(refine Kont.go (by assumption) ?_)|(simp (config:={ maxSteps:=3000000 }) (disch:=omega) only [go_sem]))
   refine call_f c3 rfl ?_
   repeat (with_reducible first|(simp (config:={ maxSteps:=3000000 }) (disch:=omega) only [go_sem]))
   refine call_f c4 rfl ?_
   repeat (with_reducible first|(simp (config:={ maxSteps:=3000000 }) (disch:=omega) only [go_sem]))
   refine call_f c5 rfl ?_
   repeat (with_reducible first|refine W_seq fun K hK=>?_|refine J_skip ?_|refine J_region ?_ |refine J_c ?_|refine Jc_false ?_|(refine Kont.go (by assumption) ?_)|(simp (config:={ maxSteps:=3000000 }) (disch:=omega) only [go_sem]))
   refine call_f c6 rfl ?_
   repeat (with_reducible first|refine W_seq fun K hK=>?_|refine J_region ?_ |(refine Kont.go (by assumption) ?_)|(simp (config:={ maxSteps:=3000000 }) (disch:=omega) only [go_sem]))
   refine call_f c7 rfl ?_
   repeat (with_reducible first|refine W_seq fun K hK=>?_|refine J_region ?_ |(refine Kont.go (by assumption) ?_)|(simp (config:={ maxSteps:=3000000 }) (disch:=omega) only [go_sem]))
   refine call_f c8 rfl ?_
   repeat (with_reducible first|refine W_seq fun K hK=>?_|refine J_skip ?_|refine J_region ?_ |refine J_c ?_|refine Jc_false ?_|(refine Kont.go (by assumption) ?_)|(simp (config:={ maxSteps:=3000000 }) (disch:=omega) only [go_sem]))
   refine call_f c9 rfl ?_
   repeat (with_reducible first|refine W_seq fun K hK=>?_|refine J_region ?_ |(refine Kont.go (by assumption) ?_)|(simp (config:={ maxSteps:=3000000 }) (disch:=omega) only [go_sem]))
   refine call_f c10 rfl ?_
   repeat (with_reducible first|refine W_seq fun K hK=>?_|refine J_region ?_ |(refine Kont.go (by assumption) ?_)|(simp (config:={ maxSteps:=3000000 }) (disch:=omega) only [go_sem]))
   refine call_f c11 rfl ?_
   repeat (with_reducible first|refine W_seq fun K hK=>?_|refine J_block ?_|refine J_skip ?_|refine J_region ?_ |refine J_c ?_|refine Jc_false ?_|(refine Kont.go (by assumption) ?_)|(simp (config:={ maxSteps:=3000000 }) (disch:=omega) only [go_sem,lS]))
   refine W_loop [10,21,127,128,129,130,131,132,133,134,135,136,137,138,139,140,141] (fun x:Nat=>[(21,.f (I x))]) (fun x:Nat=>[]) (fun x:Nat=>x≤S.length) (fun x:Nat=>S.length-x) (0) (Nat.zero_le _) (by refine weak_of ?_ ?_<;>simp (disch:=omega) only [go_sem]<;>first|rfl|exact ⟨rfl,rfl⟩|exact Or.inl rfl|exact ⟨Or.inl rfl,Or.inl rfl⟩|trivial|assumption|omega|(symm;assumption)|((repeat' apply And.intro)<;>first|rfl|omega|trivial|exact .inr ⟨rfl,rfl⟩|exact .inr rfl|(right;symm;assumption)|(symm;assumption)|assumption)) ?_
   rintro x hx
   simp only [go_sem]
   repeat (with_reducible first|refine W_seq fun K hK=>?_|refine J_region ?_ |refine J_c ?_|(refine Kont.go (by assumption) ?_)|(simp (config:={ maxSteps:=3000000 }) (disch:=omega) only [go_sem,lS]))
   refine Jc_if (fun hxl=>?_) (fun hxl=>?_)<;>try simp only [decide_eq_true_eq,decide_eq_false_iff_not] at hxl
   ·have g1:(S.map Bo)[x]?=some (Bo (S.getD x false)):=by rw [map_get Bo S hxl,lget_lt S false hxl]
    cases hb2:S.getD x false with
    | true =>
     rw [hb2] at g1
     repeat (with_reducible first|refine W_seq fun K hK=>?_|refine J_block ?_|refine J_skip ?_|refine J_region ?_ |refine J_drawn mixed (by kernel_rfl) ?_|refine J_c ?_|refine Jc_false ?_|(refine Kont.go (by assumption) ?_)|(simp (config:={ maxSteps:=3000000 }) (disch:=omega) only [go_sem,↓reduceIte,g1,neq_bool,hbn2,true_and]))
     refine ⟨x+1,by omega,by omega,weak_of ?_ ?_⟩<;>(try simp (disch:=omega) only [go_sem])<;>(try first|done|omega|rfl|exact ⟨rfl,rfl⟩|trivial)
    | false =>
     rw [hb2] at g1
     repeat (with_reducible first|refine W_seq fun K hK=>?_|refine J_block ?_|refine J_skip ?_|refine J_region ?_ |refine J_drawn mixed (by kernel_rfl) ?_|refine J_c ?_|refine Jc_false ?_|(refine Kont.go (by assumption) ?_)|(simp (config:={ maxSteps:=3000000 }) (disch:=omega) only [go_sem,↓reduceIte,g1,neq_bool,hbn1,true_and]))
     refine ⟨x+1,by omega,by omega,weak_of ?_ ?_⟩<;>(try simp (disch:=omega) only [go_sem])<;>(try first|done|omega|rfl|exact ⟨rfl,rfl⟩|trivial)
   repeat (with_reducible first|refine W_seq fun K hK=>?_|refine J_exit ?_|refine J_region ?_ |(refine Kont.go (by assumption) ?_)|(simp (config:={ maxSteps:=3000000 }) (disch:=omega) only [go_sem,↓reduceIte]))
   refine call_f c12 rfl ?_
   repeat (with_reducible first|refine W_seq fun K hK=>?_|refine J_region ?_ |(refine Kont.go (by assumption) ?_)|(simp (config:={ maxSteps:=3000000 }) (disch:=omega) only [go_sem]))
   refine call_f c13 rfl ?_
   repeat (with_reducible first|refine W_seq fun K hK=>?_|refine J_region ?_ |(refine Kont.go (by assumption) ?_)|(simp (config:={ maxSteps:=3000000 }) (disch:=omega) only [go_sem]))
   refine call_f c16 rfl ?_
   repeat (with_reducible first|refine W_seq fun K hK=>?_|refine J_skip ?_|refine J_region ?_ |refine J_c ?_|refine Jc_false ?_|(refine Kont.go (by assumption) ?_)|(simp (config:={ maxSteps:=3000000 }) (disch:=omega) only [go_sem]))
   refine call_f c17 rfl ?_
   repeat (with_reducible first|refine W_seq fun K hK=>?_|refine J_region ?_ |(refine Kont.go (by assumption) ?_)|(simp (config:={ maxSteps:=3000000 }) (disch:=omega) only [go_sem]))
   refine call_f c18 rfl ?_
   repeat (with_reducible first|refine W_seq fun K hK=>?_|refine J_region ?_ |(refine Kont.go (by assumption) ?_)|(simp (config:={ maxSteps:=3000000 }) (disch:=omega) only [go_sem]))
   refine call_f c19 rfl ?_
   repeat (with_reducible first|refine W_seq fun K hK=>?_|refine J_skip ?_|refine J_region ?_ |refine J_c ?_|refine Jc_false ?_|(refine Kont.go (by assumption) ?_)|(simp (config:={ maxSteps:=3000000 }) (disch:=omega) only [go_sem]))
   refine call_f c20 rfl ?_
   rcases hbv with ⟨hb0,rfl⟩|⟨rfl,qv,rfl⟩
   ·have c22:=oneFrac_err hb0
    repeat (with_reducible first|refine W_seq fun K hK=>?_|refine J_region ?_ |(refine Kont.go (by assumption) ?_)|(simp (config:={ maxSteps:=3000000 }) (disch:=omega) only [go_sem,↓reduceIte,Nat.reduceAdd]))
    refine call_f c21 rfl ?_
    repeat (with_reducible first|refine W_seq fun K hK=>?_|refine J_region ?_ |(refine Kont.go (by assumption) ?_)|(simp (config:={ maxSteps:=3000000 }) (disch:=omega) only [go_sem,↓reduceIte,Nat.reduceAdd]))
    refine call_f c14 rfl ?_
    repeat (with_reducible first|refine W_seq fun K hK=>?_|refine J_region ?_ |(refine Kont.go (by assumption) ?_)|(simp (config:={ maxSteps:=3000000 }) (disch:=omega) only [go_sem]))
    refine call_f c15 rfl ?_
    repeat (with_reducible first|refine W_seq fun K hK=>?_|refine J_region ?_ |(refine Kont.go (by assumption) ?_)|(simp (config:={ maxSteps:=3000000 }) (disch:=omega) only [go_sem,↓reduceIte,Nat.reduceAdd]))
    refine call_f c22 rfl ?_
    repeat (with_reducible first|refine J_ret ?_|exact Frz.f _|(refine Kont.go (by assumption) ?_)|(simp (config:={ maxSteps:=3000000 }) (disch:=omega) only [go_sem,eql_bool,hbb,decide_true]))
   ·have c22:=oneFrac_ok (q:=qv)
    repeat (with_reducible first|refine W_seq fun K hK=>?_|refine J_region ?_ |(refine Kont.go (by assumption) ?_)|(simp (config:={ maxSteps:=3000000 }) (disch:=omega) only [go_sem,↓reduceIte,Nat.reduceAdd]))
    refine call_f c21 rfl ?_
    repeat (with_reducible first|refine W_seq fun K hK=>?_|refine J_region ?_ |(refine Kont.go (by assumption) ?_)|(simp (config:={ maxSteps:=3000000 }) (disch:=omega) only [go_sem,↓reduceIte,Nat.reduceAdd]))
    refine call_f c14 rfl ?_
    repeat (with_reducible first|refine W_seq fun K hK=>?_|refine J_region ?_ |(refine Kont.go (by assumption) ?_)|(simp (config:={ maxSteps:=3000000 }) (disch:=omega) only [go_sem]))
    refine call_f c15 rfl ?_
    repeat (with_reducible first|refine W_seq fun K hK=>?_|refine J_region ?_ |(refine Kont.go (by assumption) ?_)|(simp (config:={ maxSteps:=3000000 }) (disch:=omega) only [go_sem,↓reduceIte,Nat.reduceAdd]))
    refine call_f c22 rfl ?_
    repeat (with_reducible first|refine J_ret ?_|exact Frz.f _|(refine Kont.go (by assumption) ?_)|(simp (config:={ maxSteps:=3000000 }) (disch:=omega) only [go_sem,eql_bool,hbb,decide_true]))
 ·have h7:=trivial
  repeat (with_reducible first|refine W_seq fun K hK=>?_|refine J_region ?_ |(refine Kont.go (by assumption) ?_)|(simp (config:={ maxSteps:=3000000 }) (disch:=omega) only [go_sem]))
  refine call_f hhv rfl ?_
  repeat (with_reducible first|(simp (config:={ maxSteps:=3000000 }) (disch:=omega) only [go_sem]))
  refine call_f (fracBytes_w p hp) rfl ?_
  repeat (with_reducible first|refine W_seq fun K hK=>?_|refine J_skip ?_|refine J_region ?_ |refine J_c ?_|refine Jc_false ?_|(refine Kont.go (by assumption) ?_)|(simp (config:={ maxSteps:=3000000 }) (disch:=omega) only [go_sem,List.length_map,hgt,h5]))
  refine Jc_join (by assumption) [2] (fun z:Int=>[(2,.f (I z))]) (fun z:Int=>[]) (fun z:Int=>z=k') ?_ ?_
  ·by_cases h:5<k
   ·have hkk:k'=17:=by rw [←hk',if_pos h]
    subst hkk
    repeat (with_reducible first|refine J_region ?_ |refine Jc_true ?_|(simp (config:={ maxSteps:=3000000 }) (disch:=omega) only [go_sem,h]))
    (refine weak_of ?_ ?_<;>(try simp only [go_sem])<;>(try first|done|omega|rfl|exact ⟨rfl,rfl⟩|trivial))
   ·have hkk:k'=k:=by rw [←hk',if_neg h]
    subst hkk
    repeat (with_reducible first|refine J_skip ?_|refine Jc_false ?_|(simp (config:={ maxSteps:=3000000 }) (disch:=omega) only [go_sem,h]))
    (refine weak_of ?_ ?_<;>(try simp only [go_sem])<;>(try first|done|omega|rfl|exact ⟨rfl,rfl⟩|trivial))
  ·intro z hz
   rw [hz]
   simp only [go_sem]
   repeat (with_reducible first|refine W_seq fun K hK=>?_|refine J_region ?_ |(simp (config:={ maxSteps:=3000000 }) (disch:=omega) only [go_sem]))
   refine call_f c1 rfl ?_
   repeat (with_reducible first|refine W_seq fun K hK=>?_|refine J_region ?_ |(refine Kont.go (by assumption) ?_)|(simp (config:={ maxSteps:=3000000 }) (disch:=omega) only [go_sem]))
   refine call_f c2 rfl ?_
   repeat (with_reducible first|refine W_seq fun K hK=>?_|refine J_region ?_ |(refine Kont.go (by assumption) ?_)|(simp (config:={ maxSteps:=3000000 }) (disch:=omega) only [go_sem]))
   refine call_f c3 rfl ?_
   repeat (with_reducible first|(simp (config:={ maxSteps:=3000000 }) (disch:=omega) only [go_sem]))
   refine call_f c4 rfl ?_
   repeat (with_reducible first|(simp (config:={ maxSteps:=3000000 }) (disch:=omega) only [go_sem]))
   refine call_f c5 rfl ?_
   repeat (with_reducible first|refine W_seq fun K hK=>?_|refine J_skip ?_|refine J_region ?_ |refine J_c ?_|refine Jc_false ?_|(refine Kont.go (by assumption) ?_)|(simp (config:={ maxSteps:=3000000 }) (disch:=omega) only [go_sem]))
   refine call_f c6 rfl ?_
   repeat (with_reducible first|refine W_seq fun K hK=>?_|refine J_region ?_ |(refine Kont.go (by assumption) ?_)|(simp (config:={ maxSteps:=3000000 }) (disch:=omega) only [go_sem]))
   refine call_f c7 rfl ?_
   repeat (with_reducible first|refine W_seq fun K hK=>?_|refine J_region ?_ |(refine Kont.go (by assumption) ?_)|(simp (config:={ maxSteps:=3000000 }) (disch:=omega) only [go_sem]))
   refine call_f c8 rfl ?_
   repeat (with_reducible first|refine W_seq fun K hK=>?_|refine J_skip ?_|refine J_region ?_ |refine J_c ?_|refine Jc_false ?_|(refine Kont.go (by assumption) ?_)|(simp (config:={ maxSteps:=3000000 }) (disch:=omega) only [go_sem]))
   refine call_f c9 rfl ?_
   repeat (with_reducible first|refine W_seq fun K hK=>?_|refine J_region ?_ |(refine Kont.go (by assumption) ?_)|(simp (config:={ maxSteps:=3000000 }) (disch:=omega) only [go_sem]))
   refine call_f c10 rfl ?_
   repeat (with_reducible first|refine W_seq fun K hK=>?_|refine J_region ?_ |(refine Kont.go (by assumption) ?_)|(simp (config:={ maxSteps:=3000000 }) (disch:=omega) only [go_sem]))
   refine call_f c11 rfl ?_
   repeat (with_reducible first|refine W_seq fun K hK=>?_|refine J_block ?_|refine J_skip ?_|refine J_region ?_ |refine J_c ?_|refine Jc_false ?_|(refine Kont.go (by assumption) ?_)|(simp (config:={ maxSteps:=3000000 }) (disch:=omega) only [go_sem,lS]))
   refine W_loop [10,21,127,128,129,130,131,132,133,134,135,136,137,138,139,140,141] (fun x:Nat=>[(21,.f (I x))]) (fun x:Nat=>[]) (fun x:Nat=>x≤S.length) (fun x:Nat=>S.length-x) (0) (Nat.zero_le _) (by refine weak_of ?_ ?_<;>simp (disch:=omega) only [go_sem]<;>first|rfl|exact ⟨rfl,rfl⟩|exact Or.inl rfl|exact ⟨Or.inl rfl,Or.inl rfl⟩|trivial|assumption|omega|(symm;assumption)|((repeat' apply And.intro)<;>first|rfl|omega|trivial|exact .inr ⟨rfl,rfl⟩|exact .inr rfl|(right;symm;assumption)|(symm;assumption)|assumption)) ?_
   rintro x hx
   simp only [go_sem]
   repeat (with_reducible first|refine W_seq fun K hK=>?_|refine J_region ?_ |refine J_c ?_|(refine Kont.go (by assumption) ?_)|(simp (config:={ maxSteps:=3000000 }) (disch:=omega) only [go_sem,lS]))
   refine Jc_if (fun hxl=>?_) (fun hxl=>?_)<;>try simp only [decide_eq_true_eq,decide_eq_false_iff_not] at hxl
   ·have g1:(S.map Bo)[x]?=some (Bo (S.getD x false)):=by rw [map_get Bo S hxl,lget_lt S false hxl]
    cases hb2:S.getD x false with
    | true =>
     rw [hb2] at g1
     repeat (with_reducible first|refine W_seq fun K hK=>?_|refine J_block ?_|refine J_skip ?_|refine J_region ?_ |refine J_drawn mixed (by kernel_rfl) ?_|refine J_c ?_|refine Jc_false ?_|(refine Kont.go (by assumption) ?_)|(simp (config:={ maxSteps:=3000000 }) (disch:=omega) only [go_sem,↓reduceIte,g1,neq_bool,hbn2,true_and]))
     refine ⟨x+1,by omega,by omega,weak_of ?_ ?_⟩<;>(try simp (disch:=omega) only [go_sem])<;>(try first|done|omega|rfl|exact ⟨rfl,rfl⟩|trivial)
    | false =>
     rw [hb2] at g1
     repeat (with_reducible first|refine W_seq fun K hK=>?_|refine J_block ?_|refine J_skip ?_|refine J_region ?_ |refine J_drawn mixed (by kernel_rfl) ?_|refine J_c ?_|refine Jc_false ?_|(refine Kont.go (by assumption) ?_)|(simp (config:={ maxSteps:=3000000 }) (disch:=omega) only [go_sem,↓reduceIte,g1,neq_bool,hbn1,true_and]))
     refine ⟨x+1,by omega,by omega,weak_of ?_ ?_⟩<;>(try simp (disch:=omega) only [go_sem])<;>(try first|done|omega|rfl|exact ⟨rfl,rfl⟩|trivial)
   repeat (with_reducible first|refine W_seq fun K hK=>?_|refine J_exit ?_|refine J_region ?_ |(refine Kont.go (by assumption) ?_)|(simp (config:={ maxSteps:=3000000 }) (disch:=omega) only [go_sem,↓reduceIte]))
   refine call_f c12 rfl ?_
   repeat (with_reducible first|refine W_seq fun K hK=>?_|refine J_region ?_ |(refine Kont.go (by assumption) ?_)|(simp (config:={ maxSteps:=3000000 }) (disch:=omega) only [go_sem]))
   refine call_f c13 rfl ?_
   repeat (with_reducible first|refine W_seq fun K hK=>?_|refine J_region ?_ |(refine Kont.go (by assumption) ?_)|(simp (config:={ maxSteps:=3000000 }) (disch:=omega) only [go_sem]))
   refine call_f c16 rfl ?_
   repeat (with_reducible first|refine W_seq fun K hK=>?_|refine J_skip ?_|refine J_region ?_ |refine J_c ?_|refine Jc_false ?_|(refine Kont.go (by assumption) ?_)|(simp (config:={ maxSteps:=3000000 }) (disch:=omega) only [go_sem]))
   refine call_f c17 rfl ?_
   repeat (with_reducible first|refine W_seq fun K hK=>?_|refine J_region ?_ |(refine Kont.go (by assumption) ?_)|(simp (config:={ maxSteps:=3000000 }) (disch:=omega) only [go_sem]))
   refine call_f c18 rfl ?_
   repeat (with_reducible first|refine W_seq fun K hK=>?_|refine J_region ?_ |(refine Kont.go (by assumption) ?_)|(simp (config:={ maxSteps:=3000000 }) (disch:=omega) only [go_sem]))
   refine call_f c19 rfl ?_
   repeat (with_reducible first|refine W_seq fun K hK=>?_|refine J_skip ?_|refine J_region ?_ |refine J_c ?_|refine Jc_false ?_|(refine Kont.go (by assumption) ?_)|(simp (config:={ maxSteps:=3000000 }) (disch:=omega) only [go_sem]))
   refine call_f c20 rfl ?_
   rcases hbv with ⟨hb0,rfl⟩|⟨rfl,qv,rfl⟩
   ·have c22:=oneFrac_err hb0
    repeat (with_reducible first|refine W_seq fun K hK=>?_|refine J_region ?_ |(refine Kont.go (by assumption) ?_)|(simp (config:={ maxSteps:=3000000 }) (disch:=omega) only [go_sem,↓reduceIte,Nat.reduceAdd]))
    refine call_f c21 rfl ?_
    repeat (with_reducible first|refine W_seq fun K hK=>?_|refine J_region ?_ |(refine Kont.go (by assumption) ?_)|(simp (config:={ maxSteps:=3000000 }) (disch:=omega) only [go_sem,↓reduceIte,Nat.reduceAdd]))
    refine call_f c14 rfl ?_
    repeat (with_reducible first|refine W_seq fun K hK=>?_|refine J_region ?_ |(refine Kont.go (by assumption) ?_)|(simp (config:={ maxSteps:=3000000 }) (disch:=omega) only [go_sem]))
    refine call_f c15 rfl ?_
    repeat (with_reducible first|refine W_seq fun K hK=>?_|refine J_region ?_ |(refine Kont.go (by assumption) ?_)|(simp (config:={ maxSteps:=3000000 }) (disch:=omega) only [go_sem,↓reduceIte,Nat.reduceAdd]))
    refine call_f c22 rfl ?_
    repeat (with_reducible first|refine J_ret ?_|exact Frz.f _|(refine Kont.go (by assumption) ?_)|(simp (config:={ maxSteps:=3000000 }) (disch:=omega) only [go_sem,eql_bool,hbb,decide_true]))
   ·have c22:=oneFrac_ok (q:=qv)
    repeat (with_reducible first|refine W_seq fun K hK=>?_|refine J_region ?_ |(refine Kont.go (by assumption) ?_)|(simp (config:={ maxSteps:=3000000 }) (disch:=omega) only [go_sem,↓reduceIte,Nat.reduceAdd]))
    refine call_f c21 rfl ?_
    repeat (with_reducible first|refine W_seq fun K hK=>?_|refine J_region ?_ |(refine Kont.go (by assumption) ?_)|(simp (config:={ maxSteps:=3000000 }) (disch:=omega) only [go_sem,↓reduceIte,Nat.reduceAdd]))
    refine call_f c14 rfl ?_
    repeat (with_reducible first|refine W_seq fun K hK=>?_|refine J_region ?_ |(refine Kont.go (by assumption) ?_)|(simp (config:={ maxSteps:=3000000 }) (disch:=omega) only [go_sem]))
    refine call_f c15 rfl ?_
    repeat (with_reducible first|refine W_seq fun K hK=>?_|refine J_region ?_ |(refine Kont.go (by assumption) ?_)|(simp (config:={ maxSteps:=3000000 }) (disch:=omega) only [go_sem,↓reduceIte,Nat.reduceAdd]))
    refine call_f c22 rfl ?_
    repeat (with_reducible first|refine J_ret ?_|exact Frz.f _|(refine Kont.go (by assumption) ?_)|(simp (config:={ maxSteps:=3000000 }) (disch:=omega) only [go_sem,eql_bool,hbb,decide_true]))
end Go.Proofs.YtcgagiimlkjcpaaGreatDoor
set_option linter.unusedVariables false
set_option linter.unusedSimpArgs false
namespace Go.Proofs.YtcgagiimlkjcpaaGreatDoor
open Go Go.RowKit
theorem oFss:Opens Tryz.prog 22 (fun l:List (List F3)=>.fz 1 (l.map fun r=>.fz 3 (r.map frF))) (fun l=>l.length≤140737488355328∧∀r∈l,OkFs r):=(oFs.slice Tryz.underlying22 (by kernel_rfl) (by decide) (by kernel_rfl)).map fun l h=>⟨Nat.le_trans (reach_8 h.1 (by decide +kernel)) (by decide),h.2⟩
end Go.Proofs.YtcgagiimlkjcpaaGreatDoor
set_option linter.unusedVariables false
set_option linter.unusedSimpArgs false
namespace Go.Proofs.YtcgagiimlkjcpaaGreatDoor
open Go
theorem goes_none {P:Program} (h:P.funcs.any Func.goes=false) (f:FuncId):P.goes f=false:=by
 have hx:∀g:FuncId,(P.funcs[g]?).any Func.goes=false:=fun g=>by
  cases hg:P.funcs[g]? with
  | none=>rfl
  | some fn =>
   show Func.goes fn=false
   cases hf:Func.goes fn with
   | false=>rfl
   | true =>
    have hm:fn∈P.funcs:=Array.mem_of_getElem? hg
    have:P.funcs.any Func.goes=true:=Array.any_eq_true'.2 ⟨fn,hm,hf⟩
    rw [h] at this;cases this
 unfold Program.goes
 rw [h,Bool.and_false,Bool.or_false,List.any_eq_false]
 intro g _
 rw [hx g]
 decide
theorem goesBy_none {P:Program} {c:OpenClaim} (h:P.funcs.any Func.goes=false) (hs:c.start=.entering):false=c.goesBy P:=by
 unfold OpenClaim.goesBy Program.goesAt Program.goesFrom
 rw [hs]
 cases P.funcNamed c.func with
 | none=>rfl
 | some f=>show false=(P.goes f||false);rw [goes_none h];rfl
end Go.Proofs.YtcgagiimlkjcpaaGreatDoor
