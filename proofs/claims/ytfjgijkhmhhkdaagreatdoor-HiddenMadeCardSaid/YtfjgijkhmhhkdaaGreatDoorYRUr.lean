/- The document's net of a hidden chain's steps: walked. Conditions: numbers of 1000 bytes each. -/
import Derived.Test.YtfjgijkhmhhkdaaGreatDoorYB17
set_option linter.unusedVariables false
set_option linter.unusedSimpArgs false
namespace Go.Proofs.YtfjgijkhmhhkdaaGreatDoor
open Go Go.RowKit
set_option maxRecDepth 100000 in
set_option maxHeartbeats 8000000 in
theorem runroll_w {k:Nat} {fs ms ss:List FV} {st:List Rat} {mv sh:List (List Rat)} (h:HidF k fs ms ss st mv sh) (h1:1≤k) (hk:k≤1000) (s:Int) (hs:-9223372036854775808≤s∧s≤9223372036854775807) :
  Good Tryz.prog 21 [hidV fs ms ss,I s] (.tup [unV st mv sh s,I (unE st mv sh s)]):=by
 have hc:=rhcheck_w h h1 (by omega)
 by_cases h0:hidE st mv sh=0
 case neg =>
  rw [show unE st mv sh s=hidE st mv sh by unfold unE;rw [if_pos h0],show unV st mv sh s=net0 by unfold unV;rw [if_neg (by unfold unE;rw [if_pos h0];exact h0)]]
  refine good_of Tryz.func21 rfl (by kernel_rfl) fun X hO hrd=>?_;rw [Tryz.ntmps21,Tryz.results21];simp only [ast0,List.map_cons,List.map_nil,List.length_cons,List.length_nil,Nat.reduceAdd,Nat.reduceSub,List.replicate_succ,List.replicate_zero,List.cons_append,List.nil_append]
  (repeat (with_reducible first|refine W_seq fun K hK=>?_|refine J_region ?_|(refine Kont.go (by assumption) ?_)|(simp (config:={ maxSteps:=3000000 }) (disch:=omega) only [go_sem,↓reduceIte,Nat.reduceAdd])))
  (first|refine call_f (hc) rfl ?_|refine callQ_f (hc) rfl ?_|refine callHK_f (hc) rfl ?_|refine callH_f (hc) rfl ?_)
  (repeat (with_reducible first|refine W_seq fun K hK=>?_|refine J_ret ?_|refine J_region ?_|refine J_c ?_|refine Jc_true ?_|(refine Kont.go (by assumption) ?_)|(simp (config:={ maxSteps:=3000000 }) (disch:=omega) only [go_sem,↓reduceIte,Nat.reduceAdd,h0])))
  exact ⟨_,rfl,FrzL.fs [_,_]⟩
 obtain ⟨a1,a2,a3,a4,a5,a6,a7,_⟩:=hidE_ok h0
 by_cases hs1:s<1
 ·rw [show unE st mv sh s=2 by unfold unE;rw [if_neg (by omega),if_pos (.inl hs1)],show unV st mv sh s=net0 by unfold unV;rw [if_neg (by unfold unE;rw [if_neg (by omega),if_pos (.inl hs1)];decide)]]
  refine good_of Tryz.func21 rfl (by kernel_rfl) fun X hO hrd=>?_;rw [Tryz.ntmps21,Tryz.results21];simp only [ast0,List.map_cons,List.map_nil,List.length_cons,List.length_nil,Nat.reduceAdd,Nat.reduceSub,List.replicate_succ,List.replicate_zero,List.cons_append,List.nil_append]
  (repeat (with_reducible first|refine W_seq fun K hK=>?_|refine J_region ?_|(refine Kont.go (by assumption) ?_)|(simp (config:={ maxSteps:=3000000 }) (disch:=omega) only [go_sem,↓reduceIte,Nat.reduceAdd])))
  (first|refine call_f (hc) rfl ?_|refine callQ_f (hc) rfl ?_|refine callHK_f (hc) rfl ?_|refine callH_f (hc) rfl ?_)
  (repeat (with_reducible first|refine W_seq fun K hK=>?_|refine J_skip ?_|refine J_ret ?_|refine J_region ?_|refine J_c ?_|refine Jc_true ?_|refine Jc_false ?_|(refine Kont.go (by assumption) ?_)|(simp (config:={ maxSteps:=3000000 }) (disch:=omega) only [go_sem,↓reduceIte,Nat.reduceAdd,h0,hs1,decide_true,true_and,and_self])))
  exact ⟨_,rfl,FrzL.fs [_,_]⟩
 by_cases hs4:4<s
 ·rw [show unE st mv sh s=2 by unfold unE;rw [if_neg (by omega),if_pos (.inr hs4)],show unV st mv sh s=net0 by unfold unV;rw [if_neg (by unfold unE;rw [if_neg (by omega),if_pos (.inr hs4)];decide)]]
  refine good_of Tryz.func21 rfl (by kernel_rfl) fun X hO hrd=>?_;rw [Tryz.ntmps21,Tryz.results21];simp only [ast0,List.map_cons,List.map_nil,List.length_cons,List.length_nil,Nat.reduceAdd,Nat.reduceSub,List.replicate_succ,List.replicate_zero,List.cons_append,List.nil_append]
  (repeat (with_reducible first|refine W_seq fun K hK=>?_|refine J_region ?_|(refine Kont.go (by assumption) ?_)|(simp (config:={ maxSteps:=3000000 }) (disch:=omega) only [go_sem,↓reduceIte,Nat.reduceAdd])))
  (first|refine call_f (hc) rfl ?_|refine callQ_f (hc) rfl ?_|refine callHK_f (hc) rfl ?_|refine callH_f (hc) rfl ?_)
  (repeat (with_reducible first|refine W_seq fun K hK=>?_|refine J_skip ?_|refine J_ret ?_|refine J_region ?_|refine J_c ?_|refine Jc_true ?_|refine Jc_false ?_|(refine Kont.go (by assumption) ?_)|(simp (config:={ maxSteps:=3000000 }) (disch:=omega) only [go_sem,↓reduceIte,Nat.reduceAdd,h0,hs1,hs4,decide_true,decide_false,true_and,and_self])))
  exact ⟨_,rfl,FrzL.fs [_,_]⟩
 have hE:unE st mv sh s=0:=by unfold unE;rw [if_neg (by omega),if_neg (by omega)]
 obtain ⟨T,rfl⟩:∃T:Nat,s=(T:Int):=⟨s.toNat,by omega⟩
 have hV:unV st mv sh (T:Int)=netF st.length (hidN sh) T st mv sh:=by unfold unV;rw [if_pos hE,Int.toNat_natCast]
 rw [hE,hV]
 have hfl:fs.length=st.length:=h.ist.len
 have hsl:ss.length=sh.length:=h.ish.len
 obtain ⟨x0,y0,z0⟩:=h.ish.at (i:=0) (by omega)
 have hx0:x0.length=hidN sh:=by rw [z0.len];unfold hidN;rw [lget_lt sh [] (by omega)]
 have hmr:∀r∈mv,r.length≤4:=fun r hr=>by
  obtain ⟨j,hj,rfl⟩:=List.getElem_of_mem hr
  have:=(a7 j (by omega)).1
  rw [lget_lt mv [] hj] at this;omega
 have hsr:∀r∈sh,r.length≤4:=fun r hr=>by
  obtain ⟨j,hj,rfl⟩:=List.getElem_of_mem hr
  have:=(a7 j (by omega)).2
  rw [lget_lt sh [] hj] at this;omega
 have cS:=called_w (n:=st.length) (by omega)
 have cO:=called_w (n:=hidN sh) (by omega)
 have fM:=flat_w h.imv h1 hk (by omega) hmr
 have fO:=flat_w h.ish h1 hk (by omega) hsr
 have hst1:FrM k [.fz 3 fs] [st]:=by
  refine ⟨rfl,fun i r hi=>?_⟩
  cases i with
  | zero=>cases hi;exact ⟨_,rfl,h.ist⟩
  | succ i=>simp at hi
 have frS:=flat_fresh hst1 h1 hk (by simp) (fun r hr=>by rw [List.mem_singleton.1 hr];omega)
 have fS:=flat_w hst1 h1 hk (by simp) (fun r hr=>by rw [List.mem_singleton.1 hr];omega)
 refine good_of Tryz.func21 rfl (by kernel_rfl) fun X hO hrd=>?_;rw [Tryz.ntmps21,Tryz.results21];simp only [ast0,List.map_cons,List.map_nil,List.length_cons,List.length_nil,Nat.reduceAdd,Nat.reduceSub,List.replicate_succ,List.replicate_zero,List.cons_append,List.nil_append]
 (repeat (with_reducible first|refine W_seq fun K hK=>?_|refine J_region ?_|(refine Kont.go (by assumption) ?_)|(simp (config:={ maxSteps:=3000000 }) (disch:=omega) only [go_sem,↓reduceIte,Nat.reduceAdd])))
 (first|refine call_f (hc) rfl ?_|refine callQ_f (hc) rfl ?_|refine callHK_f (hc) rfl ?_|refine callH_f (hc) rfl ?_)
 (repeat (with_reducible first|refine W_seq fun K hK=>?_|refine J_block ?_|refine J_skip ?_|refine J_region ?_|refine J_c ?_|refine Jc_false ?_|(refine Kont.go (by assumption) ?_)|(simp (config:={ maxSteps:=3000000 }) (disch:=omega) only [go_sem,↓reduceIte,Nat.reduceAdd,h0,hs1,hs4,decide_false,true_and,and_self])))
 refine J_reserve ?_
 refine J_reserve ?_
 refine J_reserve ?_
 simp only [go_sem]
 refine W_loop [8,9,10,11,26,27,28,29,30,31,32,33,34,35,36,37,38,39,40,41,42,43,44,45,46,47,48,49,50,51,52,53,54,55,56,57,58,59,60,61,62,63,64,65,66,67,68,69,70,71,72,73,74,75,76,77,78,79,80,81,82,83,84,85,86,87,88,89,90,91,92,93,94,95,96,97,98,99] (fun t:Nat=>[(8,.f (I t))]) (fun t:Nat=>[some ⟨25,3,[.f (hidV fs ms ss)]⟩,some ⟨44,3,[.f net0]⟩,some ⟨44,3,[unA t]⟩,ob 73 2 (vrT st.length (hidN sh) t),ob 26 1 (paT t),ob 22 1 (roT st mv sh t)]) (fun t:Nat=>t≤T) (fun t:Nat=>T-t) (0) (Nat.zero_le _) (by refine weak_of ?_ ?_<;>simp (disch:=omega) only [go_sem,Nat.reduceAdd]<;>first|rfl|exact ⟨rfl,rfl⟩|exact Or.inl rfl|exact ⟨Or.inl rfl,Or.inl rfl⟩|trivial|assumption|omega|(symm;assumption)|((repeat' apply And.intro)<;>first|rfl|omega|trivial|exact .inl rfl|exact .inr ⟨rfl,rfl⟩|exact .inr rfl|(right;symm;assumption)|(symm;assumption)|assumption)) ?_
 rintro t ht
 simp only [go_sem]
 (repeat (with_reducible first|refine W_seq fun K hK=>?_|refine J_region ?_|refine J_c ?_|(refine Kont.go (by assumption) ?_)|(simp (config:={ maxSteps:=3000000 }) (disch:=omega) only [go_sem])))
 refine Jc_if (fun htT=>?_) (fun htT=>?_)<;>try simp only [decide_eq_true_eq,decide_eq_false_iff_not] at htT
 ·have hof:=rof_good (n:=(t:Int)) (by omega) (by omega)
  have htx:=rtext_w (k:=t) (by omega)
  rw [Int.toNat_natCast] at hof
  have hd:(dgt t).size=1:=rfl
  (repeat (with_reducible first|refine W_seq fun K hK=>?_|refine J_block ?_|refine J_skip ?_|refine J_region ?_|(refine Kont.go (by assumption) ?_)|(simp (config:={ maxSteps:=3000000 }) (disch:=omega) only [go_sem])))
  (first|refine call_f (hof) rfl ?_|refine callQ_f (hof) rfl ?_|refine callHK_f (hof) rfl ?_|refine callH_f (hof) rfl ?_)
  (repeat (with_reducible first|(simp (config:={ maxSteps:=3000000 }) (disch:=omega) only [go_sem])))
  (first|refine call_f (htx) rfl ?_|refine callQ_f (htx) rfl ?_|refine callHK_f (htx) rfl ?_|refine callH_f (htx) rfl ?_)
  (repeat (with_reducible first|refine W_seq fun K hK=>?_|refine J_region ?_|(refine Kont.go (by assumption) ?_)|(simp (config:={ maxSteps:=3000000 }) (disch:=omega) only [go_sem,↓reduceIte,Nat.reduceAdd,Nat.reduceLeDiff,hd,hfl])))
  (first|refine call_f (cS) rfl ?_|refine callQ_f (cS) rfl ?_|refine callHK_f (cS) rfl ?_|refine callH_f (cS) rfl ?_)
  (repeat (with_reducible first|refine W_seq fun K hK=>?_|refine J_region ?_|(refine Kont.go (by assumption) ?_)|(simp (config:={ maxSteps:=3000000 }) (disch:=omega) only [go_sem,Nat.reduceEqDiff,↓reduceIte,Nat.reduceAdd,Nat.reduceLeDiff,Int.reduceLE,hd,y0,hx0])))
  (first|refine call_f (cO) rfl ?_|refine callQ_f (cO) rfl ?_|refine callHK_f (cO) rfl ?_|refine callH_f (cO) rfl ?_)
  by_cases t0:t=0
  ·subst t0
   have e1:ob 73 2 (vrT st.length (hidN sh) 0)=none:=rfl
   have e2:ob 26 1 (paT 0)=none:=rfl
   have e3:ob 22 1 (roT st mv sh 0)=none:=rfl
   have e4:AV.f net0=.f (.agg [nilV,nilV,nilV]):=rfl
   rw [e1,e2,e3,unA_zero,e4]
   (repeat (first|(with_reducible first|refine W_seq fun K hK=>?_|((fail_if_success refine J_region (id:=16) ?_);refine J_region ?_)|refine aApp_old ?_|refine J_c ?_|refine Jc_true ?_|(refine Kont.go (by assumption) ?_)|(simp (config:={ maxSteps:=3000000 }) (disch:=omega) only [go_sem,Nat.reduceEqDiff,↓reduceIte,Nat.reduceAdd,Nat.reduceLeDiff]))|refine And.intro (by omega) ?_))
   refine J_freezeA (r:=10) (sz:=1) (e:=3) (l:=[I 0]) (by rfl) ?_
   simp only [go_sem,Nat.reduceEqDiff]
   have e5:ob 73 2 (vrT st.length (hidN sh) 1)=some ⟨73,2,[.f (.agg [St (⟨#[115]⟩++dgt 0),.fz 1 (vls st.length)]),.f (.agg [St (⟨#[111]⟩++dgt 0),.fz 1 (vls (hidN sh))])]⟩:=rfl
   have e6:ob 26 1 (paT 1)=some ⟨26,1,[.f nilV,.f (.fz 1 [I 0])]⟩:=rfl
   have e7:ob 22 1 (roT st mv sh 1)=some ⟨22,1,[.f (.fz 3 (flF [st])),.f (.fz 3 (flF sh))]⟩:=rfl
   (repeat (first|(with_reducible first|refine J_orders (id:=16) [10] (.one 0 (.one 1 (.one 2 (.one 3 (.one 6 (.one 7 (.one 4 (.one 5 (.one 8 (.one 9 (.one 10 (.one 11 (.one 12 .leaf))))))))))))) mixed (by kernel_rfl) ?_|(simp (config:={ maxSteps:=3000000 }) (disch:=omega) only [go_sem,Nat.reduceEqDiff,↓reduceIte,Nat.reduceAdd,Nat.reduceLeDiff]))|refine And.intro (by omega) ?_))
   refine callQ_fr (fS) frS (FrzL.cons (Frz.own0 (ds:=[.fz 3 fs]) rfl rfl) (FrzL.nil _)) ?_
   (repeat (with_reducible first|(simp (config:={ maxSteps:=3000000 }) (disch:=omega) only [go_sem,↓reduceIte])))
   (first|refine call_f (fO) rfl ?_|refine callQ_f (fO) rfl ?_|refine callHK_f (fO) rfl ?_|refine callH_f (fO) rfl ?_)
   (repeat (first|(with_reducible first|refine J_region ?_|(refine Kont.go (by assumption) ?_)|(simp (config:={ maxSteps:=3000000 }) (disch:=omega) only [go_sem,↓reduceIte,Nat.reduceAdd,Nat.reduceLeDiff,Int.reduceAdd]))|refine And.intro (by omega) ?_))
   refine ⟨1,by omega,by omega,weak_ren [0,1,2,9,12,15] ⟨by decide,by first|decide|(simp;done)⟩ ?_ ?_⟩<;>(try simp (disch:=omega) only [go_sem,Nat.reduceAdd,unA_succ,e5,e6,e7,Nat.zero_add,Nat.mul_one])<;>(try first|done|omega|rfl|exact ⟨rfl,rfl⟩|trivial)
  ·obtain ⟨u,rfl⟩:∃u,t=u+1:=⟨t-1,by omega⟩
   obtain ⟨V,hV'⟩:∃V,V=vrT st.length (hidN sh) (u+1):=⟨_,rfl⟩
   obtain ⟨Pa,hPa⟩:∃Pa,Pa=paT (u+1):=⟨_,rfl⟩
   obtain ⟨Ro,hRo⟩:∃Ro,Ro=roT st mv sh (u+1):=⟨_,rfl⟩
   have vl:V.length=2*(u+1):=by rw [hV'];exact vrT_len
   have pl:Pa.length=2*(u+1):=by rw [hPa];exact paT_len
   have rl:Ro.length=2*(u+1):=by rw [hRo];exact roT_len
   have e1:ob 73 2 V=some ⟨73,2,V.map .f⟩:=ob_pos fun h=>by rw [h] at vl;simp at vl
   have e2:ob 26 1 Pa=some ⟨26,1,Pa.map .f⟩:=ob_pos fun h=>by rw [h] at pl;simp at pl
   have e3:ob 22 1 Ro=some ⟨22,1,Ro.map .f⟩:=ob_pos fun h=>by rw [h] at rl;simp at rl
   have tv:(V.map AV.f).take (2*(u+1))=V.map .f:=List.take_of_length_le (by rw [List.length_map];omega)
   have tp:(Pa.map AV.f).take (2*(u+1))=Pa.map .f:=List.take_of_length_le (by rw [List.length_map];omega)
   have tr:(Ro.map AV.f).take (2*(u+1))=Ro.map .f:=List.take_of_length_le (by rw [List.length_map];omega)
   rw [←hV',←hPa,←hRo,e1,e2,e3,unA_succ]
   have hne:¬(((u+1:Nat):Int)=0):=by omega
   (repeat (first|(with_reducible first|refine W_seq fun K hK=>?_|((fail_if_success refine J_region (id:=18) ?_);refine J_region ?_)|refine aApp_old ?_|refine J_c ?_|refine Jc_false ?_|(refine Kont.go (by assumption) ?_)|(simp (config:={ maxSteps:=3000000 }) (disch:=omega) only [go_sem,Nat.reduceEqDiff,↓reduceIte,Nat.reduceAdd,Nat.reduceLeDiff,vl,pl,tv,tp,hne,List.length_map]))|refine And.intro (by omega) ?_))
   refine J_freezeA (r:=10) (sz:=1) (e:=3) (l:=[I (2*((u+1:Nat):Int)-2)]) (by rfl) ?_
   simp only [go_sem,Nat.reduceEqDiff]
   refine J_freezeA (r:=11) (sz:=1) (e:=3) (l:=[I (2*((u+1:Nat):Int))]) (by rfl) ?_
   simp only [go_sem,Nat.reduceEqDiff]
   have e5:ob 73 2 (vrT st.length (hidN sh) (u+1+1))=some ⟨73,2,V.map .f++[.f (.agg [St (⟨#[115]⟩++dgt (u+1)),.fz 1 (vls st.length)]),.f (.agg [St (⟨#[111]⟩++dgt (u+1)),.fz 1 (vls (hidN sh))])]⟩:=by
    rw [ob_pos (fun h=>by have:=congrArg List.length h;rw [vrT_len] at this;simp at this),←vrT_next,←hV',List.map_append];rfl
   have e6:ob 26 1 (paT (u+1+1))=some ⟨26,1,Pa.map .f++[.f (.fz 1 [I (2*((u+1:Nat):Int)-2)]),.f (.fz 1 [I (2*((u+1:Nat):Int))])]⟩:=by
    rw [ob_pos (fun h=>by have:=congrArg List.length h;rw [paT_len] at this;simp at this),←paT_next,←hPa,List.map_append];rfl
   have e7:ob 22 1 (roT st mv sh (u+1+1))=some ⟨22,1,Ro.map .f++[.f (.fz 3 (flF mv)),.f (.fz 3 (flF sh))]⟩:=by
    rw [ob_pos (fun h=>by have:=congrArg List.length h;rw [roT_len] at this;simp at this),←roT_next,←hRo,List.map_append];rfl
   have hml:2*(u+1)+2=2*(u+1+1):=by omega
   (repeat (with_reducible first|refine J_orders (id:=18) [9] (.one 0 (.one 1 (.one 2 (.one 3 (.one 4 (.one 5 (.one 6 (.one 7 (.one 8 (.one 9 (.one 10 (.one 11 .leaf)))))))))))) mixed (by kernel_rfl) ?_ |(simp (config:={ maxSteps:=3000000 }) (disch:=omega) only [go_sem,Nat.reduceEqDiff,↓reduceIte,Nat.reduceAdd,Nat.reduceLeDiff,rl,tr,List.length_map])))
   (first|refine call_f (fM) rfl ?_|refine callQ_f (fM) rfl ?_|refine callHK_f (fM) rfl ?_|refine callH_f (fM) rfl ?_)
   (repeat (with_reducible first|(simp (config:={ maxSteps:=3000000 }) (disch:=omega) only [go_sem,↓reduceIte])))
   (first|refine call_f (fO) rfl ?_|refine callQ_f (fO) rfl ?_|refine callHK_f (fO) rfl ?_|refine callH_f (fO) rfl ?_)
   (repeat (first|(with_reducible first|refine J_region ?_|(refine Kont.go (by assumption) ?_)|(simp (config:={ maxSteps:=3000000 }) (disch:=omega) only [go_sem,↓reduceIte,Nat.reduceAdd,Nat.reduceLeDiff]))|refine And.intro (by omega) ?_))
   refine ⟨u+1+1,by omega,by omega,weak_ren [0,1,2,9,13,15] ⟨by decide,by first|decide|(simp;done)⟩ ?_ ?_⟩<;>(try simp (disch:=omega) only [go_sem,Nat.reduceAdd,unA_succ,e5,e6,e7,hml,map_ren_f,List.map_append,List.map_cons,List.map_nil])<;>(try first|done|omega|rfl|exact ⟨rfl,rfl⟩|trivial)
 ·have he:t=T:=by omega
  subst he
  obtain ⟨u,rfl⟩:∃u,t=u+1:=⟨t-1,by omega⟩
  rw [unA_succ]
  (repeat (with_reducible first|refine W_seq fun K hK=>?_|refine J_exit ?_|refine J_ret ?_|refine J_region ?_|(refine Kont.go (by assumption) ?_)|(simp (config:={ maxSteps:=3000000 }) (disch:=omega) only [go_sem,↓reduceIte,Nat.reduceAdd])))
  have s1:sl 3 2 (vrT st.length (hidN sh) (u+1))=.own 3 2 0 (2*(u+1)):=by rw [sl_pos (fun h=>by have:=congrArg List.length h;rw [vrT_len] at this;simp at this),vrT_len]
  have s2:sl 4 1 (paT (u+1))=.own 4 1 0 (2*(u+1)):=by rw [sl_pos (fun h=>by have:=congrArg List.length h;rw [paT_len] at this;simp at this),paT_len]
  have s3:sl 5 1 (roT st mv sh (u+1))=.own 5 1 0 (2*(u+1)):=by rw [sl_pos (fun h=>by have:=congrArg List.length h;rw [roT_len] at this;simp at this),roT_len]
  rw [←s1,←s2,←s3]
  exact ⟨_,rfl,FrzL.cons (Frz.aggL (FrzL.cons (Frz.sl rfl) (FrzL.cons (Frz.sl rfl) (FrzL.cons (Frz.sl rfl) (FrzL.nil _))))) (FrzL.cons (.f _) (FrzL.nil _))⟩
end Go.Proofs.YtfjgijkhmhhkdaaGreatDoor
