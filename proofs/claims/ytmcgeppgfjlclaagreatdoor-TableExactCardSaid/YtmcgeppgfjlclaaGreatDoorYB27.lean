/- One number or an error, as the laws compare them: walked. Conditions: none. -/
import Derived.Test.YtmcgeppgfjlclaaGreatDoorYB16
import Derived.Test.YtmcgeppgfjlclaaGreatDoorYTcI
import Derived.Test.YtmcgeppgfjlclaaGreatDoorYB25
import Derived.Test.YtmcgeppgfjlclaaGreatDoorYB26
import Derived.SevenTiedAt
set_option linter.unusedVariables false
set_option linter.unusedSimpArgs false
namespace Go.Proofs.YtmcgeppgfjlclaaGreatDoor
open Go Go.RowKit
theorem eqR_nn:eqR false ⟨#[]⟩ ⟨#[]⟩ false ⟨#[]⟩ ⟨#[]⟩=true:=by decide
set_option maxRecDepth 100000 in
theorem noughtN_w:Good Tryz.prog 71 [frN] (Bo true):=by
 refine good_of Tryz.func71 rfl (by kernel_rfl) fun X hO hrd=>?_;rw [Tryz.ntmps71,Tryz.results71];simp only [ast0,List.map_cons,List.map_nil,List.length_cons,List.length_nil,Nat.reduceAdd,Nat.reduceSub,List.replicate_succ,List.replicate_zero,List.cons_append,List.nil_append]
 (repeat (with_reducible first|refine W_seq fun K hK=>?_|refine J_ret ?_|refine J_region ?_ |refine J_drawn mixed (by kernel_rfl) ?_|exact Frz.f _|(refine Kont.go (by assumption) ?_)|(simp (config:={ maxSteps:=3000000 }) (disch:=omega) only [go_sem,↓reduceIte,Nat.reduceAdd,eqR_nn,true_and,and_self])))
set_option maxRecDepth 100000 in
theorem oneFracN_err {e:Int} (he:e≠0):Good Tryz.prog 33 [frN,I e,frN,I e] (Bo true):=by
 refine good_of Tryz.func33 rfl (by kernel_rfl) fun X hO hrd=>?_;rw [Tryz.ntmps33,Tryz.results33];simp only [ast0,List.map_cons,List.map_nil,List.length_cons,List.length_nil,Nat.reduceAdd,Nat.reduceSub,List.replicate_succ,List.replicate_zero,List.cons_append,List.nil_append]
 (repeat (with_reducible first|refine W_seq fun K hK=>?_|refine J_region ?_ |(refine Kont.go (by assumption) ?_)|(simp (config:={ maxSteps:=3000000 }) (disch:=omega) only [go_sem,↓reduceIte,Nat.reduceAdd,he])))
 refine call_f noughtN_w rfl ?_
 (repeat (with_reducible first|refine J_ret ?_|exact Frz.f _|(refine Kont.go (by assumption) ?_)|(simp (config:={ maxSteps:=3000000 }) (disch:=omega) only [go_sem])))
set_option maxRecDepth 100000 in
theorem oneFracN_ok {q:Rat}:Good Tryz.prog 33 [fr q,I 0,fr q,I 0] (Bo true):=by
 refine good_of Tryz.func33 rfl (by kernel_rfl) fun X hO hrd=>?_;rw [Tryz.ntmps33,Tryz.results33];simp only [ast0,List.map_cons,List.map_nil,List.length_cons,List.length_nil,Nat.reduceAdd,Nat.reduceSub,List.replicate_succ,List.replicate_zero,List.cons_append,List.nil_append]
 (repeat (with_reducible first|refine W_seq fun K hK=>?_|refine J_ret ?_|refine J_region ?_ |exact Frz.f _|(refine Kont.go (by assumption) ?_)|(simp (config:={ maxSteps:=3000000 }) (disch:=omega) only [go_sem,↓reduceIte,Nat.reduceAdd,decide_true])))
end Go.Proofs.YtmcgeppgfjlclaaGreatDoor
set_option linter.unusedVariables false
set_option linter.unusedSimpArgs false
namespace Go.Proofs.YtmcgeppgfjlclaaGreatDoor
open Go Go.RowKit
def tabO (t:List Int × List F3):FV:=.agg [ints t.1,.fz 3 (t.2.map frF)]
theorem oTab:Opens Tryz.prog 27 tabO (fun t=>OkIs t.1∧OkFs t.2):=Opens.struct2 Tryz.underlying27 (by kernel_rfl) oIs oFs ⟨rfl,rfl,rfl,rfl,by kernel_rfl,by kernel_rfl⟩ ⟨fun _=>rfl,fun _=>rfl⟩
set_option maxRecDepth 100000 in
theorem heavyTable_w (t:List Int × List F3) (h1:t.1.length≤140737488355328) (h2:OkFs t.2):Good Tryz.prog 14 [tabO t] (Bo (decide ((4096:Int)<(t.1.length:Int)+(fbN t.2:Nat)))):=by
 have hf:=fracBytes_w t.2 h2
 have hb:=fbGo_le h2.2 (n:=t.2.length)
 have hN:fbGo t.2.length t.2=fbN t.2:=rfl
 have hl:=h2.1
 rw [hN] at hb
 have e0:tabO t=.agg [ints t.1,.fz 3 (t.2.map frF)]:=rfl
 rw [e0]
 refine good_of Tryz.func14 rfl (by kernel_rfl) fun X hO hrd=>?_;rw [Tryz.ntmps14,Tryz.results14];simp only [ast0,List.map_cons,List.map_nil,List.length_cons,List.length_nil,Nat.reduceAdd,Nat.reduceSub,List.replicate_succ,List.replicate_zero,List.cons_append,List.nil_append]
 (repeat (with_reducible first|refine W_seq fun K hK=>?_|refine J_region ?_ |refine J_drawn mixed (by kernel_rfl) ?_|(refine Kont.go (by assumption) ?_)|(simp (config:={ maxSteps:=3000000 }) (disch:=omega) only [go_sem,↓reduceIte,Nat.reduceAdd,List.length_map])))
 refine callQ_f hf rfl ?_
 (repeat (with_reducible first|refine J_ret ?_|exact Frz.f _|(refine Kont.go (by assumption) ?_)|(simp (config:={ maxSteps:=3000000 }) (disch:=omega) only [go_sem])))
def PairT (f g:FuncId) (xs:List FV):Prop:=∃(V C:FV) (e:Int),V.oc=true∧C.oc=true∧Good Tryz.prog f xs (.tup [.agg [V,C],I e])∧Good Tryz.prog g xs (.tup [.agg [V,C],I e])∧Good Tryz.prog 12 [.agg [V,C],.agg [V,C]] (Bo true)
theorem pairT_0 {f g:FuncId} {xs:List FV} {e:Int} (h1:Good Tryz.prog f xs (.tup [tab0,I e])) (h2:Good Tryz.prog g xs (.tup [tab0,I e])):PairT f g xs:=⟨_,_,e,rfl,rfl,h1,h2,sameTable0_w⟩
theorem pairT_c {f g:FuncId} {xs:List FV} {l:List Nat} {qs:List Rat} {e:Int} (hl:l.length≤1000) (hq:qs.length≤1000000) (h1:Good Tryz.prog f xs (.tup [tabV l (qs.map fr),I e])) (h2:Good Tryz.prog g xs (.tup [tabV l (qs.map fr),I e])):PairT f g xs:=⟨_,_,e,rfl,rfl,h1,h2,sameTable_w l qs hl hq⟩
set_option maxRecDepth 100000 in
theorem sameIntsN_w:Good Tryz.prog 24 [.v (.slice none 0 0),.v (.slice none 0 0)] (Bo true):=by
 refine good_of Tryz.func24 rfl (by kernel_rfl) fun X hO hrd=>?_;rw [Tryz.ntmps24,Tryz.results24];simp only [ast0,List.map_cons,List.map_nil,List.length_cons,List.length_nil,Nat.reduceAdd,Nat.reduceSub,List.replicate_succ,List.replicate_zero,List.cons_append,List.nil_append]
 (repeat (with_reducible first|refine W_seq fun K hK=>?_|refine J_block ?_|refine J_skip ?_|refine J_region ?_ |refine J_c ?_|refine Jc_false ?_|(refine Kont.go (by assumption) ?_)|(simp (config:={ maxSteps:=3000000 }) (disch:=omega) only [go_sem])))
 refine W_loop [4,5,11,12,13,14,15,16,17,18,19,20,21,22,23,24,25] (fun x:Nat=>[(5,.f (I x))]) (fun x:Nat=>[]) (fun x:Nat=>x≤0) (fun x:Nat=>0-x) (0) (Nat.zero_le _) (by refine weak_of ?_ ?_<;>simp (disch:=omega) only [go_sem]<;>first|rfl|exact ⟨rfl,rfl⟩|exact Or.inl rfl|exact ⟨Or.inl rfl,Or.inl rfl⟩|trivial|assumption|omega|(symm;assumption)|((repeat' apply And.intro)<;>first|rfl|omega|trivial|exact .inl rfl|exact .inr ⟨rfl,rfl⟩|exact .inr rfl|(right;symm;assumption)|(symm;assumption)|assumption)) ?_
 rintro i hi
 have hi0:i=0:=by omega
 subst hi0
 simp only [go_sem]
 (repeat (with_reducible first|refine W_seq fun K hK=>?_|refine J_exit ?_|refine J_ret ?_|refine J_region ?_ |refine J_c ?_|refine Jc_false ?_|exact Frz.f _|(refine Kont.go (by assumption) ?_)|(simp (config:={ maxSteps:=3000000 }) (disch:=omega) only [go_sem,↓reduceIte])))
section
variable {s : List Int} {a b : List Int × List F3}
theorem tab_cases (hs:s.length≤64) (ha1:OkIs a.1) (ha2:OkFs a.2) (hb:fbN a.2≤4096):(∃e:Int,e≠0∧(e=8∨e=11)∧Good Tryz.prog 18 [ints s,tabO a] (I e)∧Good Tryz.prog 19 [ints s,tabO a] (I e)) ∨
  (∃Z l,s=Z.map Int.ofNat∧a.1=l.map Int.ofNat∧TbOk 4096 Z l (a.2.map frF) (a.2.map rv3)∧Good Tryz.prog 18 [ints s,tabO a] (I 0)∧Good Tryz.prog 19 [ints s,tabO a] (I 0)):=by
 have h1:=check_w s a.1 (a.2.map frF) (by omega) ha1.2 ha1.1 (by rw [List.length_map];exact ha2.1)
 have h2:=rcheck_w s a.1 (a.2.map frF) (by omega) ha1.2 ha1.1 (by rw [List.length_map];exact ha2.1)
 rw [List.length_map] at h1 h2
 cases ho:okB s a.1 with
 | false =>
  have e:ckE s a.1 a.2.length=11:=by unfold ckE;rw [ho];rfl
  rw [e] at h1 h2
  exact .inl ⟨11,by decide,.inr rfl,h1,h2⟩
 | true =>
  obtain ⟨Z,l,es,el,hz⟩:=okB_nat ho
  have e:ckE s a.1 a.2.length=if cntS (szT Z) l=a.2.length then 0 else 8:=by
   unfold ckE;rw [if_pos ho,es,el,toNat_map,toNat_map]
  rw [e] at h1 h2
  by_cases hn:cntS (szT Z) l=a.2.length
  ·rw [if_pos hn] at h1 h2
   exact .inr ⟨Z,l,es,el,⟨hz,fbN_frs (by omega) hb,by rw [List.length_map];exact hn.symm⟩,h1,h2⟩
  ·rw [if_neg hn] at h1 h2
   exact .inl ⟨8,by decide,.inl rfl,h1,h2⟩
theorem tab_ok {l:List Nat} (el:a.1=l.map Int.ofNat):tabO a=tabV l (a.2.map frF):=by
 show FV.agg [ints a.1,_]=_
 rw [el,ints_Ns]
theorem norm_pair (hs:s.length≤64) (ha1:OkIs a.1) (ha2:OkFs a.2) (hb:fbN a.2≤4096):PairT 29 30 [ints s,tabO a]:=by
 rcases tab_cases hs ha1 ha2 hb with ⟨e,he,_,c1,c2⟩|⟨Z,l,es,el,hk,c1,c2⟩
 ·exact pairT_0 (normE_w he c1) (rnormE_w he c2)
 ·have hl:=hk.ok.len
  have hc:=hk.ok.cnt
  have hq:=hk.len
  rw [tab_ok el,es,ints_Ns]
  by_cases h0:sumR (a.2.map rv3)=0
  ·exact pairT_0 (norm0_w hk (by omega) (by omega) h0) (rnorm0_w hk (by omega) (by omega) h0)
  ·exact pairT_c (by omega) (by rw [nrmT_len];omega) (norm_w hk (by omega) (by omega) h0) (rnorm_w hk (by omega) (by omega) h0)
theorem out_pair (hs:s.length≤64) (ha1:OkIs a.1) (ha2:OkFs a.2) (hb:fbN a.2≤4096) {v:Int} (hv:OkI v) (most:Bool):PairT 11 26 [ints s,tabO a,I v,Bo most]:=by
 rcases tab_cases hs ha1 ha2 hb with ⟨e,he,_,c1,c2⟩|⟨Z,l,es,el,hk,c1,c2⟩
 ·exact pairT_0 (outE_w v most he c1) (routE_w v most he c2)
 ·have hl:=hk.ok.len
  by_cases hm:v∈a.1
  ·have hm':=hm
   rw [el] at hm'
   obtain ⟨u,hu,rfl⟩:=List.mem_map.1 hm'
   rw [tab_ok el,es,ints_Ns]
   have:=(hk.ok.less (v:=u)).cnt
   have:=(hk.ok.less (v:=u)).len
   exact pairT_c (by omega) (by rw [outT_len];omega) (out_w hk (by omega) (by omega) hu most) (rout_w hk (by omega) (by omega) hu most)
  ·have h2:=rout0_w (s:=s) (xs:=a.2.map frF) v most hv ha1.1 hm c2
   have h1:=out0_w hk (v:=v) (by rw [←el];exact hm) most
   rw [←tab_ok el,←ints_Ns,←es] at h1
   exact pairT_0 h1 h2
theorem fix_pair (hs:s.length≤64) (ha1:OkIs a.1) (ha2:OkFs a.2) (hb:fbN a.2≤4096) (v w:Int):PairT 27 28 [ints s,tabO a,I v,I w]:=by
 rcases tab_cases hs ha1 ha2 hb with ⟨e,he,_,c1,c2⟩|⟨Z,l,es,el,hk,c1,c2⟩
 ·exact pairT_0 (fixE_w v w he c1) (rfixE_w v w he c2)
 ·by_cases hv:v<0∨(s.length:Int)≤v
  ·exact pairT_0 (fixV_w v w hv c1) (rfixV_w v w hv c2)
  ·obtain ⟨u,rfl⟩:=Int.eq_ofNat_of_zero_le (show 0≤v by omega)
   have hus:u<s.length:=by omega
   by_cases hw:w<0∨s.getD u 0≤w
   ·exact pairT_0 (fixW_w u w hus hw c1) (rfixW_w u w hus hw c2)
   ·obtain ⟨y,rfl⟩:=Int.eq_ofNat_of_zero_le (show 0≤w by omega)
    have huZ:u<Z.length:=by rw [es,List.length_map] at hus;exact hus
    have hg:s.getD u 0=((szT Z u:Nat):Int):=by
     rw [es,lget_lt _ 0 (by rw [List.length_map];exact huZ),List.getElem_map];unfold szT;rw [lget_lt Z 0 huZ];rfl
    have hy:y<szT Z u:=by rw [hg] at hw;omega
    have:=(hk.ok.less (v:=u)).cnt
    have:=(hk.ok.less (v:=u)).len
    rw [tab_ok el,es,ints_Ns]
    exact pairT_c (by omega) (by rw [fixT_len];omega) (fix_w hk (by omega) (by omega) huZ hy) (rfix_w hk (by omega) (by omega) huZ hy)
theorem product_pair (hs:s.length≤64) (ha1:OkIs a.1) (ha2:OkFs a.2) (hba:fbN a.2≤4096) (hb1:OkIs b.1) (hb2:OkFs b.2) (hbb:fbN b.2≤4096):PairT 13 25 [ints s,tabO a,tabO b]:=by
 have hB:∃f:Int,Good Tryz.prog 18 [ints s,tabO b] (I f)∧Good Tryz.prog 19 [ints s,tabO b] (I f):=by
  rcases tab_cases hs hb1 hb2 hbb with ⟨e,he,_,c1,c2⟩|⟨Z,l,es,el,hk,c1,c2⟩
  ·exact ⟨e,c1,c2⟩
  ·exact ⟨0,c1,c2⟩
 rcases tab_cases hs ha1 ha2 hba with ⟨e,he,_,c1,c2⟩|⟨Z,l,es,el,hk,c1,c2⟩
 ·obtain ⟨f,d1,d2⟩:=hB
  exact pairT_0 (productE_w he c1) (rproductE_w he c2 d2)
 ·rcases tab_cases hs hb1 hb2 hbb with ⟨f,hf,_,d1,d2⟩|⟨Z',l',es',el',hk',d1,d2⟩
  ·exact pairT_0 (productF_w hf c1 d1) (rproductF_w hf c2 d2)
  ·have hZ:Z'=Z:=by
    have h:=es.symm.trans es'
    have:=congrArg (List.map Int.toNat) h
    rw [toNat_map,toNat_map] at this
    exact this.symm
   rw [hZ] at hk'
   have:=(hk.ok.uni (lb:=l')).cnt
   have:=(hk.ok.uni (lb:=l')).len
   rw [tab_ok el,tab_ok el',es,ints_Ns]
   exact pairT_c (by omega) (by rw [proT_len];omega) (product_w hk hk' (by omega) (by omega)) (rproduct_w hk hk' (by omega) (by omega))
theorem best_pair (hs:s.length≤64) (ha1:OkIs a.1) (ha2:OkFs a.2) (hb:fbN a.2≤4096):∃(W:FV) (g:Bool) (n d:ByteArray) (e:Int),Good Tryz.prog 31 [ints s,tabO a] (.tup [W,frR g n d,I e])∧Good Tryz.prog 32 [ints s,tabO a] (.tup [W,frR g n d,I e]) ∧
  Good Tryz.prog 24 [W,W] (Bo true)∧Good Tryz.prog 33 [frR g n d,I e,frR g n d,I e] (Bo true):=by
 rcases tab_cases hs ha1 ha2 hb with ⟨e,he,_,c1,c2⟩|⟨Z,l,es,el,hk,c1,c2⟩
 ·exact ⟨_,_,_,_,e,bestE_w he c1,rbestE_w he c2,sameIntsN_w,oneFracN_err he⟩
 ·have hl:=hk.ok.len
  rw [tab_ok el,es,ints_Ns]
  refine ⟨_,_,_,_,0,best_w hk (by omega) (by omega),rbest_w hk (by omega) (by omega),?_,oneFracN_ok⟩
  have:=sameInts_w ((asgL Z l (bstT (a.2.map rv3) (a.2.map rv3).length)).map Int.ofNat) (by rw [List.length_map,asgL_len];omega)
  rw [ints_Ns] at this
  exact this
theorem count_pair (hs:s.length≤64) {l:List Int} (hl:OkIs l):∃n e:Int,Good Tryz.prog 16 [ints s,ints l] (.tup [I n,I e])∧Good Tryz.prog 17 [ints s,ints l] (.tup [I n,I e]):=by
 cases ho:okB s l with
 | false=>exact ⟨0,11,tcount0L_w s l (by omega) hl.2 hl.1 ho,rcount0_w s l (by omega) hl.2 hl.1 ho⟩
 | true =>
  obtain ⟨Z,m,rfl,rfl,hz⟩:=okB_nat ho
  rw [ints_Ns,ints_Ns]
  exact ⟨_,0,tcountT_w hz,rcountT_w hz⟩
theorem check_pair (hs:s.length≤64) (ha1:OkIs a.1) (ha2:OkFs a.2):∃e:Int,Good Tryz.prog 18 [ints s,tabO a] (I e)∧Good Tryz.prog 19 [ints s,tabO a] (I e) :=
 ⟨_,check_w s a.1 (a.2.map frF) (by omega) ha1.2 ha1.1 (by rw [List.length_map];exact ha2.1),rcheck_w s a.1 (a.2.map frF) (by omega) ha1.2 ha1.1 (by rw [List.length_map];exact ha2.1)⟩
theorem index_pair (hs:s.length≤64) {l at_:List Int} (hl:OkIs l) (hat:at_.length≤64):∃n e:Int,Good Tryz.prog 20 [ints s,ints l,ints at_] (.tup [I n,I e])∧Good Tryz.prog 21 [ints s,ints l,ints at_] (.tup [I n,I e]):=by
 cases ho:okB s l with
 | false=>exact ⟨0,11,index0_w s l at_ (by omega) hl.2 hl.1 ho,rindex0_w s l at_ (by omega) hl.2 hl.1 ho⟩
 | true =>
  obtain ⟨Z,m,rfl,rfl,hz⟩:=okB_nat ho
  have h1:=index_w at_ hz (by omega)
  have h2:=rindex_w at_ hz (by omega)
  rw [ints_Ns,ints_Ns]
  by_cases c1:at_.length≠m.length
  ·rw [if_pos c1] at h1 h2;exact ⟨_,_,h1,h2⟩
  ·rw [if_neg c1] at h1 h2
   by_cases c2:atB Z m at_=true
   ·rw [if_pos c2] at h1 h2;exact ⟨_,_,h1,h2⟩
   ·rw [if_neg c2] at h1 h2;exact ⟨_,_,h1,h2⟩
theorem where_pair (hs:s.length≤64) {l:List Int} (hl:OkIs l) (k:Int):∃(W:FV) (e:Int),Good Tryz.prog 22 [ints s,ints l,I k] (.tup [W,I e])∧Good Tryz.prog 23 [ints s,ints l,I k] (.tup [W,I e])∧Good Tryz.prog 24 [W,W] (Bo true):=by
 cases ho:okB s l with
 | false=>exact ⟨_,11,where0_w s l k (by omega) hl.2 hl.1 ho,rwhere0_w s l k (by omega) hl.2 hl.1 ho,sameIntsN_w⟩
 | true =>
  obtain ⟨Z,m,rfl,rfl,hz⟩:=okB_nat ho
  rw [ints_Ns,ints_Ns]
  by_cases hk:k<0∨((cntS (szT Z) m:Nat):Int)≤k
  ·exact ⟨_,15,where15_w hz hk,rwhere15_w hz hk,sameIntsN_w⟩
  ·obtain ⟨y,rfl⟩:=Int.eq_ofNat_of_zero_le (show 0≤k by omega)
   have hy:y<cntS (szT Z) m:=by omega
   have hm:=hz.len
   refine ⟨_,0,whereT_w hz hy,rwhere_w hz hy,?_⟩
   have:=sameInts_w ((asgL Z m y).map Int.ofNat) (by rw [List.length_map,asgL_len];omega)
   rw [ints_Ns] at this
   exact this
end
end Go.Proofs.YtmcgeppgfjlclaaGreatDoor
-- NOOWN
set_option linter.unusedVariables false
set_option linter.unusedSimpArgs false
namespace Go.Proofs.YtmcgeppgfjlclaaGreatDoor
open Go Go.RowKit
set_option maxRecDepth 100000 in
set_option maxHeartbeats 16000000 in
theorem exact_w (s:List Int) (a b:List Int × List F3) (v value:Int) (at_:List Int) (k:Int) (hs:OkIs s) (ha:OkIs a.1∧OkFs a.2) (hb:OkIs b.1∧OkFs b.2) (hv:OkI v) (hw:OkI value) (hat:OkIs at_) (hk:OkI k) :
  Good Tryz.prog 4 [ints s,tabO a,tabO b,I v,I value,ints at_,I k] (Bo true):=by
 have ha0:=heavyTable_w a ha.1.1 ha.2
 have hb0:=heavyTable_w b hb.1.1 hb.2
 have hfa:=fracBytes_w a.2 ha.2
 have hsl:=hs.1
 have hal:=hat.1
 have hbl:=hb.2.1
 have ea:tabO a=.agg [ints a.1,.fz 3 (a.2.map frF)]:=rfl
 have eb:tabO b=.agg [ints b.1,.fz 3 (b.2.map frF)]:=rfl
 by_cases h1:(4096:Int)<(a.1.length:Int)+(fbN a.2:Nat)
 case pos =>
  rw [decide_eq_true h1] at ha0
  rw [ea] at ha0 ⊢
  rw [eb]
  refine good_of Tryz.func4 rfl (by kernel_rfl) fun X hO hrd=>?_;rw [Tryz.ntmps4,Tryz.results4];simp only [ast0,List.map_cons,List.map_nil,List.length_cons,List.length_nil,Nat.reduceAdd,Nat.reduceSub,List.replicate_succ,List.replicate_zero,List.cons_append,List.nil_append]
  (repeat (with_reducible first|refine W_seq fun K hK=>?_|refine J_region ?_ |refine J_drawn mixed (by kernel_rfl) ?_|(refine Kont.go (by assumption) ?_)|(simp (config:={ maxSteps:=3000000 }) (disch:=omega) only [go_sem,↓reduceIte,Nat.reduceAdd])))
  refine callQ_f ha0 rfl ?_
  (repeat (with_reducible first|refine W_seq fun K hK=>?_|refine J_ret ?_|refine J_region ?_ |refine J_c ?_|refine Jc_true ?_|exact Frz.f _|(refine Kont.go (by assumption) ?_)|(simp (config:={ maxSteps:=3000000 }) (disch:=omega) only [go_sem])))
 rw [decide_eq_false h1] at ha0
 by_cases h2:(4096:Int)<(b.1.length:Int)+(fbN b.2:Nat)
 case pos =>
  rw [decide_eq_true h2] at hb0
  rw [ea] at ha0 ⊢
  rw [eb] at hb0 ⊢
  refine good_of Tryz.func4 rfl (by kernel_rfl) fun X hO hrd=>?_;rw [Tryz.ntmps4,Tryz.results4];simp only [ast0,List.map_cons,List.map_nil,List.length_cons,List.length_nil,Nat.reduceAdd,Nat.reduceSub,List.replicate_succ,List.replicate_zero,List.cons_append,List.nil_append]
  (repeat (with_reducible first|refine W_seq fun K hK=>?_|refine J_region ?_ |refine J_drawn mixed (by kernel_rfl) ?_|(refine Kont.go (by assumption) ?_)|(simp (config:={ maxSteps:=3000000 }) (disch:=omega) only [go_sem,↓reduceIte,Nat.reduceAdd])))
  refine callQ_f ha0 rfl ?_
  (repeat (with_reducible first|(simp (config:={ maxSteps:=3000000 }) (disch:=omega) only [go_sem,↓reduceIte,Nat.reduceAdd])))
  refine callQ_f hb0 rfl ?_
  (repeat (with_reducible first|refine W_seq fun K hK=>?_|refine J_ret ?_|refine J_region ?_ |refine J_c ?_|refine Jc_true ?_|exact Frz.f _|(refine Kont.go (by assumption) ?_)|(simp (config:={ maxSteps:=3000000 }) (disch:=omega) only [go_sem])))
 rw [decide_eq_false h2] at hb0
 by_cases h3:(64:Int)<(s.length:Int)+(at_.length:Int)
 case pos =>
  rw [ea] at ha0 ⊢
  rw [eb] at hb0 ⊢
  refine good_of Tryz.func4 rfl (by kernel_rfl) fun X hO hrd=>?_;rw [Tryz.ntmps4,Tryz.results4];simp only [ast0,List.map_cons,List.map_nil,List.length_cons,List.length_nil,Nat.reduceAdd,Nat.reduceSub,List.replicate_succ,List.replicate_zero,List.cons_append,List.nil_append]
  (repeat (with_reducible first|refine W_seq fun K hK=>?_|refine J_region ?_ |refine J_drawn mixed (by kernel_rfl) ?_|(refine Kont.go (by assumption) ?_)|(simp (config:={ maxSteps:=3000000 }) (disch:=omega) only [go_sem,↓reduceIte,Nat.reduceAdd])))
  refine callQ_f ha0 rfl ?_
  (repeat (with_reducible first|(simp (config:={ maxSteps:=3000000 }) (disch:=omega) only [go_sem,↓reduceIte,Nat.reduceAdd])))
  refine callQ_f hb0 rfl ?_
  (repeat (with_reducible first|refine W_seq fun K hK=>?_|refine J_ret ?_|refine J_region ?_ |refine J_c ?_|refine Jc_true ?_|exact Frz.f _|(refine Kont.go (by assumption) ?_)|(simp (config:={ maxSteps:=3000000 }) (disch:=omega) only [go_sem,h3,List.length_map])))
 have hlb:=fbN_len (l:=b.2)
 have hm:(fbN a.2:Nat)*b.2.length≤4096*4096:=Nat.mul_le_mul (by omega) (by omega)
 have em:((fbN a.2:Nat):Int)*(b.2.length:Int)=((fbN a.2*b.2.length:Nat):Int):=(Int.natCast_mul _ _).symm
 by_cases h4:(65536:Int)<((fbN a.2*b.2.length:Nat):Int)
 case pos =>
  rw [ea] at ha0 ⊢
  rw [eb] at hb0 ⊢
  refine good_of Tryz.func4 rfl (by kernel_rfl) fun X hO hrd=>?_;rw [Tryz.ntmps4,Tryz.results4];simp only [ast0,List.map_cons,List.map_nil,List.length_cons,List.length_nil,Nat.reduceAdd,Nat.reduceSub,List.replicate_succ,List.replicate_zero,List.cons_append,List.nil_append]
  (repeat (with_reducible first|refine W_seq fun K hK=>?_|refine J_region ?_ |refine J_drawn mixed (by kernel_rfl) ?_|(refine Kont.go (by assumption) ?_)|(simp (config:={ maxSteps:=3000000 }) (disch:=omega) only [go_sem,↓reduceIte,Nat.reduceAdd])))
  refine callQ_f ha0 rfl ?_
  (repeat (with_reducible first|(simp (config:={ maxSteps:=3000000 }) (disch:=omega) only [go_sem,↓reduceIte,Nat.reduceAdd])))
  refine callQ_f hb0 rfl ?_
  (repeat (with_reducible first|(simp (config:={ maxSteps:=3000000 }) (disch:=omega) only [go_sem,↓reduceIte,h3,List.length_map])))
  refine callQ_f hfa rfl ?_
  (repeat (with_reducible first|refine W_seq fun K hK=>?_|refine J_ret ?_|refine J_region ?_ |refine J_c ?_|refine Jc_true ?_|exact Frz.f _|(refine Kont.go (by assumption) ?_)|(simp (config:={ maxSteps:=3000000 }) (disch:=omega) only [go_sem,em,h4])))
 have hs64:s.length≤64:=by omega
 have hat64:at_.length≤64:=by omega
 obtain ⟨n1,e1,p1,q1⟩:=count_pair hs64 ha.1
 obtain ⟨e2,p2,q2⟩:=check_pair (a:=a) hs64 ha.1 ha.2
 obtain ⟨n3,e3,p3,q3⟩:=index_pair (at_:=at_) hs64 ha.1 hat64
 obtain ⟨w4,e4,p4,q4,r4⟩:=where_pair hs64 ha.1 k
 obtain ⟨v5,c5,e5,o5,o5',p5,q5,r5⟩:=product_pair hs64 ha.1 ha.2 (by omega) hb.1 hb.2 (by omega)
 have hout:=fun most=>out_pair hs64 ha.1 ha.2 (by omega) hv most
 obtain ⟨v7,c7,e7,o7,o7',p7,q7,r7⟩:=fix_pair hs64 ha.1 ha.2 (by omega) v value
 obtain ⟨v8,c8,e8,o8,o8',p8,q8,r8⟩:=norm_pair hs64 ha.1 ha.2 (by omega)
 obtain ⟨w9,g9,n9,d9,e9,p9,q9,r9,r9'⟩:=best_pair hs64 ha.1 ha.2 (by omega)
 rw [ea] at ha0 p2 q2 p5 q5 p7 q7 p8 q8 p9 q9 hout ⊢
 rw [eb] at hb0 p5 q5 ⊢
 refine good_of Tryz.func4 rfl (by kernel_rfl) fun X hO hrd=>?_;rw [Tryz.ntmps4,Tryz.results4];simp only [ast0,List.map_cons,List.map_nil,List.length_cons,List.length_nil,Nat.reduceAdd,Nat.reduceSub,List.replicate_succ,List.replicate_zero,List.cons_append,List.nil_append]
 (repeat (with_reducible first|refine W_seq fun K hK=>?_|refine J_region ?_ |refine J_drawn mixed (by kernel_rfl) ?_|(refine Kont.go (by assumption) ?_)|(simp (config:={ maxSteps:=3000000 }) (disch:=omega) only [go_sem,↓reduceIte,Nat.reduceAdd])))
 refine callQ_f ha0 rfl ?_
 (repeat (with_reducible first|(simp (config:={ maxSteps:=3000000 }) (disch:=omega) only [go_sem,↓reduceIte,Nat.reduceAdd])))
 refine callQ_f hb0 rfl ?_
 (repeat (with_reducible first|(simp (config:={ maxSteps:=3000000 }) (disch:=omega) only [go_sem,↓reduceIte,h3,List.length_map])))
 refine callQ_f hfa rfl ?_
 (repeat (with_reducible first|refine W_seq fun K hK=>?_|refine J_skip ?_|refine J_region ?_ |refine J_c ?_|refine Jc_false ?_|(refine Kont.go (by assumption) ?_)|(simp (config:={ maxSteps:=3000000 }) (disch:=omega) only [go_sem,↓reduceIte,em,h4])))
 (first|refine call_f (p1) rfl ?_|refine callQ_f (p1) rfl ?_|refine callHK_f (p1) rfl ?_|refine callH_f (p1) rfl ?_)
 (repeat (with_reducible first|refine W_seq fun K hK=>?_|refine J_region ?_ |(refine Kont.go (by assumption) ?_)|(simp (config:={ maxSteps:=3000000 }) (disch:=omega) only [go_sem,↓reduceIte])))
 (first|refine call_f (q1) rfl ?_|refine callQ_f (q1) rfl ?_|refine callHK_f (q1) rfl ?_|refine callH_f (q1) rfl ?_)
 (repeat (with_reducible first|refine W_seq fun K hK=>?_|refine J_drawn mixed (by kernel_rfl) ?_|(refine Kont.go (by assumption) ?_)|(simp (config:={ maxSteps:=3000000 }) (disch:=omega) only [go_sem,↓reduceIte,Nat.reduceAdd])))
 refine callQ_f p2 rfl ?_
 (skip)
 refine callQ_f q2 rfl ?_
 (repeat (with_reducible first|refine W_seq fun K hK=>?_|refine J_skip ?_|refine J_region ?_ |refine J_c ?_|refine Jc_false ?_|(refine Kont.go (by assumption) ?_)|(simp (config:={ maxSteps:=3000000 }) (disch:=omega) only [go_sem,↓reduceIte])))
 (first|refine call_f (p3) rfl ?_|refine callQ_f (p3) rfl ?_|refine callHK_f (p3) rfl ?_|refine callH_f (p3) rfl ?_)
 (repeat (with_reducible first|refine W_seq fun K hK=>?_|refine J_region ?_ |(refine Kont.go (by assumption) ?_)|(simp (config:={ maxSteps:=3000000 }) (disch:=omega) only [go_sem,↓reduceIte])))
 (first|refine call_f (q3) rfl ?_|refine callQ_f (q3) rfl ?_|refine callHK_f (q3) rfl ?_|refine callH_f (q3) rfl ?_)
 (repeat (with_reducible first|refine W_seq fun K hK=>?_|refine J_region ?_ |(refine Kont.go (by assumption) ?_)|(simp (config:={ maxSteps:=3000000 }) (disch:=omega) only [go_sem,↓reduceIte])))
 (first|refine call_f (p4) rfl ?_|refine callQ_f (p4) rfl ?_|refine callHK_f (p4) rfl ?_|refine callH_f (p4) rfl ?_)
 (repeat (with_reducible first|refine W_seq fun K hK=>?_|refine J_region ?_ |(refine Kont.go (by assumption) ?_)|(simp (config:={ maxSteps:=3000000 }) (disch:=omega) only [go_sem,↓reduceIte])))
 (first|refine call_f (q4) rfl ?_|refine callQ_f (q4) rfl ?_|refine callHK_f (q4) rfl ?_|refine callH_f (q4) rfl ?_)
 (repeat (with_reducible first|refine W_seq fun K hK=>?_|refine J_region ?_ |(refine Kont.go (by assumption) ?_)|(simp (config:={ maxSteps:=3000000 }) (disch:=omega) only [go_sem])))
 (first|refine call_f (r4) rfl ?_|refine callQ_f (r4) rfl ?_|refine callHK_f (r4) rfl ?_|refine callH_f (r4) rfl ?_)
 (repeat (with_reducible first|refine W_seq fun K hK=>?_|refine J_skip ?_|refine J_region ?_ |refine J_c ?_|refine Jc_false ?_|(refine Kont.go (by assumption) ?_)|(simp (config:={ maxSteps:=3000000 }) (disch:=omega) only [go_sem,↓reduceIte,Nat.reduceAdd])))
 (first|refine call_f (p5) rfl ?_|refine callQ_f (p5) rfl ?_|refine callHK_f (p5) rfl ?_|refine callH_f (p5) rfl ?_)
 (repeat (with_reducible first|refine W_seq fun K hK=>?_|refine J_region ?_ |(refine Kont.go (by assumption) ?_)|(simp (config:={ maxSteps:=3000000 }) (disch:=omega) only [go_sem,↓reduceIte,Nat.reduceAdd,o5,o5'])))
 (first|refine call_f (q5) rfl ?_|refine callQ_f (q5) rfl ?_|refine callHK_f (q5) rfl ?_|refine callH_f (q5) rfl ?_)
 (repeat (with_reducible first|refine W_seq fun K hK=>?_|refine J_region ?_ |(refine Kont.go (by assumption) ?_)|(simp (config:={ maxSteps:=3000000 }) (disch:=omega) only [go_sem,↓reduceIte,Nat.reduceAdd,o5,o5'])))
 (first|refine call_f (r5) rfl ?_|refine callQ_f (r5) rfl ?_|refine callHK_f (r5) rfl ?_|refine callH_f (r5) rfl ?_)
 (repeat (with_reducible first|refine W_seq fun K hK=>?_|refine J_block ?_|refine J_skip ?_|refine J_region ?_ |refine J_c ?_|refine Jc_false ?_|(refine Kont.go (by assumption) ?_)|(simp (config:={ maxSteps:=3000000 }) (disch:=omega) only [go_sem])))
 refine W_loop [14,16,18,25,157,158,159,160,161,162,163,164,165,166,167,168,169,170,171,172,173,174,175,176,177,178,179,180,181,182,183,184,185,186,187] (fun x:Nat × FV × FV=>[(25,.f (I x.1))]) (fun x:Nat × FV × FV=>[some ⟨27,2,[.f (.agg [ints a.1,.fz 3 (a.2.map frF)])]⟩,some ⟨27,2,[.f (.agg [ints b.1,.fz 3 (b.2.map frF)])]⟩,some ⟨27,2,[.f (.agg [x.2.1,x.2.2])]⟩,some ⟨27,2,[.f (.agg [x.2.1,x.2.2])]⟩]) (fun x:Nat × FV × FV=>x.1≤2∧x.2.1.oc=true∧x.2.2.oc=true) (fun x:Nat × FV × FV=>2-x.1) ((0,v5,c5)) (⟨Nat.zero_le _,o5,o5'⟩) (by refine weak_of ?_ ?_<;>simp (disch:=omega) only [go_sem,Nat.reduceAdd]<;>first|rfl|exact ⟨rfl,rfl⟩|exact Or.inl rfl|exact ⟨Or.inl rfl,Or.inl rfl⟩|trivial|assumption|omega|(symm;assumption)|((repeat' apply And.intro)<;>first|rfl|omega|trivial|exact .inl rfl|exact .inr ⟨rfl,rfl⟩|exact .inr rfl|(right;symm;assumption)|(symm;assumption)|assumption)) ?_
 rintro ⟨i,v6,c6⟩ ⟨hi,o6,o6'⟩
 replace hi:i≤2:=hi
 replace o6:v6.oc=true:=o6
 replace o6':c6.oc=true:=o6'
 simp only [go_sem]
 (repeat (with_reducible first|refine W_seq fun K hK=>?_|refine J_region ?_ |refine J_c ?_|(refine Kont.go (by assumption) ?_)|(simp (config:={ maxSteps:=3000000 }) (disch:=omega) only [go_sem])))
 refine Jc_if (fun hi2=>?_) (fun hi2=>?_)<;>try simp only [decide_eq_true_eq,decide_eq_false_iff_not] at hi2
 ·obtain ⟨v0,c0,e0,o0,o0',p0,q0,r0⟩:=hout (decide ((i:Int)=1))
  (repeat (with_reducible first|refine W_seq fun K hK=>?_|refine J_block ?_|refine J_skip ?_|refine J_region ?_ |(refine Kont.go (by assumption) ?_)|(simp (config:={ maxSteps:=3000000 }) (disch:=omega) only [go_sem,↓reduceIte,Nat.reduceAdd])))
  (first|refine call_f (p0) rfl ?_|refine callQ_f (p0) rfl ?_|refine callHK_f (p0) rfl ?_|refine callH_f (p0) rfl ?_)
  (repeat (with_reducible first|refine W_seq fun K hK=>?_|refine J_region ?_ |(refine Kont.go (by assumption) ?_)|(simp (config:={ maxSteps:=3000000 }) (disch:=omega) only [go_sem,↓reduceIte,Nat.reduceAdd,o0,o0'])))
  (first|refine call_f (q0) rfl ?_|refine callQ_f (q0) rfl ?_|refine callHK_f (q0) rfl ?_|refine callH_f (q0) rfl ?_)
  (repeat (with_reducible first|refine W_seq fun K hK=>?_|refine J_region ?_ |(refine Kont.go (by assumption) ?_)|(simp (config:={ maxSteps:=3000000 }) (disch:=omega) only [go_sem,↓reduceIte,Nat.reduceAdd,o0,o0'])))
  (first|refine call_f (r0) rfl ?_|refine callQ_f (r0) rfl ?_|refine callHK_f (r0) rfl ?_|refine callH_f (r0) rfl ?_)
  (repeat (with_reducible first|refine J_skip ?_|refine J_region ?_ |refine J_c ?_|refine Jc_false ?_|(refine Kont.go (by assumption) ?_)|(simp (config:={ maxSteps:=3000000 }) (disch:=omega) only [go_sem])))
  refine ⟨(i+1,v0,c0),⟨by show i+1≤2;omega,o0,o0'⟩,by show 2-(i+1)<2-i;omega,weak_of ?_ ?_⟩<;>(try simp (disch:=omega) only [go_sem,Nat.reduceAdd])<;>(try first|done|omega|rfl|exact ⟨rfl,rfl⟩|trivial)
 ·(repeat (with_reducible first|refine W_seq fun K hK=>?_|refine J_exit ?_|refine J_region ?_ |(refine Kont.go (by assumption) ?_)|(simp (config:={ maxSteps:=3000000 }) (disch:=omega) only [go_sem,↓reduceIte,Nat.reduceAdd])))
  (first|refine call_f (p7) rfl ?_|refine callQ_f (p7) rfl ?_|refine callHK_f (p7) rfl ?_|refine callH_f (p7) rfl ?_)
  (repeat (with_reducible first|refine W_seq fun K hK=>?_|refine J_region ?_ |(refine Kont.go (by assumption) ?_)|(simp (config:={ maxSteps:=3000000 }) (disch:=omega) only [go_sem,↓reduceIte,Nat.reduceAdd,o7,o7'])))
  (first|refine call_f (q7) rfl ?_|refine callQ_f (q7) rfl ?_|refine callHK_f (q7) rfl ?_|refine callH_f (q7) rfl ?_)
  (repeat (with_reducible first|refine W_seq fun K hK=>?_|refine J_region ?_ |(refine Kont.go (by assumption) ?_)|(simp (config:={ maxSteps:=3000000 }) (disch:=omega) only [go_sem,↓reduceIte,Nat.reduceAdd,o7,o7'])))
  (first|refine call_f (r7) rfl ?_|refine callQ_f (r7) rfl ?_|refine callHK_f (r7) rfl ?_|refine callH_f (r7) rfl ?_)
  (repeat (with_reducible first|refine W_seq fun K hK=>?_|refine J_skip ?_|refine J_region ?_ |refine J_c ?_|refine Jc_false ?_|(refine Kont.go (by assumption) ?_)|(simp (config:={ maxSteps:=3000000 }) (disch:=omega) only [go_sem,↓reduceIte,Nat.reduceAdd])))
  (first|refine call_f (p8) rfl ?_|refine callQ_f (p8) rfl ?_|refine callHK_f (p8) rfl ?_|refine callH_f (p8) rfl ?_)
  (repeat (with_reducible first|refine W_seq fun K hK=>?_|refine J_region ?_ |(refine Kont.go (by assumption) ?_)|(simp (config:={ maxSteps:=3000000 }) (disch:=omega) only [go_sem,↓reduceIte,Nat.reduceAdd,o8,o8'])))
  (first|refine call_f (q8) rfl ?_|refine callQ_f (q8) rfl ?_|refine callHK_f (q8) rfl ?_|refine callH_f (q8) rfl ?_)
  (repeat (with_reducible first|refine W_seq fun K hK=>?_|refine J_region ?_ |(refine Kont.go (by assumption) ?_)|(simp (config:={ maxSteps:=3000000 }) (disch:=omega) only [go_sem,↓reduceIte,Nat.reduceAdd,o8,o8'])))
  (first|refine call_f (p9) rfl ?_|refine callQ_f (p9) rfl ?_|refine callHK_f (p9) rfl ?_|refine callH_f (p9) rfl ?_)
  (repeat (with_reducible first|refine W_seq fun K hK=>?_|refine J_region ?_ |(refine Kont.go (by assumption) ?_)|(simp (config:={ maxSteps:=3000000 }) (disch:=omega) only [go_sem,↓reduceIte,Nat.reduceAdd])))
  (first|refine call_f (q9) rfl ?_|refine callQ_f (q9) rfl ?_|refine callHK_f (q9) rfl ?_|refine callH_f (q9) rfl ?_)
  (repeat (with_reducible first|refine W_seq fun K hK=>?_|refine J_region ?_ |(refine Kont.go (by assumption) ?_)|(simp (config:={ maxSteps:=3000000 }) (disch:=omega) only [go_sem,↓reduceIte,Nat.reduceAdd])))
  (first|refine call_f (r8) rfl ?_|refine callQ_f (r8) rfl ?_|refine callHK_f (r8) rfl ?_|refine callH_f (r8) rfl ?_)
  (repeat (with_reducible first|(simp (config:={ maxSteps:=3000000 }) (disch:=omega) only [go_sem])))
  (first|refine call_f (r9) rfl ?_|refine callQ_f (r9) rfl ?_|refine callHK_f (r9) rfl ?_|refine callH_f (r9) rfl ?_)
  (repeat (with_reducible first|(simp (config:={ maxSteps:=3000000 }) (disch:=omega) only [go_sem,↓reduceIte,Nat.reduceAdd])))
  (first|refine call_f (r9') rfl ?_|refine callQ_f (r9') rfl ?_|refine callHK_f (r9') rfl ?_|refine callH_f (r9') rfl ?_)
  (repeat (with_reducible first|refine J_ret ?_|exact Frz.f _|(refine Kont.go (by assumption) ?_)|(simp (config:={ maxSteps:=3000000 }) (disch:=omega) only [go_sem])))
end Go.Proofs.YtmcgeppgfjlclaaGreatDoor
set_option linter.unusedVariables false
set_option linter.unusedSimpArgs false
namespace Go.Proofs.YtmcgeppgfjlclaaGreatDoor
open Go
theorem goes_none {P:Program} (h:P.funcs.any Func.goes=false) (f:FuncId):P.goes f=false:=by
 have hx:∀g:FuncId,(P.funcs[g]?).any Func.goes=false:=fun g=>by
  cases hg:P.funcs[g]? with
  | none=>rfl
  | some fn =>
   show Func.goes fn=false
   cases hf:Func.goes fn with
   | false=>rfl
   | true =>
    have hm:fn∈P.funcs:=Array.mem_of_getElem? hg
    have:P.funcs.any Func.goes=true:=Array.any_eq_true'.2 ⟨fn,hm,hf⟩
    rw [h] at this;cases this
 unfold Program.goes
 rw [h,Bool.and_false,Bool.or_false,List.any_eq_false]
 intro g _
 rw [hx g]
 decide
theorem goesBy_none {P:Program} {c:OpenClaim} (h:P.funcs.any Func.goes=false) (hs:c.start=.entering):false=c.goesBy P:=by
 unfold OpenClaim.goesBy Program.goesAt Program.goesFrom
 rw [hs]
 cases P.funcNamed c.func with
 | none=>rfl
 | some f=>show false=(P.goes f||false);rw [goes_none h];rfl
end Go.Proofs.YtmcgeppgfjlclaaGreatDoor
