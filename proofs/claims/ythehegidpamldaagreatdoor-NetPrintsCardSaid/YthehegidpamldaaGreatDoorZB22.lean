/- Nets: the document's NetCheck: the first fault. Conditions: what slices may hold; numbers of at most 10^7 bytes. -/
import Derived.Test.YthehegidpamldaaGreatDoorZB20
import Derived.Test.YthehegidpamldaaGreatDoorZB15
import Derived.Test.YthehegidpamldaaGreatDoorZB11
import Derived.Test.YthehegidpamldaaGreatDoorZB12
import Derived.Shelf.Sort.Plain
import Derived.Test.YthehegidpamldaaGreatDoorZB17
import Derived.Shelf.Slices.In.SortNone
import Derived.Shelf.Slices.CompactI
set_option linter.unusedVariables false
set_option linter.unusedSimpArgs false
namespace Go.Proofs.YthehegidpamldaaGreatDoor
open Go Go.RowKit
variable {k : Nat} {V : List VarD} {P : List (List Int)} {RR : List FV} {M : List (List Rat)}
set_option maxRecDepth 100000 in
set_option maxHeartbeats 8000000 in
theorem rnetCheck_w (h:NetOk k V P RR M):Good Tryz.prog 14 [netV V (P.map ints) RR] (I (netE (ordE P) V P M)):=by
 have hlV:=h.lV
 have hRM:=h.hM.len
 by_cases hPV:P.length=V.length
 rotate_left
 ·have e:netE (ordE P) V P M=8:=by unfold netE;rw [if_neg fun hh=>hPV hh.1]
  have hd:decide ((P.length:Int)=(V.length:Int))=false:=decide_eq_false (by omega)
  refine good_of Tryz.func14 rfl (by kernel_rfl) fun X hO hrd=>?_;rw [Tryz.ntmps14,Tryz.results14];simp only [ast0,List.map_cons,List.map_nil,List.length_cons,List.length_nil,Nat.reduceAdd,Nat.reduceSub,List.replicate_succ,List.replicate_zero,List.cons_append,List.nil_append]
  (repeat (with_reducible first|refine W_seq fun K hK=>?_|refine J_ret ?_|refine J_region ?_ |refine J_c ?_|refine Jc_true ?_|(refine Kont.go (by assumption) ?_)|(simp (config:={ maxSteps:=3000000 }) (disch:=omega) only [go_sem,↓reduceIte,Nat.reduceAdd,List.length_map,hd])))
  rw [e];exact Frz.f _
 have hd:decide ((P.length:Int)=(V.length:Int))=true:=decide_eq_true (by omega)
 by_cases hMV:M.length=V.length
 rotate_left
 ·have e:netE (ordE P) V P M=8:=by unfold netE;rw [if_neg fun hh=>hMV hh.2]
  have hd2:decide ((RR.length:Int)=(V.length:Int))=false:=decide_eq_false (by omega)
  refine good_of Tryz.func14 rfl (by kernel_rfl) fun X hO hrd=>?_;rw [Tryz.ntmps14,Tryz.results14];simp only [ast0,List.map_cons,List.map_nil,List.length_cons,List.length_nil,Nat.reduceAdd,Nat.reduceSub,List.replicate_succ,List.replicate_zero,List.cons_append,List.nil_append]
  (repeat (with_reducible first|refine W_seq fun K hK=>?_|refine J_ret ?_|refine J_region ?_ |refine J_c ?_|refine Jc_true ?_|(refine Kont.go (by assumption) ?_)|(simp (config:={ maxSteps:=3000000 }) (disch:=omega) only [go_sem,↓reduceIte,Nat.reduceAdd,List.length_map,hd,hd2])))
  rw [e];exact Frz.f _
 have hd2:decide ((RR.length:Int)=(V.length:Int))=true:=decide_eq_true (by omega)
 have hgc:=rcheck_w2 P h.hP
 have e1:netE (ordE P) V P M=if ordE P=0 then (if namesE (V.map Prod.fst)=0 then (if fe (varsE V) V.length=0 then fe (rowsE V P M) V.length else fe (varsE V) V.length) else namesE (V.map Prod.fst)) else ordE P:=by unfold netE;rw [if_pos ⟨hPV,hMV⟩]
 by_cases hE:ordE P=0
 rotate_left
 ·rw [if_neg hE] at e1
  have hd3:decide (ordE P=0)=false:=decide_eq_false hE
  refine good_of Tryz.func14 rfl (by kernel_rfl) fun X hO hrd=>?_;rw [Tryz.ntmps14,Tryz.results14];simp only [ast0,List.map_cons,List.map_nil,List.length_cons,List.length_nil,Nat.reduceAdd,Nat.reduceSub,List.replicate_succ,List.replicate_zero,List.cons_append,List.nil_append]
  (repeat (with_reducible first|refine W_seq fun K hK=>?_|refine J_skip ?_|refine J_region ?_ |refine J_c ?_|refine Jc_false ?_|(refine Kont.go (by assumption) ?_)|(simp (config:={ maxSteps:=3000000 }) (disch:=omega) only [go_sem,↓reduceIte,Nat.reduceAdd,List.length_map,hd,hd2])))
  (first|refine call_f (hgc) rfl ?_|refine callQ_f (hgc) rfl ?_|refine callHK_f (hgc) rfl ?_|refine callH_f (hgc) rfl ?_)
  (repeat (with_reducible first|refine W_seq fun K hK=>?_|refine J_ret ?_|refine J_region ?_ |refine J_c ?_|refine Jc_true ?_|(refine Kont.go (by assumption) ?_)|(simp (config:={ maxSteps:=3000000 }) (disch:=omega) only [go_sem,hd3])))
  rw [e1];exact Frz.f _
 rw [if_pos hE] at e1
 have hd3:decide (ordE P=0)=true:=decide_eq_true hE
 refine good_of Tryz.func14 rfl (by kernel_rfl) fun X hO hrd=>?_;rw [Tryz.ntmps14,Tryz.results14];simp only [ast0,List.map_cons,List.map_nil,List.length_cons,List.length_nil,Nat.reduceAdd,Nat.reduceSub,List.replicate_succ,List.replicate_zero,List.cons_append,List.nil_append]
 (repeat (with_reducible first|refine W_seq fun K hK=>?_|refine J_skip ?_|refine J_region ?_ |refine J_c ?_|refine Jc_false ?_|(refine Kont.go (by assumption) ?_)|(simp (config:={ maxSteps:=3000000 }) (disch:=omega) only [go_sem,↓reduceIte,Nat.reduceAdd,List.length_map,hd,hd2])))
 (first|refine call_f (hgc) rfl ?_|refine callQ_f (hgc) rfl ?_|refine callHK_f (hgc) rfl ?_|refine callH_f (hgc) rfl ?_)
 (repeat (with_reducible first|refine W_seq fun K hK=>?_|refine J_block ?_|refine J_skip ?_|refine J_region ?_ |refine J_c ?_|refine Jc_false ?_|(refine Kont.go (by assumption) ?_)|(simp (config:={ maxSteps:=3000000 }) (disch:=omega) only [go_sem,hd3])))
 refine J_reserve ?_
 refine W_loop [4,5,36,37,38,39,40,41,42,43,44,45,46,47,48,49,50,51] (fun x:Nat=>[(4,sl 1 1 (((V.take x).map Prod.fst).map St)),(5,.f (I x))]) (fun x:Nat=>[oNt (V.map varF) (P.map ints) RR,ob 9 1 (((V.take x).map Prod.fst).map St)]) (fun x:Nat=>x≤V.length) (fun x:Nat=>V.length-x) (0) (Nat.zero_le _) (by refine weak_of ?_ ?_<;>simp (disch:=omega) only [go_sem,Nat.reduceAdd]<;>first|rfl|exact ⟨rfl,rfl⟩|exact Or.inl rfl|exact ⟨Or.inl rfl,Or.inl rfl⟩|trivial|assumption|omega|(symm;assumption)|((repeat' apply And.intro)<;>first|rfl|omega|trivial|exact .inl rfl|exact .inr ⟨rfl,rfl⟩|exact .inr rfl|(right;symm;assumption)|(symm;assumption)|assumption)) ?_
 ·rintro x hx
  simp only [go_sem]
  (repeat (with_reducible first|refine W_seq fun K hK=>?_|refine J_region ?_ |refine J_c ?_|(refine Kont.go (by assumption) ?_)|(simp (config:={ maxSteps:=3000000 }) (disch:=omega) only [go_sem,↓reduceIte])))
  refine Jc_if (fun hxl=>?_) (fun hxl=>?_)<;>try simp only [decide_eq_true_eq,decide_eq_false_iff_not] at hxl
  ·have gx:=map_get varF V hxl
   have hs:=nm_take hxl
   have hl:(((V.take x).map Prod.fst).map St).length=x:=by rw [List.length_map,List.length_map,List.length_take];omega
   have hb:((V.take x).length+1)*16≤140737488355328:=by rw [List.length_take];omega
   have hvf:varF V[x]=.agg [St V[x].1,.fz 1 (V[x].2.map St)]:=rfl
   rw [hvf] at gx
   (repeat (first|(with_reducible first|refine W_seq fun K hK=>?_|refine J_block ?_|refine J_skip ?_|refine J_region ?_ |refine aApp_sl ?_|(refine Kont.go (by assumption) ?_)|(simp (config:={ maxSteps:=3000000 }) (disch:=omega) only [go_sem,Nat.reduceEqDiff,↓reduceIte,Nat.reduceAdd,Nat.reduceLeDiff,gx,List.length_map,hs,hb]))|refine And.intro (by omega) ?_))
   refine ⟨x+1,by omega,by omega,weak_of ?_ ?_⟩<;>(try simp (disch:=omega) only [go_sem,Nat.reduceAdd])<;>(try first|done|omega|rfl|exact ⟨rfl,rfl⟩|trivial)
  ·have he:x=V.length:=by omega
   subst he
   rw [List.take_length]
   (repeat (with_reducible first|refine W_seq fun K hK=>?_|refine J_exit ?_|(refine Kont.go (by assumption) ?_)|(simp (config:={ maxSteps:=3000000 }) (disch:=omega) only [go_sem,↓reduceIte])))
   refine J_freeze (j:=4) rfl rfl ?_
   have hnm:=namesOK_w (V.map Prod.fst) (by rw [List.length_map];exact hlV) (fun s hs=>by
    obtain ⟨x,hx,rfl⟩:=List.mem_map.1 hs
    exact h.nm x hx)
   (repeat (with_reducible first|refine J_region ?_ |(simp (config:={ maxSteps:=3000000 }) (disch:=omega) only [go_sem,Nat.reduceEqDiff,↓reduceIte])))
   (first|refine call_f (hnm) rfl ?_|refine callQ_f (hnm) rfl ?_|refine callHK_f (hnm) rfl ?_|refine callH_f (hnm) rfl ?_)
   by_cases hN:namesE (V.map Prod.fst)=0
   rotate_left
   ·rw [if_neg hN] at e1
    have hd4:decide (namesE (V.map Prod.fst)=0)=false:=decide_eq_false hN
    (repeat (with_reducible first|refine W_seq fun K hK=>?_|refine J_ret ?_|refine J_region ?_ |refine J_c ?_|refine Jc_true ?_|(refine Kont.go (by assumption) ?_)|(simp (config:={ maxSteps:=3000000 }) (disch:=omega) only [go_sem,hd4])))
    rw [e1];exact Frz.f _
   rw [if_pos hN] at e1
   have hd4:decide (namesE (V.map Prod.fst)=0)=true:=decide_eq_true hN
   (repeat (with_reducible first|refine W_seq fun K hK=>?_|refine J_block ?_|refine J_skip ?_|refine J_region ?_ |refine J_c ?_|refine Jc_false ?_|(refine Kont.go (by assumption) ?_)|(simp (config:={ maxSteps:=3000000 }) (disch:=omega) only [go_sem,hd4])))
   refine W_loop [2,3,6,7,57,58,59,60,61,62,63,64,65,66,67,68,69,70,71,72,73,74,75,76,77,78,79,80,81,82,83,84,85,86] (fun x:Nat=>[(6,.f (I x))]) (fun x:Nat=>[oNt (V.map varF) (P.map ints) RR,none]) (fun x:Nat=>x≤V.length∧fe (varsE V) x=0) (fun x:Nat=>V.length-x) (0) (⟨Nat.zero_le _,rfl⟩) (by refine weak_of ?_ ?_<;>simp (disch:=omega) only [go_sem,Nat.reduceAdd]<;>first|rfl|exact ⟨rfl,rfl⟩|exact Or.inl rfl|exact ⟨Or.inl rfl,Or.inl rfl⟩|trivial|assumption|omega|(symm;assumption)|((repeat' apply And.intro)<;>first|rfl|omega|trivial|exact .inl rfl|exact .inr ⟨rfl,rfl⟩|exact .inr rfl|(right;symm;assumption)|(symm;assumption)|assumption)) ?_
   rintro x ⟨hx,hf⟩
   simp only [go_sem]
   (repeat (with_reducible first|refine W_seq fun K hK=>?_|refine J_region ?_ |refine J_c ?_|(refine Kont.go (by assumption) ?_)|(simp (config:={ maxSteps:=3000000 }) (disch:=omega) only [go_sem,↓reduceIte])))
   refine Jc_if (fun hxl=>?_) (fun hxl=>?_)<;>try simp only [decide_eq_true_eq,decide_eq_false_iff_not] at hxl
   ·have gx:=map_get varF V hxl
    have hvf:varF V[x]=.agg [St V[x].1,.fz 1 (V[x].2.map St)]:=rfl
    have hm:=List.getElem_mem hxl
    rw [hvf] at gx
    have hvn:=namesOK_w V[x].2 (h.vl _ hm) (h.vs _ hm)
    have gv:=vars_get hxl
    have bad:∀e:Int,varE V[x]=e→e≠0→netE (ordE P) V P M=e:=fun e h1 h2=>by
     have h3:fe (varsE V) V.length=e:=by rw [fe_at hf (by rw [gv,h1];exact h2) hxl,gv,h1]
     rw [e1,h3,if_neg h2]
    by_cases hb1:V[x].2.length<1
    ·have e:=bad 2 (by unfold varE;rw [if_neg (by omega)]) (by decide)
     have hb:((V[x].2.length:Nat):Int)<1:=by omega
     (repeat (with_reducible first|refine W_seq fun K hK=>?_|refine J_block ?_|refine J_skip ?_|refine J_ret ?_|refine J_region ?_ |refine J_c ?_|refine Jc_true ?_|(refine Kont.go (by assumption) ?_)|(simp (config:={ maxSteps:=3000000 }) (disch:=omega) only [go_sem,↓reduceIte,gx,List.length_map,hb])))
     rw [e];exact Frz.f _
    have hb1':¬((V[x].2.length:Nat):Int)<1:=by omega
    by_cases hb4:4<V[x].2.length
    ·have e:=bad 2 (by unfold varE;rw [if_neg (by omega)]) (by decide)
     have hb:4<((V[x].2.length:Nat):Int):=by omega
     (repeat (with_reducible first|refine W_seq fun K hK=>?_|refine J_block ?_|refine J_skip ?_|refine J_ret ?_|refine J_region ?_ |refine J_c ?_|refine Jc_true ?_|(refine Kont.go (by assumption) ?_)|(simp (config:={ maxSteps:=3000000 }) (disch:=omega) only [go_sem,↓reduceIte,gx,List.length_map,hb1',hb])))
     rw [e];exact Frz.f _
    have hb4':¬4<((V[x].2.length:Nat):Int):=by omega
    have ev:varE V[x]=namesE V[x].2:=by unfold varE;rw [if_pos (by omega)]
    (repeat (with_reducible first|refine W_seq fun K hK=>?_|refine J_block ?_|refine J_skip ?_|refine J_region ?_ |refine J_c ?_|refine Jc_false ?_|(refine Kont.go (by assumption) ?_)|(simp (config:={ maxSteps:=3000000 }) (disch:=omega) only [go_sem,↓reduceIte,gx,List.length_map,hb1',hb4'])))
    (first|refine call_f (hvn) rfl ?_|refine callQ_f (hvn) rfl ?_|refine callHK_f (hvn) rfl ?_|refine callH_f (hvn) rfl ?_)
    by_cases hN2:namesE V[x].2=0
    ·have hd5:decide (namesE V[x].2=0)=true:=decide_eq_true hN2
     (repeat (with_reducible first|refine W_seq fun K hK=>?_|refine J_skip ?_|refine J_region ?_ |refine J_c ?_|refine Jc_false ?_|(refine Kont.go (by assumption) ?_)|(simp (config:={ maxSteps:=3000000 }) (disch:=omega) only [go_sem,hd5])))
     refine ⟨x+1,⟨by omega,by rw [fe_next hf,gv,ev];exact hN2⟩,by omega,weak_of ?_ ?_⟩<;>(try simp (disch:=omega) only [go_sem,Nat.reduceAdd])<;>(try first|done|omega|rfl|exact ⟨rfl,rfl⟩|trivial)
    ·have hd5:decide (namesE V[x].2=0)=false:=decide_eq_false hN2
     have e:=bad _ ev hN2
     (repeat (with_reducible first|refine W_seq fun K hK=>?_|refine J_ret ?_|refine J_region ?_ |refine J_c ?_|refine Jc_true ?_|(refine Kont.go (by assumption) ?_)|(simp (config:={ maxSteps:=3000000 }) (disch:=omega) only [go_sem,hd5])))
     rw [e];exact Frz.f _
   ·have he:x=V.length:=by omega
    subst he
    rw [if_pos hf] at e1
    (repeat (with_reducible first|refine W_seq fun K hK=>?_|refine J_exit ?_|refine J_region ?_ |(refine Kont.go (by assumption) ?_)|(simp (config:={ maxSteps:=3000000 }) (disch:=omega) only [go_sem,↓reduceIte,Nat.reduceAdd])))
    (first|refine call_f (rsizes_w V (P.map ints) RR hlV) rfl ?_|refine callQ_f (rsizes_w V (P.map ints) RR hlV) rfl ?_|refine callHK_f (rsizes_w V (P.map ints) RR hlV) rfl ?_|refine callH_f (rsizes_w V (P.map ints) RR hlV) rfl ?_)
    (repeat (with_reducible first|refine W_seq fun K hK=>?_|refine J_block ?_|refine J_region ?_ |(refine Kont.go (by assumption) ?_)|(simp (config:={ maxSteps:=3000000 }) (disch:=omega) only [go_sem])))
    refine W_loop [2,9,10,11,12,13,89,90,91,92,93,94,95,96,97,98,99,100,101,102,103,104,105,106,107,108,109,110,111,112,113,114,115,116,117,118,119,120,121,122,123,124,125,126,127,128,129,130,131,132,133,134,135,136,137,138,139,140,141,142,143,144,145] (fun y:Nat=>[(9,.f (I y))]) (fun y:Nat=>[oNt (V.map varF) (P.map ints) RR,none]) (fun y:Nat=>y≤V.length∧fe (rowsE V P M) y=0) (fun y:Nat=>V.length-y) (0) (⟨Nat.zero_le _,rfl⟩) (by refine weak_of ?_ ?_<;>simp (disch:=omega) only [go_sem,Nat.reduceAdd]<;>first|rfl|exact ⟨rfl,rfl⟩|exact Or.inl rfl|exact ⟨Or.inl rfl,Or.inl rfl⟩|trivial|assumption|omega|(symm;assumption)|((repeat' apply And.intro)<;>first|rfl|omega|trivial|exact .inl rfl|exact .inr ⟨rfl,rfl⟩|exact .inr rfl|(right;symm;assumption)|(symm;assumption)|assumption)) ?_
    rintro y ⟨hy,hfy⟩
    simp only [go_sem]
    (repeat (with_reducible first|refine W_seq fun K hK=>?_|refine J_region ?_ |refine J_c ?_|(refine Kont.go (by assumption) ?_)|(simp (config:={ maxSteps:=3000000 }) (disch:=omega) only [go_sem,↓reduceIte,List.length_map])))
    refine Jc_if (fun hyl=>?_) (fun hyl=>?_)<;>try simp only [decide_eq_true_eq,decide_eq_false_iff_not] at hyl
    ·obtain ⟨hT,hp⟩:=net_okT hE hPV hf hyl
     obtain ⟨xs,hr,hq⟩:=h.hM.at (i:=y) (by omega)
     have er:rowsE V P M y=rowQ (szN V) (paN P y) (szT (szN V) y) M[y]:=by unfold rowsE;rw [lget_lt M _ (by omega)]
     have hct:=rcountT_w hT
     have hc:=hT.cnt
     have hlen:=hq.len
     have hvs:y<(szN V).length:=by rw [szN_len];exact hyl
     have hs4:=hT.sz4 hvs
     have hs1:=hT.szp hvs
     have hsg:(Ns (szN V))[y]?=some (I ((szT (szN V) y:Nat):Int)):=by unfold szT;exact Ns_get (by exact hvs)
     have hgen:∃e,e=rowsE V P M y:=⟨_,rfl⟩
     generalize hS:szT (szN V) y=S at *
     generalize hC:cntS (szT (szN V)) (paN P y)=C at *
     generalize hqs:M[y]=qs at *
     have hCS:C*S≤65536*4:=Nat.mul_le_mul hc hs4
     have hw:IntKind.i64.wrap ((C:Int)*(S:Int))=((C*S:Nat):Int):=by rw [IntKind.wrap_i64,←Int.natCast_mul];omega
     (repeat (with_reducible first|refine W_seq fun K hK=>?_|refine J_block ?_|refine J_skip ?_|refine J_region ?_ |(refine Kont.go (by assumption) ?_)|(simp (config:={ maxSteps:=3000000 }) (disch:=omega) only [go_sem,↓reduceIte,hp])))
     (first|refine call_f (hct) rfl ?_|refine callQ_f (hct) rfl ?_|refine callHK_f (hct) rfl ?_|refine callH_f (hct) rfl ?_)
     by_cases hl:qs.length=C*S
     rotate_left
     ·have hd:decide ((qs.length:Int)=((C*S:Nat):Int))=false:=decide_eq_false (by omega)
      have e8:rowsE V P M y=8:=by rw [er];unfold rowQ;rw [hC,if_neg hl]
      have e:netE (ordE P) V P M=8:=by rw [e1,fe_at hfy (by rw [e8];decide) hyl,e8]
      (repeat (with_reducible first|refine W_seq fun K hK=>?_|refine J_ret ?_|refine J_region ?_ |refine J_drawn mixed (by kernel_rfl) ?_|refine J_c ?_|refine Jc_true ?_|(refine Kont.go (by assumption) ?_)|(simp (config:={ maxSteps:=3000000 }) (disch:=omega) only [go_sem,↓reduceIte,hr,hsg,hlen,hw,hd])))
      rw [e];exact Frz.f _
     have hd:decide ((qs.length:Int)=((C*S:Nat):Int))=true:=decide_eq_true (by omega)
     have hx:xs.length=C*S:=by rw [hlen];exact hl
     (repeat (with_reducible first|refine W_seq fun K hK=>?_|refine J_block ?_|refine J_skip ?_|refine J_region ?_ |refine J_drawn mixed (by kernel_rfl) ?_|refine J_c ?_|refine Jc_false ?_|(refine Kont.go (by assumption) ?_)|(simp (config:={ maxSteps:=3000000 }) (disch:=omega) only [go_sem,↓reduceIte,hr,hsg,hlen,hw,hd])))
     refine W_loop [2,12,13,119,120,121,122,123,124,125,126,127,128,129,130,131,132,133,134,135,136,137,138,139,140,141,142,143,144,145] (fun i:Nat=>[(12,.f (I i))]) (fun i:Nat=>[oNt (V.map varF) (P.map ints) RR,none]) (fun i:Nat=>i≤C∧∀j,j<i→chancesB (rwQ qs S j)=true) (fun i:Nat=>C-i) (0) (⟨Nat.zero_le _,fun j h=>by omega⟩) (by refine weak_of ?_ ?_<;>simp (disch:=omega) only [go_sem,Nat.reduceAdd]<;>first|rfl|exact ⟨rfl,rfl⟩|exact Or.inl rfl|exact ⟨Or.inl rfl,Or.inl rfl⟩|trivial|assumption|omega|(symm;assumption)|((repeat' apply And.intro)<;>first|rfl|omega|trivial|exact .inl rfl|exact .inr ⟨rfl,rfl⟩|exact .inr rfl|(right;symm;assumption)|(symm;assumption)|assumption)) ?_
     rintro i ⟨hi,hI⟩
     simp only [go_sem]
     (repeat (with_reducible first|refine W_seq fun K hK=>?_|refine J_region ?_ |refine J_c ?_|(refine Kont.go (by assumption) ?_)|(simp (config:={ maxSteps:=3000000 }) (disch:=omega) only [go_sem])))
     refine Jc_if (fun hic=>?_) (fun hic=>?_)<;>try simp only [decide_eq_true_eq,decide_eq_false_iff_not] at hic
     ·have hch:=rchances_w (hq.piece (i*S) S) h.k1 (by rw [List.length_take];omega) h.kk
      have hiS:i*S+S≤C*S:=by have:=Nat.mul_le_mul_right S (show i+1≤C by omega);rw [Nat.add_mul,Nat.one_mul] at this;exact this
      have hw1:IntKind.i64.wrap ((i:Int)*(S:Int))=((i*S:Nat):Int):=by rw [IntKind.wrap_i64,←Int.natCast_mul];omega
      have hw2:IntKind.i64.wrap (((i:Int)+1)*(S:Int))=((i*S+S:Nat):Int):=by rw [IntKind.wrap_i64,Int.add_mul,Int.one_mul,←Int.natCast_mul,←Int.natCast_add];omega
      have hw3:(((i*S+S:Nat):Int)-((i*S:Nat):Int)).toNat=S:=by omega
      (repeat (first|(with_reducible first|refine W_seq fun K hK=>?_|refine J_block ?_|refine J_skip ?_|refine J_drawn mixed (by kernel_rfl) ?_|(refine Kont.go (by assumption) ?_)|(simp (config:={ maxSteps:=3000000 }) (disch:=omega) only [go_sem,↓reduceIte,hr,hsg,hlen,hw1,hw2,hw3]))|refine And.intro (by omega) ?_))
      (first|refine call_f (hch) rfl ?_|refine callQ_f (hch) rfl ?_|refine callHK_f (hch) rfl ?_|refine callH_f (hch) rfl ?_)
      cases hb:chancesB (rwQ qs S i) with
      | true =>
       have hb':chancesB ((qs.drop (i*S)).take S)=true:=hb
       (repeat (with_reducible first|refine W_seq fun K hK=>?_|refine J_skip ?_|refine J_region ?_ |refine J_c ?_|refine Jc_false ?_|(refine Kont.go (by assumption) ?_)|(simp (config:={ maxSteps:=3000000 }) (disch:=omega) only [go_sem,hb'])))
       refine ⟨i+1,⟨by omega,upto_next (p:=fun j=>chancesB (rwQ qs S j)=true) hI hb⟩,by omega,weak_of ?_ ?_⟩<;>(try simp (disch:=omega) only [go_sem,Nat.reduceAdd])<;>(try first|done|omega|rfl|exact ⟨rfl,rfl⟩|trivial)
      | false =>
       have hb':chancesB ((qs.drop (i*S)).take S)=false:=hb
       have e9:rowsE V P M y=9:=by
        rw [er];unfold rowQ;rw [hC,if_pos hl,if_neg]
        intro h
        have:=List.all_eq_true.1 h i (List.mem_range.2 hic)
        rw [hb] at this;cases this
       have e:netE (ordE P) V P M=9:=by rw [e1,fe_at hfy (by rw [e9];decide) hyl,e9]
       (repeat (with_reducible first|refine W_seq fun K hK=>?_|refine J_ret ?_|refine J_region ?_ |refine J_c ?_|refine Jc_true ?_|(refine Kont.go (by assumption) ?_)|(simp (config:={ maxSteps:=3000000 }) (disch:=omega) only [go_sem,hb'])))
       rw [e];exact Frz.f _
     ·have he:i=C:=by omega
      subst he
      have e0:rowsE V P M y=0:=by
       rw [er];unfold rowQ;rw [hC,if_pos hl,if_pos]
       exact List.all_eq_true.2 fun j hj=>hI j (List.mem_range.1 hj)
      (repeat (with_reducible first|refine J_exit ?_|refine J_region ?_ |(refine Kont.go (by assumption) ?_)|(simp (config:={ maxSteps:=3000000 }) (disch:=omega) only [go_sem,↓reduceIte])))
      refine ⟨y+1,⟨by omega,by rw [fe_next hfy];exact e0⟩,by omega,weak_of ?_ ?_⟩<;>(try simp (disch:=omega) only [go_sem,Nat.reduceAdd])<;>(try first|done|omega|rfl|exact ⟨rfl,rfl⟩|trivial)
    ·have he:y=V.length:=by omega
     subst he
     rw [hfy] at e1
     (repeat (with_reducible first|refine W_seq fun K hK=>?_|refine J_exit ?_|refine J_ret ?_|refine J_region ?_ |(refine Kont.go (by assumption) ?_)|(simp (config:={ maxSteps:=3000000 }) (disch:=omega) only [go_sem,↓reduceIte])))
     rw [e1];exact Frz.f _
end Go.Proofs.YthehegidpamldaaGreatDoor
set_option linter.unusedVariables false
set_option linter.unusedSimpArgs false
namespace Go.Proofs.YthehegidpamldaaGreatDoor
open Go Go.RowKit
def IterD (P:Program) (gf:FuncId) (cs:List FV) (xs:List (Int × Int)):Prop :=
 ∀(l:Nat) (I:Nat→World→Prop) (Ix:World→Prop) (W:World) (G:Nat→Prop) (us:Array Value),RepFL W G cs us→(∀i W1,I i W1→TabW W1∧∀b,G b→W1.heap[b]?=W.heap[b]?)→I 0 W →
  (∀(i:Nat) x W1,xs[i]?=some x→I i W1→YieldAt Fence.wide 7 P l #[.int .i64 x.1,.int .i64 x.2] W1 fun e W'=>(e=.returned (.bool true)∧I (i+1) W')∨(e=.returned (.bool false)∧Ix W')) →
  CallsIn Fence.wide 8 P gf (#[.func (.yield l) #[] #[]]++us) W fun e W'=>(∃v,e=.returned v)∧(I xs.length W'∨Ix W')
section
variable {P : Program} {X : Cx} {w : World} {F : Nat → Prop} {loc : Nat → Nat × Nat} {s : AS} {a : Act}
theorem J_rangeD (hrd:X.rd=none) {g:Operand} {p p2:Tmp} {assign body:Code} {Q:Exit→AS→Prop} {gf:FuncId} {cs:List FV} {xs:List (Int × Int)} {kp:Nat→Bool} (T:List AV) (H:Nat→AH)
  (hg:s.ev g=.f (.fn gf [] cs)) (hit:IterD P gf cs xs) (hok:enterOk P gf=true) (hw:Weak s ⟨T,H 0⟩) (hT:∀(j:Nat) x,T[j]?=some x→x=.any∨kp j=true) (hp:kp p=false) (hp2:kp p2=false) (h12:p≠p2) (hka:okC kp assign=true) (hkb:okC kp body=true)
  (round:∀(i:Nat) x,xs[i]?=some x→∀X1:Cx,X1.kp=kp→∀K:AS→Prop,(∀s',(∀X2:Cx,X2.kp=kp→J X2 P body (rpost T (H (i+1)) (Q .ret)) s')→K s')→J X1 P assign (athen K fun _ _=>False) ⟨(T.set p (.f (.v (.int .i64 x.1)))).set p2 (.f (.v (.int .i64 x.2))),H i⟩)
  (hQ:Q .normal ⟨T,H xs.length⟩):J X P (.rangeFunc g #[p,p2] assign body) Q s:=fun _ a w ⟨F0,loc0,R0⟩=>by
 have hfv:=R0.ev g
 rw [hg] at hfv
 obtain ⟨vs,us,hge,l1,l2⟩:=fnF_rep hfv
 have hvs:vs=#[]:=by
  have:=l1.1
  simp at this
  exact Array.eq_empty_of_size_eq_zero this.symm
 subst hvs
 obtain ⟨locT,RT⟩:=R0.weak hw
 rw [fen_wide hrd]
 refine wpIn_rangeFunc ?_
 intro fn hfn
 obtain ⟨rec,hrec⟩:∃rec:LoopState→Option Code→Loop,rec=fun st pe=>{ state:=st,pending:=pe,fn,tmps:=a.tmps,params:=#[p,p2],assign,body,defers:=w.heap.size }:=⟨_,rfl⟩
 obtain ⟨W1,hW1⟩:∃W1,(w.alloc (.deferred (some []))).alloc (.loop (rec .ready none))=W1:=⟨_,rfl⟩
 obtain ⟨D,hD⟩:∃D,D=w.heap.size:=⟨_,rfl⟩
 have hL1:W1.heap[D+1]?=some (.loop (rec .ready none)):=by
  rw [←hW1,hD];have:=World.alloc_heap_new (w.alloc (.deferred (some []))) (.loop (rec .ready none));rwa [World.size_alloc] at this
 have hK1:W1.heap[D]?=some (.deferred (some [])):=by
  rw [←hW1,hD];exact (Below.heap_alloc _ _ _ (by simp)).trans (World.alloc_heap_new w _)
 refine ⟨D+1,[{ target:=.collected D,args:=#[] }],W1,{ target:=.fn (.func gf) us,args:=#[.func (.yield (D+1)) #[] #[]] },W1,gf,#[.func (.yield (D+1)) #[] #[]]++us,W1,?_,?_,?_,?_,(fun h=>by cases h),?_⟩
 ·rw [←hW1,hrec,hD];exact run_enterLoop_outer _ _ _ _ _
 ·simp only [resolve,hge,Deferred.ofValue,Sem.run_pure]
  simp [Act.eval]
 ·intro f' hf';trivial
 ·simp only [invoke]
  exact goodOk hok _ _
 ·obtain ⟨F1,hF1⟩:∃F1:Nat→Prop,F1=fun b=>F0 b∨b=D:=⟨_,rfl⟩
  have hsz:W1.heap.size=D+2:=by rw [←hW1,hD];simp
  have hbW:Beyond (fun _=>False) w W1:=by
   rw [←hW1]
   exact (beyond_alloc w _).trans ⟨rfl,rfl,rfl,by simp,fun k hk _=>Below.heap_alloc _ _ k hk⟩
  have RT1:RelF X F1 locT ⟨T,H 0⟩ a W1:=RT.step hbW (fun b h=>by rw [hF1];exact .inl h) (fun b h=>by
   rw [hF1] at h
   rcases h with h|h
   ·have:=RT.hF b h;omega
   ·omega) (fun b h=>by
   rw [hF1] at h
   rcases h with h|h
   ·exact .inl h
   ·exact .inr (by omega))
  have hDX:X.w0.heap.size≤D:=by have:=RT.below.size;omega
  have hTlen:T.length=a.tmps.size:=RT.len
  have hRL:RepFL W1 F1 cs us:=⟨by rw [←l2.1,List.length_map],fun j c hj=>by
   have:=l2.2 j (.f c) (by rw [List.getElem?_map,hj];rfl)
   cases this with
   | f _ _ h=>exact h.mono (fun b hb=>by rw [hF1];exact .inl hb) fun b o u hf hc=>by rw [cell_of_block (hbW.block b (R0.hF b hf) (fun h=>h))];exact hc⟩
  refine (hit (D+1) (fun i W=>∃F loc,RelF X F loc ⟨T,H i⟩ a W∧(F D∧¬F (D+1))∧W.heap[D+1]?=some (.loop (rec .ready none))∧W.heap[D]?=some (.deferred (some []))∧∀b,F1 b→F b∧W.heap[b]?=W1.heap[b]?)
   (fun W=>∃F loc H',RelF X F loc ⟨T,H'⟩ a W∧(F D∧¬F (D+1))∧Q .ret ⟨T,H'⟩∧W.heap[D+1]?=some (.loop (rec .done (some .ret)))∧W.heap[D]?=some (.deferred (some []))) W1 F1 us hRL (fun i W2 ⟨F,loc,R,_,_,_,hp⟩=>⟨R.tabW,fun b hb=>(hp b hb).2⟩) ⟨F1,locT,RT1,⟨by rw [hF1];exact .inr rfl,by rw [hF1];rintro (h|h);(have:=RT.hF _ h;omega);omega⟩,hL1,hK1,fun b hb=>⟨hb,rfl⟩⟩ ?_).mono ?_
  ·rintro i x W hx ⟨F,loc,R,⟨hFD,hFl⟩,hl,hk,hpr⟩
   have hy:=run_yield (P:=P) (args:=#[.int .i64 x.1,.int .i64 x.2]) hl (by rw [hrec];rfl)
   rw [hrec] at hy
   refine ⟨fn,_,assign,body,hy,roundIn_of_wpIn trivial ?_⟩
   have htm:((#[p,p2]:Array Tmp).zip #[Value.int .i64 x.1,.int .i64 x.2]).foldl (fun tmps (t,a)=>tmps.setIfInBounds t a) a.tmps=(a.tmps.setIfInBounds p (.int .i64 x.1)).setIfInBounds p2 (.int .i64 x.2):=by simp
   rw [htm]
   have hgo:∀j,p≠j→p2≠j→((a.tmps.setIfInBounds p (.int .i64 x.1)).setIfInBounds p2 (.int .i64 x.2)).getD j undef=a.tmps.getD j undef:=fun j h1 h2=>by
    simp [Array.getD_eq_getD_getElem?,h1,h2]
   have R1:=R.enter (s':=⟨(T.set p (.f (.v (.int .i64 x.1)))).set p2 (.f (.v (.int .i64 x.2))),H i⟩) { tmps:=(a.tmps.setIfInBounds p (.int .i64 x.1)).setIfInBounds p2 (.int .i64 x.2),defers:=[] } (some (D+1)) kp a.tmps rfl (by simp [hTlen]) rfl (fun j hj=>by
    have hne:p≠j:=fun e=>by rw [←e,hp] at hj;cases hj
    have hne2:p2≠j:=fun e=>by rw [←e,hp2] at hj;cases hj
    exact hgo j hne hne2) (fun j y hj=>by
    have hj':((T.set p (.f (.v (.int .i64 x.1)))).set p2 (.f (.v (.int .i64 x.2))))[j]?=some y:=hj
    have hjl:j<T.length:=by have:=glt hj';simpa using this
    by_cases e2:p2=j
    ·subst e2
     rw [List.getElem?_set_self (by simpa using hjl)] at hj'
     cases hj'
     have:((a.tmps.setIfInBounds p (.int .i64 x.1)).setIfInBounds p2 (.int .i64 x.2)).getD p2 undef=.int .i64 x.2:=by simp [Array.getD_eq_getD_getElem?,←hTlen,hjl]
     show Rep _ _ _ _ _ (((a.tmps.setIfInBounds p (.int .i64 x.1)).setIfInBounds p2 (.int .i64 x.2)).getD p2 undef)
     rw [this]
     exact .f _ _ (.v _)
    ·rw [List.getElem?_set_ne e2] at hj'
     by_cases e:p=j
     ·subst e
      rw [List.getElem?_set_self hjl] at hj'
      cases hj'
      have:((a.tmps.setIfInBounds p (.int .i64 x.1)).setIfInBounds p2 (.int .i64 x.2)).getD p undef=.int .i64 x.1:=by
       have hl:p<(a.tmps.setIfInBounds p (.int .i64 x.1)).size:=by simp [←hTlen,hjl]
       simp [Array.getD_eq_getD_getElem?,e2,←hTlen,hjl]
      show Rep _ _ _ _ _ (((a.tmps.setIfInBounds p (.int .i64 x.1)).setIfInBounds p2 (.int .i64 x.2)).getD p undef)
      rw [this]
      exact .f _ _ (.v _)
     ·rw [List.getElem?_set_ne e] at hj'
      show Rep _ _ _ _ _ (((a.tmps.setIfInBounds p (.int .i64 x.1)).setIfInBounds p2 (.int .i64 x.2)).getD j undef)
      rw [hgo j e e2]
      exact R.tmps j y hj')
   have hJ:=round i x hx ⟨W,F,fun b=>Live ⟨T,H i⟩ loc b,some (D+1),kp,a.tmps,X.hold⟩ rfl (fun s'=>∀X2:Cx,X2.kp=kp→J X2 P body (rpost T (H (i+1)) (Q .ret)) s') (fun s' h=>h) hka _ W ⟨F,loc,R1⟩
   refine wpIn_mono (wpIn_any hJ) ?_
   rintro e a1 Wa ⟨s1,hq,Fa,loca,Ra⟩
   cases e with
   | normal =>
    have hlW:D+1<W.heap.size:=(Array.getElem?_eq_some_iff.1 hl).1
    have hnl:∀{s0:AS} {F0:Nat→Prop} {loc0:Nat→Nat × Nat} {X0:Cx} {a0:Act} {w0:World} {b:Nat} {o:Obj},RelF X0 F0 loc0 s0 a0 w0→w0.heap[b]?=some o→o.isCells=false→¬Live s0 loc0 b:=fun R0 h ho ⟨r,q,hr,e⟩=>by
     obtain ⟨vs,hv⟩:=own_cells R0 hr
     rw [e,h] at hv
     cases hv
     cases ho
    have hla:Wa.heap[D+1]?=some (.loop (rec .ready none)):=(Ra.below.block (D+1) hlW (hnl R hl rfl)).trans hl
    have hka2:Wa.heap[D]?=some (.deferred (some [])):=(Ra.below.block D (show D<W.heap.size by omega) (hnl R hk rfl)).trans hk
    refine ⟨_,run_beginRound hla (by rw [hrec]),?_⟩
    have Rb:=Ra.poke (o:=.loop { rec .ready none with state:=.busy }) hla rfl (fun _ _ h=>by cases h) rfl
    have hlWa:D+1<Wa.heap.size:=(Array.getElem?_eq_some_iff.1 hla).1
    have hlb:(Wa.putObj (D+1) (.loop { rec .ready none with state:=.busy })).heap[D+1]?=some (.loop { rec .ready none with state:=.busy }):=World.putObj_heap_same hlWa
    have hkb2:(Wa.putObj (D+1) (.loop { rec .ready none with state:=.busy })).heap[D]?=some (.deferred (some [])):=(World.putObj_heap_other (by omega)).trans hka2
    have hJ2:=hq _ rfl hkb a1 _ ⟨Fa,loca,Rb⟩
    refine wpIn_mono (wpIn_any hJ2) ?_
    rintro e a2 Wc ⟨s2,hq2,Fc,locc,Rc⟩
    have hlc:Wc.heap[D+1]?=some (.loop { rec .ready none with state:=.busy }):=(Rc.below.block (D+1) (by rw [World.putObj_size];exact hlWa) (hnl Rb hlb rfl)).trans hlb
    have hkc:Wc.heap[D]?=some (.deferred (some [])):=(Rc.below.block D (by rw [World.putObj_size];omega) (hnl Rb hkb2 rfl)).trans hkb2
    have hsb:(Wa.putObj (D+1) (.loop { rec .ready none with state:=.busy })).heap.size=Wa.heap.size:=World.putObj_size
    have hWWa:W.heap.size≤Wa.heap.size:=Ra.below.size
    have hWaWc:Wa.heap.size≤Wc.heap.size:=by have:=Rc.below.size;rw [hsb] at this;exact this
    have nL1:∀b,Live s1 loca b→Live ⟨T,H i⟩ loc b∨W.heap.size≤b:=fun b ⟨r,q,hr,e⟩=>by
     rcases Ra.new r q hr with h|h
     ·exact .inr (by rw [←e];exact h)
     ·exact .inl (by rw [←e];exact h)
    have nL2:∀b,Live s2 locc b→Live ⟨T,H i⟩ loc b∨W.heap.size≤b:=fun b ⟨r,q,hr,e⟩=>by
     rcases Rc.new r q hr with h|h
     ·refine .inr ?_
      rw [←e]
      have h':Wa.heap.size≤(locc r).1:=by rw [←hsb];exact h
      omega
     ·exact nL1 b (by rw [←e];exact h)
    have fFc:∀b,Fc b→F b∨Live ⟨T,H i⟩ loc b∨W.heap.size≤b:=fun b h=>by
     rcases Rc.hN b h with h|h|h
     ·exact Ra.hN b h
     ·exact .inr (nL1 b h)
     ·refine .inr (.inr ?_)
      have h':Wa.heap.size≤b:=by rw [←hsb];exact h
      omega
    have hFFc:∀b,F b→Fc b:=fun b h=>Rc.hG b (Ra.hG b h)
    have hnlD:¬Live ⟨T,H i⟩ loc (D+1):=hnl R hl rfl
    have hFcl:¬Fc (D+1):=fun h=>by
     rcases fFc _ h with h|h|h
     ·exact hFl h
     ·exact hnlD h
     ·omega
    have leave:∀(st:LoopState) (pe:Option Code) (H':AH),Weak s2 ⟨T,H'⟩→∃loc',RelF X Fc loc' ⟨T,H'⟩ a (Wc.putObj (D+1) (.loop (rec st pe))):=fun st pe H' hwk=>by
     have R3:=Rc.poke (o:=.loop (rec st pe)) hlc rfl (fun _ _ h=>by cases h) rfl
     obtain ⟨loc3,R4⟩:=R3.weak hwk
     refine ⟨loc3,R.leave (l:=D+1) (by omega) hFl ⟨?_,?_,?_,?_,fun k hk1 hno=>?_⟩ hFFc fFc nL2 ?_ R4 hT hTlen⟩
     ·exact Rc.below.os.trans Ra.below.os
     ·exact Rc.below.tape.trans Ra.below.tape
     ·exact Rc.below.output.trans Ra.below.output
     ·rw [World.putObj_size];omega
     ·have hne:k≠D+1:=fun e=>hno (.inr (.inr e))
      have h1:¬Live s1 loca k:=fun h=>by
       rcases nL1 k h with h|h
       ·exact hno (.inl h)
       ·exact hno (.inr (.inl h))
      rw [World.putObj_heap_other hne,Rc.below.block k (show k<_ by rw [hsb];omega) h1,World.putObj_heap_other hne]
      exact Ra.below.block k hk1 fun h=>hno (.inl h)
     ·rw [World.putObj_size];omega
    have hlWc:D+1<Wc.heap.size:=by omega
    have fin:∀(jump:Option Code),(Instr.endRound (D+1) jump).run P Wc=.ok (.bool jump.isNone) (Wc.putObj (D+1) (.loop (rec (if jump.isNone then .ready else .done) jump))):=fun jump=>by
     have:=run_endRound (P:=P) jump hlc
     rw [hrec] at this ⊢
     exact this
    cases e with
    | normal =>
     obtain ⟨loc',R5⟩:=leave .ready none _ hq2
     have blk:∀b,F b→(Wc.putObj (D+1) (.loop (rec .ready none))).heap[b]?=W.heap[b]?:=fun b hf=>by
      have hbl:=R.hF b hf
      have hnv:¬Live ⟨T,H i⟩ loc b:=fun ⟨r,o,h,e⟩=>R.nF r o h (e▸hf)
      have hne:b≠D+1:=fun e=>hFl (e▸hf)
      have h1:¬Live s1 loca b:=fun h=>by
       rcases nL1 b h with h|h
       ·exact hnv h
       ·omega
      rw [World.putObj_heap_other hne,Rc.below.block b (show b<_ by rw [hsb];omega) h1,World.putObj_heap_other hne]
      exact Ra.below.block b hbl hnv
     exact ⟨_,_,fin none,.inl ⟨rfl,Fc,loc',R5,⟨hFFc D hFD,hFcl⟩,World.putObj_heap_same hlWc,(World.putObj_heap_other (by omega)).trans hkc,fun b hb=>⟨hFFc b (hpr b hb).1,(blk b (hpr b hb).1).trans (hpr b hb).2⟩⟩⟩
    | ret =>
     obtain ⟨H',hwk,hqr⟩:=hq2
     obtain ⟨loc',R5⟩:=leave .done (some .ret) _ hwk
     exact ⟨_,_,fin (some .ret),.inr ⟨rfl,Fc,loc',H',R5,⟨hFFc D hFD,hFcl⟩,hqr,World.putObj_heap_same hlWc,(World.putObj_heap_other (by omega)).trans hkc⟩⟩
    | exit id=>exact hq2.elim
    | goto t=>exact hq2.elim
    | panic ch=>exact hq2.elim
    | outgrown=>exact hq2.elim
   | exit id=>exact hq.elim
   | goto t=>exact hq.elim
   | ret=>exact hq.elim
   | panic ch=>exact hq.elim
   | outgrown=>exact hq.elim
  ·rintro e W2 ⟨⟨v,rfl⟩,⟨F,loc,R,⟨hFD,hFl⟩,hl,hk,_⟩|⟨F,loc,H',R,⟨hFD,hFl⟩,hq,hl,hk⟩⟩
   ·have he:=run_endLoop (P:=P) hl (by rw [hrec];simp)
    rw [hrec] at he
    exact ⟨none,_,he,_,hQ,F,loc,R.marked (l:=D+1) hl rfl (by omega) hFl hk hFD hDX (by omega) (fun d hd e=>by
     obtain ⟨D',e',hf',_,_⟩:=R0.defers.1.1 d hd
     rw [e'] at e
     have hDD:D'=D:=by injection e with e1 _;injection e1
     have:=R0.hF _ hf'
     omega) hrd⟩
   ·have he:=run_endLoop (P:=P) hl (by rw [hrec];simp)
    rw [hrec] at he
    refine ⟨some .ret,_,he,wpIn_ret ⟨_,hq,F,loc,R.marked (l:=D+1) hl rfl (by omega) hFl hk hFD hDX (by omega) (fun d hd e=>?_) hrd⟩⟩
    obtain ⟨D',e',hf',_,_⟩:=R0.defers.1.1 d hd
    rw [e'] at e
    have hDD:D'=D:=by injection e with e1 _;injection e1
    have:=R0.hF _ hf'
    omega
theorem J_rangeDW (hrd:X.rd=none) (ws:List Nat) (hp:Nat→AH) {g:Operand} {p p2:Tmp} {assign body:Code} {Q:Exit→AS→Prop} {gf:FuncId} {cs:List FV} {xs:List (Int × Int)} {t:List AV} {H:AH}
  (hg:AS.ev ⟨t,H⟩ g=.f (.fn gf [] cs)) (hit:IterD P gf cs xs) (hok:enterOk P gf=true) (hw:Weak ⟨t,H⟩ ⟨msk ws t,hp 0⟩) (hpw:kpOf ws p=false) (hpw2:kpOf ws p2=false) (h12:p≠p2) (hka:okC (kpOf ws) assign=true) (hkb:okC (kpOf ws) body=true)
  (round:∀(i:Nat) x,xs[i]?=some x→∀X1:Cx,X1.kp=kpOf ws→∀K:AS→Prop,Kont K (fun s'=>∀X2:Cx,X2.kp=kpOf ws→J X2 P body (rpost (msk ws t) (hp (i+1)) (Q .ret)) s')→J X1 P assign (athen K fun _ _=>False) ⟨((msk ws t).set p (.f (.v (.int .i64 x.1)))).set p2 (.f (.v (.int .i64 x.2))),hp i⟩)
  (hQ:Q .normal ⟨msk ws t,hp xs.length⟩):J X P (.rangeFunc g #[p,p2] assign body) Q ⟨t,H⟩ :=
 J_rangeD hrd (msk ws t) hp hg hit hok hw (msk_get ws t) hpw hpw2 h12 hka hkb round hQ
end
end Go.Proofs.YthehegidpamldaaGreatDoor
set_option linter.unusedVariables false
set_option linter.unusedSimpArgs false
namespace Go.Proofs.YthehegidpamldaaGreatDoor
open Go Go.RowKit
set_option maxRecDepth 100000 in
theorem backward_w (l:List FV):Good Tryz.prog 110 [.fz 1 l] (.fn 141 [] [.fp (.fz 1 l) 0]):=by
 refine good_of Tryz.func110 rfl (by kernel_rfl) fun X hO hrd=>?_;rw [Tryz.ntmps110,Tryz.results110];simp only [ast0,List.map_cons,List.map_nil,List.length_cons,List.length_nil,Nat.reduceAdd,Nat.reduceSub,List.replicate_succ,List.replicate_zero,List.cons_append,List.nil_append]
 (repeat (with_reducible first|refine W_seq fun K hK=>?_|refine J_ret ?_|refine J_region ?_ |(refine Kont.go (by assumption) ?_)|(simp (config:={ maxSteps:=3000000 }) (disch:=omega) only [go_sem])))
 exact Frz.fn _ _ _ _ _ rfl (fun j c d h=>by simp at h) rfl fun j cc d h h'=>by
  cases j with
  | zero=>cases h;cases h';exact Frz.ptr0 rfl rfl
  | succ j=>simp at h
theorem back_box {w:World} {G:Nat→Prop} {l:List FV} {us:Array Value} (h:RepFL w G [.fp (.fz 1 l) 0] us):∃b off y,us=#[.pointer (some ⟨b,off,none⟩)]∧G b∧w.cell? ⟨b,off,none⟩=some y∧RepF w G (.fz 1 l) y:=by
 obtain ⟨hl,hr⟩:=h
 have h1:us.size=1:=hl.symm
 have h0:=hr 0 _ rfl
 obtain ⟨u,rfl⟩:=Array.size_eq_one_iff.1 h1
 replace h0:RepF w G (.fp (.fz 1 l) 0) u:=h0
 cases h0 with
 | fp _ _ b off hF g hg hc=>exact ⟨b,off,g 0,rfl,hF,hg 0 _ rfl,hc 0 _ rfl⟩
def bkL (l:List Int):List (Int × Int):=(List.range l.length).map fun k=>(((l.length-1-k:Nat):Int),l.getD (l.length-1-k) 0)
theorem bkL_len {l:List Int}:(bkL l).length=l.length:=by simp [bkL]
theorem bkL_get {l:List Int} {k:Nat} (h:k<l.length):(bkL l)[k]?=some (((l.length-1-k:Nat):Int),l.getD (l.length-1-k) 0):=by simp [bkL,h]
theorem bflat_I (l:List Int):flatF (l.map I)=l.map I:=by
 unfold flatF
 induction l with
 | nil=>rfl
 | cons a l ih=>rw [List.map_cons,List.flatMap_cons,ih];rfl
set_option maxRecDepth 100000 in
set_option maxHeartbeats 4000000 in
theorem back_iter (l:List Int) (hl:l.length≤1000):IterD Tryz.prog 141 [.fp (.fz 1 (l.map I)) 0] (bkL l):=by
 intro lo J Jx W G us hus hT h0 hY
 obtain ⟨b,off,y,rfl,hGb,hcell,hrep⟩:=back_box hus
 have hcb:∀i W1,J i W1→W1.cell? ⟨b,off,none⟩=some y:=fun i W1 h=>by rw [cell_of_block ((hT i W1 h).2 b hGb)];exact hcell
 generalize he:l.map I=es at hrep
 refine callsIn_of_wp Tryz.func141 rfl trivial ?_ rfl
 have hcb0:=hcb 0 W h0
 cases hrep with
 | fz0 _ a cap hm =>
  have hl0:l=[]:=List.map_eq_nil_iff.1 he
  subst hl0
  simp only [Tryz.ntmps141,List.size_toArray,List.length_cons,List.length_nil,Nat.reduceAdd,Nat.reduceSub,Array.replicate_succ,Array.replicate_zero,List.push_toArray,List.append_toArray,List.nil_append,List.cons_append]
  gi_wp2
  gi_loopw [3] (fun i wr=>i=.int .i64 (-1)∧J 0 wr) (fun _ _=>0)
  case atStart=>exact ⟨rfl,h0⟩
  case round =>
   obtain ⟨rfl,hJs⟩:=hrel
   gi_wp2
   go_end0
   exact ⟨⟨_,rfl⟩,.inl hJs⟩
 | fz _ _ b2 off2 cap hF hn hm hu g hg hc =>
  subst he
  rw [bflat_I] at hg hc
  have hcs:∀j (hj:j<l.length),W.cell? ⟨b2,off2+j,none⟩=some (.int .i64 (l.getD j 0)):=fun j hj=>by
   have h1:=hg j (I l[j]) (by rw [List.getElem?_map,List.getElem?_eq_getElem hj];rfl)
   have h2:=hc j (I l[j]) (by rw [List.getElem?_map,List.getElem?_eq_getElem hj];rfl)
   rw [lget_lt l 0 hj]
   generalize g j=q at h1 h2
   cases h2
   exact h1
  have hlen:(l.map I).length=l.length:=List.length_map ..
  rw [hlen] at hcell hcb hn hcb0
  simp only [Tryz.ntmps141,List.size_toArray,List.length_cons,List.length_nil,Nat.reduceAdd,Nat.reduceSub,Array.replicate_succ,Array.replicate_zero,List.push_toArray,List.append_toArray,List.nil_append,List.cons_append]
  gi_wp2
  gi_loopw [3] (fun q wr=>∃(k:Nat) (i:Int),q=.int .i64 i∧i+1+k=l.length∧-1≤i∧J k wr) (fun q _=>(intOf q+1).toNat)
  case atStart=>exact ⟨0,_,rfl,by omega,by omega,h0⟩
  case round =>
   obtain ⟨k,i,rfl,hik,hi1,hJs⟩:=hrel
   by_cases hi:0≤i
   ·obtain ⟨m,rfl⟩:=Int.eq_ofNat_of_zero_le hi
    have hm:m+1+k=l.length:=by omega
    have hml:m<l.length:=by omega
    have hkl:k<l.length:=by omega
    have e1:l.length-1-k=m:=by omega
    have hxs:=bkL_get hkl
    rw [e1] at hxs
    obtain ⟨fn,tmps,assign,body,hy,hR⟩:=hY k _ wr hxs hJs
    have hcx:wr.cell? ⟨b2,off2+m,none⟩=some (.int .i64 (l.getD m 0)):=by rw [cell_of_block ((hT k wr hJs).2 b2 hF)];exact hcs m hml
    have hcbk:=hcb k wr hJs
    dsimp only at hy
    generalize l.getD m 0=x at hcx hy
    have H:Hid (m+1+k=l.length):=hm
    clear hcs hcb hY hik hm hJs hxs e1 hcell hcb0
    gi_wp2
    refine hR.mono ?_
    rintro e W3 (⟨rfl,hJ3⟩|⟨rfl,hJx3⟩)
    ·have hmH:=H.out
     gi_wp2
     go_roundw
     case rel=>exact ⟨k+1,_,rfl,by omega,by omega,hJ3⟩
     case measure=>simp [intOf]
    ·gi_wp2
     refine bodyPost_ret (results_none rfl _ _ _) rfl ?_
     exact ⟨⟨_,rfl⟩,.inr hJx3⟩
   ·obtain rfl:i=-1:=by omega
    have hkk:k=(bkL l).length:=by rw [bkL_len];omega
    subst hkk
    clear hcs hcb hY
    gi_wp2
    go_end0
    exact ⟨⟨_,rfl⟩,.inl hJs⟩
end Go.Proofs.YthehegidpamldaaGreatDoor
set_option linter.unusedVariables false
set_option linter.unusedSimpArgs false
namespace Go.Proofs.YthehegidpamldaaGreatDoor
open Go Go.RowKit Go.Shelf
end Go.Proofs.YthehegidpamldaaGreatDoor
set_option linter.unusedVariables false
set_option linter.unusedSimpArgs false
namespace Go.Proofs.YthehegidpamldaaGreatDoor
open Go Go.RowKit
section
variable {P : Program} {X : Cx} {w : World} {F : Nat → Prop} {loc : Nat → Nat × Nat} {s : AS} {a : Act}
end
end Go.Proofs.YthehegidpamldaaGreatDoor
set_option linter.unusedVariables false
set_option linter.unusedSimpArgs false
namespace Go.Proofs.YthehegidpamldaaGreatDoor
open Go Go.RowKit Go.Shelf
end Go.Proofs.YthehegidpamldaaGreatDoor
