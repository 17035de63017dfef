/- Nets: net.Check: the first fault. Conditions: what slices may hold; numbers of at most 10^7 bytes. -/
import Derived.Test.YthehegidpamldaaGreatDoorZB15
import Derived.Test.YthehegidpamldaaGreatDoorZB16
import Derived.Test.YthehegidpamldaaGreatDoorZB17
import Derived.Test.YthehegidpamldaaGreatDoorZB13
import Derived.Lib.SlicesCompact
import Derived.Test.YthehegidpamldaaGreatDoorZRefOne
import Derived.Test.YthehegidpamldaaGreatDoorZB12
import Derived.Test.YthehegidpamldaaGreatDoorZB09
set_option linter.unusedVariables false
set_option linter.unusedSimpArgs false
namespace Go.Proofs.YthehegidpamldaaGreatDoor
open Go Go.RowKit
structure NetOk (k : Nat) (V : List VarD) (P : List (List Int)) (RR : List FV) (M : List (List Rat)) : Prop where
  lV : V.length ≤ 1000000
  nm : ∀ x ∈ V, x.1.size ≤ 140737488355328
  vl : ∀ x ∈ V, x.2.length ≤ 1000000
  vs : ∀ x ∈ V, ∀ s ∈ x.2, s.size ≤ 140737488355328
  hP : OkIss P
  hM : FrM k RR M
  k1 : 1 ≤ k
  kk : k ≤ 10000000
  rl : ∀ r ∈ M, r.length ≤ 1000000
section
variable {k : Nat} {V : List VarD} {P : List (List Int)} {RR : List FV} {M : List (List Rat)}
theorem ordE_lists (h:ordE P=0):listsB P=true:=by
 cases hb:listsB P with
 | true=>rfl
 | false=>rw [(bad_ordL hb).2] at h;exact absurd h (by decide)
theorem varE_sz {x:VarD} (h:varE x=0):1≤x.2.length∧x.2.length≤4:=by
 unfold varE at h
 split at h
 ·assumption
 ·exact absurd h (by decide)
theorem vars_get {v:Nat} (h:v<V.length):varsE V v=varE V[v]:=by unfold varsE;rw [lget_lt V _ h]
theorem net_okT (ho:ordE P=0) (hl:P.length=V.length) (hv:fe (varsE V) V.length=0) {v:Nat} (hvl:v<V.length):OkT (szN V) (paN P v)∧(P.map ints)[v]?=some (.fz 1 (Ns (paN P v))):=by
 obtain ⟨⟨h1,h8⟩,hn⟩:=listsB_iff.1 (ordE_lists ho)
 have hb:=hn v (by omega)
 unfold nodeB at hb
 rw [Bool.and_eq_true] at hb
 obtain ⟨hp,hm⟩:=pwT.1 hb.1
 have hnat:(paN P v).map Int.ofNat=P.getD v []:=natOf fun x hx=>(hm x hx).1
 have hsz:∀n∈szN V,1≤n∧n≤4:=fun n hn=>by
  unfold szN at hn
  obtain ⟨x,hx,rfl⟩:=List.mem_map.1 hn
  obtain ⟨i,hi,rfl⟩:=List.getElem_of_mem hx
  have:=fe_zero.1 hv i hi
  rw [vars_get hi] at this
  exact varE_sz this
 refine ⟨⟨by rw [szN_len];omega,by rw [szN_len];omega,fun n hn=>(hsz n hn).1,fun n hn=>(hsz n hn).2,?_,?_⟩,?_⟩
 ·unfold paN
  rw [List.pairwise_map]
  refine List.Pairwise.imp_of_mem (fun {a b} ha hb hab=>?_) hp
  have:=hm a ha;have:=hm b hb;omega
 ·intro u hu
  obtain ⟨x,hx,rfl⟩:=List.mem_map.1 hu
  have:=hm x hx;rw [szN_len];omega
 ·rw [map_get ints P (by omega),←ints_Ns,hnat,lget_lt P _ (by omega)]
theorem nm_take {x:Nat} (hx:x<V.length):((V.take x).map Prod.fst).map St++[St V[x].1]=((V.take (x+1)).map Prod.fst).map St:=by
 rw [List.take_add_one,List.getElem?_eq_getElem hx,List.map_append,List.map_append];rfl
set_option maxRecDepth 100000 in
set_option maxHeartbeats 8000000 in
theorem netCheck_w (h:NetOk k V P RR M):Good Tryz.prog 13 [netV V (P.map ints) RR] (I (netE (ordE P) V P M)):=by
 have hlV:=h.lV
 have hRM:=h.hM.len
 by_cases hPV:P.length=V.length
 rotate_left
 ·have e:netE (ordE P) V P M=8:=by unfold netE;rw [if_neg fun hh=>hPV hh.1]
  have hd:decide ((P.length:Int)=(V.length:Int))=false:=decide_eq_false (by omega)
  refine good_of Tryz.func13 rfl (by kernel_rfl) fun X hO hrd=>?_;rw [Tryz.ntmps13,Tryz.results13];simp only [ast0,List.map_cons,List.map_nil,List.length_cons,List.length_nil,Nat.reduceAdd,Nat.reduceSub,List.replicate_succ,List.replicate_zero,List.cons_append,List.nil_append]
  (repeat (with_reducible first|refine W_seq fun K hK=>?_|refine J_ret ?_|refine J_region ?_ |refine J_c ?_|refine Jc_true ?_|(refine Kont.go (by assumption) ?_)|(simp (config:={ maxSteps:=3000000 }) (disch:=omega) only [go_sem,↓reduceIte,Nat.reduceAdd,List.length_map,hd])))
  rw [e];exact Frz.f _
 have hd:decide ((P.length:Int)=(V.length:Int))=true:=decide_eq_true (by omega)
 by_cases hMV:M.length=V.length
 rotate_left
 ·have e:netE (ordE P) V P M=8:=by unfold netE;rw [if_neg fun hh=>hMV hh.2]
  have hd2:decide ((RR.length:Int)=(V.length:Int))=false:=decide_eq_false (by omega)
  refine good_of Tryz.func13 rfl (by kernel_rfl) fun X hO hrd=>?_;rw [Tryz.ntmps13,Tryz.results13];simp only [ast0,List.map_cons,List.map_nil,List.length_cons,List.length_nil,Nat.reduceAdd,Nat.reduceSub,List.replicate_succ,List.replicate_zero,List.cons_append,List.nil_append]
  (repeat (with_reducible first|refine W_seq fun K hK=>?_|refine J_ret ?_|refine J_region ?_ |refine J_c ?_|refine Jc_true ?_|(refine Kont.go (by assumption) ?_)|(simp (config:={ maxSteps:=3000000 }) (disch:=omega) only [go_sem,↓reduceIte,Nat.reduceAdd,List.length_map,hd,hd2])))
  rw [e];exact Frz.f _
 have hd2:decide ((RR.length:Int)=(V.length:Int))=true:=decide_eq_true (by omega)
 have hgc:=check_w2 P h.hP
 have e1:netE (ordE P) V P M=if ordE P=0 then (if namesE (V.map Prod.fst)=0 then (if fe (varsE V) V.length=0 then fe (rowsE V P M) V.length else fe (varsE V) V.length) else namesE (V.map Prod.fst)) else ordE P:=by unfold netE;rw [if_pos ⟨hPV,hMV⟩]
 by_cases hE:ordE P=0
 rotate_left
 ·rw [if_neg hE] at e1
  have hd3:decide (ordE P=0)=false:=decide_eq_false hE
  refine good_of Tryz.func13 rfl (by kernel_rfl) fun X hO hrd=>?_;rw [Tryz.ntmps13,Tryz.results13];simp only [ast0,List.map_cons,List.map_nil,List.length_cons,List.length_nil,Nat.reduceAdd,Nat.reduceSub,List.replicate_succ,List.replicate_zero,List.cons_append,List.nil_append]
  (repeat (with_reducible first|refine W_seq fun K hK=>?_|refine J_skip ?_|refine J_region ?_ |refine J_c ?_|refine Jc_false ?_|(refine Kont.go (by assumption) ?_)|(simp (config:={ maxSteps:=3000000 }) (disch:=omega) only [go_sem,↓reduceIte,Nat.reduceAdd,List.length_map,hd,hd2])))
  (first|refine call_f (hgc) rfl ?_|refine callQ_f (hgc) rfl ?_|refine callHK_f (hgc) rfl ?_|refine callH_f (hgc) rfl ?_)
  (repeat (with_reducible first|refine W_seq fun K hK=>?_|refine J_ret ?_|refine J_region ?_ |refine J_c ?_|refine Jc_true ?_|(refine Kont.go (by assumption) ?_)|(simp (config:={ maxSteps:=3000000 }) (disch:=omega) only [go_sem,hd3])))
  rw [e1];exact Frz.f _
 rw [if_pos hE] at e1
 have hd3:decide (ordE P=0)=true:=decide_eq_true hE
 refine good_of Tryz.func13 rfl (by kernel_rfl) fun X hO hrd=>?_;rw [Tryz.ntmps13,Tryz.results13];simp only [ast0,List.map_cons,List.map_nil,List.length_cons,List.length_nil,Nat.reduceAdd,Nat.reduceSub,List.replicate_succ,List.replicate_zero,List.cons_append,List.nil_append]
 (repeat (with_reducible first|refine W_seq fun K hK=>?_|refine J_skip ?_|refine J_region ?_ |refine J_c ?_|refine Jc_false ?_|(refine Kont.go (by assumption) ?_)|(simp (config:={ maxSteps:=3000000 }) (disch:=omega) only [go_sem,↓reduceIte,Nat.reduceAdd,List.length_map,hd,hd2])))
 (first|refine call_f (hgc) rfl ?_|refine callQ_f (hgc) rfl ?_|refine callHK_f (hgc) rfl ?_|refine callH_f (hgc) rfl ?_)
 (repeat (with_reducible first|refine W_seq fun K hK=>?_|refine J_block ?_|refine J_skip ?_|refine J_region ?_ |refine J_c ?_|refine Jc_false ?_|(refine Kont.go (by assumption) ?_)|(simp (config:={ maxSteps:=3000000 }) (disch:=omega) only [go_sem,↓reduceIte,hd3,List.length_map])))
 refine J_reserve ?_
 refine W_loop [4,6,38,39,40,41,42,43,44,45,46,47] (fun x:Nat=>[(4,sl 1 1 (((V.take x).map Prod.fst).map St)),(38,.f (I x))]) (fun x:Nat=>[oNt (V.map varF) (P.map ints) RR,ob 9 1 (((V.take x).map Prod.fst).map St)]) (fun x:Nat=>x≤V.length) (fun x:Nat=>V.length-x) (0) (Nat.zero_le _) (by refine weak_of ?_ ?_<;>simp (disch:=omega) only [go_sem,Nat.reduceAdd]<;>first|rfl|exact ⟨rfl,rfl⟩|exact Or.inl rfl|exact ⟨Or.inl rfl,Or.inl rfl⟩|trivial|assumption|omega|(symm;assumption)|((repeat' apply And.intro)<;>first|rfl|omega|trivial|exact .inl rfl|exact .inr ⟨rfl,rfl⟩|exact .inr rfl|(right;symm;assumption)|(symm;assumption)|assumption)) ?_
 ·rintro x hx
  simp only [go_sem]
  (repeat (with_reducible first|refine W_seq fun K hK=>?_|refine J_region ?_ |refine J_c ?_|(refine Kont.go (by assumption) ?_)|(simp (config:={ maxSteps:=3000000 }) (disch:=omega) only [go_sem])))
  refine Jc_if (fun hxl=>?_) (fun hxl=>?_)<;>try simp only [decide_eq_true_eq,decide_eq_false_iff_not] at hxl
  ·have gx:=map_get varF V hxl
   have hs:=nm_take hxl
   have hl:(((V.take x).map Prod.fst).map St).length=x:=by rw [List.length_map,List.length_map,List.length_take];omega
   have hb:((V.take x).length+1)*16≤140737488355328:=by rw [List.length_take];omega
   have hvf:varF V[x]=.agg [St V[x].1,.fz 1 (V[x].2.map St)]:=rfl
   rw [hvf] at gx
   (repeat (first|(with_reducible first|refine W_seq fun K hK=>?_|refine J_block ?_|refine J_skip ?_|refine J_region ?_ |refine aApp_sl ?_|(refine Kont.go (by assumption) ?_)|(simp (config:={ maxSteps:=3000000 }) (disch:=omega) only [go_sem,Nat.reduceEqDiff,↓reduceIte,Nat.reduceAdd,Nat.reduceLeDiff,gx,List.length_map,hs,hb]))|refine And.intro (by omega) ?_))
   refine ⟨x+1,by omega,by omega,weak_of ?_ ?_⟩<;>(try simp (disch:=omega) only [go_sem,Nat.reduceAdd])<;>(try first|done|omega|rfl|exact ⟨rfl,rfl⟩|trivial)
  ·have he:x=V.length:=by omega
   subst he
   rw [List.take_length]
   (repeat (with_reducible first|refine W_seq fun K hK=>?_|refine J_exit ?_|(refine Kont.go (by assumption) ?_)|(simp (config:={ maxSteps:=3000000 }) (disch:=omega) only [go_sem,↓reduceIte])))
   refine J_freeze (j:=4) rfl rfl ?_
   have hnm:=names_w (V.map Prod.fst) (by rw [List.length_map];exact hlV) (fun s hs=>by
    obtain ⟨x,hx,rfl⟩:=List.mem_map.1 hs
    exact h.nm x hx)
   (repeat (with_reducible first|refine J_region ?_ |(simp (config:={ maxSteps:=3000000 }) (disch:=omega) only [go_sem,Nat.reduceEqDiff,↓reduceIte])))
   (first|refine call_f (hnm) rfl ?_|refine callQ_f (hnm) rfl ?_|refine callHK_f (hnm) rfl ?_|refine callH_f (hnm) rfl ?_)
   by_cases hN:namesE (V.map Prod.fst)=0
   rotate_left
   ·rw [if_neg hN] at e1
    have hd4:decide (namesE (V.map Prod.fst)=0)=false:=decide_eq_false hN
    (repeat (with_reducible first|refine W_seq fun K hK=>?_|refine J_ret ?_|refine J_region ?_ |refine J_c ?_|refine Jc_true ?_|(refine Kont.go (by assumption) ?_)|(simp (config:={ maxSteps:=3000000 }) (disch:=omega) only [go_sem,hd4])))
    rw [e1];exact Frz.f _
   rw [if_pos hN] at e1
   have hd4:decide (namesE (V.map Prod.fst)=0)=true:=decide_eq_true hN
   (repeat (with_reducible first|refine W_seq fun K hK=>?_|refine J_block ?_|refine J_skip ?_|refine J_region ?_ |refine J_c ?_|refine Jc_false ?_|(refine Kont.go (by assumption) ?_)|(simp (config:={ maxSteps:=3000000 }) (disch:=omega) only [go_sem,↓reduceIte,hd4,List.length_map])))
   refine W_loop [2,9,10,56,57,58,59,60,61,62,63,64,65,66,67,68,69,70,71,72,73,74,75,76] (fun x:Nat=>[(56,.f (I x))]) (fun x:Nat=>[oNt (V.map varF) (P.map ints) RR,none]) (fun x:Nat=>x≤V.length∧fe (varsE V) x=0) (fun x:Nat=>V.length-x) (0) (⟨Nat.zero_le _,rfl⟩) (by refine weak_of ?_ ?_<;>simp (disch:=omega) only [go_sem,Nat.reduceAdd]<;>first|rfl|exact ⟨rfl,rfl⟩|exact Or.inl rfl|exact ⟨Or.inl rfl,Or.inl rfl⟩|trivial|assumption|omega|(symm;assumption)|((repeat' apply And.intro)<;>first|rfl|omega|trivial|exact .inl rfl|exact .inr ⟨rfl,rfl⟩|exact .inr rfl|(right;symm;assumption)|(symm;assumption)|assumption)) ?_
   rintro x ⟨hx,hf⟩
   simp only [go_sem]
   (repeat (with_reducible first|refine W_seq fun K hK=>?_|refine J_region ?_ |refine J_c ?_|(refine Kont.go (by assumption) ?_)|(simp (config:={ maxSteps:=3000000 }) (disch:=omega) only [go_sem])))
   refine Jc_if (fun hxl=>?_) (fun hxl=>?_)<;>try simp only [decide_eq_true_eq,decide_eq_false_iff_not] at hxl
   ·have gx:=map_get varF V hxl
    have hvf:varF V[x]=.agg [St V[x].1,.fz 1 (V[x].2.map St)]:=rfl
    have hm:=List.getElem_mem hxl
    rw [hvf] at gx
    have hvn:=names_w V[x].2 (h.vl _ hm) (h.vs _ hm)
    have gv:=vars_get hxl
    have bad:∀e:Int,varE V[x]=e→e≠0→netE (ordE P) V P M=e:=fun e h1 h2=>by
     have h3:fe (varsE V) V.length=e:=by rw [fe_at hf (by rw [gv,h1];exact h2) hxl,gv,h1]
     rw [e1,h3,if_neg h2]
    by_cases hb1:V[x].2.length<1
    ·have e:=bad 2 (by unfold varE;rw [if_neg (by omega)]) (by decide)
     have hb:((V[x].2.length:Nat):Int)<1:=by omega
     (repeat (with_reducible first|refine W_seq fun K hK=>?_|refine J_block ?_|refine J_skip ?_|refine J_ret ?_|refine J_region ?_ |refine J_c ?_|refine Jc_true ?_|(refine Kont.go (by assumption) ?_)|(simp (config:={ maxSteps:=3000000 }) (disch:=omega) only [go_sem,↓reduceIte,Nat.reduceAdd,gx,List.length_map,hb])))
     rw [e];exact Frz.f _
    have hb1':¬((V[x].2.length:Nat):Int)<1:=by omega
    by_cases hb4:4<V[x].2.length
    ·have e:=bad 2 (by unfold varE;rw [if_neg (by omega)]) (by decide)
     have hb:4<((V[x].2.length:Nat):Int):=by omega
     (repeat (with_reducible first|refine W_seq fun K hK=>?_|refine J_block ?_|refine J_skip ?_|refine J_ret ?_|refine J_region ?_ |refine J_c ?_|refine Jc_true ?_|(refine Kont.go (by assumption) ?_)|(simp (config:={ maxSteps:=3000000 }) (disch:=omega) only [go_sem,↓reduceIte,Nat.reduceAdd,gx,List.length_map,hb1',hb])))
     rw [e];exact Frz.f _
    have hb4':¬4<((V[x].2.length:Nat):Int):=by omega
    have ev:varE V[x]=namesE V[x].2:=by unfold varE;rw [if_pos (by omega)]
    (repeat (with_reducible first|refine W_seq fun K hK=>?_|refine J_block ?_|refine J_skip ?_|refine J_region ?_ |refine J_c ?_|refine Jc_false ?_|(refine Kont.go (by assumption) ?_)|(simp (config:={ maxSteps:=3000000 }) (disch:=omega) only [go_sem,↓reduceIte,Nat.reduceAdd,gx,List.length_map,hb1',hb4'])))
    (first|refine call_f (hvn) rfl ?_|refine callQ_f (hvn) rfl ?_|refine callHK_f (hvn) rfl ?_|refine callH_f (hvn) rfl ?_)
    by_cases hN2:namesE V[x].2=0
    ·have hd5:decide (namesE V[x].2=0)=true:=decide_eq_true hN2
     (repeat (with_reducible first|refine W_seq fun K hK=>?_|refine J_skip ?_|refine J_region ?_ |refine J_c ?_|refine Jc_false ?_|(refine Kont.go (by assumption) ?_)|(simp (config:={ maxSteps:=3000000 }) (disch:=omega) only [go_sem,hd5])))
     refine ⟨x+1,⟨by omega,by rw [fe_next hf,gv,ev];exact hN2⟩,by omega,weak_of ?_ ?_⟩<;>(try simp (disch:=omega) only [go_sem,Nat.reduceAdd])<;>(try first|done|omega|rfl|exact ⟨rfl,rfl⟩|trivial)
    ·have hd5:decide (namesE V[x].2=0)=false:=decide_eq_false hN2
     have e:=bad _ ev hN2
     (repeat (with_reducible first|refine W_seq fun K hK=>?_|refine J_ret ?_|refine J_region ?_ |refine J_c ?_|refine Jc_true ?_|(refine Kont.go (by assumption) ?_)|(simp (config:={ maxSteps:=3000000 }) (disch:=omega) only [go_sem,hd5])))
     rw [e];exact Frz.f _
   ·have he:x=V.length:=by omega
    subst he
    rw [if_pos hf] at e1
    (repeat (with_reducible first|refine W_seq fun K hK=>?_|refine J_block ?_|refine J_exit ?_|refine J_region ?_ |(refine Kont.go (by assumption) ?_)|(simp (config:={ maxSteps:=3000000 }) (disch:=omega) only [go_sem,↓reduceIte,List.length_map])))
    refine W_loop [2,11,12,80,81,82,83,84,85,86,87,88,89] (fun y:Nat=>[(80,.f (I y))]) (fun y:Nat=>[oNt (V.map varF) (P.map ints) RR,none]) (fun y:Nat=>y≤V.length∧fe (rowsE V P M) y=0) (fun y:Nat=>V.length-y) (0) (⟨Nat.zero_le _,rfl⟩) (by refine weak_of ?_ ?_<;>simp (disch:=omega) only [go_sem,Nat.reduceAdd]<;>first|rfl|exact ⟨rfl,rfl⟩|exact Or.inl rfl|exact ⟨Or.inl rfl,Or.inl rfl⟩|trivial|assumption|omega|(symm;assumption)|((repeat' apply And.intro)<;>first|rfl|omega|trivial|exact .inl rfl|exact .inr ⟨rfl,rfl⟩|exact .inr rfl|(right;symm;assumption)|(symm;assumption)|assumption)) ?_
    rintro y ⟨hy,hfy⟩
    simp only [go_sem]
    (repeat (with_reducible first|refine W_seq fun K hK=>?_|refine J_region ?_ |refine J_c ?_|(refine Kont.go (by assumption) ?_)|(simp (config:={ maxSteps:=3000000 }) (disch:=omega) only [go_sem])))
    refine Jc_if (fun hyl=>?_) (fun hyl=>?_)<;>try simp only [decide_eq_true_eq,decide_eq_false_iff_not] at hyl
    ·obtain ⟨hT,hp⟩:=net_okT hE hPV hf hyl
     obtain ⟨xs,hr,hq⟩:=h.hM.at (i:=y) (by omega)
     have hrw:=rows_w hlV hT hyl hp hr hq h.k1 h.kk (h.rl _ (List.getElem_mem _))
     have er:rowsE V P M y=rowQ (szN V) (paN P y) (szT (szN V) y) M[y]:=by unfold rowsE;rw [lget_lt M _ (by omega)]
     rw [←er] at hrw
     (repeat (with_reducible first|refine W_seq fun K hK=>?_|refine J_block ?_|refine J_skip ?_|refine J_region ?_ |(refine Kont.go (by assumption) ?_)|(simp (config:={ maxSteps:=3000000 }) (disch:=omega) only [go_sem,↓reduceIte,Nat.reduceAdd])))
     (first|refine call_f (hrw) rfl ?_|refine callQ_f (hrw) rfl ?_|refine callHK_f (hrw) rfl ?_|refine callH_f (hrw) rfl ?_)
     by_cases hN3:rowsE V P M y=0
     ·have hd6:decide (rowsE V P M y=0)=true:=decide_eq_true hN3
      (repeat (with_reducible first|refine W_seq fun K hK=>?_|refine J_skip ?_|refine J_region ?_ |refine J_c ?_|refine Jc_false ?_|(refine Kont.go (by assumption) ?_)|(simp (config:={ maxSteps:=3000000 }) (disch:=omega) only [go_sem,hd6])))
      refine ⟨y+1,⟨by omega,by rw [fe_next hfy];exact hN3⟩,by omega,weak_of ?_ ?_⟩<;>(try simp (disch:=omega) only [go_sem,Nat.reduceAdd])<;>(try first|done|omega|rfl|exact ⟨rfl,rfl⟩|trivial)
     ·have hd6:decide (rowsE V P M y=0)=false:=decide_eq_false hN3
      have e:netE (ordE P) V P M=rowsE V P M y:=by rw [e1,fe_at hfy hN3 hyl]
      (repeat (with_reducible first|refine W_seq fun K hK=>?_|refine J_ret ?_|refine J_region ?_ |refine J_c ?_|refine Jc_true ?_|(refine Kont.go (by assumption) ?_)|(simp (config:={ maxSteps:=3000000 }) (disch:=omega) only [go_sem,hd6])))
      rw [e];exact Frz.f _
    ·have he:y=V.length:=by omega
     subst he
     rw [hfy] at e1
     (repeat (with_reducible first|refine W_seq fun K hK=>?_|refine J_exit ?_|refine J_ret ?_|refine J_region ?_ |(refine Kont.go (by assumption) ?_)|(simp (config:={ maxSteps:=3000000 }) (disch:=omega) only [go_sem,↓reduceIte])))
     rw [e1];exact Frz.f _
end
end Go.Proofs.YthehegidpamldaaGreatDoor
set_option linter.unusedVariables false
set_option linter.unusedSimpArgs false
namespace Go.Proofs.YthehegidpamldaaGreatDoor
open Go Go.RowKit
theorem sorted_extI:∀{l m:List Int},l.Pairwise (·< ·)→m.Pairwise (·< ·)→(∀x,x∈l↔x∈m)→l=m:=by
 intro l
 induction l with
 | nil =>
  intro m _ _ h
  cases m with
  | nil=>rfl
  | cons b m=>exact absurd ((h b).2 (by simp)) (by simp)
 | cons a l ih =>
  intro m hl hm h
  cases m with
  | nil=>exact absurd ((h a).1 (by simp)) (by simp)
  | cons b m =>
   obtain ⟨l1,l2⟩:=List.pairwise_cons.1 hl
   obtain ⟨m1,m2⟩:=List.pairwise_cons.1 hm
   have e:a=b:=by
    rcases List.mem_cons.1 ((h a).1 (by simp)) with e|h1
    ·exact e
    ·rcases List.mem_cons.1 ((h b).2 (by simp)) with e|h2
     ·exact e.symm
     ·have:=l1 b h2;have:=m1 a h1;omega
   subst e
   rw [ih l2 m2 fun x=>?_]
   refine ⟨fun hx=>?_,fun hx=>?_⟩
   ·rcases List.mem_cons.1 ((h x).1 (by simp [hx])) with e|h1
    ·have:=l1 x hx;omega
    ·exact h1
   ·rcases List.mem_cons.1 ((h x).2 (by simp [hx])) with e|h1
    ·have:=m1 x hx;omega
    ·exact h1
def srtT (l:List Int):List Int:=l.mergeSort fun x y=>decide (x≤y)
theorem srtT_le (l:List Int):(srtT l).Pairwise (·≤ ·):=by
 have:=List.pairwise_mergeSort (le:=fun x y:Int=>decide (x≤y)) (fun a b c h1 h2=>by simp only [decide_eq_true_eq] at *;omega) (fun a b=>by simp only [Bool.or_eq_true,decide_eq_true_eq];omega) l
 exact this.imp fun h=>by simpa using h
end Go.Proofs.YthehegidpamldaaGreatDoor
set_option linter.unusedVariables false
set_option linter.unusedSimpArgs false
namespace Go.Proofs.YthehegidpamldaaGreatDoor
open Go Go.RowKit
def famT (n:Nat) (pa:List Nat) (v:Nat):List Nat:=uniT n pa [v]
def rowG (Z pa:List Nat) (v:Nat) (qs:List Rat) (a:Nat→Nat):Rat:=qs.getD (idxS (szT Z) a (pa++[v])) 0
def givQ (Z pa:List Nat) (v:Nat) (qs:List Rat):List Rat:=tblS (szT Z) (famT Z.length pa v) (rowG Z pa v qs)
structure VarG (V : List VarD) (P : List (List Int)) (M : List (List Rat)) (v : Nat) : Prop where
  ok : OkT (szN V) (paN P v)
  get : (P.map ints)[v]? = some (.fz 1 (Ns (paN P v)))
  out : v ∉ paN P v
  ml : v < M.length
  len : (M.getD v []).length = cntS (szT (szN V)) (paN P v) * szT (szN V) v
  ch : ∀ j, j < cntS (szT (szN V)) (paN P v) → chancesB (rwQ (M.getD v []) (szT (szN V) v) j) = true
section
variable {V : List VarD} {P : List (List Int)} {M : List (List Rat)} {v : Nat}
theorem netE_zero (h:netE (ordE P) V P M=0):(P.length=V.length∧M.length=V.length)∧ordE P=0∧namesE (V.map Prod.fst)=0∧fe (varsE V) V.length=0∧fe (rowsE V P M) V.length=0:=by
 unfold netE at h
 split at h
 ·rename_i h1
  split at h
  ·rename_i h2
   split at h
   ·rename_i h3
    split at h
    ·rename_i h4
     exact ⟨h1,h2,h3,h4,h⟩
    ·contradiction
   ·contradiction
  ·contradiction
 ·exact absurd h (by decide)
theorem netG (h:netE (ordE P) V P M=0) (hv:v<V.length):VarG V P M v:=by
 obtain ⟨⟨hP,hM⟩,hE,_,hF,hR⟩:=netE_zero h
 obtain ⟨hT,hg⟩:=net_okT hE hP hF hv
 have hr:=fe_zero.1 hR v hv
 unfold rowsE rowQ at hr
 split at hr
 ·rename_i hl
  split at hr
  ·rename_i hc
   refine ⟨hT,hg,fun hm=>?_,by omega,hl,fun j hj=>List.all_eq_true.1 hc j (List.mem_range.2 hj)⟩
   obtain ⟨x,hx,e⟩:=List.mem_map.1 hm
   have hb:=ordE_lists hE
   obtain ⟨hr1,hr2,_⟩:=ok_node hb (v:=v) (by omega)
   obtain ⟨⟨_,h8⟩,_⟩:=listsB_iff.1 hb
   rw [lget_lt P [] (by omega)] at hx
   have h0:=(pwT.1 hr1).2 x hx
   have hI:I x∈Ns (els (setI P[v])):=by rw [←ris_els h8 hr1];exact List.mem_map.2 ⟨x,hx,rfl⟩
   obtain ⟨u,hu,eu⟩:=List.mem_map.1 hI
   have ex:x=(u:Int):=by injection eu with e1;injection e1 with _ e2;exact e2.symm
   have:u=v:=by omega
   subst this
   rw [(els_mem.1 hu).2] at hr2
   cases hr2
  ·exact absurd hr (by decide)
 ·exact absurd hr (by decide)
end
section
variable {Z pa : List Nat} {v n : Nat} {qs : List Rat} {a : Nat → Nat}
theorem mem_famT {u:Nat}:u∈famT n pa v↔u<n∧(u∈pa∨u=v):=by unfold famT;rw [mem_uniT];simp
theorem OkT.fam (h:OkT Z pa):OkT Z (famT Z.length pa v):=h.uni
theorem fam_sort (h:OkT Z pa) (hv:v<Z.length) (hn:v∉pa):srtT (pa.map Int.ofNat++[(v:Int)])=(famT Z.length pa v).map Int.ofNat:=by
 obtain ⟨zs,hz⟩:∃zs,zs=srtT (pa.map Int.ofNat++[(v:Int)]):=⟨_,rfl⟩
 have hm:∀x,x∈zs↔x∈pa.map Int.ofNat++[(v:Int)]:=fun x=>by rw [hz];exact List.mem_mergeSort
 have hs:zs.Pairwise (·≤ ·):=by rw [hz];exact srtT_le _
 have hnd:(pa.map Int.ofNat++[(v:Int)]).Nodup:=by
  rw [List.nodup_append]
  refine ⟨?_,by simp,fun x hx y hy e=>?_⟩
  ·unfold List.Nodup
   rw [List.pairwise_map]
   exact List.Pairwise.imp (fun {a b} hab e=>by have:a=b:=Int.ofNat.inj e;omega) h.ris
  ·obtain ⟨u,hu,rfl⟩:=List.mem_map.1 hx
   rw [List.mem_singleton] at hy
   subst hy
   exact hn (Int.ofNat.inj e▸hu)
 have hnz:zs.Nodup:=by rw [hz];exact (List.mergeSort_perm _ _).nodup_iff.2 hnd
 rw [←hz]
 refine sorted_extI ?_ ?_ fun x=>?_
 ·exact (List.Pairwise.and hs hnz).imp fun {a b} hab=>by have:=hab.2;have:=hab.1;omega
 ·rw [List.pairwise_map]
  exact List.Pairwise.imp (fun {a b} hab=>by show (a:Int)<(b:Int);omega) h.fam.ris
 ·rw [hm,List.mem_append,List.mem_map,List.mem_map,List.mem_singleton]
  constructor
  ·rintro (⟨u,hu,rfl⟩|rfl)
   ·exact ⟨u,mem_famT.2 ⟨h.lt u hu,.inl hu⟩,rfl⟩
   ·exact ⟨v,mem_famT.2 ⟨hv,.inr rfl⟩,rfl⟩
  ·rintro ⟨u,hu,rfl⟩
   rcases (mem_famT.1 hu).2 with h1|h1
   ·exact .inl ⟨u,h1,rfl⟩
   ·exact .inr (by rw [h1];rfl)
theorem row_lt (ha:∀u∈pa,a u<szT Z u) (hav:a v<szT Z v):idxS (szT Z) a (pa++[v])<cntS (szT Z) pa*szT Z v:=by
 have h1:=idxS_lt (S:=szT Z) (a:=a) (l:=pa++[v]) fun u hu=>(List.mem_append.1 hu).elim (ha u) fun h=>by rw [List.mem_singleton.1 h];exact hav
 rw [cntS_app] at h1
 have:cntS (szT Z) [v]=szT Z v:=Nat.mul_one _
 rwa [this] at h1
end
end Go.Proofs.YthehegidpamldaaGreatDoor
set_option linter.unusedVariables false
set_option linter.unusedSimpArgs false
namespace Go.Proofs.YthehegidpamldaaGreatDoor
open Go Go.RowKit
set_option maxRecDepth 100000 in
set_option maxHeartbeats 1000000 in
theorem rtext_any (a:ByteArray) (w:World) (ha:a.size≤137438953472) :
  Calls Tryz.prog 59 #[.string a] w (RetStr w (textOf (vn a))):=by
 have HT:=fun w=>rtrim_any a w (by unfold maxLen;omega)
 have hsa:=ns_size_le a
 have hdl:=dec_le (vn a) _ (vn_lt a)
 generalize vn a=x at *
 have G1:=Lib.hid HT
 clear HT
 by_cases hx:x=0
 ·subst hx
  have n1:=toList_nil (ns 0) (by rw [ns_zero];rfl)
  have H:Hid (textOf 0=[48]):=rfl
  go_enter Tryz.func59,Tryz.ntmps59
  go_wp2_with fail
  refine (G1.out _).mono ?_;rintro e w' ⟨rfl,rfl⟩
  go_wp2_with fail
  go_ret
  exact ⟨by rw [H.out];rfl,Below.refl _ _⟩
 ·have n1:=toList_ne (ns x) (ns_pos_size hx)
  have n2:=isEmpty_false (ns x) (ns_pos_size hx)
  have H:Hid (textOf x=dec x):=by rw [Hid,textOf,if_neg hx]
  rw [H.out]
  clear hx
  go_enter Tryz.func59,Tryz.ntmps59
  go_wp2_with fail
  refine (G1.out _).mono ?_;rintro e w' ⟨rfl,rfl⟩
  go_wp2_with fail
  go_loopw [0,3] (fun u v wr=>∃(q:Nat) (t:List UInt8),u=.string (ns q)∧(ns q).size≤137438953472∧v=.string ⟨t.toArray⟩∧dec x=dec q++t∧Below w.heap.size w wr) (fun u _ _=>vn (strOf u))
  case atStart=>exact ⟨x,[],rfl,by omega,rfl,by simp,Below.refl _ _⟩
  case round =>
   obtain ⟨q,t,rfl,hq,rfl,hd,hbr⟩:=hrel
   clear n1 n2
   by_cases h0:q=0
   ·subst h0
    have n1:=toList_nil (ns 0) (by rw [ns_zero];rfl)
    have HD:Hid (dec x=t):=by rw [Hid,hd,dec_zero];rfl
    clear hd
    go_wp2_with fail
    go_ret
    exact ⟨by rw [HD.out];rfl,hbr⟩
   ·have n1:=toList_ne (ns q) (ns_pos_size h0)
    have n2:=isEmpty_false (ns q) (ns_pos_size h0)
    have n3:(!(ns q).toList.isEmpty)=true:=by rw [n2];rfl
    have hv10:vn ⟨#[10]⟩=10:=by decide
    have hdv:=rdiv_any (ns q) ⟨#[10]⟩ wr hq (by show (1:Nat)≤_;omega) (by rw [hv10];omega)
    rw [vn_ns,hv10] at hdv
    have hdg:=fun w=>digit_any (ns (q%10)) 0 w (by have:=nb_length_lt (n:=q%10) (k:=1) (by omega);rw [ns_size];unfold maxLen;omega) (by omega)
    rw [vn_ns,Nat.pow_zero,Nat.div_one,Nat.mod_eq_of_lt (a:=q%10) (by omega)] at hdg
    have hdec:=dec_pos q h0
    have hr:q%10<10:=Nat.mod_lt _ (by omega)
    have hqs:(ns (q/10)).size≤(ns q).size:=by rw [ns_size,ns_size];exact nb_mono (by omega)
    have HK:Hid (dec x=dec q++t∧dec q=dec (q/10)++[UInt8.ofNat (48+q%10)]∧q/10<q∧(ns (q/10)).size≤(ns q).size):=⟨hd,hdec,by omega,hqs⟩
    generalize q/10=p at *
    generalize q%10=r at *
    have hcv:=fun w'=>conv_bytes (P:=Tryz.prog) (l:=[UInt8.ofNat (48+r)]) (SliceAt.lit w' 5 1 1 #[.int .u8 ((UInt8.ofNat (48+r)).toNat:Int)] rfl (by decide)) 66 5 9 Tryz.underlying66 Tryz.underlying5 Tryz.underlying9
    have ec:((UInt8.ofNat (48+r)).toNat:Int)=48+(r:Int):=by simp;omega
    simp only [ec] at hcv
    clear ec
    generalize hx:UInt8.ofNat (48+r)=c at hcv HK
    have hlx:(⟨#[c]⟩:ByteArray).size=1:=rfl
    have hlt:(⟨t.toArray⟩:ByteArray).size=t.length:=List.size_toArray
    have htl:t.length≤3*a.size:=by rw [hd,List.length_append] at hdl;omega
    clear hdl
    have G2:=Lib.hid hdv
    have G3:=Lib.hid hdg
    clear hdv hdg hdec hqs hd hv10 hx h0
    go_wp2_with fail
    refine G2.out.mono ?_;rintro e w1 ⟨rfl,hb1⟩
    go_wp2_with fail
    refine (G3.out _).mono ?_;rintro e w' ⟨rfl,rfl⟩
    go_wp2_with fail
    obtain ⟨k1,k2,k3,k4⟩:=HK.out
    refine ⟨⟨p,c::t,rfl,by omega,by apply congrArg;apply bytes_ext;simp,by rw [k1,k2];simp,(hbr.trans (hb1.mono hbr.size)).alloc (Nat.le_trans hbr.size hb1.size) _⟩,?_⟩
    simp only [strOf,vn_ns];exact k3
def dgt (k:Nat):ByteArray:=⟨#[UInt8.ofNat (48+k)]⟩
theorem textOf_dgt {k:Nat} (h:k≤9):(⟨(textOf k).toArray⟩:ByteArray)=dgt k:=by
 unfold textOf dgt
 by_cases h0:k=0
 ·subst h0;rfl
 ·rw [if_neg h0,dec_pos k h0,show k/10=0 by omega,dec_zero,show k%10=k by omega];rfl
theorem rtext_w {k:Nat} (h:k≤9):Good Tryz.prog 59 [St (ns k)] (St (dgt k)) :=
 good_calls (by kernel_rfl) rfl rfl fun w=>by
  have hs:(ns k).size≤137438953472:=by
   have:=nb_length_lt (n:=k) (k:=1) (by omega)
   rw [ns_size];omega
  have:=rtext_any (ns k) w hs
  rw [vn_ns] at this
  refine this.mono fun e w' hh=>?_
  obtain ⟨h1,h2⟩:=hh
  rw [textOf_dgt h] at h1
  exact ⟨h1,h2⟩
end Go.Proofs.YthehegidpamldaaGreatDoor
set_option linter.unusedVariables false
set_option linter.unusedSimpArgs false
namespace Go.Proofs.YthehegidpamldaaGreatDoor
open Go Go.RowKit
def AV.sim:AV→Bool
 | .f _|.own ..|.ptr ..=>true
 | _=>false
section
variable {P : Program}
theorem Rep.shift {w:World} {F:Nat→Prop} {loc loc':Nat→Nat × Nat} {M N N':Nat} {x:AV} {y:Value} (h:Rep w F loc M x y) (hsim:x.sim=true) (hN:N+M≤N') (hl:∀r,r<M→loc' (N+r)=loc r):Rep w F loc' N' (x.ren (N+·)) y:=by
 cases h with
 | any=>cases hsim
 | one=>cases hsim
 | f x y h=>exact .f x y h
 | agg=>cases hsim
 | tup=>cases hsim
 | own r sz off k cap hr hk hm hs =>
  have:=Rep.own (w:=w) (F:=F) (loc:=loc') (N:=N') (N+r) sz off k cap (by omega) hk hm (by rw [hl r hr];exact hs)
  rwa [hl r hr] at this
 | ptr r sz i j hr =>
  have:=Rep.ptr (w:=w) (F:=F) (loc:=loc') (N:=N') (N+r) sz i j (by omega)
  rwa [hl r hr] at this
 | fn=>cases hsim
end
end Go.Proofs.YthehegidpamldaaGreatDoor
set_option linter.unusedVariables false
set_option linter.unusedSimpArgs false
namespace Go.Proofs.YthehegidpamldaaGreatDoor
open Go Go.RowKit
theorem Frz.grow {H H':List (Option AO)} (hH:∀(r:Nat) o,H[r]?=some (some o)→H'[r]?=some (some o)) {x:AV} {y:FV} (h:Frz H x y):Frz H' x y:=by
 induction h with
 | f x=>exact .f x
 | nil sz=>exact .nil sz
 | agg cs ds hl _ ih=>exact .agg cs ds hl ih
 | tup cs ds hl _ ih=>exact .tup cs ds hl ih
 | own r sz off k o ds ho hs hk hl _ ih=>exact .own r sz off k o ds (hH r o ho) hs hk hl ih
 | ptr r sz i j o e d ho hs he _ ih=>exact .ptr r sz i j o e d (hH r o ho) hs he ih
 | fn f a b a' b' h1 _ h3 _ ih1 ih2=>exact .fn f a b a' b' h1 ih1 h3 ih2
section
variable {w : World} {F : Nat → Prop} {loc loc' : Nat → Nat × Nat} {N N' M : Nat} {x : AV} {y : Value} {q : Nat → Bool}
end
def rvG (e:TypeId) (sz:Nat) (l:List FV):RV:=if l=[] then .f (.v (.slice none 0 0)) else .own e sz l
theorem rvG_rep {w0 w:World} {e:TypeId} {sz:Nat} {l:List FV} {v:Value} (hr:RepR w0 w (rvG e sz l) v):RepF w (fun b=>w0.heap.size≤b∧b<w.heap.size) (.fz sz l) v:=by
 unfold rvG at hr
 split at hr
 ·rename_i hl
  subst hl
  cases hr with
  | f _ _ hf h=>cases h;exact .fz0 _ _ _ (by unfold maxLen;omega)
 ·cases hr with
  | own _ _ _ g cap hbg hk hm hf hu vs hv hs hc =>
   have hg:=(Array.getElem?_eq_some_iff.1 (show w.heap[g]?=some _ from hv)).1
   refine .fz sz l g 0 cap ⟨hbg,hg⟩ hk hm hu (fun j=>vs.getD j undef) (fun j c hj=>?_) (fun j c hj=>?_)
   ·obtain ⟨u,h1,_⟩:=hc j c hj
    show w.cell? ⟨g,0+j,none⟩=some (vs.getD j undef)
    rw [Nat.zero_add]
    unfold World.cell?
    rw [show w.heap[(⟨g,j,none⟩:Addr).block]?=_ from hv]
    simp only [Option.isSome_none,Bool.false_eq_true,if_false]
    rw [h1,Array.getD_eq_getD_getElem?,h1];rfl
   ·obtain ⟨u,h1,h2⟩:=hc j c hj
    show RepF w _ c (vs.getD j undef)
    rw [Array.getD_eq_getD_getElem?,h1]
    exact h2.mono (fun _ h=>h.elim) (fun _ _ _ h=>h.elim)
theorem freshO {P:Program} {f:FuncId} {xs:List FV} {e:TypeId} {sz:Nat} {l:List FV} (h:GoodO P f xs (rvG e sz l)):Fresh P f xs (.fz sz l):=fun w G ys h1 h2 h3 =>
 (h.2 w G ys h1 h2 h3).mono fun e w' ⟨v,he,hb,hr⟩=>⟨v,he,hb,rvG_rep hr⟩
theorem Fresh.good {P:Program} {f:FuncId} {xs:List FV} {r:FV} (h:Fresh P f xs r) (hok:enterOk P f=true):Good P f xs r:=⟨hok,fun w G ys h1 h2 h3 =>
 (h w G ys h1 h2 h3).mono fun e w' ⟨v,he,hb,hr⟩=>⟨v,he,hb,hr.mono (fun _ h=>.inr h) fun _ _ _ _ h=>h⟩⟩
theorem rvG_end {H:AH} {r:Nat} {e:TypeId} {sz:Nat} {l:List FV} (h:H[r]?=some (ob e sz l)) (hf:∀x∈l,FlatF x):ownR H (sl r sz l) (rvG e sz l):=by
 unfold rvG
 by_cases e0:l=[]
 ·rw [if_pos e0,e0];exact ⟨rfl,.v _⟩
 ·rw [if_neg e0]
  rw [ob_pos e0] at h
  exact ⟨r,sl_pos e0,h,hf⟩
section
variable {P : Program}
end
end Go.Proofs.YthehegidpamldaaGreatDoor
set_option linter.unusedVariables false
set_option linter.unusedSimpArgs false
namespace Go.Proofs.YthehegidpamldaaGreatDoor
open Go Go.RowKit
def nmd (c:UInt8) (k:Nat):ByteArray:=(⟨#[c]⟩:ByteArray)++dgt k
def vls (n:Nat):List FV:=(List.range n).map fun k=>St (nmd 118 k)
section
variable {n : Nat}
theorem vls_len:(vls n).length=n:=by simp [vls]
theorem vls_next:vls n++[St (nmd 118 n)]=vls (n+1):=by simp [vls,List.range_succ]
end
set_option maxRecDepth 100000 in
theorem called_w {n:Nat} (hn:n≤4):Good Tryz.prog 61 [I (n:Int)] (.fz 1 (vls n)):=by
 refine good_of Tryz.func61 rfl (by kernel_rfl) fun X hO hrd=>?_;rw [Tryz.ntmps61,Tryz.results61];simp only [ast0,List.map_cons,List.map_nil,List.length_cons,List.length_nil,Nat.reduceAdd,Nat.reduceSub,List.replicate_succ,List.replicate_zero,List.cons_append,List.nil_append]
 (repeat (with_reducible first|refine W_seq fun K hK=>?_|((fail_if_success refine J_region (id:=2) ?_);refine J_region ?_) |(refine Kont.go (by assumption) ?_)|(simp (config:={ maxSteps:=3000000 }) (disch:=omega) only [go_sem])))
 refine J_reserve ?_
 have h0:AV.f (.v (.slice none 0 0))=sl 0 1 (vls 0):=rfl
 (repeat (with_reducible first|refine J_block ?_|refine J_region ?_ |(refine Kont.go (by assumption) ?_)|(simp (config:={ maxSteps:=3000000 }) (disch:=omega) only [go_sem])))
 refine W_loop [3,4,5,6,7,8,9,10,11,12,13,14,15,16,17,18] (fun x:Nat=>[(3,sl 0 1 (vls x)),(4,.f (I x))]) (fun x:Nat=>[ob 9 1 (vls x)]) (fun x:Nat=>x≤n) (fun x:Nat=>n-x) (0) (Nat.zero_le _) (by refine weak_of ?_ ?_<;>simp (disch:=omega) only [go_sem]<;>first|rfl|exact ⟨rfl,rfl⟩|exact Or.inl rfl|exact ⟨Or.inl rfl,Or.inl rfl⟩|trivial|assumption|omega|(symm;assumption)|((repeat' apply And.intro)<;>first|rfl|omega|trivial|exact .inl rfl|exact .inr ⟨rfl,rfl⟩|exact .inr rfl|(right;symm;assumption)|(symm;assumption)|assumption)) ?_
 rintro x hx
 simp only [go_sem]
 (repeat (with_reducible first|refine W_seq fun K hK=>?_|refine J_region ?_ |refine J_c ?_|(refine Kont.go (by assumption) ?_)|(simp (config:={ maxSteps:=3000000 }) (disch:=omega) only [go_sem])))
 refine Jc_if (fun hxn=>?_) (fun hxn=>?_)<;>try simp only [decide_eq_true_eq,decide_eq_false_iff_not] at hxn
 ·have hof:=rof_good (n:=(x:Int)) (by omega) (by omega)
  have htx:=rtext_w (k:=x) (by omega)
  rw [Int.toNat_natCast] at hof
  have hnx:=vls_next (n:=x)
  have hl:=vls_len (n:=x)
  (repeat (with_reducible first|refine W_seq fun K hK=>?_|refine J_block ?_|refine J_skip ?_|refine J_region ?_ |(refine Kont.go (by assumption) ?_)|(simp (config:={ maxSteps:=3000000 }) (disch:=omega) only [go_sem])))
  (first|refine call_f (hof) rfl ?_|refine callQ_f (hof) rfl ?_|refine callHK_f (hof) rfl ?_|refine callH_f (hof) rfl ?_)
  (repeat (with_reducible first|(simp (config:={ maxSteps:=3000000 }) (disch:=omega) only [go_sem])))
  (first|refine call_f (htx) rfl ?_|refine callQ_f (htx) rfl ?_|refine callHK_f (htx) rfl ?_|refine callH_f (htx) rfl ?_)
  have hd:(dgt x).size=1:=rfl
  have hb:(x+1)*16≤140737488355328:=by omega
  have hnx:vls x++[FV.v (.string (⟨#[118]⟩++dgt x))]=vls (x+1):=vls_next
  (repeat (first|(with_reducible first|refine J_region ?_ |refine aApp_sl ?_|(refine Kont.go (by assumption) ?_)|(simp (config:={ maxSteps:=3000000 }) (disch:=omega) only [go_sem,Nat.reduceEqDiff,↓reduceIte,Nat.reduceAdd,Nat.reduceLeDiff,hd,hl,hb,hnx]))|refine And.intro (by omega) ?_))
  refine ⟨x+1,by omega,by omega,weak_of ?_ ?_⟩<;>(try simp (disch:=omega) only [go_sem])<;>(try first|done|omega|rfl|exact ⟨rfl,rfl⟩|trivial)
 ·have he:x=n:=by omega
  subst he
  (repeat (with_reducible first|refine W_seq fun K hK=>?_|refine J_exit ?_|refine J_ret ?_|refine J_region ?_ |(refine Kont.go (by assumption) ?_)|(simp (config:={ maxSteps:=3000000 }) (disch:=omega) only [go_sem,↓reduceIte])))
  exact .sl rfl
end Go.Proofs.YthehegidpamldaaGreatDoor
set_option linter.unusedVariables false
set_option linter.unusedSimpArgs false
namespace Go.Proofs.YthehegidpamldaaGreatDoor
open Go Go.RowKit
theorem Frs.take {k:Nat} {xs:List FV} {l:List Rat} (h:Frs k xs l) (n:Nat):Frs k (xs.take n) (l.take n):=⟨by simp [h.len],fun i q hq=>by
 rw [List.getElem?_take] at hq ⊢
 split at hq
 ·rename_i hi
  rw [if_pos hi];exact h.get i q hq
 ·cases hq⟩
end Go.Proofs.YthehegidpamldaaGreatDoor
set_option linter.unusedVariables false
set_option linter.unusedSimpArgs false
namespace Go.Proofs.YthehegidpamldaaGreatDoor
open Go Go.RowKit
def pickN (c:Int) (n:Nat):Nat:=(if c<0 then -(c+1) else c).toNat%n
theorem tmod_nat {c:Int} {n:Nat} (h:0≤c):c.tmod (n:Int)=((c.toNat%n:Nat):Int):=by
 rw [Int.tmod_eq_emod_of_nonneg h,Int.natCast_emod,Int.toNat_of_nonneg h]
set_option maxRecDepth 100000 in
theorem pick_good (c:Int) (n:Nat) (h1:-9223372036854775808≤c) (h2:c≤9223372036854775807) (h0:0<n) (hn:n≤9223372036854775807):Good Tryz.prog 58 [I c,I n] (I (pickN c n)):=by
 unfold pickN
 refine good_of Tryz.func58 rfl (by kernel_rfl) fun X hO hrd=>?_;rw [Tryz.ntmps58,Tryz.results58];simp only [ast0,List.map_cons,List.map_nil,List.length_cons,List.length_nil,Nat.reduceAdd,Nat.reduceSub,List.replicate_succ,List.replicate_zero,List.cons_append,List.nil_append]
 (repeat (with_reducible first|refine W_seq fun K hK=>?_|refine J_region ?_ |refine J_c ?_|(refine Kont.go (by assumption) ?_)|(simp (config:={ maxSteps:=3000000 }) (disch:=omega) only [go_sem])))
 refine Jc_if (fun hc=>?_) (fun hc=>?_)<;>try simp only [decide_eq_true_eq,decide_eq_false_iff_not] at hc
 ·(repeat (first|(with_reducible first|refine W_seq fun K hK=>?_|refine J_ret ?_|refine J_region ?_ |(refine Kont.go (by assumption) ?_)|(simp (config:={ maxSteps:=3000000 }) (disch:=omega) only [go_sem,Int.zero_sub]))|refine And.intro (by omega) ?_))
  rw [if_pos hc,←tmod_nat (by omega)]
  exact Frz.f _
 ·(repeat (first|(with_reducible first|refine W_seq fun K hK=>?_|refine J_skip ?_|refine J_ret ?_|refine J_region ?_ |(refine Kont.go (by assumption) ?_)|(simp (config:={ maxSteps:=3000000 }) (disch:=omega) only [go_sem]))|refine And.intro (by omega) ?_))
  rw [if_neg hc,←tmod_nat (by omega)]
  exact Frz.f _
theorem pickI (c n:Int) (h1:-9223372036854775808≤c) (h2:c≤9223372036854775807) (h0:0<n) (hn:n≤9223372036854775807):Good Tryz.prog 58 [I c,I n] (I (pickN c n.toNat)):=by
 have:=pick_good c n.toNat h1 h2 (by omega) (by omega)
 rwa [Int.toNat_of_nonneg (by omega)] at this
end Go.Proofs.YthehegidpamldaaGreatDoor
