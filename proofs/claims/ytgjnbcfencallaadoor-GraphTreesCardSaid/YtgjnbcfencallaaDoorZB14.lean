/- The law GraphTrees: it returns true. Condition: what a slice may hold. -/
import Derived.Test.YtgjnbcfencallaaDoorZB13
import Derived.ChangeSame
import Derived.ProofKit
import Derived.OpenShut
import Derived.Deep.DeepHandedRow
import Derived.Lib.LaidTab
import GoSem.PinnedTables
set_option linter.unusedVariables false
set_option linter.unusedSimpArgs false
namespace Go.Proofs.YtgjnbcfencallaaDoor
open Go Go.RowKit
def pickN (c:Int) (n:Nat):Nat:=(if c<0 then -(c+1) else c).toNat%n
theorem tmod_nat {c:Int} {n:Nat} (h:0≤c):c.tmod (n:Int)=((c.toNat%n:Nat):Int):=by
 rw [Int.tmod_eq_emod_of_nonneg h,Int.natCast_emod,Int.toNat_of_nonneg h]
theorem pickN_lt (c:Int) {n:Nat} (h:0<n):pickN c n<n:=Nat.mod_lt _ h
set_option maxRecDepth 100000 in
theorem pick_good (c:Int) (n:Nat) (h1:-9223372036854775808≤c) (h2:c≤9223372036854775807) (h0:0<n) (hn:n≤9223372036854775807):Good Tryd.prog 25 [I c,I n] (I (pickN c n)):=by
 unfold pickN
 refine good_of Tryd.func25 rfl (by kernel_rfl) fun X hO hrd=>?_;rw [Tryd.ntmps25,Tryd.results25];simp only [ast0,List.map_cons,List.map_nil,List.length_cons,List.length_nil,Nat.reduceAdd,Nat.reduceSub,List.replicate_succ,List.replicate_zero,List.cons_append,List.nil_append]
 (repeat (with_reducible first|refine W_seq fun K hK=>?_|refine J_region ?_ |refine J_c ?_|(refine Kont.go (by assumption) ?_)|(simp (config:={ maxSteps:=3000000 }) (disch:=omega) only [go_sem])))
 refine Jc_if (fun hc=>?_) (fun hc=>?_)<;>try simp only [decide_eq_true_eq,decide_eq_false_iff_not] at hc
 ·(repeat (first|(with_reducible first|refine W_seq fun K hK=>?_|refine J_ret ?_|refine J_region ?_ |(refine Kont.go (by assumption) ?_)|(simp (config:={ maxSteps:=3000000 }) (disch:=omega) only [go_sem,Int.zero_sub]))|refine And.intro (by omega) ?_))
  rw [if_pos hc,←tmod_nat (by omega)]
  exact Frz.f _
 ·(repeat (first|(with_reducible first|refine W_seq fun K hK=>?_|refine J_skip ?_|refine J_ret ?_|refine J_region ?_ |(refine Kont.go (by assumption) ?_)|(simp (config:={ maxSteps:=3000000 }) (disch:=omega) only [go_sem]))|refine And.intro (by omega) ?_))
  rw [if_neg hc,←tmod_nat (by omega)]
  exact Frz.f _
theorem pickI (c n:Int) (h1:-9223372036854775808≤c) (h2:c≤9223372036854775807) (h0:0<n) (hn:n≤9223372036854775807):Good Tryd.prog 25 [I c,I n] (I (pickN c n.toNat)):=by
 have:=pick_good c n.toNat h1 h2 (by omega) (by omega)
 rwa [Int.toNat_of_nonneg (by omega)] at this
theorem RelF.setF {X:Cx} {F:Nat→Prop} {loc:Nat→Nat × Nat} {s:AS} {a:Act} {w:World} {j:Nat} {x y:FV} (R:RelF X F loc s a w) (hj:s.t[j]?=some (.f x)) (hxy:∀w F v,RepF w F x v→RepF w F y v):RelF X F loc ⟨s.t.set j (.f y),s.H⟩ a w :=
 ⟨R.hF,R.hG,R.hN,R.below,R.defers,by rw [List.length_set];exact R.len,fun i z hi=>by
  by_cases e:i=j
  ·subst e
   rw [List.getElem?_set_self (glt hj)] at hi
   cases hi
   cases R.tmps _ _ hj with
   | f _ _ h=>exact .f _ _ (hxy _ _ _ h)
  ·rw [List.getElem?_set_ne (Ne.symm e)] at hi
   exact R.tmps i z hi,R.obj,R.new,R.nF,R.inj⟩
theorem J_fv {P:Program} {X:Cx} {c:Code} {Q:Exit→AS→Prop} {s:AS} {j:Nat} {x y:FV} (hj:s.t[j]?=some (.f x)) (hxy:∀w F v,RepF w F x v→RepF w F y v) (h:J X P c Q ⟨s.t.set j (.f y),s.H⟩):J X P c Q s :=
 fun hk a w ⟨F,loc,R⟩=>h hk a w ⟨F,loc,R.setF hj hxy⟩
theorem rwV_cells {l:List FV}:(rwV l).cells=[rwV l]:=by unfold rwV;split<;>rfl
theorem flat_rw (rows:List (List FV)):flatF (rows.map rwV)=rows.map rwV:=by
 unfold flatF
 induction rows with
 | nil=>rfl
 | cons r rows ih=>rw [List.map_cons,List.flatMap_cons,ih,rwV_cells];rfl
theorem flat_fz (rows:List (List FV)):flatF (rows.map (FV.fz 1))=rows.map (FV.fz 1):=by
 unfold flatF
 induction rows with
 | nil=>rfl
 | cons r rows ih=>rw [List.map_cons,List.flatMap_cons,ih];rfl
theorem RepF.rows {rows:List (List FV)} {w:World} {F:Nat→Prop} {v:Value} (h:RepF w F (.fz 1 (rows.map rwV)) v):RepF w F (.fz 1 (rows.map (FV.fz 1))) v:=by
 generalize he:rows.map rwV=es at h
 cases h with
 | fz0 _ a cap hm =>
  have h0:rows=[]:=List.map_eq_nil_iff.1 he
  subst h0
  exact .fz0 _ _ _ hm
 | fz _ _ b off cap hF hn hm hu g hg hc =>
  subst he
  rw [flat_rw] at hg hc
  have hl:(rows.map rwV).length=(rows.map (FV.fz 1)).length:=by simp
  rw [hl] at hn ⊢
  refine .fz 1 _ b off cap hF hn hm (fun e he=>?_) g (fun j c hj=>?_) (fun j c hj=>?_)
  ·obtain ⟨r,_,rfl⟩:=List.mem_map.1 he;exact ⟨rfl,rfl⟩
  ·rw [flat_fz,List.getElem?_map] at hj
   cases hr:rows[j]? with
   | none=>rw [hr] at hj;cases hj
   | some r=>exact hg j (rwV r) (by rw [List.getElem?_map,hr];rfl)
  ·rw [flat_fz,List.getElem?_map] at hj
   cases hr:rows[j]? with
   | none=>rw [hr] at hj;cases hj
   | some r =>
    rw [hr] at hj
    cases hj
    have:=hc j (rwV r) (by rw [List.getElem?_map,hr];rfl)
    unfold rwV at this
    split at this
    ·rename_i h0
     subst h0
     generalize g j=x at this
     cases this
     exact .fz0 _ _ _ (Nat.zero_le _)
    ·exact this
def ixE (es:List Int) (a b:Nat):Nat:=(a*7+b*3)%es.length
def qE (es:List Int) (v u:Nat):Bool:=!decide (u=v)&&(decide (0<es.length)&&decide (pickN (es.getD (ixE es (min u v) (max u v)) 0) 3=0))
theorem qE_sym {es:List Int} (v u:Nat):qE es v u=qE es u v:=by
 unfold qE
 rw [Nat.min_comm u v,Nat.max_comm u v,decide_eq_decide.2 (eq_comm (a:=u) (b:=v))]
theorem qE_irr {es:List Int} (v:Nat):qE es v v=false:=by unfold qE;rw [decide_eq_true rfl];rfl
def anyB (p:Nat→Bool) (k:Nat):Bool:=(List.range k).any p
theorem anyB_next {p:Nat→Bool} {k:Nat}:anyB p (k+1)=(anyB p k||p k):=by unfold anyB;rw [List.range_succ,List.any_append];simp
theorem anyB_true {p:Nat→Bool} {k m:Nat} (h:k<m) (hp:p k=true):anyB p m=true:=List.any_eq_true.2 ⟨k,List.mem_range.2 h,hp⟩
set_option maxRecDepth 100000 in
set_option maxHeartbeats 8000000 in
theorem graphTrees_good (es:List Int) (nn:Int) (hes:OkNs es) (hnn:-9223372036854775808≤nn∧nn≤9223372036854775807):Good Tryd.prog 5 [ints es,I nn] (Bo true):=by
 have hp0:=pickI nn 8 hnn.1 hnn.2 (by decide) (by decide)
 obtain ⟨n,hn⟩:∃n,n=1+pickN nn 8:=⟨_,rfl⟩
 have hpl:pickN nn 8<8:=pickN_lt nn (by decide)
 have hn1:1≤n:=by omega
 have hn8:n≤8:=by omega
 have hnI:1+((pickN nn 8:Nat):Int)=(n:Int):=by omega
 have hp0':Good Tryd.prog 25 [I nn,I 8] (I ((pickN nn 8:Nat):Int)):=hp0
 obtain ⟨m1,m2,m3,Kq,lks,m4,m5,hj⟩:=jt_main (n:=n) (q:=qE es) hn1 hn8 (fun v u _ _=>qE_sym v u) qE_irr
 have hF:=Fill_w (nbr n (qE es)) (nbr_ok hn8)
 have hT:=Tree_w (bagI (filB (nbr n (qE es)))) (bagI_ok m2)
 rw [m1,bagI_ints] at hF
 rw [m3,m4,m5] at hT
 obtain ⟨rw_,hrw⟩:∃f:Nat→List FV,f=fun v=>Ns (flt (qE es v) n):=⟨_,rfl⟩
 have hz:∀m,List.replicate m (AV.f nilV)=(fillL m 0 (fun v=>rwV (rw_ v)) nilV).map .f:=fun m=>by rw [fill_zero,List.map_replicate]
 refine good_of Tryd.func5 rfl (by kernel_rfl) fun X hO hrd=>?_;rw [Tryd.ntmps5,Tryd.results5];simp only [ast0,List.map_cons,List.map_nil,List.length_cons,List.length_nil,Nat.reduceAdd,Nat.reduceSub,List.replicate_succ,List.replicate_zero,List.cons_append,List.nil_append]
 (repeat (with_reducible first|refine W_seq fun K hK=>?_|refine J_region ?_ |refine J_c ?_|(refine Kont.go (by assumption) ?_)|(simp (config:={ maxSteps:=3000000 }) (disch:=omega) only [go_sem,List.length_map])))
 refine Jc_if (fun hgt=>?_) (fun hgt=>?_)<;>try simp only [decide_eq_true_eq,decide_eq_false_iff_not] at hgt
 ·(repeat (with_reducible first|refine W_seq fun K hK=>?_|refine J_ret ?_|refine J_region ?_ |exact Frz.f _|(refine Kont.go (by assumption) ?_)|(simp (config:={ maxSteps:=3000000 }) (disch:=omega) only [go_sem])))
 (repeat (first|(with_reducible first|refine W_seq fun K hK=>?_|refine J_block ?_|refine J_skip ?_|refine J_region ?_ |(refine Kont.go (by assumption) ?_)|(simp (config:={ maxSteps:=3000000 }) (disch:=omega) only [go_sem,Int.reduceToNat,hnI,hz]))|refine call_f (pickI _ _ (by omega) (by omega) (by omega) (by omega)) rfl ?_|refine And.intro (by omega) ?_))
 refine W_loop [6,7,8,9,29,30,31,32,33,34,35,36,37,38,39,40,41,42,43,44,45,46,47,48,49,50,51,52,53,54,55,56,57,58,59,60,61,62,63,64,65,66,67,68,69,70,71,72,73,74,75,76,77,78] (fun x:Nat=>[(6,.f (I x))]) (fun x:Nat=>[some ⟨23,1,(fillL n x (fun v=>rwV (rw_ v)) nilV).map .f⟩]) (fun x:Nat=>x≤n) (fun x:Nat=>n-x) (0) (Nat.zero_le _) (by refine weak_of ?_ ?_<;>simp (disch:=omega) only [go_sem]<;>first|rfl|exact ⟨rfl,rfl⟩|exact Or.inl rfl|exact ⟨Or.inl rfl,Or.inl rfl⟩|trivial|assumption|omega|(symm;assumption)|((repeat' apply And.intro)<;>first|rfl|omega|trivial|exact .inl rfl|exact .inr ⟨rfl,rfl⟩|exact .inr rfl|(right;symm;assumption)|(symm;assumption)|assumption)) ?_
 rintro v hv
 simp only [go_sem]
 (repeat (with_reducible first|refine W_seq fun K hK=>?_|refine J_region ?_ |refine J_c ?_|(refine Kont.go (by assumption) ?_)|(simp (config:={ maxSteps:=3000000 }) (disch:=omega) only [go_sem])))
 refine Jc_if (fun hvn=>?_) (fun hvn=>?_)<;>try simp only [decide_eq_true_eq,decide_eq_false_iff_not] at hvn
 ·(repeat (with_reducible first|refine W_seq fun K hK=>?_|refine J_block ?_|refine J_skip ?_|refine J_region ?_ |(refine Kont.go (by assumption) ?_)|(simp (config:={ maxSteps:=3000000 }) (disch:=omega) only [go_sem])))
  refine J_reserve ?_
  have gself:∀y,(((fillL n v (fun v=>rwV (rw_ v)) nilV).map AV.f).set v y)[v]?=some y:=fun y=>List.getElem?_set_self (by simp [fill_len,hvn])
  have hlen:∀y,(((fillL n v (fun v=>rwV (rw_ v)) nilV).map AV.f).set v y).length=n:=fun y=>by simp [fill_len]
  have h00:(fillL n v (fun v=>rwV (rw_ v)) nilV).map AV.f=((fillL n v (fun v=>rwV (rw_ v)) nilV).map AV.f).set v (sl 1 1 (Ns (flt (qE es v) 0))):=by
   apply List.ext_getElem?
   intro j
   by_cases e:j=v
   ·subst e;rw [gself,fillA_get hvn,if_neg (by omega)];rfl
   ·rw [List.getElem?_set_ne (Ne.symm e)]
  rw [h00]
  refine W_loop [7,8,9,34,35,36,37,38,39,40,41,42,43,44,45,46,47,48,49,50,51,52,53,54,55,56,57,58,59,60,61,62,63,64,65,66,67,68,69,70,71,72,73,74,75,76,77,78] (fun x:Nat=>[(7,.f (I x))]) (fun x:Nat=>[some ⟨23,1,((fillL n v (fun v=>rwV (rw_ v)) nilV).map AV.f).set v (sl 1 1 (Ns (flt (qE es v) x)))⟩,ob 3 1 (Ns (flt (qE es v) x))]) (fun x:Nat=>x≤n) (fun x:Nat=>n-x) (0) (Nat.zero_le _) (by refine weak_of ?_ ?_<;>simp (disch:=omega) only [go_sem,Nat.reduceAdd]<;>first|rfl|exact ⟨rfl,rfl⟩|exact Or.inl rfl|exact ⟨Or.inl rfl,Or.inl rfl⟩|trivial|assumption|omega|(symm;assumption)|((repeat' apply And.intro)<;>first|rfl|omega|trivial|exact .inl rfl|exact .inr ⟨rfl,rfl⟩|exact .inr rfl|(right;symm;assumption)|(symm;assumption)|assumption)) ?_
  rintro u hu
  simp only [go_sem]
  (repeat (with_reducible first|refine W_seq fun K hK=>?_|refine J_region ?_ |refine J_c ?_|(refine Kont.go (by assumption) ?_)|(simp (config:={ maxSteps:=3000000 }) (disch:=omega) only [go_sem])))
  refine Jc_if (fun hun=>?_) (fun hun=>?_)<;>try simp only [decide_eq_true_eq,decide_eq_false_iff_not] at hun
  ·obtain ⟨a,ha⟩:∃a,a=min u v:=⟨_,rfl⟩
   obtain ⟨b,hb⟩:∃b,b=max u v:=⟨_,rfl⟩
   have hql:qE es v u=(!decide (u=v)&&(decide (0<es.length)&&decide (pickN (es.getD (ixE es a b) 0) 3=0))):=by rw [ha,hb];rfl
   (repeat (with_reducible first|refine W_seq fun K hK=>?_|refine J_block ?_|refine J_skip ?_|refine J_region ?_ |refine J_c ?_|(refine Kont.go (by assumption) ?_)|(simp (config:={ maxSteps:=3000000 }) (disch:=omega) only [go_sem])))
   refine Jc_join (by assumption) [8,9,44,45] (fun z:Unit=>[(8,.f (I a)),(9,.f (I b))]) (fun z:Unit=>[some ⟨23,1,((fillL n v (fun v=>rwV (rw_ v)) nilV).map AV.f).set v (sl 1 1 (Ns (flt (qE es v) u)))⟩,ob 3 1 (Ns (flt (qE es v) u))]) (fun z:Unit=>True) ?_ ?_
   ·refine Jc_if (fun huv=>?_) (fun huv=>?_)<;>try simp only [decide_eq_true_eq,decide_eq_false_iff_not] at huv
    ·rw [show a=v by omega,show b=u by omega]
     (repeat (with_reducible first|refine W_seq fun K hK=>?_|refine J_region ?_ |(refine Kont.go (by assumption) ?_)|(simp (config:={ maxSteps:=3000000 }) (disch:=omega) only [go_sem])))
     (refine weak_of ?_ ?_<;>(try simp only [go_sem,Nat.reduceAdd])<;>(try first|done|omega|rfl|exact ⟨rfl,rfl⟩|trivial))
    ·rw [show a=u by omega,show b=v by omega]
     (repeat (with_reducible first|refine J_skip ?_|(simp (config:={ maxSteps:=3000000 }) (disch:=omega) only [go_sem])))
     (refine weak_of ?_ ?_<;>(try simp only [go_sem,Nat.reduceAdd])<;>(try first|done|omega|rfl|exact ⟨rfl,rfl⟩|trivial))
   rintro _ _
   simp only [go_sem]
   have no:qE es v u=false→flt (qE es v) (u+1)=flt (qE es v) u:=fun h=>flt_f h
   by_cases e:u=v
   ·have hnx:=no (by rw [hql,decide_eq_true e];rfl)
    have e':(u:Int)=(v:Int):=by omega
    (repeat (with_reducible first|refine W_seq fun K hK=>?_|refine J_skip ?_|refine J_region ?_ |refine J_c ?_|refine Jc_false ?_|(refine Kont.go (by assumption) ?_)|(simp (config:={ maxSteps:=3000000 }) (disch:=omega) only [go_sem,e'])))
    refine ⟨u+1,by omega,by omega,weak_of ?_ ?_⟩<;>(try simp (disch:=omega) only [go_sem,Nat.reduceAdd,hnx])<;>(try first|done|omega|rfl|exact ⟨rfl,rfl⟩|trivial)
   ·have e':¬(u:Int)=(v:Int):=by omega
    rw [decide_eq_false e] at hql
    by_cases h0:0<es.length
    ·have h0':(0:Int)<((es.length:Nat):Int):=by omega
     have h0n:¬((es.length:Nat):Int)=0:=by omega
     rw [decide_eq_true h0] at hql
     have hix:ixE es a b<es.length:=Nat.mod_lt _ h0
     have hrem:Int.tmod ((a:Int)*7+(b:Int)*3) ((es.length:Nat):Int)=((ixE es a b:Nat):Int):=by
      rw [show (a:Int)*7+(b:Int)*3=((a*7+b*3:Nat):Int) by omega,tmod_nat (by omega)];rfl
     have g1:=map_get I es hix
     have g3:es.getD (ixE es a b) 0=es[ixE es a b]:=lget_lt es 0 hix
     obtain ⟨x,hx⟩:∃x,x=es[ixE es a b]:=⟨_,rfl⟩
     have hxb:=hes.2 x (by rw [hx];exact List.getElem_mem _)
     rw [←hx] at g1 g3
     rw [g3] at hql
     obtain ⟨i,hi⟩:∃i,i=ixE es a b:=⟨_,rfl⟩
     rw [←hi] at hix hrem g1
     (repeat (first|(with_reducible first|refine W_seq fun K hK=>?_|refine J_region ?_ |refine J_c ?_|(refine Kont.go (by assumption) ?_)|(simp (config:={ maxSteps:=3000000 }) (disch:=omega) only [go_sem,↓reduceIte,Int.reduceToNat,List.length_map,e',h0',h0n,hrem,g1,true_and]))|refine call_f (pickI _ _ (by omega) (by omega) (by omega) (by omega)) rfl ?_))
     by_cases hpk:pickN x 3=0
     ·rw [decide_eq_true hpk] at hql
      have hs:Ns (flt (qE es v) u)++[I (u:Int)]=Ns (flt (qE es v) (u+1)):=by rw [flt_t hql];exact Ns_snoc
      have hfn:(Ns (flt (qE es v) u)).length≤u:=by rw [Ns_len];exact flt_len
      have hap:((Ns (flt (qE es v) u)).length+1)*8≤140737488355328:=by omega
      have hpk':((pickN x 3:Nat):Int)=0:=by omega
      (repeat (first|(with_reducible first|refine J_region ?_ |refine aApp_sl ?_|refine Jc_true ?_|(refine Kont.go (by assumption) ?_)|(simp (config:={ maxSteps:=3000000 }) (disch:=omega) only [go_sem,Nat.reduceEqDiff,↓reduceIte,Nat.reduceAdd,Nat.reduceLeDiff,hpk,gself,hap,hs,List.set_set,Nat.reduceMul,Nat.le_refl,true_and,and_self]))|refine And.intro (by omega) ?_))
      refine ⟨u+1,by omega,by omega,weak_of ?_ ?_⟩<;>(try simp (disch:=omega) only [go_sem,Nat.reduceAdd])<;>(try first|done|omega|rfl|exact ⟨rfl,rfl⟩|trivial)
     ·have hnx:=no (by rw [hql,decide_eq_false hpk];rfl)
      have hpk':¬((pickN x 3:Nat):Int)=0:=by omega
      (repeat (with_reducible first|refine J_skip ?_|refine J_region ?_ |refine Jc_false ?_|(refine Kont.go (by assumption) ?_)|(simp (config:={ maxSteps:=3000000 }) (disch:=omega) only [go_sem,hpk])))
      refine ⟨u+1,by omega,by omega,weak_of ?_ ?_⟩<;>(try simp (disch:=omega) only [go_sem,Nat.reduceAdd,hnx])<;>(try first|done|omega|rfl|exact ⟨rfl,rfl⟩|trivial)
    ·have h0':¬(0:Int)<((es.length:Nat):Int):=by omega
     rw [decide_eq_false h0] at hql
     have hnx:=no hql
     (repeat (with_reducible first|refine W_seq fun K hK=>?_|refine J_skip ?_|refine J_region ?_ |refine J_c ?_|refine Jc_false ?_|(refine Kont.go (by assumption) ?_)|(simp (config:={ maxSteps:=3000000 }) (disch:=omega) only [go_sem,List.length_map,e',h0',true_and])))
     refine ⟨u+1,by omega,by omega,weak_of ?_ ?_⟩<;>(try simp (disch:=omega) only [go_sem,Nat.reduceAdd,hnx])<;>(try first|done|omega|rfl|exact ⟨rfl,rfl⟩|trivial)
  ·have he:u=n:=by omega
   have hrow:rw_ v=Ns (flt (qE es v) u):=by rw [hrw,he]
   have hfs:=fillA_set (n:=n) (k:=v) (f:=fun v=>rwV (rw_ v)) (z:=nilV) (x:=rwV (Ns (flt (qE es v) u))) hvn (by rw [←hrow])
   by_cases e:Ns (flt (qE es v) u)=[]
   ·have e2:rwV (Ns (flt (qE es v) u))=nilV:=by unfold rwV;rw [if_pos e]
    rw [e2] at hfs
    rw [e]
    have e3:sl 1 1 []=AV.f nilV:=rfl
    rw [e3,hfs]
    (repeat (with_reducible first|refine J_exit ?_|refine J_region ?_ |(refine Kont.go (by assumption) ?_)|(simp (config:={ maxSteps:=3000000 }) (disch:=omega) only [go_sem,↓reduceIte])))
    refine ⟨v+1,by omega,by omega,weak_of ?_ ?_⟩<;>(try simp (disch:=omega) only [go_sem])<;>(try first|done|omega|rfl|exact ⟨rfl,rfl⟩|trivial)
   ·have e2:rwV (Ns (flt (qE es v) u))=.fz 1 (Ns (flt (qE es v) u)):=by unfold rwV;rw [if_neg e]
    rw [e2] at hfs
    refine J_exit ?_
    (repeat (with_reducible first|(refine Kont.go (by assumption) ?_)|(simp (config:={ maxSteps:=3000000 }) (disch:=omega) only [go_sem,↓reduceIte])))
    refine J_freezeB (r:=1) rfl e ?_
    have hfz:=fzr_sl_self (r:=1) (sz:=1) e
    (repeat (with_reducible first|refine J_region ?_ |(simp (config:={ maxSteps:=3000000 }) (disch:=omega) only [go_sem,Nat.reduceEqDiff,↓reduceIte,hfz,hfs])))
    refine ⟨v+1,by omega,by omega,weak_of ?_ ?_⟩<;>(try simp (disch:=omega) only [go_sem])<;>(try first|done|omega|rfl|exact ⟨rfl,rfl⟩|trivial)
 ·have he:v=n:=by omega
  obtain ⟨rows,hrows⟩:∃rows,rows=(List.range n).map rw_:=⟨_,rfl⟩
  have hfr:fillL n v (fun v=>rwV (rw_ v)) nilV=rows.map rwV:=by
   rw [he,hrows,List.map_map]
   apply List.ext_getElem?
   intro j
   by_cases hjn:j<n
   ·rw [fill_get hjn,if_pos hjn,List.getElem?_map,List.getElem?_range hjn];rfl
   ·rw [List.getElem?_eq_none (by rw [fill_len];omega),List.getElem?_eq_none (by simp;omega)]
  have hni:(nbr n (qE es)).map ints=rows.map (FV.fz 1):=by
   unfold nbr
   rw [hrows,List.map_map,List.map_map]
   refine List.map_congr_left fun v _=>?_
   show ints (ofN (flt (qE es v) n))=FV.fz 1 (rw_ v)
   rw [ints_ofN,hrw]
  rw [hni] at hF
  rw [hfr]
  (repeat (with_reducible first|refine W_seq fun K hK=>?_|refine J_exit ?_|(refine Kont.go (by assumption) ?_)|(simp (config:={ maxSteps:=3000000 }) (disch:=omega) only [go_sem,↓reduceIte])))
  refine J_freezeA (r:=0) (sz:=1) (l:=rows.map rwV) rfl ?_
  have hrl:(rows.map rwV).length=n:=by rw [hrows];simp
  have hrl2:rows.length=n:=by rw [hrows];simp
  simp only [go_sem,hrl2,↓reduceIte]
  refine J_fv (j:=5) (x:=.fz 1 (rows.map rwV)) (y:=.fz 1 (rows.map (FV.fz 1))) rfl (fun _ _ _ h=>h.rows) ?_
  have hrf:(rows.map (FV.fz 1)).length=n:=by rw [hrows];simp
  have hgl:(gvs Kq).length=Kq.length:=gvs_len
  have hlk:((lks.map (lnkF Kq)).length:Int)+1=(Kq.length:Int):=by rw [List.length_map];have:=hj.ll;omega
  have hlk2:(lks.length:Int)+1=(Kq.length:Int):=by have:=hj.ll;omega
  have hj8:=hj.le
  have hjp:=hj.pos
  have hjl:=hj.ll
  (repeat (with_reducible first|refine J_region ?_ |(simp (config:={ maxSteps:=3000000 }) (disch:=omega) only [go_sem])))
  (first|refine call_f (hF) rfl ?_|refine callQ_f (hF) rfl ?_|refine callHK_f (hF) rfl ?_|refine callH_f (hF) rfl ?_)
  (repeat (with_reducible first|refine W_seq fun K hK=>?_|refine J_region ?_ |(refine Kont.go (by assumption) ?_)|(simp (config:={ maxSteps:=3000000 }) (disch:=omega) only [go_sem])))
  (first|refine call_f (hT) rfl ?_|refine callQ_f (hT) rfl ?_|refine callHK_f (hT) rfl ?_|refine callH_f (hT) rfl ?_)
  (repeat (with_reducible first|refine W_seq fun K hK=>?_|refine J_block ?_|refine J_skip ?_|refine J_region ?_ |refine J_c ?_|refine Jc_false ?_|(refine Kont.go (by assumption) ?_)|(simp (config:={ maxSteps:=3000000 }) (disch:=omega) only [go_sem,hgl,hlk2,List.length_map,true_and])))
  refine W_loop [4,16,17,18,19,105,106,107,108,109,110,111,112,113,114,115,116,117,118,119,120,121,122,123,124,125,126,127,128,129,130,131,132,133,134,135,136,137,138,139,140,141,142,143,144,145,146,147,148,149,150,151,152,153,154,155,156,157,158] (fun x:Nat=>[(4,.f (Bo false)),(16,.f (I x))]) (fun x:Nat=>[none]) (fun x:Nat=>x≤n) (fun x:Nat=>n-x) (0) (Nat.zero_le _) (by refine weak_of ?_ ?_<;>simp (disch:=omega) only [go_sem]<;>first|rfl|exact ⟨rfl,rfl⟩|exact Or.inl rfl|exact ⟨Or.inl rfl,Or.inl rfl⟩|trivial|assumption|omega|(symm;assumption)|((repeat' apply And.intro)<;>first|rfl|omega|trivial|exact .inl rfl|exact .inr ⟨rfl,rfl⟩|exact .inr rfl|(right;symm;assumption)|(symm;assumption)|assumption)) ?_
  rintro w hw
  simp only [go_sem]
  (repeat (with_reducible first|refine W_seq fun K hK=>?_|refine J_region ?_ |refine J_c ?_|(refine Kont.go (by assumption) ?_)|(simp (config:={ maxSteps:=3000000 }) (disch:=omega) only [go_sem])))
  refine Jc_if (fun hwn=>?_) (fun hwn=>?_)<;>try simp only [decide_eq_true_eq,decide_eq_false_iff_not] at hwn
  ·have gw:(rows.map (FV.fz 1))[w]?=some (.fz 1 (Ns (flt (qE es w) n))):=by rw [hrows,List.map_map,List.getElem?_map,List.getElem?_range hwn,hrw];rfl
   obtain ⟨R,hR⟩:∃R,R=flt (qE es w) n:=⟨_,rfl⟩
   rw [←hR] at gw
   have hRl:(Ns R).length=R.length:=Ns_len
   have hR8:R.length≤8:=by rw [hR];exact Nat.le_trans flt_len hn8
   have hRm:∀u∈R,u<n∧qE es w u=true:=fun u hu=>by rw [hR] at hu;exact flt_mem.1 hu
   have hcon:=connected_w (v:=(w:Int)) hj.nd hj.le hj.lt hj.rip hj.ends (by omega) (by omega) (by omega) (fun e=>by
    obtain ⟨k,hk,hb⟩:=hj.one w hwn
    have hm:k∈wth Kq (w:Int):=wth_mem.2 ⟨hk,by unfold wP;rw [show ((w:Int)).toNat=w by omega,hb];simp⟩
    rw [e] at hm;cases hm)
   (repeat (with_reducible first|refine W_seq fun K hK=>?_|refine J_block ?_|refine J_skip ?_|refine J_region ?_ |(refine Kont.go (by assumption) ?_)|(simp (config:={ maxSteps:=3000000 }) (disch:=omega) only [go_sem,Int.reduceNeg])))
   refine W_loop [4,17,18,19,110,111,112,113,114,115,116,117,118,119,120,121,122,123,124,125,126,127,128,129,130,131,132,133,134,135,136,137,138,139,140,141,142,143,144,145,146,147,148,149,150,151,152,153] (fun x:Nat=>[(4,.f (Bo false)),(17,.f (I ((x:Int)-1)))]) (fun x:Nat=>[none]) (fun x:Nat=>x≤R.length+1) (fun x:Nat=>R.length+1-x) (0) (Nat.zero_le _) (by refine weak_of ?_ ?_<;>simp (disch:=omega) only [go_sem]<;>first|rfl|exact ⟨rfl,rfl⟩|exact Or.inl rfl|exact ⟨Or.inl rfl,Or.inl rfl⟩|trivial|assumption|omega|(symm;assumption)|((repeat' apply And.intro)<;>first|rfl|omega|trivial|exact .inl rfl|exact .inr ⟨rfl,rfl⟩|exact .inr rfl|(right;symm;assumption)|(symm;assumption)|assumption)) ?_
   rintro x hx
   simp only [go_sem]
   (repeat (with_reducible first|refine W_seq fun K hK=>?_|refine J_region ?_ |refine J_c ?_|(refine Kont.go (by assumption) ?_)|(simp (config:={ maxSteps:=3000000 }) (disch:=omega) only [go_sem,↓reduceIte,gw,hRl])))
   refine Jc_if (fun hxl=>?_) (fun hxl=>?_)<;>try simp only [decide_eq_true_eq,decide_eq_false_iff_not] at hxl
   ·obtain ⟨p,hp⟩:∃p:Nat→Bool,p=fun k=>(Kq.getD k 0).testBit w&&(decide (x=0)||(Kq.getD k 0).testBit (R.getD (x-1) 0)):=⟨_,rfl⟩
    have hfal:Bo false=Bo (anyB p 0):=rfl
    have hall:anyB p Kq.length=true:=by
     by_cases x0:x=0
     ·obtain ⟨k,hk,hb⟩:=hj.one w hwn
      exact anyB_true hk (by rw [hp];show ((Kq.getD k 0).testBit w&&_)=true;rw [hb,decide_eq_true x0];rfl)
     ·have hxR:x-1<R.length:=by omega
      obtain ⟨h1,h2⟩:=hRm _ (List.getElem_mem hxR)
      obtain ⟨k,hk,hb,hb2⟩:=hj.two w _ hwn h1 h2
      exact anyB_true hk (by rw [hp];show ((Kq.getD k 0).testBit w&&(_||(Kq.getD k 0).testBit (R.getD (x-1) 0)))=true;rw [hb,lget_lt R 0 hxR,hb2,Bool.or_true];rfl)
    (repeat (with_reducible first|refine W_seq fun K hK=>?_|refine J_block ?_|refine J_skip ?_|refine J_region ?_ |(refine Kont.go (by assumption) ?_)|(simp (config:={ maxSteps:=3000000 }) (disch:=omega) only [go_sem])))
    refine W_loop [18,19,119,120,121,122,123,124,125,126,127,128,129,130,131,132,133,134,135,136,137,138,139,140,141,142,143,144,145,146,147,148,149,150,151] (fun k:Nat=>[(18,.f (Bo (anyB p k))),(19,.f (I k))]) (fun k:Nat=>[none]) (fun k:Nat=>k≤Kq.length) (fun k:Nat=>Kq.length-k) (0) (Nat.zero_le _) (by refine weak_of ?_ ?_<;>simp (disch:=omega) only [go_sem]<;>first|rfl|exact ⟨rfl,rfl⟩|exact Or.inl rfl|exact ⟨Or.inl rfl,Or.inl rfl⟩|trivial|assumption|omega|(symm;assumption)|((repeat' apply And.intro)<;>first|rfl|omega|trivial|exact .inl rfl|exact .inr ⟨rfl,rfl⟩|exact .inr rfl|(right;symm;assumption)|(symm;assumption)|assumption)) ?_
    rintro k hk
    have hnx:=anyB_next (p:=p) (k:=k)
    have hpk:p k=((Kq.getD k 0).testBit w&&(decide (x=0)||(Kq.getD k 0).testBit (R.getD (x-1) 0))):=by rw [hp]
    simp only [go_sem]
    (repeat (with_reducible first|refine W_seq fun K hK=>?_|refine J_region ?_ |refine J_c ?_|(refine Kont.go (by assumption) ?_)|(simp (config:={ maxSteps:=3000000 }) (disch:=omega) only [go_sem,hgl])))
    refine Jc_if (fun hkl=>?_) (fun hkl=>?_)<;>try simp only [decide_eq_true_eq,decide_eq_false_iff_not] at hkl
    ·have gk:=gvs_get (P:=Kq) hkl
     have hin:=rinN_w w (els (Kq.getD k 0)) (by omega) (Nat.le_trans els_len (by decide))
     rw [mem_els8 (by omega)] at hin
     cases hac:anyB p k with
     | true =>
      rw [hac,Bool.true_or] at hnx
      (repeat (with_reducible first|refine W_seq fun K hK=>?_|refine J_block ?_|refine J_skip ?_|refine J_region ?_ |refine J_drawn mixed (by kernel_rfl) ?_|(refine Kont.go (by assumption) ?_)|(simp (config:={ maxSteps:=3000000 }) (disch:=omega) only [go_sem])))
      refine ⟨k+1,by omega,by omega,weak_of ?_ ?_⟩<;>(try simp (disch:=omega) only [go_sem,hnx])<;>(try first|done|omega|rfl|exact ⟨rfl,rfl⟩|trivial)
     | false =>
      rw [hac,Bool.false_or] at hnx
      (repeat (with_reducible first|refine W_seq fun K hK=>?_|refine J_block ?_|refine J_skip ?_|refine J_drawn mixed (by kernel_rfl) ?_|(refine Kont.go (by assumption) ?_)|(simp (config:={ maxSteps:=3000000 }) (disch:=omega) only [go_sem,↓reduceIte,gk,true_and])))
      (first|refine call_f (hin) rfl ?_|refine callQ_f (hin) rfl ?_|refine callHK_f (hin) rfl ?_|refine callH_f (hin) rfl ?_)
      cases hb:(Kq.getD k 0).testBit w with
      | false =>
       rw [hb,Bool.false_and] at hpk
       rw [hpk] at hnx
       (repeat (with_reducible first|refine J_region ?_ |(refine Kont.go (by assumption) ?_)|(simp (config:={ maxSteps:=3000000 }) (disch:=omega) only [go_sem])))
       refine ⟨k+1,by omega,by omega,weak_of ?_ ?_⟩<;>(try simp (disch:=omega) only [go_sem,hnx])<;>(try first|done|omega|rfl|exact ⟨rfl,rfl⟩|trivial)
      | true =>
       rw [hb,Bool.true_and] at hpk
       by_cases x0:x=0
       ·rw [decide_eq_true x0,Bool.true_or] at hpk
        rw [hpk] at hnx
        have x0':(x:Int)-1<0:=by omega
        (repeat (with_reducible first|refine J_region ?_ |(refine Kont.go (by assumption) ?_)|(simp (config:={ maxSteps:=3000000 }) (disch:=omega) only [go_sem,x0'])))
        refine ⟨k+1,by omega,by omega,weak_of ?_ ?_⟩<;>(try simp (disch:=omega) only [go_sem,hnx])<;>(try first|done|omega|rfl|exact ⟨rfl,rfl⟩|trivial)
       ·have x0':¬(x:Int)-1<0:=by omega
        have hxR:x-1<R.length:=by omega
        have xt:((x:Int)-1).toNat=x-1:=by omega
        have xn:0≤(x:Int)-1:=by omega
        have gR:(Ns R)[x-1]?=some (I ((R[x-1]:Nat):Int)):=by unfold Ns;rw [List.getElem?_map,List.getElem?_eq_getElem hxR];rfl
        have hR8:=(hRm _ (List.getElem_mem hxR)).1
        rw [decide_eq_false x0,Bool.false_or,lget_lt R 0 hxR] at hpk
        have hin2:=rinN_w R[x-1] (els (Kq.getD k 0)) (by omega) (Nat.le_trans els_len (by decide))
        rw [mem_els8 (by omega),←hpk] at hin2
        (repeat (with_reducible first|(simp (config:={ maxSteps:=3000000 }) (disch:=omega) only [go_sem,↓reduceIte,x0',gw,gk,xt,xn,gR,true_and])))
        (first|refine call_f (hin2) rfl ?_|refine callQ_f (hin2) rfl ?_|refine callHK_f (hin2) rfl ?_|refine callH_f (hin2) rfl ?_)
        (repeat (with_reducible first|refine J_region ?_ |(refine Kont.go (by assumption) ?_)|(simp (config:={ maxSteps:=3000000 }) (disch:=omega) only [go_sem])))
        refine ⟨k+1,by omega,by omega,weak_of ?_ ?_⟩<;>(try simp (disch:=omega) only [go_sem,hnx])<;>(try first|done|omega|rfl|exact ⟨rfl,rfl⟩|trivial)
    ·rw [show k=Kq.length by omega,hall]
     (repeat (with_reducible first|refine W_seq fun K hK=>?_|refine J_skip ?_|refine J_exit ?_|refine J_region ?_ |refine J_c ?_|refine Jc_false ?_|(refine Kont.go (by assumption) ?_)|(simp (config:={ maxSteps:=3000000 }) (disch:=omega) only [go_sem,↓reduceIte])))
     refine ⟨x+1,by omega,by omega,weak_of ?_ ?_⟩<;>(try simp (disch:=omega) only [go_sem])<;>(try first|done|omega|rfl|exact ⟨rfl,rfl⟩|trivial)
   ·(repeat (with_reducible first|refine W_seq fun K hK=>?_|refine J_exit ?_|refine J_region ?_ |(refine Kont.go (by assumption) ?_)|(simp (config:={ maxSteps:=3000000 }) (disch:=omega) only [go_sem,↓reduceIte])))
    (first|refine call_f (hcon) rfl ?_|refine callQ_f (hcon) rfl ?_|refine callHK_f (hcon) rfl ?_|refine callH_f (hcon) rfl ?_)
    (repeat (with_reducible first|refine J_skip ?_|refine J_region ?_ |refine J_c ?_|refine Jc_false ?_|(refine Kont.go (by assumption) ?_)|(simp (config:={ maxSteps:=3000000 }) (disch:=omega) only [go_sem])))
    refine ⟨w+1,by omega,by omega,weak_of ?_ ?_⟩<;>(try simp (disch:=omega) only [go_sem])<;>(try first|done|omega|rfl|exact ⟨rfl,rfl⟩|trivial)
  ·have hcon:=connected_w (v:=-1) hj.nd hj.le hj.lt hj.rip hj.ends (by omega) (by omega) (by omega) (fun e=>by
    have hm:0∈wth Kq (-1):=wth_mem.2 ⟨by omega,rfl⟩
    rw [e] at hm;cases hm)
   (repeat (with_reducible first|refine W_seq fun K hK=>?_|refine J_block ?_|refine J_exit ?_|refine J_region ?_ |(refine Kont.go (by assumption) ?_)|(simp (config:={ maxSteps:=3000000 }) (disch:=omega) only [go_sem,↓reduceIte])))
   refine W_loop [4,20,159,160,161,162,163,164,165,166,167,168,169,170,171,172,173,174,175,176,177,178,179,180,181,182,183,184,185,186,187,188,189,190,191,192,193,194,195,196,197,198] (fun x:Nat=>[(4,.f (Bo false)),(20,.f (I x))]) (fun x:Nat=>[none]) (fun x:Nat=>x≤lks.length) (fun x:Nat=>lks.length-x) (0) (Nat.zero_le _) (by refine weak_of ?_ ?_<;>simp (disch:=omega) only [go_sem]<;>first|rfl|exact ⟨rfl,rfl⟩|exact Or.inl rfl|exact ⟨Or.inl rfl,Or.inl rfl⟩|trivial|assumption|omega|(symm;assumption)|((repeat' apply And.intro)<;>first|rfl|omega|trivial|exact .inl rfl|exact .inr ⟨rfl,rfl⟩|exact .inr rfl|(right;symm;assumption)|(symm;assumption)|assumption)) ?_
   rintro x hx
   simp only [go_sem]
   (repeat (with_reducible first|refine W_seq fun K hK=>?_|refine J_region ?_ |refine J_c ?_|(refine Kont.go (by assumption) ?_)|(simp (config:={ maxSteps:=3000000 }) (disch:=omega) only [go_sem,List.length_map])))
   refine Jc_if (fun hxl=>?_) (fun hxl=>?_)<;>try simp only [decide_eq_true_eq,decide_eq_false_iff_not] at hxl
   ·have gp:=map_get (lnkF Kq) lks hxl
    obtain ⟨p,hp⟩:∃p,p=lks[x]:=⟨_,rfl⟩
    obtain ⟨p1,p2⟩:=hj.ends p (by rw [hp];exact List.getElem_mem _)
    have g2:lnkF Kq p=.agg [I (p.1:Int),I (p.2:Int),.fz 1 (Ns (els (Kq.getD p.1 0&&&Kq.getD p.2 0)))]:=rfl
    rw [←hp,g2] at gp
    have n1:¬(p.1:Int)<0:=by omega
    have n2:¬(p.2:Int)<0:=by omega
    have n3:¬(Kq.length:Int)≤(p.1:Int):=by omega
    have n4:¬(Kq.length:Int)≤(p.2:Int):=by omega
    have n5:¬Kq.length≤p.1:=by omega
    have n6:¬Kq.length≤p.2:=by omega
    (repeat (with_reducible first|refine W_seq fun K hK=>?_|refine J_block ?_|refine J_skip ?_|refine J_region ?_ |refine J_c ?_|refine Jc_false ?_|(refine Kont.go (by assumption) ?_)|(simp (config:={ maxSteps:=3000000 }) (disch:=omega) only [go_sem,↓reduceIte,gp,hgl,n1,n2,n3,n4,true_and])))
    refine ⟨x+1,by omega,by omega,weak_of ?_ ?_⟩<;>(try simp (disch:=omega) only [go_sem])<;>(try first|done|omega|rfl|exact ⟨rfl,rfl⟩|trivial)
   ·(repeat (with_reducible first|refine W_seq fun K hK=>?_|refine J_exit ?_|refine J_region ?_ |(refine Kont.go (by assumption) ?_)|(simp (config:={ maxSteps:=3000000 }) (disch:=omega) only [go_sem,↓reduceIte,Int.reduceNeg])))
    (first|refine call_f (hcon) rfl ?_|refine callQ_f (hcon) rfl ?_|refine callHK_f (hcon) rfl ?_|refine callH_f (hcon) rfl ?_)
    (repeat (with_reducible first|refine J_ret ?_|exact Frz.f _|(refine Kont.go (by assumption) ?_)|(simp (config:={ maxSteps:=3000000 }) (disch:=omega) only [go_sem,Int.reduceNeg])))
end Go.Proofs.YtgjnbcfencallaaDoor
namespace Go.Proofs.YtgjnbcfencallaaDoor
open Go Go.ChangeShapes Go.ChangeAt Go.RowKit
variable {H : Type} {enc : TypeId × Value → H} {P : Program}

def relay (cs:Array Value):Obj→Obj
 | .cells _ t frozen=>.cells cs t frozen
 | o=>o
def firstCells:Array Value:=(Go.Pinned.utf8FirstZ.map fun n:Nat=>Value.int .u8 (n:Int)).toArray
end Go.Proofs.YtgjnbcfencallaaDoor
