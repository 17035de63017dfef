/- Chains: the calls that end with an error; the document's Rising; one number or an error: walked. Conditions: numbers of 10^4 bytes each; what slices may hold. -/
import Derived.Test.YtcgagiimlkjcpaaGreatDoorZB22
import Derived.Test.YtcgagiimlkjcpaaGreatDoorZB26
import Derived.Test.YtcgagiimlkjcpaaGreatDoorZBckW
import Derived.Test.YtcgagiimlkjcpaaGreatDoorZB19
import Derived.Test.YtcgagiimlkjcpaaGreatDoorZB24
set_option linter.unusedVariables false
set_option linter.unusedSimpArgs false
namespace Go.Proofs.YtcgagiimlkjcpaaGreatDoor
open Go Go.RowKit
section
variable {b : Nat} {ys : List FV} {m : List (List Rat)}
set_option maxRecDepth 100000 in
theorem classes_err (hm:FrM b ys m) (h1:1≤b) (hb:b≤10000) (hmx:m.length≤140737488355328) (h0:chkM m≠0):Good Tryz.prog 21 [.fz 1 ys] (.tup [.fz 1 [],.fz 1 [],I (chkM m)]):=by
 have hk:=check_w hm h1 (by omega) hmx
 refine good_of Tryz.func21 rfl (by kernel_rfl) fun X hO hrd=>?_;rw [Tryz.ntmps21,Tryz.results21];simp only [ast0,List.map_cons,List.map_nil,List.length_cons,List.length_nil,Nat.reduceAdd,Nat.reduceSub,List.replicate_succ,List.replicate_zero,List.cons_append,List.nil_append]
 repeat (with_reducible first|refine W_seq fun K hK=>?_|refine J_region ?_ |(refine Kont.go (by assumption) ?_)|(simp (config:={ maxSteps:=3000000 }) (disch:=omega) only [go_sem]))
 refine call_f hk rfl ?_
 repeat (with_reducible first|refine W_seq fun K hK=>?_|refine J_ret ?_|refine J_region ?_ |refine J_c ?_|refine Jc_true ?_|(refine Kont.go (by assumption) ?_)|(simp (config:={ maxSteps:=3000000 }) (disch:=omega) only [go_sem,h0]))
 exact ⟨_,rfl,FrzL.cons (.nil _) (FrzL.cons (.nil _) (FrzL.cons (.f _) (FrzL.nil _)))⟩
set_option maxRecDepth 100000 in
theorem rclasses_err (hm:FrM b ys m) (h1:1≤b) (hb:b≤10000) (hmx:m.length≤140737488355328) (h0:chkM m≠0):Good Tryz.prog 22 [.fz 1 ys] (.tup [.fz 1 [],.fz 1 [],I (chkM m)]):=by
 have hk:=rcheck_w hm h1 (by omega) hmx
 refine good_of Tryz.func22 rfl (by kernel_rfl) fun X hO hrd=>?_;rw [Tryz.ntmps22,Tryz.results22];simp only [ast0,List.map_cons,List.map_nil,List.length_cons,List.length_nil,Nat.reduceAdd,Nat.reduceSub,List.replicate_succ,List.replicate_zero,List.cons_append,List.nil_append]
 repeat (with_reducible first|refine W_seq fun K hK=>?_|refine J_region ?_ |(refine Kont.go (by assumption) ?_)|(simp (config:={ maxSteps:=3000000 }) (disch:=omega) only [go_sem]))
 refine call_f hk rfl ?_
 repeat (with_reducible first|refine W_seq fun K hK=>?_|refine J_ret ?_|refine J_region ?_ |refine J_c ?_|refine Jc_true ?_|(refine Kont.go (by assumption) ?_)|(simp (config:={ maxSteps:=3000000 }) (disch:=omega) only [go_sem,h0]))
 exact ⟨_,rfl,FrzL.cons (.nil _) (FrzL.cons (.nil _) (FrzL.cons (.f _) (FrzL.nil _)))⟩
set_option maxRecDepth 100000 in
theorem hits_err {t:FV} (hm:FrM b ys m) (h1:1≤b) (hb:b≤10000) (hmx:m.length≤140737488355328) (h0:chkM m≠0):Good Tryz.prog 26 [.fz 1 ys,t] (.tup [frs [],I (chkM m)]):=by
 have hk:=check_w hm h1 (by omega) hmx
 refine good_of Tryz.func26 rfl (by kernel_rfl) fun X hO hrd=>?_;rw [Tryz.ntmps26,Tryz.results26];simp only [ast0,List.map_cons,List.map_nil,List.length_cons,List.length_nil,Nat.reduceAdd,Nat.reduceSub,List.replicate_succ,List.replicate_zero,List.cons_append,List.nil_append]
 repeat (with_reducible first|refine W_seq fun K hK=>?_|refine J_region ?_|(refine Kont.go (by assumption) ?_)|(simp (config:={ maxSteps:=3000000 }) (disch:=omega) only [go_sem]))
 refine call_f hk rfl ?_
 repeat (with_reducible first|refine W_seq fun K hK=>?_|refine J_ret ?_|refine J_region ?_|refine J_c ?_|refine Jc_true ?_|(refine Kont.go (by assumption) ?_)|(simp (config:={ maxSteps:=3000000 }) (disch:=omega) only [go_sem,h0]))
 exact ⟨_,rfl,FrzL.cons (.nil _) (FrzL.cons (.f _) (FrzL.nil _))⟩
set_option maxRecDepth 100000 in
theorem rhits_err {t:FV} (hm:FrM b ys m) (h1:1≤b) (hb:b≤10000) (hmx:m.length≤140737488355328) (h0:chkM m≠0):Good Tryz.prog 27 [.fz 1 ys,t] (.tup [frs [],I (chkM m)]):=by
 have hk:=rcheck_w hm h1 (by omega) hmx
 refine good_of Tryz.func27 rfl (by kernel_rfl) fun X hO hrd=>?_;rw [Tryz.ntmps27,Tryz.results27];simp only [ast0,List.map_cons,List.map_nil,List.length_cons,List.length_nil,Nat.reduceAdd,Nat.reduceSub,List.replicate_succ,List.replicate_zero,List.cons_append,List.nil_append]
 repeat (with_reducible first|refine W_seq fun K hK=>?_|refine J_region ?_ |(refine Kont.go (by assumption) ?_)|(simp (config:={ maxSteps:=3000000 }) (disch:=omega) only [go_sem]))
 refine call_f hk rfl ?_
 repeat (with_reducible first|refine W_seq fun K hK=>?_|refine J_ret ?_|refine J_region ?_ |refine J_c ?_|refine Jc_true ?_|(refine Kont.go (by assumption) ?_)|(simp (config:={ maxSteps:=3000000 }) (disch:=omega) only [go_sem,h0]))
 exact ⟨_,rfl,FrzL.cons (.nil _) (FrzL.cons (.f _) (FrzL.nil _))⟩
set_option maxRecDepth 100000 in
theorem hits_var {l:List Int} (hm:FrM b ys m) (h1:1≤b) (hb:b≤10000) (hmx:m.length≤140737488355328) (h0:chkM m=0) (hw:∀x∈l,-9223372036854775808≤x∧x≤9223372036854775807) (hl:l.length≤140737488355328) (hr:risB m.length l=false) :
  Good Tryz.prog 26 [.fz 1 ys,ints l] (.tup [frs [],I 11]):=by
 have hk:=check_w hm h1 (by omega) hmx
 rw [h0] at hk
 have hs:=states_w (ys:=ys) (n:=m.length) l hm.len (by have:=(chk_sq hm h0).1.le;omega) hw hl
 rw [hr] at hs
 refine good_of Tryz.func26 rfl (by kernel_rfl) fun X hO hrd=>?_;rw [Tryz.ntmps26,Tryz.results26];simp only [ast0,List.map_cons,List.map_nil,List.length_cons,List.length_nil,Nat.reduceAdd,Nat.reduceSub,List.replicate_succ,List.replicate_zero,List.cons_append,List.nil_append]
 repeat (with_reducible first|refine W_seq fun K hK=>?_|refine J_region ?_|(refine Kont.go (by assumption) ?_)|(simp (config:={ maxSteps:=3000000 }) (disch:=omega) only [go_sem]))
 refine call_f hk rfl ?_
 repeat (with_reducible first|refine W_seq fun K hK=>?_|refine J_skip ?_|refine J_region ?_|refine J_c ?_|refine Jc_false ?_|(refine Kont.go (by assumption) ?_)|(simp (config:={ maxSteps:=3000000 }) (disch:=omega) only [go_sem]))
 refine call_f hs rfl ?_
 repeat (with_reducible first|refine W_seq fun K hK=>?_|refine J_ret ?_|refine J_region ?_|refine J_c ?_|refine Jc_true ?_|(refine Kont.go (by assumption) ?_)|(simp (config:={ maxSteps:=3000000 }) (disch:=omega) only [go_sem]))
 exact ⟨_,rfl,FrzL.cons (.nil _) (FrzL.cons (.f _) (FrzL.nil _))⟩
set_option maxRecDepth 100000 in
theorem rback_err {i:Int} (hm:FrM b ys m) (h1:1≤b) (hb:b≤10000) (hmx:m.length≤140737488355328) (h0:chkM m≠0):Good Tryz.prog 29 [.fz 1 ys,I i] (.tup [zF,I (chkM m)]):=by
 have hk:=rcheck_w hm h1 (by omega) hmx
 refine good_of Tryz.func29 rfl (by kernel_rfl) fun X hO hrd=>?_;rw [Tryz.ntmps29,Tryz.results29];simp only [ast0,List.map_cons,List.map_nil,List.length_cons,List.length_nil,Nat.reduceAdd,Nat.reduceSub,List.replicate_succ,List.replicate_zero,List.cons_append,List.nil_append]
 repeat (with_reducible first|refine W_seq fun K hK=>?_|refine J_region ?_ |(refine Kont.go (by assumption) ?_)|(simp (config:={ maxSteps:=3000000 }) (disch:=omega) only [go_sem,Nat.reduceAdd]))
 refine call_f hk rfl ?_
 repeat (with_reducible first|refine W_seq fun K hK=>?_|refine J_ret ?_|refine J_region ?_ |refine J_c ?_|refine Jc_true ?_|(refine Kont.go (by assumption) ?_)|(simp (config:={ maxSteps:=3000000 }) (disch:=omega) only [go_sem,↓reduceIte,Nat.reduceAdd,h0]))
 exact ⟨_,rfl,FrzL.fs [_,_]⟩
set_option maxRecDepth 100000 in
theorem rback_var {i:Int} (hm:FrM b ys m) (h1:1≤b) (hb:b≤10000) (hmx:m.length≤140737488355328) (h0:chkM m=0) (hi:i<0∨(m.length:Int)≤i):Good Tryz.prog 29 [.fz 1 ys,I i] (.tup [zF,I 11]):=by
 have hk:=rcheck_w hm h1 (by omega) hmx
 rw [h0] at hk
 have hyl:ys.length=m.length:=hm.len
 refine good_of Tryz.func29 rfl (by kernel_rfl) fun X hO hrd=>?_;rw [Tryz.ntmps29,Tryz.results29];simp only [ast0,List.map_cons,List.map_nil,List.length_cons,List.length_nil,Nat.reduceAdd,Nat.reduceSub,List.replicate_succ,List.replicate_zero,List.cons_append,List.nil_append]
 repeat (with_reducible first|refine W_seq fun K hK=>?_|refine J_region ?_ |(refine Kont.go (by assumption) ?_)|(simp (config:={ maxSteps:=3000000 }) (disch:=omega) only [go_sem,Nat.reduceAdd]))
 refine call_f hk rfl ?_
 by_cases hn:i<0
 ·repeat (with_reducible first|refine W_seq fun K hK=>?_|refine J_skip ?_|refine J_ret ?_|refine J_region ?_ |refine J_c ?_|refine Jc_true ?_|refine Jc_false ?_|(refine Kont.go (by assumption) ?_)|(simp (config:={ maxSteps:=3000000 }) (disch:=omega) only [go_sem,↓reduceIte,Nat.reduceAdd,hn]))
  exact ⟨_,rfl,FrzL.fs [_,_]⟩
 ·have hge:(m.length:Int)≤i:=by omega
  repeat (with_reducible first|refine W_seq fun K hK=>?_|refine J_skip ?_|refine J_ret ?_|refine J_region ?_ |refine J_c ?_|refine Jc_true ?_|refine Jc_false ?_|(refine Kont.go (by assumption) ?_)|(simp (config:={ maxSteps:=3000000 }) (disch:=omega) only [go_sem,↓reduceIte,Nat.reduceAdd,hyl,hn,hge]))
  exact ⟨_,rfl,FrzL.fs [_,_]⟩
end
theorem eqR_zz:eqR false ⟨#[]⟩ ⟨#[]⟩ false ⟨#[]⟩ ⟨#[]⟩=true:=by decide
set_option maxRecDepth 100000 in
theorem nought_w:Good Tryz.prog 124 [zF] (Bo true):=by
 refine good_of Tryz.func124 rfl (by kernel_rfl) fun X hO hrd=>?_;rw [Tryz.ntmps124,Tryz.results124];simp only [ast0,List.map_cons,List.map_nil,List.length_cons,List.length_nil,Nat.reduceAdd,Nat.reduceSub,List.replicate_succ,List.replicate_zero,List.cons_append,List.nil_append]
 repeat (with_reducible first|refine W_seq fun K hK=>?_|refine J_ret ?_|refine J_region ?_ |refine J_drawn mixed (by kernel_rfl) ?_|exact Frz.f _|(refine Kont.go (by assumption) ?_)|(simp (config:={ maxSteps:=3000000 }) (disch:=omega) only [go_sem,↓reduceIte,Nat.reduceAdd,eqR_zz,true_and,and_self]))
set_option maxRecDepth 100000 in
theorem oneFrac_err {e:Int} (he:e≠0):Good Tryz.prog 32 [zF,I e,zF,I e] (Bo true):=by
 refine good_of Tryz.func32 rfl (by kernel_rfl) fun X hO hrd=>?_;rw [Tryz.ntmps32,Tryz.results32];simp only [ast0,List.map_cons,List.map_nil,List.length_cons,List.length_nil,Nat.reduceAdd,Nat.reduceSub,List.replicate_succ,List.replicate_zero,List.cons_append,List.nil_append]
 repeat (with_reducible first|refine W_seq fun K hK=>?_|refine J_region ?_ |(refine Kont.go (by assumption) ?_)|(simp (config:={ maxSteps:=3000000 }) (disch:=omega) only [go_sem,↓reduceIte,Nat.reduceAdd,he]))
 refine call_f nought_w rfl ?_
 repeat (with_reducible first|refine J_ret ?_|exact Frz.f _|(refine Kont.go (by assumption) ?_)|(simp (config:={ maxSteps:=3000000 }) (disch:=omega) only [go_sem]))
set_option maxRecDepth 100000 in
theorem oneFrac_ok {q:Rat}:Good Tryz.prog 32 [fr q,I 0,fr q,I 0] (Bo true):=by
 refine good_of Tryz.func32 rfl (by kernel_rfl) fun X hO hrd=>?_;rw [Tryz.ntmps32,Tryz.results32];simp only [ast0,List.map_cons,List.map_nil,List.length_cons,List.length_nil,Nat.reduceAdd,Nat.reduceSub,List.replicate_succ,List.replicate_zero,List.cons_append,List.nil_append]
 repeat (with_reducible first|refine W_seq fun K hK=>?_|refine J_ret ?_|refine J_region ?_ |exact Frz.f _|(refine Kont.go (by assumption) ?_)|(simp (config:={ maxSteps:=3000000 }) (disch:=omega) only [go_sem,↓reduceIte,Nat.reduceAdd,decide_true]))
end Go.Proofs.YtcgagiimlkjcpaaGreatDoor
set_option linter.unusedVariables false
set_option linter.unusedSimpArgs false
namespace Go.Proofs.YtcgagiimlkjcpaaGreatDoor
open Go Go.RowKit
section
variable {m : List (List Rat)} {l : List Nat} {c : Nat}
theorem augB (hd:l.Nodup) (hc:c<l.length) {n k:Nat} (hn:n<l.length) (hk:k≤l.length):augM ((List.range l.length).map (bRw m l (l.getD c 0))) ((List.range l.length).map fun _=>1) n k=bckM l.length (inQ m l) c n k:=by
 have hlen:((List.range l.length).map (bRw m l (l.getD c 0))).length=l.length:=by simp
 have hinj:∀a b,a<l.length→b<l.length→(l.getD a 0=l.getD b 0)=(a=b):=fun a b ha hb=>propext ⟨fun h=>by
  rw [lget_lt l 0 ha,lget_lt l 0 hb] at h
  exact nodup_inj hd ha hb h,fun h=>by rw [h]⟩
 unfold augM bckM
 rw [hlen]
 by_cases e:k=l.length
 ·rw [if_pos e,if_pos e]
  have:((List.range l.length).map fun _=>(1:Rat))[n]?=some 1:=by simp [hn]
  rw [List.getD_eq_getElem?_getD,this];rfl
 ·rw [if_neg e,if_neg e]
  have hk':k<l.length:=by omega
  have e1:((List.range l.length).map (bRw m l (l.getD c 0)))[n]?=some (bRw m l (l.getD c 0) n):=by simp [hn]
  have e2:(bRw m l (l.getD c 0) n)[k]?=some (bV m l (l.getD c 0) n k):=by simp [bRw,hk']
  unfold at2
  rw [List.getD_eq_getElem?_getD (l:=(List.range l.length).map (bRw m l (l.getD c 0))),e1]
  show (bRw m l (l.getD c 0) n).getD k 0=_
  rw [List.getD_eq_getElem?_getD,e2]
  show bV m l (l.getD c 0) n k=_
  unfold bV inQ
  simp only [hinj k c hk' hc,hinj n k hn hk']
theorem bck_x (h:Irr l.length (inQ m l)) (hd:l.Nodup) (hc:c<l.length):∃x:Nat→Rat,bckR m l (l.getD c 0)=(List.range l.length).map x∧∀n,n<l.length→x n=1+sumF (fun k=>inQ m l n k*offI c x k) l.length:=by
 obtain ⟨M,hM⟩:∃M,M=augM ((List.range l.length).map (bRw m l (l.getD c 0))) ((List.range l.length).map fun _=>1):=⟨_,rfl⟩
 have ent:∀i k,i<l.length→k≤l.length→M i k=bckM l.length (inQ m l) c i k:=fun i k hi hk=>hM▸augB hd hc hi hk
 have hom:∀y,Hom l.length M y→Hom l.length (bckM l.length (inQ m l) c) y:=fun y hy i hi=>by
  rw [←hy i hi];exact sumF_congr fun k hk=>by rw [ent i k hi (by omega)]
 obtain ⟨M',hM'⟩:=gs_some (M:=M) fun y hy=>bck_hom h hc (hom y hy)
 refine ⟨fun n=>M' n l.length,?_,fun n hn=>?_⟩
 ·unfold bckR solR
  have hlen:((List.range l.length).map (bRw m l (l.getD c 0))).length=l.length:=by simp
  rw [hlen,←hM,hM']
 ·have:=(gs_sol (x:=fun i=>M' i l.length) hM').2 (fun i _=>rfl) n hn
  rw [ent n _ hn (Nat.le_refl _),show bckM l.length (inQ m l) c n l.length=1 by unfold bckM;rw [if_pos rfl]] at this
  have e:sumF (fun k=>M n k*M' k l.length) l.length=sumF (fun k=>bckM l.length (inQ m l) c n k*(fun n=>M' n l.length) k) l.length:=sumF_congr fun k hk=>by rw [ent n k hn (by omega)]
  rw [e,bck_row hn] at this
  grind
end
theorem getD_map' {α β:Type} {f:α→β} {L:List α} {q:Nat} {d:β} (h:q<L.length):(L.map f).getD q d=f L[q]:=by
 rw [List.getD_eq_getElem?_getD,List.getElem?_map,List.getElem?_eq_getElem h];rfl
theorem bck_ex {m:List (List Rat)} {n i:Nat} (hn:n=m.length) (hn6:n≤6) (hi:i<n):∃q l c,BckOk m i q l∧c<l.length∧l.getD c 0=i∧(∀j,j<c→l.getD j 0≠i)∧l=cls n (wsh (edg m) n) i ∧
  (shutL n (wsh (edg m) n) n).getD q false=clo n (wsh (edg m) n) i∧l.Nodup:=by
 obtain ⟨R,hR⟩:∃R,R=wsh (edg m) n:=⟨_,rfl⟩
 have hp:Pre n R:=by rw [hR];exact wsh_pre
 obtain ⟨r,hr,hrep,hrm⟩:=rep_ex hp hi
 obtain ⟨L,hL⟩:∃L,L=(List.range n).filter (isRep n R):=⟨_,rfl⟩
 have hLn:L.Nodup:=by rw [hL];exact List.Pairwise.filter _ List.nodup_range
 have hrL:r∈L:=by rw [hL];exact List.mem_filter.2 ⟨List.mem_range.2 hr,hrep⟩
 have hLp:∀s∈L,s<n∧isRep n R s=true:=fun s hs=>by rw [hL] at hs;exact ⟨List.mem_range.1 (List.mem_filter.1 hs).1,(List.mem_filter.1 hs).2⟩
 obtain ⟨q,hq,eq⟩:=List.getElem_of_mem hrL
 have hcls:cls n R r=cls n R i:=cls_eq hp hi hrm
 have hC:∀j,(hj:j<L.length)→(repL n R n).getD j []=cls n R L[j]:=fun j hj=>by unfold repL;rw [←hL];exact getD_map' hj
 have hS:∀j,(hj:j<L.length)→(shutL n R n).getD j false=clo n R L[j]:=fun j hj=>by unfold shutL;rw [←hL];exact getD_map' hj
 have hCl:(repL n R n).length=L.length:=by unfold repL;rw [List.length_map,←hL]
 have hSl:(shutL n R n).length=L.length:=by unfold shutL;rw [List.length_map,←hL]
 have hout:∀j,¬j<L.length→(repL n R n).getD j []=[]:=fun j hj=>by rw [List.getD_eq_getElem?_getD,List.getElem?_eq_none (by omega)];rfl
 have hLl:L.length≤n:=nodup_le hLn fun s hs=>(hLp s hs).1
 have hall:∀j,∀s∈(repL n R n).getD j [],s<n:=fun j s hs=>by
  by_cases hj:j<L.length
  ·rw [hC j hj] at hs;exact (cls_mem.1 hs).1
  ·rw [hout j hj] at hs;simp at hs
 obtain ⟨l,hl⟩:∃l,l=cls n R i:=⟨_,rfl⟩
 have hil:i∈l:=by rw [hl];exact cls_self hp hi
 have hlnd:l.Nodup:=by rw [hl];exact cls_nodup
 obtain ⟨c,hc,ec⟩:=List.getElem_of_mem hil
 have hclo:clo n R L[q]=clo n R i:=by
  rw [eq]
  have hir:i∈cls n R r:=by rw [hcls];exact cls_self hp hi
  cases h1:clo n R r with
  | true=>exact (clo_class hp hr hir h1).symm
  | false =>
   cases h2:clo n R i with
   | false=>rfl
   | true=>have:=clo_class hp hi hrm h2;rw [h1] at this;cases this
 refine ⟨q,l,c,⟨by omega,?_,?_,hil,fun j hj hm=>?_,?_,fun j=>?_,?_,?_⟩,hc,by rw [lget_lt l 0 hc,ec],fun j hj e=>?_,?_,?_,hlnd⟩
 ·rw [←hn,←hR,hCl];exact hq
 ·rw [←hn,←hR,hC q hq,eq,hcls,hl]
 ·rw [←hn,←hR,hC j (by omega)] at hm
  have h1:=(hLp _ (List.getElem_mem (show j<L.length by omega)))
  have h2:cls n R i=cls n R L[j]:=cls_eq hp h1.1 hm
  have h3:L[j]=r:=rep_unique hp h1.1 (by rw [←h2];exact hrm) h1.2 hrep
  have h4:=nodup_inj hLn (show j<L.length by omega) hq (h3.trans eq.symm)
  omega
 ·rw [←hn,←hR];exact hall
 ·rw [←hn,←hR]
  refine Nat.le_trans (nodup_le (n:=n) ?_ fun s hs=>hall j s hs) hn6
  by_cases hj:j<L.length
  ·rw [hC j hj];exact cls_nodup
  ·rw [hout j hj];exact List.nodup_nil
 ·rw [←hn,←hR,hSl,hCl]
 ·rw [←hn,←hR,hCl];omega
 ·rw [lget_lt l 0 (by omega),←ec] at e
  have:=nodup_inj hlnd (by omega) hc e
  omega
 ·rw [←hR];exact hl
 ·rw [←hR,hS q hq,hclo]
end Go.Proofs.YtcgagiimlkjcpaaGreatDoor
set_option linter.unusedVariables false
set_option linter.unusedSimpArgs false
namespace Go.Proofs.YtcgagiimlkjcpaaGreatDoor
open Go Go.RowKit
set_option maxRecDepth 100000 in
set_option maxHeartbeats 4000000 in
theorem rback_no {b:Nat} {ys:List FV} {m:List (List Rat)} {i:Nat} (hm:FrM b ys m) (h1:1≤b) (hb:b≤10000) (hmx:m.length≤140737488355328) (h0:chkM m=0) (hi:i<m.length) (hc:clo m.length (wsh (edg m) m.length) i=false) :
  Good Tryz.prog 29 [.fz 1 ys,I (i:Int)] (.tup [zF,I 16]):=by
 have hk:=rcheck_w hm h1 (by omega) hmx
 rw [h0] at hk
 obtain ⟨hsq,hn1,hch⟩:=chk_sq hm h0
 have hn6:=hsq.le
 have hyl:ys.length=m.length:=hm.len
 have hcm:=rcomes_w hsq h1 (by omega) hi
 obtain ⟨O,hO⟩:∃O,O=comL m.length (edg m) i:=⟨_,rfl⟩
 have hOl:O.length≤6:=by rw [hO];exact Nat.le_trans (nodup_le (comL_nd hi) (comL_lt hi)) hn6
 have hOlt:∀q,q<O.length→O.getD q 0<m.length:=fun q hq=>by rw [lget_lt O 0 hq];exact comL_lt hi _ (by rw [←hO];exact List.getElem_mem _)
 -- one that does not come back
 have hex:∃q,q<O.length∧i∉comL m.length (edg m) (O.getD q 0):=by
  refine Classical.byContradiction fun hno=>?_
  have:clo m.length (wsh (edg m) m.length) i=true:=clo_iff.2 fun k hk hik=>by
   have hkO:k∈O:=by
    rw [hO]
    have:=com_R (m:=m) hi hk
    rw [hik] at this
    exact of_decide_eq_true this
   obtain ⟨q,hq,e⟩:=List.getElem_of_mem hkO
   have hb:i∈comL m.length (edg m) (O.getD q 0):=Classical.byContradiction fun hn=>hno ⟨q,hq,hn⟩
   rw [lget_lt O 0 hq,e] at hb
   rw [←com_R (m:=m) hk hi]
   exact decide_eq_true hb
  rw [hc] at this;cases this
 rw [←hO] at hcm
 have hneg:¬((i:Int)<0):=by omega
 have hnl:¬(m.length≤i):=by omega
 refine good_of Tryz.func29 rfl (by kernel_rfl) fun X hO hrd=>?_;rw [Tryz.ntmps29,Tryz.results29];simp only [ast0,List.map_cons,List.map_nil,List.length_cons,List.length_nil,Nat.reduceAdd,Nat.reduceSub,List.replicate_succ,List.replicate_zero,List.cons_append,List.nil_append]
 repeat (with_reducible first|refine W_seq fun K hK=>?_|refine J_region ?_ |(refine Kont.go (by assumption) ?_)|(simp (config:={ maxSteps:=3000000 }) (disch:=omega) only [go_sem,Nat.reduceAdd]))
 refine call_f hk rfl ?_
 repeat (with_reducible first|refine W_seq fun K hK=>?_|refine J_skip ?_|refine J_region ?_ |refine J_c ?_|refine Jc_false ?_|(refine Kont.go (by assumption) ?_)|(simp (config:={ maxSteps:=3000000 }) (disch:=omega) only [go_sem,hyl,hneg,hnl]))
 refine call_f hcm rfl ?_
 repeat (with_reducible first|refine W_seq fun K hK=>?_|refine J_block ?_|refine J_region ?_ |(refine Kont.go (by assumption) ?_)|(simp (config:={ maxSteps:=3000000 }) (disch:=omega) only [go_sem]))
 refine W_loop [5,8,9,39,40,41,42,43,44,45,46,47,48,49,50,51,52,53,54,55] (fun x:Nat=>[(8,.f (I x))]) (fun x:Nat=>[oF zF]) (fun x:Nat=>x≤O.length∧∀j,j<x→i∈comL m.length (edg m) (O.getD j 0)) (fun x:Nat=>O.length-x) (0) (⟨Nat.zero_le _,fun j h=>by omega⟩) (by refine weak_of ?_ ?_<;>simp (disch:=omega) only [go_sem]<;>first|rfl|exact ⟨rfl,rfl⟩|exact Or.inl rfl|exact ⟨Or.inl rfl,Or.inl rfl⟩|trivial|assumption|omega|(symm;assumption)|((repeat' apply And.intro)<;>first|rfl|omega|trivial|exact .inr ⟨rfl,rfl⟩|exact .inr rfl|(right;symm;assumption)|(symm;assumption)|assumption)) ?_
 rintro x ⟨hx,hp⟩
 simp only [go_sem]
 repeat (with_reducible first|refine W_seq fun K hK=>?_|refine J_region ?_ |refine J_c ?_|(refine Kont.go (by assumption) ?_)|(simp (config:={ maxSteps:=3000000 }) (disch:=omega) only [go_sem,Ns_len]))
 refine Jc_if (fun hxl=>?_) (fun hxl=>?_)<;>try simp only [decide_eq_true_eq,decide_eq_false_iff_not] at hxl
 ·have g1:=Ns_get hxl
  have hcx:=rcomes_w hsq h1 (by omega) (hOlt x hxl)
  have hcl:(comL m.length (edg m) (O.getD x 0)).length≤6:=Nat.le_trans (nodup_le (comL_nd (hOlt x hxl)) (comL_lt (hOlt x hxl))) hn6
  have hin:=rinN_w i (comL m.length (edg m) (O.getD x 0)) (by omega) (by omega)
  repeat (with_reducible first|refine W_seq fun K hK=>?_|refine J_block ?_|refine J_skip ?_|refine J_region ?_ |(refine Kont.go (by assumption) ?_)|(simp (config:={ maxSteps:=3000000 }) (disch:=omega) only [go_sem,↓reduceIte,g1]))
  refine call_f hcx rfl ?_
  repeat (with_reducible first|(simp (config:={ maxSteps:=3000000 }) (disch:=omega) only [go_sem]))
  refine call_f hin rfl ?_
  by_cases hb:i∈comL m.length (edg m) (O.getD x 0)
  ·rw [decide_eq_true hb]
   repeat (with_reducible first|refine W_seq fun K hK=>?_|refine J_skip ?_|refine J_region ?_ |refine J_c ?_|refine Jc_false ?_|(refine Kont.go (by assumption) ?_)|(simp (config:={ maxSteps:=3000000 }) (disch:=omega) only [go_sem]))
   refine ⟨x+1,⟨by omega,upto_next (p:=fun j=>i∈comL m.length (edg m) (O.getD j 0)) hp hb⟩,by omega,weak_of ?_ ?_⟩<;>(try simp (disch:=omega) only [go_sem])<;>(try first|done|omega|rfl|exact ⟨rfl,rfl⟩|trivial)
  ·rw [decide_eq_false hb]
   repeat (with_reducible first|refine W_seq fun K hK=>?_|refine J_ret ?_|refine J_region ?_ |refine J_c ?_|refine Jc_true ?_|(refine Kont.go (by assumption) ?_)|(simp (config:={ maxSteps:=3000000 }) (disch:=omega) only [go_sem,↓reduceIte,Nat.reduceAdd]))
   exact ⟨_,rfl,FrzL.fs [_,_]⟩
 ·obtain ⟨q,hq,hn⟩:=hex
  exact absurd (hp q (by omega)) hn
theorem bPart_app {E:Bx} {l:List Nat} {k:Nat}:∀j,∃t,bPart E l k j=l++t:=by
 intro j
 induction j with
 | zero=>exact ⟨[],(List.append_nil _).symm⟩
 | succ j ih =>
  obtain ⟨t,e⟩:=ih
  show ∃t,(if E (l.getD k 0) j=true∧j∉bPart E l k j then bPart E l k j++[j] else bPart E l k j)=l++t
  split
  ·exact ⟨t++[j],by rw [e,List.append_assoc]⟩
  ·exact ⟨t,e⟩
theorem bfsN_app {n:Nat} {E:Bx}:∀(f:Nat) (l:List Nat) (k:Nat),∃t,bfsN n E f l k=l++t:=by
 intro f
 induction f with
 | zero=>intro l k;exact ⟨[],(List.append_nil _).symm⟩
 | succ f ih =>
  intro l k
  show ∃t,(if k<l.length then bfsN n E f (bPart E l k n) (k+1) else l)=l++t
  split
  ·obtain ⟨t,e⟩:=ih (bPart E l k n) (k+1)
   obtain ⟨u,e2⟩:=bPart_app (E:=E) (l:=l) (k:=k) n
   exact ⟨u++t,by rw [e,e2,List.append_assoc]⟩
  ·exact ⟨[],(List.append_nil _).symm⟩
theorem comL_head {n:Nat} {E:Bx} {i:Nat}:∃t,comL n E i=i::t:=bfsN_app (n+1) [i] 0
def oneT (x:Nat):List FV:=(List.range x).map fun _=>fr ((1:Int):Rat)
theorem oneT_zero:oneT 0=[]:=rfl
theorem oneT_len {x:Nat}:(oneT x).length=x:=by simp [oneT]
theorem oneT_next {x:Nat}:oneT x++[fr ((1:Int):Rat)]=oneT (x+1):=by simp [oneT,List.range_succ]
attribute [go_sem] oneT_zero
set_option maxRecDepth 100000 in
set_option maxHeartbeats 16000000 in
theorem rback_yes {b:Nat} {ys:List FV} {m:List (List Rat)} {l:List Nat} {i c:Nat} (hm:FrM b ys m) (h1:1≤b) (hb:b≤1000) (hmx:m.length≤6) (h0:chkM m=0) (hi:i<m.length) (hc:clo m.length (wsh (edg m) m.length) i=true)
  (hl:l=cls m.length (wsh (edg m) m.length) i) (hcl:c<l.length) (hci:l.getD c 0=i) :
  Good Tryz.prog 29 [.fz 1 ys,I (i:Int)] (.tup [fr ((bckR m l i).getD c 0),I 0]):=by
 have hk:=rcheck_w hm h1 (by omega) (by omega)
 rw [h0] at hk
 obtain ⟨hsq,hn1,hch⟩:=chk_sq hm h0
 have hyl:ys.length=m.length:=hm.len
 have hcm:=rcomes_w hsq h1 (by omega) hi
 obtain ⟨S,hS⟩:=comL_head (n:=m.length) (E:=edg m) (i:=i)
 obtain ⟨O,hO⟩:∃O,O=comL m.length (edg m) i:=⟨_,rfl⟩
 have hOS:O=i::S:=by rw [hO,hS]
 have hOn:O.Nodup:=by rw [hO];exact comL_nd hi
 have hOm:∀s∈O,s<m.length:=by rw [hO];exact comL_lt hi
 have hOl:O.length≤6:=Nat.le_trans (nodup_le hOn hOm) hmx
 have hiS:i∉S:=by rw [hOS] at hOn;exact (List.nodup_cons.1 hOn).1
 have hSn:S.Nodup:=by rw [hOS] at hOn;exact (List.nodup_cons.1 hOn).2
 have hSlt:∀s∈S,s<m.length:=fun s hs=>hOm s (by rw [hOS];exact List.mem_cons_of_mem _ hs)
 have hOlt:∀q,q<O.length→O.getD q 0<m.length:=fun q hq=>by rw [lget_lt O 0 hq];exact hOm _ (List.getElem_mem _)
 have hSl:S.length≤5:=by rw [hOS] at hOl;simpa using hOl
 have hOmem:∀s,s<m.length→(s∈O↔wsh (edg m) m.length i s=true):=fun s hs=>by
  rw [hO,←com_R hi hs];exact decide_eq_true_iff.symm
 have hclo:=clo_iff.1 hc
 have hlO:∀s,s∈l↔s∈O:=fun s=>by
  rw [hl,cls_mem]
  constructor
  ·rintro ⟨a1,a2,_⟩;exact (hOmem s a1).2 a2
  ·intro h;have a1:=hOm s h;have a2:=(hOmem s a1).1 h;exact ⟨a1,a2,hclo s a1 a2⟩
 have hback:∀q,q<O.length→i∈comL m.length (edg m) (O.getD q 0):=fun q hq=>by
  have a1:=hOlt q hq
  have a2:=(hOmem _ a1).1 (getD_mem hq)
  have a3:=hclo _ a1 a2
  rw [←com_R (m:=m) a1 hi] at a3
  exact of_decide_eq_true a3
 have hlnd:l.Nodup:=by rw [hl];exact cls_nodup
 have hlm:∀s∈l,s<m.length:=fun s hs=>by rw [hl] at hs;exact (cls_mem.1 hs).1
 have hs:Sto m.length (at2 m):=sto_of rfl (fun r hr=>hsq.sq r hr) hch
 have hirr:=irr_cls hs hi hc
 rw [←hl] at hirr
 obtain ⟨x,hx,hxe⟩:=bck_x hirr hlnd hcl
 rw [hci] at hx
 have hres:(bckR m l i).getD c 0=x c:=by rw [hx];simp [List.getD,hcl]
 obtain ⟨hdet,Xb,hX,hXs⟩:=back_det hirr hlnd hlm hcl hSn (fun s=>by
  rw [hlO,hOS,hci]
  constructor
  ·intro h;exact ⟨List.mem_cons_of_mem _ h,fun e=>hiS (e▸h)⟩
  ·rintro ⟨h,hne⟩
   rcases List.mem_cons.1 h with e|h
   ·exact absurd e hne
   ·exact h) hxe
 rw [hci] at hXs
 have hsz:=smL_fz hsq h1 hSlt
 obtain ⟨bl,hbl⟩:∃bl:List Rat,bl=(List.range S.length).map fun _=>1:=⟨_,rfl⟩
 have hbll:bl.length=S.length:=by rw [hbl];simp
 have hblg:∀i,i<S.length→bl.getD i 0=1:=fun i hi=>by rw [hbl];simp [List.getD,hi]
 have hone:Fz (1:Rat) (b+9):=(Fz.int (n:=1) (by decide)).up (by omega)
 have hblz:Row (b+9) bl:=fun q hq=>by
  rw [hbl] at hq
  obtain ⟨i,hi,rfl⟩:=List.mem_map.1 hq
  exact hone
 have hsol:=solved_w (s:=b+9) (by omega) (by omega) smL_len smL_row hbll (by omega) hsz hblz (by rw [det_congr smL_at];exact hdet)
 have hbF:FV.fz 3 (bl.map fr)=FV.fz 3 (oneT S.length):=by rw [hbl];unfold oneT;rw [List.map_map];rfl
 rw [smL_all,hbF] at hsol
 have hdX:∀q,q<S.length→dsl S.length (at2 (smL m S)) (fun i=>bl.getD i 0) q=Xb q:=fun q hq=>by
  rw [dsl_congr smL_at (v:=fun _=>1) hblg];exact hX q hq
 have hszd:=szD_le (b:=b+9) (by omega) S.length (by omega)
 obtain ⟨Sz,hSz⟩:∃Sz,Sz=szD (b+9) S.length:=⟨_,rfl⟩
 rw [←hSz] at hszd
 have hXz:∀q,q<S.length→Fz (Xb q) (Sz+Sz):=fun q hq=>by
  rw [←hX q hq]
  unfold dsl
  rw [hSz]
  refine Fz.div (det_fz fun a k ha hk=>?_) (det_fz fun a k ha hk=>smA_fz hsq h1 hSlt ha hk)
  unfold cset
  split
  ·exact hone
  ·exact smA_fz hsq h1 hSlt ha hk
 obtain ⟨xs,hxs⟩:∃xs,xs=slTo S.length (at2 (smL m S)) (fun i=>bl.getD i 0) S.length:=⟨_,rfl⟩
 have hxg:∀q,q<S.length→xs[q]?=some (fr (Xb q)):=fun q hq=>by
  rw [hxs]
  have:(slTo S.length (at2 (smL m S)) (fun i=>bl.getD i 0) S.length)[q]?=some (fr (dsl S.length (at2 (smL m S)) (fun i=>bl.getD i 0) q)):=by simp [slTo,hq]
  rw [this,hdX q hq]
 rw [←hxs] at hsol
 rw [←hO] at hcm
 rw [hres,←hXs]
 obtain ⟨T,hT⟩:∃T:Nat→Rat,T=fun k=>at2 m i (S.getD k 0)*Xb k:=⟨_,rfl⟩
 have hTe:sumF (fun k=>at2 m i (S.getD k 0)*Xb k) S.length=sumF T S.length:=by rw [hT]
 have hTz:∀k,k<S.length→Fz (T k) (b+(Sz+Sz)):=fun k hk=>by rw [hT];exact (hsq.f2 h1 hi (hSlt _ (getD_mem hk))).mul (hXz k hk)
 rw [hTe]
 have hneg:¬((i:Int)<0):=by omega
 have hnl:¬(m.length≤i):=by omega
 have hNO:Ns O=I (i:Int)::Ns S:=by rw [hOS];rfl
 have hdrop:List.drop 1 (Ns O)=Ns S:=by rw [hNO];rfl
 have hOl1:O.length=S.length+1:=by rw [hOS];rfl
 have htk:List.take S.length (Ns S)=Ns S:=List.take_of_length_le (by rw [Ns_len];exact Nat.le_refl _)
 have hSg:∀q,q<S.length→(Ns S)[q]?=some (I (S.getD q 0:Nat)):=fun q hq=>Ns_get hq
 refine good_of Tryz.func29 rfl (by kernel_rfl) fun X hO hrd=>?_;rw [Tryz.ntmps29,Tryz.results29];simp only [ast0,List.map_cons,List.map_nil,List.length_cons,List.length_nil,Nat.reduceAdd,Nat.reduceSub,List.replicate_succ,List.replicate_zero,List.cons_append,List.nil_append]
 repeat (with_reducible first|refine W_seq fun K hK=>?_|refine J_region ?_ |(refine Kont.go (by assumption) ?_)|(simp (config:={ maxSteps:=3000000 }) (disch:=omega) only [go_sem,Nat.reduceAdd]))
 refine call_f hk rfl ?_
 repeat (with_reducible first|refine W_seq fun K hK=>?_|refine J_skip ?_|refine J_region ?_ |refine J_c ?_|refine Jc_false ?_|(refine Kont.go (by assumption) ?_)|(simp (config:={ maxSteps:=3000000 }) (disch:=omega) only [go_sem,hyl,hneg,hnl]))
 refine call_f hcm rfl ?_
 repeat (with_reducible first|refine W_seq fun K hK=>?_|refine J_block ?_|refine J_region ?_ |(refine Kont.go (by assumption) ?_)|(simp (config:={ maxSteps:=3000000 }) (disch:=omega) only [go_sem]))
 obtain ⟨zf,hzf⟩:∃zf:FV,zf=.agg [.v (.bool false),.v (.string ⟨#[]⟩),.v (.string ⟨#[]⟩)]:=⟨_,rfl⟩
 rw [←hzf]
 refine W_loop [5,8,9,39,40,41,42,43,44,45,46,47,48,49,50,51,52,53,54,55] (fun x:Nat=>[(8,.f (I x))]) (fun x:Nat=>[oF zf]) (fun x:Nat=>x≤O.length) (fun x:Nat=>O.length-x) (0) (Nat.zero_le _) (by refine weak_of ?_ ?_<;>simp (disch:=omega) only [go_sem]<;>first|rfl|exact ⟨rfl,rfl⟩|exact Or.inl rfl|exact ⟨Or.inl rfl,Or.inl rfl⟩|trivial|assumption|omega|(symm;assumption)|((repeat' apply And.intro)<;>first|rfl|omega|trivial|exact .inr ⟨rfl,rfl⟩|exact .inr rfl|(right;symm;assumption)|(symm;assumption)|assumption)) ?_
 rintro x hx2
 simp only [go_sem]
 repeat (with_reducible first|refine W_seq fun K hK=>?_|refine J_region ?_ |refine J_c ?_|(refine Kont.go (by assumption) ?_)|(simp (config:={ maxSteps:=3000000 }) (disch:=omega) only [go_sem,Ns_len]))
 refine Jc_if (fun hxl=>?_) (fun hxl=>?_)<;>try simp only [decide_eq_true_eq,decide_eq_false_iff_not] at hxl
 ·have g1:=Ns_get hxl
  have hcx:=rcomes_w hsq h1 (by omega) (hOlt x hxl)
  have hcl2:(comL m.length (edg m) (O.getD x 0)).length≤6:=Nat.le_trans (nodup_le (comL_nd (hOlt x hxl)) (comL_lt (hOlt x hxl))) hmx
  have hin:=rinN_w i (comL m.length (edg m) (O.getD x 0)) (by omega) (by omega)
  rw [decide_eq_true (hback x hxl)] at hin
  repeat (with_reducible first|refine W_seq fun K hK=>?_|refine J_block ?_|refine J_skip ?_|refine J_region ?_ |(refine Kont.go (by assumption) ?_)|(simp (config:={ maxSteps:=3000000 }) (disch:=omega) only [go_sem,↓reduceIte,g1]))
  refine call_f hcx rfl ?_
  repeat (with_reducible first|(simp (config:={ maxSteps:=3000000 }) (disch:=omega) only [go_sem]))
  refine call_f hin rfl ?_
  repeat (with_reducible first|refine W_seq fun K hK=>?_|refine J_skip ?_|refine J_region ?_ |refine J_c ?_|refine Jc_false ?_|(refine Kont.go (by assumption) ?_)|(simp (config:={ maxSteps:=3000000 }) (disch:=omega) only [go_sem]))
  refine ⟨x+1,by omega,by omega,weak_of ?_ ?_⟩<;>(try simp (disch:=omega) only [go_sem])<;>(try first|done|omega|rfl|exact ⟨rfl,rfl⟩|trivial)
 have hk0:((O.length:Int)-1).toNat=S.length:=by omega
 have hge1:(1:Int)≤(O.length:Int):=by omega
 repeat (with_reducible first|refine W_seq fun K hK=>?_|refine J_block ?_|refine J_exit ?_|refine J_region ?_ |(refine Kont.go (by assumption) ?_)|(simp (config:={ maxSteps:=3000000 }) (disch:=omega) only [go_sem,↓reduceIte,Int.reduceLE,Int.reduceToNat,Ns_len,hdrop,hk0,hge1,htk,Nat.le_refl,true_and]))
 refine J_reserve ?_
 refine J_reserve ?_
 refine W_loop [11,12,13,14,15,16,58,59,60,61,62,63,64,65,66,67,68,69,70,71,72,73,74,75,76,77,78,79,80,81,82,83,84,85,86,87,88,89,90,91,92,93,94,95,96,97,98,99,100,101] (fun x:Nat=>[(11,sl 1 1 (smF m S x)),(12,sl 2 3 (oneT x)),(13,.f (I x))]) (fun x:Nat=>[oF zf,ob 23 1 (smF m S x),ob 44 3 (oneT x)]) (fun x:Nat=>x≤S.length) (fun x:Nat=>S.length-x) (0) (Nat.zero_le _) (by refine weak_of ?_ ?_<;>simp (disch:=omega) only [go_sem,Nat.reduceAdd]<;>first|rfl|exact ⟨rfl,rfl⟩|exact Or.inl rfl|exact ⟨Or.inl rfl,Or.inl rfl⟩|trivial|assumption|omega|(symm;assumption)|((repeat' apply And.intro)<;>first|rfl|omega|trivial|exact .inr ⟨rfl,rfl⟩|exact .inr rfl|(right;symm;assumption)|(symm;assumption)|assumption)) ?_
 rintro a ha
 simp only [go_sem]
 repeat (with_reducible first|refine W_seq fun K hK=>?_|refine J_region ?_ |refine J_c ?_|(refine Kont.go (by assumption) ?_)|(simp (config:={ maxSteps:=3000000 }) (disch:=omega) only [go_sem,Ns_len]))
 refine Jc_if (fun hal=>?_) (fun hal=>?_)<;>try simp only [decide_eq_true_eq,decide_eq_false_iff_not] at hal
 ·have ga:=hSg a hal
  have haS:=hSlt _ (getD_mem hal)
  have hnx1:=smF_next (m:=m) (S:=S) (x:=a)
  have hlt1:=smF_len (m:=m) (S:=S) (x:=a)
  have hnx2:=oneT_next (x:=a)
  have hlt2:=oneT_len (x:=a)
  repeat (with_reducible first|refine W_seq fun K hK=>?_|refine J_block ?_|refine J_skip ?_|refine J_region ?_ |(refine Kont.go (by assumption) ?_)|(simp (config:={ maxSteps:=3000000 }) (disch:=omega) only [go_sem]))
  refine J_reserve ?_
  refine W_loop [14,15,16,64,65,66,67,68,69,70,71,72,73,74,75,76,77,78,79,80,81,82,83,84,85,86,87,88,89,90,91,92,93] (fun x:Nat=>[(14,sl 3 3 (smT m S a x)),(15,.f (I x))]) (fun x:Nat=>[oF zf,ob 23 1 (smF m S a),ob 44 3 (oneT a),ob 44 3 (smT m S a x)]) (fun x:Nat=>x≤S.length) (fun x:Nat=>S.length-x) (0) (Nat.zero_le _) (by refine weak_of ?_ ?_<;>simp (disch:=omega) only [go_sem,Nat.reduceAdd]<;>first|rfl|exact ⟨rfl,rfl⟩|exact Or.inl rfl|exact ⟨Or.inl rfl,Or.inl rfl⟩|trivial|assumption|omega|(symm;assumption)|((repeat' apply And.intro)<;>first|rfl|omega|trivial|exact .inr ⟨rfl,rfl⟩|exact .inr rfl|(right;symm;assumption)|(symm;assumption)|assumption)) ?_
  rintro c hc
  simp only [go_sem]
  repeat (with_reducible first|refine W_seq fun K hK=>?_|refine J_region ?_ |refine J_c ?_|(refine Kont.go (by assumption) ?_)|(simp (config:={ maxSteps:=3000000 }) (disch:=omega) only [go_sem,Ns_len]))
  refine Jc_if (fun hcl=>?_) (fun hcl=>?_)<;>try simp only [decide_eq_true_eq,decide_eq_false_iff_not] at hcl
  ·have gc:=hSg c hcl
   have hcS:=hSlt _ (getD_mem hcl)
   obtain ⟨zs,gg,nn,dd,z1,z2,z3⟩:=hsq.at2 (i:=S.getD a 0) (j:=S.getD c 0) (by omega) (by omega)
   have hnx:=smT_next (m:=m) (S:=S) (i:=a) (x:=c)
   have hlt:=smT_len (m:=m) (S:=S) (i:=a) (x:=c)
   have r1:IsFr (fr ((1:Int):Rat)) ((1:Int):Rat) 8:=IsFr.int (by omega) (by omega)
   have r0:IsFr (fr ((0:Int):Rat)) ((0:Int):Rat) 8:=IsFr.int (by omega) (by omega)
   by_cases e:a=c
   ·have ev:fr (((1:Int):Rat)-at2 m (S.getD a 0) (S.getD c 0))=fr (smA m S a c):=by unfold smA;rw [if_pos e];rfl
    have et:(a=c)=True:=eq_true e
    rw [←ev] at hnx
    repeat (first|(with_reducible first|refine W_seq fun K hK=>?_|refine J_block ?_|refine J_skip ?_|refine J_region ?_ |refine J_drawn mixed (by kernel_rfl) ?_|refine aApp_sl ?_|refine J_c ?_|refine Jc_true ?_|(refine Kont.go (by assumption) ?_)|(simp (config:={ maxSteps:=3000000 }) (disch:=omega) only [go_sem,Nat.reduceEqDiff,↓reduceIte,Nat.reduceAdd,Nat.reduceLeDiff,ga,gc,z1,z2,et,Int.natCast_inj,decide_true,hnx,hlt,Nat.reduceMul,Nat.le_refl,true_and,and_self]))|refine call_f (rof_frac (by omega) (by omega)) rfl ?_|refine callQ_f (rsub_w (by assumption) (by assumption) (by omega) (by omega)) rfl ?_|refine And.intro (by omega) ?_)
    refine ⟨c+1,by omega,by omega,weak_of ?_ ?_⟩<;>(try simp (disch:=omega) only [go_sem,Nat.reduceAdd])<;>(try first|done|omega|rfl|exact ⟨rfl,rfl⟩|trivial)
   ·have ev:fr (((0:Int):Rat)-at2 m (S.getD a 0) (S.getD c 0))=fr (smA m S a c):=by unfold smA;rw [if_neg e];rfl
    have et:(a=c)=False:=eq_false e
    rw [←ev] at hnx
    repeat (first|(with_reducible first|refine W_seq fun K hK=>?_|refine J_block ?_|refine J_skip ?_|refine J_region ?_ |refine J_drawn mixed (by kernel_rfl) ?_|refine aApp_sl ?_|refine J_c ?_|refine Jc_false ?_|(refine Kont.go (by assumption) ?_)|(simp (config:={ maxSteps:=3000000 }) (disch:=omega) only [go_sem,Nat.reduceEqDiff,↓reduceIte,Nat.reduceAdd,Nat.reduceLeDiff,ga,gc,z1,z2,et,Int.natCast_inj,decide_false,hnx,hlt,Nat.reduceMul,Nat.le_refl,true_and,and_self]))|refine call_f (rof_frac (by omega) (by omega)) rfl ?_|refine callQ_f (rsub_w (by assumption) (by assumption) (by omega) (by omega)) rfl ?_|refine And.intro (by omega) ?_)
    refine ⟨c+1,by omega,by omega,weak_of ?_ ?_⟩<;>(try simp (disch:=omega) only [go_sem,Nat.reduceAdd])<;>(try first|done|omega|rfl|exact ⟨rfl,rfl⟩|trivial)
  ·have he:c=S.length:=by omega
   subst he
   refine J_freeze (j:=14) rfl rfl ?_
   rw [smT_all]
   repeat (first|(with_reducible first|refine W_seq fun K hK=>?_|refine J_exit ?_|refine J_region ?_ |refine aApp_sl ?_|(refine Kont.go (by assumption) ?_)|(simp (config:={ maxSteps:=3000000 }) (disch:=omega) only [go_sem,Nat.reduceEqDiff,↓reduceIte,Nat.reduceAdd,Nat.reduceLeDiff,hnx1,hlt1,hnx2,hlt2]))|refine call_f (rof_frac (by omega) (by omega)) rfl ?_|refine And.intro (by omega) ?_)
   refine ⟨a+1,by omega,by omega,weak_of ?_ ?_⟩<;>(try simp (disch:=omega) only [go_sem,Nat.reduceAdd])<;>(try first|done|omega|rfl|exact ⟨rfl,rfl⟩|trivial)
 have hae:a=S.length:=by omega
 subst hae
 refine J_freeze (j:=11) rfl rfl ?_
 simp only [go_sem,Nat.reduceEqDiff]
 refine J_freeze (j:=12) rfl rfl ?_
 simp only [go_sem,Nat.reduceEqDiff]
 repeat (with_reducible first|refine W_seq fun K hK=>?_|refine J_exit ?_|refine J_region ?_ |(refine Kont.go (by assumption) ?_)|(simp (config:={ maxSteps:=3000000 }) (disch:=omega) only [go_sem,↓reduceIte]))
 refine call_f hsol rfl ?_
 have e0:fr ((1:Int):Rat)=fr (1+sumF T 0):=by congr 1;show _=(1:Rat)+0;rw [Rat.add_zero];rfl
 repeat (first|(with_reducible first|refine W_seq fun K hK=>?_|refine J_block ?_|refine J_region ?_ |(refine Kont.go (by assumption) ?_)|(simp (config:={ maxSteps:=3000000 }) (disch:=omega) only [go_sem,↓reduceIte,Nat.reduceAdd,e0]))|refine call_f (rof_frac (by omega) (by omega)) rfl ?_)
 refine W_loop [19,20,106,107,108,109,110,111,112,113,114,115,116,117,118,119,120,121,122,123,124,125,126,127,128,129] (fun x:Nat=>[(19,.f (I x))]) (fun x:Nat=>[oF zf,none,none,oF (fr (1+sumF T x))]) (fun x:Nat=>x≤S.length) (fun x:Nat=>S.length-x) (0) (Nat.zero_le _) (by refine weak_of ?_ ?_<;>simp (disch:=omega) only [go_sem,Nat.reduceAdd]<;>first|rfl|exact ⟨rfl,rfl⟩|exact Or.inl rfl|exact ⟨Or.inl rfl,Or.inl rfl⟩|trivial|assumption|omega|(symm;assumption)|((repeat' apply And.intro)<;>first|rfl|omega|trivial|exact .inr ⟨rfl,rfl⟩|exact .inr rfl|(right;symm;assumption)|(symm;assumption)|assumption)) ?_
 rintro q hq
 simp only [go_sem]
 repeat (with_reducible first|refine W_seq fun K hK=>?_|refine J_region ?_ |refine J_c ?_|(refine Kont.go (by assumption) ?_)|(simp (config:={ maxSteps:=3000000 }) (disch:=omega) only [go_sem,Ns_len]))
 refine Jc_if (fun hql=>?_) (fun hql=>?_)<;>try simp only [decide_eq_true_eq,decide_eq_false_iff_not] at hql
 ·have gq:=hSg q hql
  have gx:=hxg q hql
  obtain ⟨zs,gg,nn,dd,z1,z2,z3⟩:=hsq.at2 (i:=i) (j:=S.getD q 0) hi (hSlt _ (getD_mem hql))
  have f1:=IsFr.c (hXz q hql)
  have f2:=IsFr.c (Fz.mul (z3.fz h1) (hXz q hql))
  have fsm:=sumF_fz (f:=T) (n:=q) (s:=b+(Sz+Sz)) fun k hk=>hTz k (by omega)
  have so:=Nat.mul_le_mul_right (b+(Sz+Sz)+1) (show q≤6 by omega)
  have f3:=IsFr.c (Fz.add hone fsm)
  have en:fr (1+sumF T q+at2 m i (S.getD q 0)*Xb q)=fr (1+sumF T (q+1)):=by
   congr 1
   show _=1+(sumF T q+T q)
   rw [hT];grind
  repeat (first|(with_reducible first|refine W_seq fun K hK=>?_|refine J_block ?_|refine J_skip ?_|refine J_region ?_ |refine J_drawn mixed (by kernel_rfl) ?_|(refine Kont.go (by assumption) ?_)|(simp (config:={ maxSteps:=3000000 }) (disch:=omega) only [go_sem,↓reduceIte,Nat.reduceAdd,gq,gx,z1,z2,true_and,and_self]))|refine call_f (radd_w (by assumption) (by assumption) (by omega) (by omega)) rfl ?_|refine callQ_f (rmul_w (by assumption) (by assumption) (by omega) (by omega)) rfl ?_)
  rw [en]
  refine ⟨q+1,by omega,by omega,weak_of ?_ ?_⟩<;>(try simp (disch:=omega) only [go_sem,Nat.reduceAdd])<;>(try first|done|omega|rfl|exact ⟨rfl,rfl⟩|trivial)
 ·have he:q=S.length:=by omega
  subst he
  repeat (with_reducible first|refine W_seq fun K hK=>?_|refine J_exit ?_|refine J_ret ?_|refine J_region ?_ |(refine Kont.go (by assumption) ?_)|(simp (config:={ maxSteps:=3000000 }) (disch:=omega) only [go_sem,↓reduceIte,Nat.reduceAdd]))
  exact ⟨_,rfl,FrzL.fs [_,_]⟩
end Go.Proofs.YtcgagiimlkjcpaaGreatDoor
