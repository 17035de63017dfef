/- The law HiddenExact: it returns true. Condition: what slices may hold. -/
import Derived.Test.YtfjgijkhmhhkdaaGreatDoorYB14
import Derived.Test.YtfjgijkhmhhkdaaGreatDoorYB17
import Derived.Test.YtfjgijkhmhhkdaaGreatDoorYB22
import Derived.Test.YtfjgijkhmhhkdaaGreatDoorYHUw
import Derived.Test.YtfjgijkhmhhkdaaGreatDoorYB27
import Derived.Test.YtfjgijkhmhhkdaaGreatDoorYRSm
import Derived.Test.YtfjgijkhmhhkdaaGreatDoorYB11
import Derived.Test.YtfjgijkhmhhkdaaGreatDoorYB10
import Derived.Test.YtfjgijkhmhhkdaaGreatDoorYB09
set_option linter.unusedVariables false
set_option linter.unusedSimpArgs false
namespace Go.Proofs.YtfjgijkhmhhkdaaGreatDoor
open Go Go.RowKit
section
variable {st : List Rat} {mv sh : List (List Rat)} {seen : List Int}
theorem fr3 (q:Rat):∃g n d,fr q=frR g n d:=⟨_,_,_,fr_frR q⟩
theorem lik_3:∃g n d,likX st mv sh seen=frR g n d:=by
 unfold likX
 split
 ·exact fr3 _
 ·exact ⟨_,_,_,rfl⟩
theorem pathB_3:∃g n d,pathB st mv sh seen=frR g n d:=by
 unfold pathB
 split
 ·exact fr3 _
 ·exact ⟨_,_,_,rfl⟩
theorem unV_3 {s:Int}:∃a b c,unV st mv sh s=.agg [a,b,c]∧a.oc=true∧b.oc=true∧c.oc=true:=by
 unfold unV
 split
 ·exact ⟨_,_,_,rfl,rfl,rfl,rfl⟩
 ·exact ⟨_,_,_,rfl,rfl,rfl,rfl⟩
theorem one_lik:Good Tryz.prog 10 [likX st mv sh seen,I (mayE st mv sh seen),likX st mv sh seen,I (mayE st mv sh seen)] (Bo true):=by
 by_cases h:mayE st mv sh seen=0
 ·unfold likX;rw [if_pos h,h];exact oneFracN_ok
 ·unfold likX;rw [if_neg h];exact oneFracN_err h
theorem one_path:Good Tryz.prog 10 [pathB st mv sh seen,I (pathE st mv sh seen),pathB st mv sh seen,I (pathE st mv sh seen)] (Bo true):=by
 unfold pathB pathE
 by_cases h:mayE st mv sh seen=0
 ·by_cases hb:(hm st mv sh seen).best=0
  ·rw [if_neg (fun hh=>hh.2 hb),if_neg (by omega),if_pos hb];exact oneFracN_err (by decide)
  ·rw [if_pos ⟨h,hb⟩,if_neg (by omega),if_neg hb];exact oneFracN_ok
 ·rw [if_neg (fun hh=>h hh.1),if_pos h];exact oneFracN_err h
theorem same_un {s:Int}:Good Tryz.prog 23 [unV st mv sh s,unV st mv sh s] (Bo true):=by
 by_cases h:unE st mv sh s=0
 ·have h0:hidE st mv sh=0:=by
   unfold unE at h
   by_cases h0:hidE st mv sh=0
   ·exact h0
   ·rw [if_pos h0] at h;exact absurd h h0
  have hs:¬(s<1∨4<s):=by
   unfold unE at h
   rw [if_neg (by omega)] at h
   intro hh
   rw [if_pos hh] at h;cases h
  obtain ⟨a1,a2,a3,a4,a5,a6,a7,_⟩:=hidE_ok h0
  unfold unV
  rw [if_pos h]
  refine same_net a2 a6 (by omega) (by omega) (by omega) a2 (fun r hr=>?_) (fun r hr=>?_)
  ·obtain ⟨j,hj,rfl⟩:=List.getElem_of_mem hr
   have:=(a7 j (by omega)).1
   rw [lget_lt mv [] hj] at this;omega
  ·obtain ⟨j,hj,rfl⟩:=List.getElem_of_mem hr
   have:=(a7 j (by omega)).2
   rw [lget_lt sh [] hj] at this;omega
 ·unfold unV
  rw [if_neg h]
  exact same_net0
theorem same_rows {l:List (List Rat)} (h:l.length≤8) (hr:∀r∈l,r.length≤4):Good Tryz.prog 13 [rowsF l,rowsF l] (Bo true):=sameRows_w l (by omega) fun r h=>by have:=hr r h;omega
theorem n_le (h:mayE st mv sh seen=0):st.length≤4∧seen.length≤8:=by
 have h0:hidE st mv sh=0:=by
  unfold mayE at h
  by_cases h0:hidE st mv sh=0
  ·exact h0
  ·rw [if_pos h0] at h;exact absurd h h0
 refine ⟨(hidE_ok h0).2.1,?_⟩
 unfold mayE at h
 rw [if_neg (by omega)] at h
 by_cases h8:8<seen.length
 ·rw [if_pos h8] at h;cases h
 ·omega
theorem same_fw:Good Tryz.prog 13 [rowsF (fwR st mv sh seen),rowsF (fwR st mv sh seen)] (Bo true):=by
 unfold fwR
 split
 ·rename_i h
  have:=n_le h
  refine same_rows (by rw [aR_len];omega) fun r hr=>?_
  obtain ⟨t,_,rfl⟩:=List.mem_map.1 hr
  rw [aRow_len];exact this.1
 ·exact same_rows (by simp) (fun r hr=>by cases hr)
theorem same_bw:Good Tryz.prog 13 [rowsF (bwR st mv sh seen),rowsF (bwR st mv sh seen)] (Bo true):=by
 unfold bwR
 split
 ·rename_i h
  have:=n_le h
  refine same_rows ?_ fun r hr=>?_
  ·unfold bR;rw [List.length_map,List.length_range];exact this.2
  ·obtain ⟨t,_,rfl⟩:=List.mem_map.1 hr
   rw [bRow_len];exact this.1
 ·exact same_rows (by simp) (fun r hr=>by cases hr)
theorem same_sm:Good Tryz.prog 13 [rowsF (smX st mv sh seen),rowsF (smX st mv sh seen)] (Bo true):=by
 unfold smX
 split
 ·rename_i h
  have h0:mayE st mv sh seen=0:=by
   unfold smE at h
   by_cases h0:mayE st mv sh seen=0
   ·exact h0
   ·rw [if_neg h0] at h;exact absurd h h0
  have:=n_le h0
  refine same_rows (by rw [smTo_len];exact this.2) fun r hr=>?_
  obtain ⟨t,_,rfl⟩:=List.mem_map.1 hr
  rw [smRow_len];exact this.1
 ·exact same_rows (by simp) (fun r hr=>by cases hr)
theorem path_ints:∃l:List Int,pathR st mv sh seen=l.map I∧l.length≤8:=by
 unfold pathR
 split
 ·rename_i h
  have:=n_le h.1
  have hl:=(HM.pth_len h.2 (t:=seen.length) (Nat.le_refl _)).1
  refine ⟨((hm st mv sh seen).pth seen.length).1.map fun n:Nat=>(n:Int),?_,by rw [List.length_map,hl];exact this.2⟩
  unfold pthV
  rw [List.map_map];rfl
 ·exact ⟨[],rfl,by simp⟩
end
theorem frm_of {q:List (List F3)} (h:∀r∈q,fbN r≤700):FrM 700 (q.map raws) (q.map fun r=>r.map rv3):=⟨by simp,fun i r hr=>by
 rw [List.getElem?_map] at hr ⊢
 cases hx:q[i]? with
 | none=>rw [hx] at hr;cases hr
 | some x=>rw [hx] at hr;cases hr;exact ⟨_,rfl,fbN_frs (by omega) (h x (List.mem_of_getElem? hx))⟩⟩
set_option maxRecDepth 100000 in
set_option maxHeartbeats 8000000 in
theorem law_w (p:List F3) (m q:List (List F3)) (l:List Int) (s:Int) (hp:OkFs p) (hm:OkRows m) (hq:OkRows q) (hl:∀x∈l,-9223372036854775808≤x∧x≤9223372036854775807) (hll:l.length≤140737488355328) (hs:-9223372036854775808≤s∧s≤9223372036854775807) :
  Good Tryz.prog 3 [hidO (p,m,q),ints l,I s] (Bo true):=by
 have hv:=heavyHidden_w p m q hp hm hq
 have eO:hidO (p,m,q)=hidV (p.map frF) (m.map raws) (q.map raws):=rfl
 have hpl:=hp.1
 by_cases hb:700<rbGo (rbGo (fbN p) m) q
 ·rw [show (decide (700<rbGo (rbGo (fbN p) m) q))=true from decide_eq_true hb] at hv
  rw [eO] at hv ⊢
  obtain ⟨fs,hfs⟩:∃fs,fs=p.map frF:=⟨_,rfl⟩
  rw [←hfs] at hv ⊢
  refine good_of Tryz.func3 rfl (by kernel_rfl) fun X hO hrd=>?_;rw [Tryz.ntmps3,Tryz.results3];simp only [ast0,List.map_cons,List.map_nil,List.length_cons,List.length_nil,Nat.reduceAdd,Nat.reduceSub,List.replicate_succ,List.replicate_zero,List.cons_append,List.nil_append]
  (repeat (with_reducible first|refine W_seq fun K hK=>?_|refine J_region ?_ |(refine Kont.go (by assumption) ?_)|(simp (config:={ maxSteps:=3000000 }) (disch:=omega) only [go_sem,↓reduceIte,Nat.reduceAdd])))
  (first|refine call_f (hv) rfl ?_|refine callQ_f (hv) rfl ?_|refine callHK_f (hv) rfl ?_|refine callH_f (hv) rfl ?_)
  (repeat (with_reducible first|refine W_seq fun K hK=>?_|refine J_ret ?_|refine J_region ?_ |refine J_c ?_|refine Jc_true ?_|exact Frz.f _|(refine Kont.go (by assumption) ?_)|(simp (config:={ maxSteps:=3000000 }) (disch:=omega) only [go_sem])))
 rw [show (decide (700<rbGo (rbGo (fbN p) m) q))=false from decide_eq_false hb] at hv
 obtain ⟨b1,b2⟩:=rbGo_each (show rbGo (rbGo (fbN p) m) q≤700 by omega)
 obtain ⟨b3,b4⟩:=rbGo_each b1
 have hF:HidF 700 (p.map frF) (m.map raws) (q.map raws) (p.map rv3) (m.map fun r=>r.map rv3) (q.map fun r=>r.map rv3) :=
  ⟨fbN_frs (by omega) b3,frm_of b4,frm_of b2,by simpa using hp.1,by simpa using hm.1,by simpa using hq.1,fun r hr=>by
   obtain ⟨x,hx,rfl⟩:=List.mem_map.1 hr
   simpa using (hq.2 x hx).1,fun r hr=>by
   obtain ⟨x,hx,rfl⟩:=List.mem_map.1 hr
   simpa using (hm.2 x hx).1⟩
 rw [eO] at hv ⊢
 have hfl:(p.map frF).length=p.length:=by simp
 obtain ⟨fs,hfs⟩:∃fs,fs=p.map frF:=⟨_,rfl⟩
 obtain ⟨ms,hms⟩:∃ms,ms=m.map raws:=⟨_,rfl⟩
 obtain ⟨ss,hss⟩:∃ss,ss=q.map raws:=⟨_,rfl⟩
 obtain ⟨st,hst⟩:∃st,st=p.map rv3:=⟨_,rfl⟩
 obtain ⟨mv,hmv⟩:∃mv:List (List Rat),mv=m.map fun r=>r.map rv3:=⟨_,rfl⟩
 obtain ⟨sh,hsh⟩:∃sh:List (List Rat),sh=q.map fun r=>r.map rv3:=⟨_,rfl⟩
 rw [←hfs,←hms,←hss] at hv ⊢
 rw [←hfs,←hms,←hss,←hst,←hmv,←hsh] at hF
 rw [←hfs] at hfl
 obtain ⟨n,hn⟩:∃n,n=fs.length:=⟨_,rfl⟩
 obtain ⟨L,hL⟩:∃L,L=l.length:=⟨_,rfl⟩
 have hnb:n≤140737488355328:=by omega
 have k1:=likely_w hF (by omega) (by omega) hll hl
 have k2:=rlikely_w hF (by omega) (by omega) hll hl
 have k3:=hcheck_w hF (by omega) (by omega)
 have k4:=rhcheck_w hF (by omega) (by omega)
 have k5:=one_lik (st:=st) (mv:=mv) (sh:=sh) (seen:=l)
 have k6:=forward_w hF (by omega) (by omega) hll hl
 have k7:=rforward_w hF (by omega) (by omega) hll hl
 have k8:=same_fw (st:=st) (mv:=mv) (sh:=sh) (seen:=l)
 have k9:=backward_w hF (by omega) (by omega) hll hl
 have k10:=rbackward_w hF (by omega) (by omega) hll hl
 have k11:=same_bw (st:=st) (mv:=mv) (sh:=sh) (seen:=l)
 have k12:=smooth_w hF (by omega) (by omega) hll hl
 have k13:=rsmooth_w hF (by omega) (by omega) hll hl
 have k14:=same_sm (st:=st) (mv:=mv) (sh:=sh) (seen:=l)
 have k15:=path_w hF (by omega) (by omega) hll hl
 have k16:=rpath_w hF (by omega) (by omega) hll hl hm_ok
 have k17:=one_path (st:=st) (mv:=mv) (sh:=sh) (seen:=l)
 have k18:=unroll_w hF (by omega) (by omega) s hs
 have k19:=runroll_w hF (by omega) (by omega) s hs
 have k20:=same_un (st:=st) (mv:=mv) (sh:=sh) (s:=s)
 obtain ⟨g1,n1,d1,e1⟩:=lik_3 (st:=st) (mv:=mv) (sh:=sh) (seen:=l)
 obtain ⟨g2,n2,d2,e2⟩:=pathB_3 (st:=st) (mv:=mv) (sh:=sh) (seen:=l)
 obtain ⟨u1,u2,u3,e3,o1,o2,o3⟩:=unV_3 (st:=st) (mv:=mv) (sh:=sh) (s:=s)
 obtain ⟨pl,e4,hpl8⟩:=path_ints (st:=st) (mv:=mv) (sh:=sh) (seen:=l)
 have k21:=sameInts_w pl (by omega)
 obtain ⟨mE,hmE⟩:∃e,e=mayE st mv sh l:=⟨_,rfl⟩
 obtain ⟨hE,hhE⟩:∃e,e=hidE st mv sh:=⟨_,rfl⟩
 obtain ⟨sE,hsE⟩:∃e,e=smE st mv sh l:=⟨_,rfl⟩
 obtain ⟨pE,hpE⟩:∃e,e=pathE st mv sh l:=⟨_,rfl⟩
 obtain ⟨uE,huE⟩:∃e,e=unE st mv sh s:=⟨_,rfl⟩
 obtain ⟨R1,hR1⟩:∃e,e=rowsF (fwR st mv sh l):=⟨_,rfl⟩
 obtain ⟨R2,hR2⟩:∃e,e=rowsF (bwR st mv sh l):=⟨_,rfl⟩
 obtain ⟨R3,hR3⟩:∃e,e=rowsF (smX st mv sh l):=⟨_,rfl⟩
 rw [e1,←hmE] at k1 k2 k5
 rw [←hhE] at k3 k4
 rw [←hR1,←hmE] at k6 k7
 rw [←hR1] at k8
 rw [←hR2,←hmE] at k9 k10
 rw [←hR2] at k11
 rw [←hR3,←hsE] at k12 k13
 rw [←hR3] at k14
 rw [e4,e2,←hpE] at k15 k16
 rw [e2,←hpE] at k17
 rw [e3,←huE] at k18 k19
 rw [e3] at k20
 clear hfs hms hss hst hmv hsh hF e1 e2 e3 e4 hmE hhE hsE hpE huE hR1 hR2 hR3 hp hm hq b1 b2 b3 b4 hb eO
 have hskip:((2:Int)<(n:Int)∧(4:Int)<(L:Int)∧(L:Int)<9)∨((6:Int)<(L:Int)∧(L:Int)<9∧¬((2:Int)<(n:Int)))∨(64:Int)<(L:Int) ∨
   (¬(2:Int)<(n:Int)∧(0:Int)≤(L:Int)∧(0:Int)≤(L:Int)∧¬(6:Int)<(L:Int)∧¬(64:Int)<(L:Int))∨((2:Int)<(n:Int)∧¬(4:Int)<(L:Int)∧(0:Int)≤(L:Int)∧¬(6:Int)<(L:Int)∧¬(64:Int)<(L:Int)) ∨
   (¬(2:Int)<(n:Int)∧(0:Int)≤(L:Int)∧¬(L:Int)<9∧(6:Int)<(L:Int)∧¬(64:Int)<(L:Int))∨((2:Int)<(n:Int)∧(4:Int)<(L:Int)∧¬(L:Int)<9∧(6:Int)<(L:Int)∧¬(64:Int)<(L:Int)):=by omega
 rcases hskip with ⟨c1,c2,c3⟩|⟨c1,c2,c3⟩|c1|hmain
 ·refine good_of Tryz.func3 rfl (by kernel_rfl) fun X hO hrd=>?_;rw [Tryz.ntmps3,Tryz.results3];simp only [ast0,List.map_cons,List.map_nil,List.length_cons,List.length_nil,Nat.reduceAdd,Nat.reduceSub,List.replicate_succ,List.replicate_zero,List.cons_append,List.nil_append]
  (repeat (with_reducible first|refine W_seq fun K hK=>?_|refine J_region ?_ |(refine Kont.go (by assumption) ?_)|(simp (config:={ maxSteps:=3000000 }) (disch:=omega) only [go_sem,↓reduceIte,Nat.reduceAdd])))
  (first|refine call_f (hv) rfl ?_|refine callQ_f (hv) rfl ?_|refine callHK_f (hv) rfl ?_|refine callH_f (hv) rfl ?_)
  (repeat (with_reducible first|refine W_seq fun K hK=>?_|refine J_ret ?_|refine J_region ?_ |refine J_c ?_|refine Jc_true ?_|exact Frz.f _|(refine Kont.go (by assumption) ?_)|(simp (config:={ maxSteps:=3000000 }) (disch:=omega) only [go_sem,↓reduceIte,←hn,←hL,c1,c2,c3,decide_true,true_and])))
 ·refine good_of Tryz.func3 rfl (by kernel_rfl) fun X hO hrd=>?_;rw [Tryz.ntmps3,Tryz.results3];simp only [ast0,List.map_cons,List.map_nil,List.length_cons,List.length_nil,Nat.reduceAdd,Nat.reduceSub,List.replicate_succ,List.replicate_zero,List.cons_append,List.nil_append]
  (repeat (with_reducible first|refine W_seq fun K hK=>?_|refine J_region ?_ |(refine Kont.go (by assumption) ?_)|(simp (config:={ maxSteps:=3000000 }) (disch:=omega) only [go_sem,↓reduceIte,Nat.reduceAdd])))
  (first|refine call_f (hv) rfl ?_|refine callQ_f (hv) rfl ?_|refine callHK_f (hv) rfl ?_|refine callH_f (hv) rfl ?_)
  (repeat (with_reducible first|refine W_seq fun K hK=>?_|refine J_ret ?_|refine J_region ?_ |refine J_c ?_|refine Jc_true ?_|exact Frz.f _|(refine Kont.go (by assumption) ?_)|(simp (config:={ maxSteps:=3000000 }) (disch:=omega) only [go_sem,↓reduceIte,←hn,←hL,c1,c2,c3,decide_true,decide_false,true_and])))
 ·have c2:¬(L:Int)<9:=by omega
  have c3:(4:Int)<(L:Int):=by omega
  have c4:(6:Int)<(L:Int):=by omega
  by_cases c5:(2:Int)<(n:Int)
  ·refine good_of Tryz.func3 rfl (by kernel_rfl) fun X hO hrd=>?_;rw [Tryz.ntmps3,Tryz.results3];simp only [ast0,List.map_cons,List.map_nil,List.length_cons,List.length_nil,Nat.reduceAdd,Nat.reduceSub,List.replicate_succ,List.replicate_zero,List.cons_append,List.nil_append]
   (repeat (with_reducible first|refine W_seq fun K hK=>?_|refine J_region ?_ |(refine Kont.go (by assumption) ?_)|(simp (config:={ maxSteps:=3000000 }) (disch:=omega) only [go_sem,↓reduceIte,Nat.reduceAdd])))
   (first|refine call_f (hv) rfl ?_|refine callQ_f (hv) rfl ?_|refine callHK_f (hv) rfl ?_|refine callH_f (hv) rfl ?_)
   (repeat (with_reducible first|refine W_seq fun K hK=>?_|refine J_ret ?_|refine J_region ?_ |refine J_c ?_|refine Jc_true ?_|exact Frz.f _|(refine Kont.go (by assumption) ?_)|(simp (config:={ maxSteps:=3000000 }) (disch:=omega) only [go_sem,↓reduceIte,←hn,←hL,c1,c2,c3,c4,c5,decide_true,decide_false,true_and])))
  ·refine good_of Tryz.func3 rfl (by kernel_rfl) fun X hO hrd=>?_;rw [Tryz.ntmps3,Tryz.results3];simp only [ast0,List.map_cons,List.map_nil,List.length_cons,List.length_nil,Nat.reduceAdd,Nat.reduceSub,List.replicate_succ,List.replicate_zero,List.cons_append,List.nil_append]
   (repeat (with_reducible first|refine W_seq fun K hK=>?_|refine J_region ?_ |(refine Kont.go (by assumption) ?_)|(simp (config:={ maxSteps:=3000000 }) (disch:=omega) only [go_sem,↓reduceIte,Nat.reduceAdd])))
   (first|refine call_f (hv) rfl ?_|refine callQ_f (hv) rfl ?_|refine callHK_f (hv) rfl ?_|refine callH_f (hv) rfl ?_)
   (repeat (with_reducible first|refine W_seq fun K hK=>?_|refine J_ret ?_|refine J_region ?_ |refine J_c ?_|refine Jc_true ?_|exact Frz.f _|(refine Kont.go (by assumption) ?_)|(simp (config:={ maxSteps:=3000000 }) (disch:=omega) only [go_sem,↓reduceIte,←hn,←hL,c1,c2,c4,c5,decide_true,decide_false,true_and])))
 rcases hmain with ⟨c1,c2,c3,c4,c5⟩|⟨c1,c2,c3,c4,c5⟩|⟨c1,c2,c3,c4,c5⟩|⟨c1,c2,c3,c4,c5⟩
 all_goals
  refine good_of Tryz.func3 rfl (by kernel_rfl) fun X hO hrd=>?_;rw [Tryz.ntmps3,Tryz.results3];simp only [ast0,List.map_cons,List.map_nil,List.length_cons,List.length_nil,Nat.reduceAdd,Nat.reduceSub,List.replicate_succ,List.replicate_zero,List.cons_append,List.nil_append]
  (repeat (with_reducible first|refine W_seq fun K hK=>?_|refine J_region ?_ |(refine Kont.go (by assumption) ?_)|(simp (config:={ maxSteps:=3000000 }) (disch:=omega) only [go_sem,↓reduceIte,Nat.reduceAdd])))
  (first|refine call_f (hv) rfl ?_|refine callQ_f (hv) rfl ?_|refine callHK_f (hv) rfl ?_|refine callH_f (hv) rfl ?_)
  (repeat (with_reducible first|refine W_seq fun K hK=>?_|refine J_skip ?_|refine J_region ?_ |refine J_c ?_|refine Jc_false ?_|(refine Kont.go (by assumption) ?_)|(simp (config:={ maxSteps:=3000000 }) (disch:=omega) only [go_sem,↓reduceIte,Nat.reduceAdd,←hn,←hL,c1,c2,c3,c4,c5,decide_true,decide_false,true_and,and_self])))
  (first|refine call_f (k1) rfl ?_|refine callQ_f (k1) rfl ?_|refine callHK_f (k1) rfl ?_|refine callH_f (k1) rfl ?_)
  (repeat (with_reducible first|refine W_seq fun K hK=>?_|refine J_region ?_ |(refine Kont.go (by assumption) ?_)|(simp (config:={ maxSteps:=3000000 }) (disch:=omega) only [go_sem,↓reduceIte,Nat.reduceAdd])))
  (first|refine call_f (k2) rfl ?_|refine callQ_f (k2) rfl ?_|refine callHK_f (k2) rfl ?_|refine callH_f (k2) rfl ?_)
  (repeat (with_reducible first|refine W_seq fun K hK=>?_|refine J_drawn mixed (by kernel_rfl) ?_|(refine Kont.go (by assumption) ?_)|(simp (config:={ maxSteps:=3000000 }) (disch:=omega) only [go_sem,↓reduceIte,Nat.reduceAdd])))
  (first|refine call_f (k3) rfl ?_|refine callQ_f (k3) rfl ?_|refine callHK_f (k3) rfl ?_|refine callH_f (k3) rfl ?_)
  (skip)
  (first|refine call_f (k4) rfl ?_|refine callQ_f (k4) rfl ?_|refine callHK_f (k4) rfl ?_|refine callH_f (k4) rfl ?_)
  (repeat (with_reducible first|(simp (config:={ maxSteps:=3000000 }) (disch:=omega) only [go_sem,↓reduceIte,Nat.reduceAdd,decide_true,true_and,and_self])))
  (first|refine call_f (k5) rfl ?_|refine callQ_f (k5) rfl ?_|refine callHK_f (k5) rfl ?_|refine callH_f (k5) rfl ?_)
  (repeat (with_reducible first|refine W_seq fun K hK=>?_|refine J_skip ?_|refine J_region ?_ |refine J_c ?_|refine Jc_false ?_|(refine Kont.go (by assumption) ?_)|(simp (config:={ maxSteps:=3000000 }) (disch:=omega) only [go_sem,↓reduceIte,Nat.reduceAdd,true_and,and_self])))
  (first|refine call_f (k6) rfl ?_|refine callQ_f (k6) rfl ?_|refine callHK_f (k6) rfl ?_|refine callH_f (k6) rfl ?_)
  (repeat (with_reducible first|refine W_seq fun K hK=>?_|refine J_region ?_ |(refine Kont.go (by assumption) ?_)|(simp (config:={ maxSteps:=3000000 }) (disch:=omega) only [go_sem,↓reduceIte,Nat.reduceAdd])))
  (first|refine call_f (k7) rfl ?_|refine callQ_f (k7) rfl ?_|refine callHK_f (k7) rfl ?_|refine callH_f (k7) rfl ?_)
  (repeat (with_reducible first|refine W_seq fun K hK=>?_|refine J_region ?_ |(refine Kont.go (by assumption) ?_)|(simp (config:={ maxSteps:=3000000 }) (disch:=omega) only [go_sem,decide_true])))
  (first|refine call_f (k8) rfl ?_|refine callQ_f (k8) rfl ?_|refine callHK_f (k8) rfl ?_|refine callH_f (k8) rfl ?_)
  (repeat (with_reducible first|refine W_seq fun K hK=>?_|refine J_skip ?_|refine J_region ?_ |refine J_c ?_|refine Jc_false ?_|(refine Kont.go (by assumption) ?_)|(simp (config:={ maxSteps:=3000000 }) (disch:=omega) only [go_sem,↓reduceIte,Nat.reduceAdd,true_and,and_self])))
  (first|refine call_f (k9) rfl ?_|refine callQ_f (k9) rfl ?_|refine callHK_f (k9) rfl ?_|refine callH_f (k9) rfl ?_)
  (repeat (with_reducible first|refine W_seq fun K hK=>?_|refine J_region ?_ |(refine Kont.go (by assumption) ?_)|(simp (config:={ maxSteps:=3000000 }) (disch:=omega) only [go_sem,↓reduceIte,Nat.reduceAdd])))
  (first|refine call_f (k10) rfl ?_|refine callQ_f (k10) rfl ?_|refine callHK_f (k10) rfl ?_|refine callH_f (k10) rfl ?_)
  (repeat (with_reducible first|refine W_seq fun K hK=>?_|refine J_region ?_ |(refine Kont.go (by assumption) ?_)|(simp (config:={ maxSteps:=3000000 }) (disch:=omega) only [go_sem,decide_true])))
  (first|refine call_f (k11) rfl ?_|refine callQ_f (k11) rfl ?_|refine callHK_f (k11) rfl ?_|refine callH_f (k11) rfl ?_)
  (repeat (with_reducible first|refine W_seq fun K hK=>?_|refine J_skip ?_|refine J_region ?_ |refine J_c ?_|refine Jc_false ?_|(refine Kont.go (by assumption) ?_)|(simp (config:={ maxSteps:=3000000 }) (disch:=omega) only [go_sem,↓reduceIte,Nat.reduceAdd,true_and,and_self])))
  (first|refine call_f (k12) rfl ?_|refine callQ_f (k12) rfl ?_|refine callHK_f (k12) rfl ?_|refine callH_f (k12) rfl ?_)
  (repeat (with_reducible first|refine W_seq fun K hK=>?_|refine J_region ?_ |(refine Kont.go (by assumption) ?_)|(simp (config:={ maxSteps:=3000000 }) (disch:=omega) only [go_sem,↓reduceIte,Nat.reduceAdd])))
  (first|refine call_f (k13) rfl ?_|refine callQ_f (k13) rfl ?_|refine callHK_f (k13) rfl ?_|refine callH_f (k13) rfl ?_)
  (repeat (with_reducible first|refine W_seq fun K hK=>?_|refine J_region ?_ |(refine Kont.go (by assumption) ?_)|(simp (config:={ maxSteps:=3000000 }) (disch:=omega) only [go_sem,decide_true])))
  (first|refine call_f (k14) rfl ?_|refine callQ_f (k14) rfl ?_|refine callHK_f (k14) rfl ?_|refine callH_f (k14) rfl ?_)
  (repeat (with_reducible first|refine W_seq fun K hK=>?_|refine J_skip ?_|refine J_region ?_ |refine J_c ?_|refine Jc_false ?_|(refine Kont.go (by assumption) ?_)|(simp (config:={ maxSteps:=3000000 }) (disch:=omega) only [go_sem,↓reduceIte,Nat.reduceAdd,true_and,and_self])))
  (first|refine call_f (k15) rfl ?_|refine callQ_f (k15) rfl ?_|refine callHK_f (k15) rfl ?_|refine callH_f (k15) rfl ?_)
  (repeat (with_reducible first|refine W_seq fun K hK=>?_|refine J_region ?_ |(refine Kont.go (by assumption) ?_)|(simp (config:={ maxSteps:=3000000 }) (disch:=omega) only [go_sem,↓reduceIte,Nat.reduceAdd])))
  (first|refine call_f (k16) rfl ?_|refine callQ_f (k16) rfl ?_|refine callHK_f (k16) rfl ?_|refine callH_f (k16) rfl ?_)
  (repeat (with_reducible first|refine W_seq fun K hK=>?_|refine J_region ?_ |(refine Kont.go (by assumption) ?_)|(simp (config:={ maxSteps:=3000000 }) (disch:=omega) only [go_sem,↓reduceIte,Nat.reduceAdd])))
  (first|refine call_f (k18) rfl ?_|refine callQ_f (k18) rfl ?_|refine callHK_f (k18) rfl ?_|refine callH_f (k18) rfl ?_)
  (repeat (with_reducible first|refine W_seq fun K hK=>?_|refine J_region ?_ |(refine Kont.go (by assumption) ?_)|(simp (config:={ maxSteps:=3000000 }) (disch:=omega) only [go_sem,↓reduceIte,Nat.reduceAdd,o1,o2,o3,Bool.and_self])))
  (first|refine call_f (k19) rfl ?_|refine callQ_f (k19) rfl ?_|refine callHK_f (k19) rfl ?_|refine callH_f (k19) rfl ?_)
  (repeat (with_reducible first|refine W_seq fun K hK=>?_|refine J_region ?_ |(refine Kont.go (by assumption) ?_)|(simp (config:={ maxSteps:=3000000 }) (disch:=omega) only [go_sem,↓reduceIte,Nat.reduceAdd,o1,o2,o3,Bool.and_self])))
  (first|refine call_f (k21) rfl ?_|refine callQ_f (k21) rfl ?_|refine callHK_f (k21) rfl ?_|refine callH_f (k21) rfl ?_)
  (repeat (with_reducible first|(simp (config:={ maxSteps:=3000000 }) (disch:=omega) only [go_sem,↓reduceIte,Nat.reduceAdd,true_and,and_self])))
  (first|refine call_f (k17) rfl ?_|refine callQ_f (k17) rfl ?_|refine callHK_f (k17) rfl ?_|refine callH_f (k17) rfl ?_)
  (repeat (with_reducible first|(simp (config:={ maxSteps:=3000000 }) (disch:=omega) only [go_sem,↓reduceIte,Nat.reduceAdd,decide_true,true_and,and_self])))
  (first|refine call_f (k20) rfl ?_|refine callQ_f (k20) rfl ?_|refine callHK_f (k20) rfl ?_|refine callH_f (k20) rfl ?_)
  (repeat (with_reducible first|refine J_ret ?_|exact Frz.f _|(refine Kont.go (by assumption) ?_)|(simp (config:={ maxSteps:=3000000 }) (disch:=omega) only [go_sem])))
end Go.Proofs.YtfjgijkhmhhkdaaGreatDoor
set_option linter.unusedVariables false
set_option linter.unusedSimpArgs false
namespace Go.Proofs.YtfjgijkhmhhkdaaGreatDoor
open Go Go.RowKit
theorem Frs.take {k:Nat} {xs:List FV} {l:List Rat} (h:Frs k xs l) (n:Nat):Frs k (xs.take n) (l.take n):=⟨by simp [h.len],fun i q hq=>by
 rw [List.getElem?_take] at hq ⊢
 split at hq
 ·rename_i hi
  rw [if_pos hi];exact h.get i q hq
 ·cases hq⟩
end Go.Proofs.YtfjgijkhmhhkdaaGreatDoor
set_option linter.unusedVariables false
set_option linter.unusedSimpArgs false
namespace Go.Proofs.YtfjgijkhmhhkdaaGreatDoor
open Go Go.RowKit
def pickN (c:Int) (n:Nat):Nat:=(if c<0 then -(c+1) else c).toNat%n
theorem tmod_nat {c:Int} {n:Nat} (h:0≤c):c.tmod (n:Int)=((c.toNat%n:Nat):Int):=by
 rw [Int.tmod_eq_emod_of_nonneg h,Int.natCast_emod,Int.toNat_of_nonneg h]
theorem pickN_lt (c:Int) {n:Nat} (h:0<n):pickN c n<n:=Nat.mod_lt _ h
set_option maxRecDepth 100000 in
theorem pick_good (c:Int) (n:Nat) (h1:-9223372036854775808≤c) (h2:c≤9223372036854775807) (h0:0<n) (hn:n≤9223372036854775807):Good Tryz.prog 24 [I c,I n] (I (pickN c n)):=by
 unfold pickN
 refine good_of Tryz.func24 rfl (by kernel_rfl) fun X hO hrd=>?_;rw [Tryz.ntmps24,Tryz.results24];simp only [ast0,List.map_cons,List.map_nil,List.length_cons,List.length_nil,Nat.reduceAdd,Nat.reduceSub,List.replicate_succ,List.replicate_zero,List.cons_append,List.nil_append]
 (repeat (with_reducible first|refine W_seq fun K hK=>?_|refine J_region ?_ |refine J_c ?_|(refine Kont.go (by assumption) ?_)|(simp (config:={ maxSteps:=3000000 }) (disch:=omega) only [go_sem])))
 refine Jc_if (fun hc=>?_) (fun hc=>?_)<;>try simp only [decide_eq_true_eq,decide_eq_false_iff_not] at hc
 ·(repeat (first|(with_reducible first|refine W_seq fun K hK=>?_|refine J_ret ?_|refine J_region ?_ |(refine Kont.go (by assumption) ?_)|(simp (config:={ maxSteps:=3000000 }) (disch:=omega) only [go_sem,Int.zero_sub]))|refine And.intro (by omega) ?_))
  rw [if_pos hc,←tmod_nat (by omega)]
  exact Frz.f _
 ·(repeat (first|(with_reducible first|refine W_seq fun K hK=>?_|refine J_skip ?_|refine J_ret ?_|refine J_region ?_ |(refine Kont.go (by assumption) ?_)|(simp (config:={ maxSteps:=3000000 }) (disch:=omega) only [go_sem]))|refine And.intro (by omega) ?_))
  rw [if_neg hc,←tmod_nat (by omega)]
  exact Frz.f _
theorem pickI (c n:Int) (h1:-9223372036854775808≤c) (h2:c≤9223372036854775807) (h0:0<n) (hn:n≤9223372036854775807):Good Tryz.prog 24 [I c,I n] (I (pickN c n.toNat)):=by
 have:=pick_good c n.toNat h1 h2 (by omega) (by omega)
 rwa [Int.toNat_of_nonneg (by omega)] at this
end Go.Proofs.YtfjgijkhmhhkdaaGreatDoor
set_option linter.unusedVariables false
set_option linter.unusedSimpArgs false
namespace Go.Proofs.YtfjgijkhmhhkdaaGreatDoor
open Go Go.RowKit
def rowX (w:List Int) (k i:Nat):Nat:=if w=[] then 1 else pickN (w.getD ((k+i)%w.length) 0) 7
def rowL (w:List Int) (k n:Nat):List Nat:=(List.range n).map (rowX w k)
theorem rowX_lt (w:List Int) (k i:Nat):rowX w k i<7:=by
 unfold rowX pickN
 split
 ·omega
 ·exact Nat.mod_lt _ (by omega)
theorem rowL_succ (w:List Int) (k n:Nat):rowL w k (n+1)=rowL w k n++[rowX w k n]:=by simp [rowL,List.range_succ]
theorem rowL_len (w:List Int) (k n:Nat):(rowL w k n).length=n:=by simp [rowL]
theorem rowL_sum (w:List Int) (k n:Nat):(rowL w k n).sum≤n*6:=by
 induction n with
 | zero=>simp [rowL]
 | succ n ih=>rw [rowL_succ,List.sum_append];have:=rowX_lt w k n;simp;omega
def rowS (w:List Int) (k n:Nat):Nat:=if (rowL w k n).sum=0 then 1 else (rowL w k n).sum
def rowM (w:List Int) (k n:Nat):List Nat:=if (rowL w k n).sum=0 then (rowL w k n).set 0 1 else rowL w k n
def rowOf (w:List Int) (k n:Nat):List Rat:=(rowM w k n).map fun x:Nat=>((x:Int):Rat)/((rowS w k n:Int):Rat)
abbrev nI (n:Nat):FV:=I (n:Int)
theorem i64_get {w:List Int} (hw:∀x∈w,-9223372036854775808≤x∧x≤9223372036854775807) {i:Nat} (h:i<w.length):-9223372036854775808≤w[i]∧w[i]≤9223372036854775807:=hw _ (List.getElem_mem h)
theorem rowM_len (w:List Int) (k n:Nat):(rowM w k n).length=n:=by unfold rowM;split<;>simp [rowL_len]
theorem rowM_lt (w:List Int) (k n:Nat):∀x∈rowM w k n,x<7:=by
 have h:∀x∈rowL w k n,x<7:=fun x hx=>by
  obtain ⟨i,_,rfl⟩:=List.mem_map.1 hx
  exact rowX_lt w k i
 intro x hx
 unfold rowM at hx
 split at hx
 ·rcases List.mem_or_eq_of_mem_set hx with hx|rfl
  ·exact h x hx
  ·omega
 ·exact h x hx
set_option maxRecDepth 100000 in
set_option maxHeartbeats 2000000 in
theorem rowOf_good (w:List Int) (k n:Nat) (hw:∀x∈w,-9223372036854775808≤x∧x≤9223372036854775807) (hk:k≤1000000000) (h1:1≤n) (hn:n≤1000) (hwl:w.length≤140737488355328):Good Tryz.prog 61 [ints w,I k,I n] (frs (rowOf w k n)):=by
 have hsn:=rowL_sum w k n
 refine good_of Tryz.func61 rfl (by kernel_rfl) fun X hO hrd=>?_;rw [Tryz.ntmps61,Tryz.results61];simp only [ast0,List.map_cons,List.map_nil,List.length_cons,List.length_nil,Nat.reduceAdd,Nat.reduceSub,List.replicate_succ,List.replicate_zero,List.cons_append,List.nil_append]
 (repeat (with_reducible first|refine W_seq fun K hK=>?_|refine J_block ?_|refine J_region ?_ |(refine Kont.go (by assumption) ?_)|(simp (config:={ maxSteps:=3000000 }) (disch:=omega) only [go_sem])))
 refine J_reserve ?_
 refine W_loop [7,8,9,10,15,16,17,18,19,20,21,22,23,24,25,26,27,28,29,30,31,32,33,34,35,36,37,38,39] (fun x:Nat=>[(9,.f (I x)),(8,.f (I ((rowL w k x).sum:Nat))),(7,sl 0 1 ((rowL w k x).map nI))]) (fun x:Nat=>[ob 3 1 ((rowL w k x).map nI)]) (fun x:Nat=>x≤n) (fun x:Nat=>n-x) (0) (Nat.zero_le _) (by refine weak_of ?_ ?_<;>simp (disch:=omega) only [go_sem]<;>first|rfl|exact ⟨rfl,rfl⟩|exact Or.inl rfl|exact ⟨Or.inl rfl,Or.inl rfl⟩|trivial|assumption|omega|(symm;assumption)|((repeat' apply And.intro)<;>first|rfl|omega|trivial|exact .inl rfl|exact .inr ⟨rfl,rfl⟩|exact .inr rfl|(right;symm;assumption)|(symm;assumption)|assumption)) ?_
 rintro i hi
 simp only [go_sem]
 (repeat (with_reducible first|refine W_seq fun K hK=>?_|refine J_region ?_ |refine J_c ?_|(refine Kont.go (by assumption) ?_)|(simp (config:={ maxSteps:=3000000 }) (disch:=omega) only [go_sem])))
 refine Jc_if (fun hlt=>?_) (fun hlt=>?_)<;>try simp only [decide_eq_true_eq,decide_eq_false_iff_not] at hlt
 ·have hsum:=rowL_sum w k i
  have hsi:=rowL_sum w k (i+1)
  have hx7:=rowX_lt w k i
  have hs2:(rowL w k (i+1)).sum=(rowL w k i).sum+rowX w k i:=by rw [rowL_succ,List.sum_append];simp
  have hmap:(rowL w k i).map nI++[I (rowX w k i:Nat)]=(rowL w k (i+1)).map nI:=by rw [rowL_succ,List.map_append];rfl
  by_cases hw0:w=[]
  ·have hx1:rowX w k i=1:=by unfold rowX;rw [if_pos hw0]
   rw [hx1] at hs2 hmap
   have hwl0:w.length=0:=by rw [hw0];rfl
   have hmap1:(rowL w k i).map nI++[.v (.int .i64 1)]=(rowL w k (i+1)).map nI:=hmap
   (repeat (first|(with_reducible first|refine W_seq fun K hK=>?_|refine J_block ?_|refine J_skip ?_|refine J_region ?_ |refine aApp_sl ?_|refine J_c ?_|refine Jc_false ?_|(refine Kont.go (by assumption) ?_)|(simp (config:={ maxSteps:=3000000 }) (disch:=omega) only [go_sem,Nat.reduceEqDiff,↓reduceIte,Nat.reduceLeDiff,List.length_map,rowL_len,hwl0,hmap1]))|refine And.intro (by omega) ?_))
   refine ⟨i+1,by omega,by omega,weak_of ?_ ?_⟩<;>(try simp (disch:=omega) only [go_sem])<;>(try first|done|omega|rfl|exact ⟨rfl,rfl⟩|trivial)
  ·have hwp:0<w.length:=List.length_pos_iff.2 hw0
   have hm:(k+i)%w.length<w.length:=Nat.mod_lt _ hwp
   have hx:=i64_get hw hm
   have hxx:rowX w k i=pickN w[(k+i)%w.length] 7:=by unfold rowX;rw [if_neg hw0,lget_lt w 0 hm]
   have hmod:((k:Int)+(i:Int)).tmod (w.length:Int)=(((k+i)%w.length:Nat):Int):=tmod_nat (by omega)
   rw [hxx] at hs2 hmap hx7
   (repeat (first|(with_reducible first|refine W_seq fun K hK=>?_|refine J_block ?_|refine J_skip ?_|refine J_region ?_ |refine aApp_sl ?_|refine J_c ?_|refine Jc_true ?_|(refine Kont.go (by assumption) ?_)|(simp (config:={ maxSteps:=3000000 }) (disch:=omega) only [go_sem,Nat.reduceEqDiff,↓reduceIte,Nat.reduceLeDiff,Int.reduceToNat,List.length_map,rowL_len,hwp,hmod,map_get I w hm,hmap]))|refine call_f (pickI _ _ (by omega) (by omega) (by omega) (by omega)) rfl ?_|refine And.intro (by omega) ?_))
   refine ⟨i+1,by omega,by omega,weak_of ?_ ?_⟩<;>(try simp (disch:=omega) only [go_sem])<;>(try first|done|omega|rfl|exact ⟨rfl,rfl⟩|trivial)
 ·have he:i=n:=by omega
  subst he
  have hlen:((rowL w k i).map nI)≠[]:=fun h=>by have:=congrArg List.length h;simp [rowL_len] at this;omega
  have hlen2:((rowM w k i).map nI)≠[]:=fun h=>by have:=congrArg List.length h;simp [rowM_len] at this;omega
  (repeat (with_reducible first|refine W_seq fun K hK=>?_|refine J_exit ?_|refine J_region ?_ |refine J_c ?_|(refine Kont.go (by assumption) ?_)|(simp (config:={ maxSteps:=3000000 }) (disch:=omega) only [go_sem,↓reduceIte])))
  refine Jc_join (by assumption) [7,8,40,41,42,43] (fun z:Unit=>[(7,sl 0 1 ((rowM w k i).map nI)),(8,.f (I (rowS w k i)))]) (fun z:Unit=>[ob 3 1 ((rowM w k i).map nI)]) (fun z:Unit=>True) ?_ ?_
  ·by_cases hz:(rowL w k i).sum=0
   ·have hM:rowM w k i=(rowL w k i).set 0 1:=by unfold rowM;rw [if_pos hz]
    have hS:rowS w k i=1:=by unfold rowS;rw [if_pos hz]
    have h0:=mm_get nI (rowL w k i) (i:=0) (by rw [rowL_len];omega)
    (repeat (first|(with_reducible first|refine W_seq fun K hK=>?_|refine J_region ?_ |refine Jc_true ?_|(refine Kont.go (by assumption) ?_)|(simp (config:={ maxSteps:=3000000 }) (disch:=omega) only [go_sem,↓reduceIte,Int.reduceLE,hz,List.length_map,rowL_len,h0]))|refine And.intro (by omega) ?_))
    refine weak_of ?_ ?_<;>simp only [go_sem]
    ·rw [sl_pos hlen,sl_pos hlen2];simp [rowL_len,rowM_len,hS]
    ·rw [ob_pos hlen2,hM];right;simp [List.map_set];rfl
   ·have hM:rowM w k i=rowL w k i:=by unfold rowM;rw [if_neg hz]
    have hS:rowS w k i=(rowL w k i).sum:=by unfold rowS;rw [if_neg hz]
    (repeat (with_reducible first|refine J_skip ?_|refine Jc_false ?_|(simp (config:={ maxSteps:=3000000 }) (disch:=omega) only [go_sem,hz])))
    rw [hM,hS]
    refine weak_of ?_ ?_<;>simp only [go_sem]
  ·rintro _ _
   simp only [go_sem]
   have hS1:1≤rowS w k i:=by unfold rowS;split<;>omega
   have hS2:rowS w k i≤6000:=by unfold rowS;split<;>omega
   have hRl:(rowOf w k i).length=i:=by simp [rowOf,rowM_len]
   (repeat (with_reducible first|refine W_seq fun K hK=>?_|refine J_block ?_|refine J_region ?_ |(refine Kont.go (by assumption) ?_)|(simp (config:={ maxSteps:=3000000 }) (disch:=omega) only [go_sem])))
   refine J_reserve ?_
   refine W_loop [11,12,13,14,44,45,46,47,48,49,50,51,52,53,54,55,56,57,58,59,60,61,62,63] (fun x:Nat=>[(12,.f (I x)),(11,sl 1 3 (((rowOf w k i).take x).map fr))]) (fun x:Nat=>[ob 3 1 ((rowM w k i).map nI),ob 30 3 (((rowOf w k i).take x).map fr)]) (fun x:Nat=>x≤i) (fun x:Nat=>i-x) (0) (Nat.zero_le _) (by refine weak_of ?_ ?_<;>simp (disch:=omega) only [go_sem,Nat.reduceAdd]<;>first|rfl|exact ⟨rfl,rfl⟩|exact Or.inl rfl|exact ⟨Or.inl rfl,Or.inl rfl⟩|trivial|assumption|omega|(symm;assumption)|((repeat' apply And.intro)<;>first|rfl|omega|trivial|exact .inl rfl|exact .inr ⟨rfl,rfl⟩|exact .inr rfl|(right;symm;assumption)|(symm;assumption)|assumption)) ?_
   rintro j hj
   simp only [go_sem]
   (repeat (with_reducible first|refine W_seq fun K hK=>?_|refine J_region ?_ |refine J_c ?_|(refine Kont.go (by assumption) ?_)|(simp (config:={ maxSteps:=3000000 }) (disch:=omega) only [go_sem])))
   refine Jc_if (fun hlt2=>?_) (fun hlt2=>?_)<;>try simp only [decide_eq_true_eq,decide_eq_false_iff_not] at hlt2
   ·have hjm:j<(rowM w k i).length:=by rw [rowM_len];exact hlt2
    have hx7:=rowM_lt w k i _ (List.getElem_mem hjm)
    have hjr:j<(rowOf w k i).length:=by rw [hRl];exact hlt2
    have hrj:(rowOf w k i)[j]=(((rowM w k i)[j]:Int):Rat)/((rowS w k i:Int):Rat):=by simp [rowOf]
    (repeat (first|(with_reducible first|refine W_seq fun K hK=>?_|refine J_block ?_|refine J_skip ?_|refine J_region ?_ |(refine Kont.go (by assumption) ?_)|(simp (config:={ maxSteps:=3000000 }) (disch:=omega) only [go_sem,↓reduceIte,List.length_map,rowM_len,mm_get nI (rowM w k i) hjm,hlt2]))|refine call_f (rof_frac (by omega) (by omega)) rfl ?_|refine And.intro (by omega) ?_))
    refine call_f (rdiv_w (IsFr.int (by omega) (by omega)) (IsFr.int (by omega) (by omega)) (by omega) (by omega) (fun h=>by have:=Rat.intCast_eq_zero_iff.1 h;omega)) rfl ?_
    rw [←hrj]
    (repeat (first|(with_reducible first|refine J_region ?_ |refine aApp_sl ?_|(refine Kont.go (by assumption) ?_)|(simp (config:={ maxSteps:=3000000 }) (disch:=omega) only [go_sem,Nat.reduceEqDiff,↓reduceIte,Nat.reduceAdd,Nat.reduceLeDiff,List.length_map,List.length_take,tk_next fr (rowOf w k i) hjr]))|refine And.intro (by omega) ?_))
    refine ⟨j+1,by omega,by omega,weak_of ?_ ?_⟩<;>(try simp (disch:=omega) only [go_sem,Nat.reduceAdd])<;>(try first|done|omega|rfl|exact ⟨rfl,rfl⟩|trivial)
    done
   ·have he:j=i:=by omega
    subst he
    (repeat (with_reducible first|refine W_seq fun K hK=>?_|refine J_exit ?_|refine J_ret ?_|refine J_region ?_ |(refine Kont.go (by assumption) ?_)|(simp (config:={ maxSteps:=3000000 }) (disch:=omega) only [go_sem,↓reduceIte])))
    rw [tk_all fr _ (by omega)]
    exact Frz.sl rfl
theorem rowI {w:List Int} {k n:Int} {k' n':Nat} (hk':k=k') (hn':n=n') (hw:∀x∈w,-9223372036854775808≤x∧x≤9223372036854775807) (hk:k'≤1000000000) (h1:1≤n') (hn:n'≤1000) (hwl:w.length≤140737488355328):Good Tryz.prog 61 [ints w,I k,I n] (frs (rowOf w k' n')):=by
 subst hk';subst hn';exact rowOf_good w k' n' hw hk h1 hn hwl
theorem rowOf_len (w:List Int) (k n:Nat):(rowOf w k n).length=n:=by simp [rowOf,rowM_len]
theorem rowS_le (w:List Int) (k n:Nat) (h:1≤n):rowS w k n≤n*6:=by have:=rowL_sum w k n;unfold rowS;split<;>omega
end Go.Proofs.YtfjgijkhmhhkdaaGreatDoor
set_option linter.unusedVariables false
set_option linter.unusedSimpArgs false
namespace Go.Proofs.YtfjgijkhmhhkdaaGreatDoor
open Go Go.RowKit
abbrev qN (n:Nat):Rat:=((n:Int):Rat)
end Go.Proofs.YtfjgijkhmhhkdaaGreatDoor
set_option linter.unusedVariables false
set_option linter.unusedSimpArgs false
namespace Go.Proofs.YtfjgijkhmhhkdaaGreatDoor
open Go Go.RowKit
theorem qN_mk (a b:Nat):qN a/qN b=mkRat (a:Int) b:=by rw [Rat.mkRat_eq_div];rfl
section
variable (w : List Int) (k n : Nat)
theorem rowOf_row (h:1≤n) (hn:n≤1000):Row 8 (rowOf w k n):=fun q hq=>by
 obtain ⟨x,hx,rfl⟩:=List.mem_map.1 hq
 show Fz (qN x/qN (rowS w k n)) 8
 rw [qN_mk]
 have h1:=rowM_lt w k n x hx
 have h2:=rowS_le w k n h
 have e:(256:Nat)^8=18446744073709551616:=by decide
 exact Fz.mk (by rw [e];omega) (by rw [e];omega) (by omega)
end
end Go.Proofs.YtfjgijkhmhhkdaaGreatDoor
