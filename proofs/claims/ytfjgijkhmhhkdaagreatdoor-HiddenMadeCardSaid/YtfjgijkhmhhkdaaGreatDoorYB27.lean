/- Hidden chains: the path: walked. Conditions: numbers of 1000 bytes each. -/
import Derived.Test.YtfjgijkhmhhkdaaGreatDoorYB19
import Derived.Test.YtfjgijkhmhhkdaaGreatDoorYB16
import Derived.Test.YtfjgijkhmhhkdaaGreatDoorYRSm
set_option linter.unusedVariables false
set_option linter.unusedSimpArgs false
namespace Go.Proofs.YtfjgijkhmhhkdaaGreatDoor
open Go Go.RowKit
set_option maxRecDepth 100000 in
theorem one_w (b:Bool):Good Tryz.prog 49 [Bo b] (I (if b=true then 1 else 0)):=by
 cases b with
 | true =>
  refine good_of Tryz.func49 rfl (by kernel_rfl) fun X hO hrd=>?_;rw [Tryz.ntmps49,Tryz.results49];simp only [ast0,List.map_cons,List.map_nil,List.length_cons,List.length_nil,Nat.reduceAdd,Nat.reduceSub,List.replicate_succ,List.replicate_zero,List.cons_append,List.nil_append]
  (repeat (with_reducible first|refine W_seq fun K hK=>?_|refine J_ret ?_|refine J_region ?_ |refine J_c ?_|refine Jc_true ?_|exact Frz.f _|(refine Kont.go (by assumption) ?_)|(simp (config:={ maxSteps:=3000000 }) (disch:=omega) only [go_sem,↓reduceIte])))
 | false =>
  refine good_of Tryz.func49 rfl (by kernel_rfl) fun X hO hrd=>?_;rw [Tryz.ntmps49,Tryz.results49];simp only [ast0,List.map_cons,List.map_nil,List.length_cons,List.length_nil,Nat.reduceAdd,Nat.reduceSub,List.replicate_succ,List.replicate_zero,List.cons_append,List.nil_append]
  (repeat (with_reducible first|refine W_seq fun K hK=>?_|refine J_skip ?_|refine J_ret ?_|refine J_region ?_ |refine J_c ?_|refine Jc_false ?_|exact Frz.f _|(refine Kont.go (by assumption) ?_)|(simp (config:={ maxSteps:=3000000 }) (disch:=omega) only [go_sem,↓reduceIte])))
def pthV (m:HM) (t:Nat):List FV:=(m.pth t).1.map fun n:Nat=>I (n:Int)
theorem pthV_zero {m:HM}:pthV m 0=[]:=rfl
attribute [go_sem] pthV_zero
def RowP (m:HM) (k t:Nat) (z:List FV):Prop:=z.length=m.n∧∀i,i<m.n→∃g n d,z[i]?=some (frR g n d)∧IsFr (frR g n d) (m.tr (m.pth t).1 t i) k
def pathR (st:List Rat) (mv sh:List (List Rat)) (seen:List Int):List FV:=if mayE st mv sh seen=0∧(hm st mv sh seen).best≠0 then pthV (hm st mv sh seen) seen.length else []
def pathB (st:List Rat) (mv sh:List (List Rat)) (seen:List Int):FV:=if mayE st mv sh seen=0∧(hm st mv sh seen).best≠0 then fr (hm st mv sh seen).best else frN
def pathE (st:List Rat) (mv sh:List (List Rat)) (seen:List Int):Int:=if mayE st mv sh seen≠0 then mayE st mv sh seen else if (hm st mv sh seen).best=0 then 3 else 0
theorem bR_get {h:HM} {op:Rat→Rat→Rat} {t:Nat} (ht:t<h.T):((bR h op).map frs)[t]?=some (frs (bRow h op t)):=by simp [bR,ht]
theorem gB_mx {h:HM} {t i:Nat}:h.gB grt t i=h.mx t i:=h.gU_mx _ _
section
variable {k : Nat} {fs ms ss : List FV} {st : List Rat} {mv sh : List (List Rat)} {seen : List Int}
theorem pth_fz (ok:HOk k fs ms ss st mv sh seen) (h1:1≤k) (hb:(hm st mv sh seen).best≠0):∀{t:Nat},t≤seen.length→Fz ((hm st mv sh seen).pth t).2 (8+t*(2*k)):=by
 intro t
 induction t with
 | zero=>intro _;exact (Fz.int (n:=1) (by decide)).up (by omega)
 | succ t ih =>
  intro ht
  obtain ⟨q,hq,_,_,e⟩:=HM.pth_next hb (t:=t) (show t<seen.length by omega)
  obtain ⟨l1,l2⟩:=HM.pth_len hb (t:=t) (show t≤seen.length by omega)
  rw [e]
  have f1:Fz ((hm st mv sh seen).tr ((hm st mv sh seen).pth t).1 t q) k:=by
   unfold HM.tr
   split
   ·exact ok.hA h1 hq
   ·rename_i h0
    refine ok.hM h1 ?_ hq
    rw [lget_lt _ 0 (by omega)]
    exact l2 _ (List.getElem_mem _)
  refine (((ih (by omega)).mul f1).mul (ok.hS h1 hq (by omega))).up ?_
  rw [Nat.add_mul];omega
set_option maxRecDepth 100000 in
set_option maxHeartbeats 8000000 in
theorem path_w (h:HidF k fs ms ss st mv sh) (h1:1≤k) (hk:k≤1000) (hsl:seen.length≤140737488355328) (hs:∀x∈seen,-9223372036854775808≤x∧x≤9223372036854775807) :
  Good Tryz.prog 18 [hidV fs ms ss,ints seen] (.tup [.fz 1 (pathR st mv sh seen),pathB st mv sh seen,I (pathE st mv sh seen)]):=by
 have hm1:=may_w h h1 (by omega) seen hsl hs
 by_cases hE:mayE st mv sh seen=0
 case neg =>
  have e1:pathR st mv sh seen=[]:=by unfold pathR;rw [if_neg fun hh=>hE hh.1]
  have e2:pathB st mv sh seen=frN:=by unfold pathB;rw [if_neg fun hh=>hE hh.1]
  have e3:pathE st mv sh seen=mayE st mv sh seen:=by unfold pathE;rw [if_pos hE]
  rw [e1,e2,e3]
  refine good_of Tryz.func18 rfl (by kernel_rfl) fun X hO hrd=>?_;rw [Tryz.ntmps18,Tryz.results18];simp only [ast0,List.map_cons,List.map_nil,List.length_cons,List.length_nil,Nat.reduceAdd,Nat.reduceSub,List.replicate_succ,List.replicate_zero,List.cons_append,List.nil_append]
  (repeat (with_reducible first|refine W_seq fun K hK=>?_|refine J_region ?_|(refine Kont.go (by assumption) ?_)|(simp (config:={ maxSteps:=3000000 }) (disch:=omega) only [go_sem,↓reduceIte,Nat.reduceAdd])))
  refine call_f hm1 rfl ?_
  (repeat (with_reducible first|refine W_seq fun K hK=>?_|refine J_ret ?_|refine J_region ?_|refine J_c ?_|refine Jc_true ?_|(refine Kont.go (by assumption) ?_)|(simp (config:={ maxSteps:=3000000 }) (disch:=omega) only [go_sem,↓reduceIte,Nat.reduceAdd,hE])))
  exact ⟨_,rfl,FrzL.cons (.nil _) (FrzL.cons (.f _) (FrzL.cons (.f _) (FrzL.nil _)))⟩
 have ok:=mayE_ok h hE
 have ht8:=ok.t8
 have hn4:=ok.n4
 have hn1:=ok.n1
 obtain ⟨m,hm_⟩:∃m,m=hm st mv sh seen:=⟨_,rfl⟩
 have hmn:m.n=st.length:=by rw [hm_];rfl
 have hmT:m.T=seen.length:=by rw [hm_];rfl
 have hbeh:=behind_w ok h1 hk hs join_grt
 rw [←hm_] at hbeh
 rw [hE] at hm1
 have hfa:∀i,i<st.length→Fz (m.a i) k:=fun i hi=>by have:=ok.hA h1 (i:=i) hi;rw [←hm_] at this;exact this
 have hmx:∀t i,t<seen.length→i<st.length→Fz (m.mx t i) 400000000:=fun t i ht hi=>by
  have:=ok.fU h1 join_grt (u:=m.T-1-t) (by omega) hi
  rw [←hm_] at this
  have e:m.gU grt (m.T-1-t) i=m.mx t i:=m.gU_mx _ _
  rw [e] at this
  exact this.up (szH_le hk (by omega))
 have hmS:∀t i,t<seen.length→i<st.length→Fz (m.sh i (m.s t)) k:=fun t i ht hi=>by have:=ok.hS h1 (i:=i) (t:=t) hi ht;rw [←hm_] at this;exact this
 have hbr:((bR m grt).map frs).length=seen.length:=by simp [bR,hmT]
 obtain ⟨c0,hc0⟩:∃c0:Int,c0=if decide (seen.length=0)=true then 1 else 0:=⟨_,rfl⟩
 have hc1:0≤c0∧c0≤1:=by rw [hc0];split<;>omega
 have hone:=one_w (decide (seen.length=0))
 rw [←hc0] at hone
 refine good_of Tryz.func18 rfl (by kernel_rfl) fun X hO hrd=>?_;rw [Tryz.ntmps18,Tryz.results18];simp only [ast0,List.map_cons,List.map_nil,List.length_cons,List.length_nil,Nat.reduceAdd,Nat.reduceSub,List.replicate_succ,List.replicate_zero,List.cons_append,List.nil_append]
 (repeat (with_reducible first|refine W_seq fun K hK=>?_|refine J_region ?_|(refine Kont.go (by assumption) ?_)|(simp (config:={ maxSteps:=3000000 }) (disch:=omega) only [go_sem,↓reduceIte,Nat.reduceAdd])))
 refine call_f hm1 rfl ?_
 (repeat (with_reducible first|refine W_seq fun K hK=>?_|refine J_skip ?_|refine J_region ?_|refine J_c ?_|refine Jc_false ?_|(refine Kont.go (by assumption) ?_)|(simp (config:={ maxSteps:=3000000 }) (disch:=omega) only [go_sem,↓reduceIte,Nat.reduceAdd])))
 refine call_f hbeh rfl ?_
 (repeat (with_reducible first|refine W_seq fun K hK=>?_|refine J_region ?_|(refine Kont.go (by assumption) ?_)|(simp (config:={ maxSteps:=3000000 }) (disch:=omega) only [go_sem,List.length_map])))
 refine call_f hone rfl ?_
 (repeat (first|(with_reducible first|refine W_seq fun K hK=>?_|refine J_region ?_|refine J_c ?_|(refine Kont.go (by assumption) ?_)|(simp (config:={ maxSteps:=3000000 }) (disch:=omega) only [go_sem,↓reduceIte,Nat.reduceAdd,List.length_map]))|refine call_f (of_good (by omega) (by omega)) rfl ?_))
 refine Jc_join (by assumption) [10,11,37,38,39,40,41,42,43,44,45,46,47,48,49,50,51,52,53,54,55,56,57,58,59,60,61,62,63,64,65,66] (fun z:Unit=>[]) (fun z:Unit=>[some ⟨25,3,[.f (hidV fs ms ss)]⟩,oF frN,oF (fr m.best)]) (fun z:Unit=>True) ?_ ?_
 ·refine Jc_if (fun hT=>?_) (fun hT=>?_)<;>try simp only [decide_eq_true_eq,decide_eq_false_iff_not] at hT
  ·have hT0:0<seen.length:=by omega
   have hcz:c0=0:=by rw [hc0,if_neg (by rw [decide_eq_true_eq];omega)]
   rw [hcz]
   have z0:fr ((0:Int):Rat)=fr (opF grt (fun i=>m.a i*m.sh i (m.s 0)*m.mx 0 i) 0):=rfl
   rw [z0]
   (repeat (with_reducible first|refine W_seq fun K hK=>?_|refine J_block ?_|refine J_region ?_|(refine Kont.go (by assumption) ?_)|(simp (config:={ maxSteps:=3000000 }) (disch:=omega) only [go_sem,↓reduceIte,h.ist.len])))
   refine W_loop [10,11,40,41,42,43,44,45,46,47,48,49,50,51,52,53,54,55,56,57,58,59,60,61,62,63,64,65,66] (fun x:Nat=>[(40,.f (I x))]) (fun x:Nat=>[some ⟨25,3,[.f (hidV fs ms ss)]⟩,oF frN,oF (fr (opF grt (fun i=>m.a i*m.sh i (m.s 0)*m.mx 0 i) x))]) (fun x:Nat=>x≤st.length) (fun x:Nat=>st.length-x) (0) (Nat.zero_le _) (by refine weak_of ?_ ?_<;>simp (disch:=omega) only [go_sem,Nat.reduceAdd]<;>first|rfl|exact ⟨rfl,rfl⟩|exact Or.inl rfl|exact ⟨Or.inl rfl,Or.inl rfl⟩|trivial|assumption|omega|(symm;assumption)|((repeat' apply And.intro)<;>first|rfl|omega|trivial|exact .inl rfl|exact .inr ⟨rfl,rfl⟩|exact .inr rfl|(right;symm;assumption)|(symm;assumption)|assumption)) ?_
   rintro i hi
   simp only [go_sem]
   (repeat (with_reducible first|refine W_seq fun K hK=>?_|refine J_region ?_|refine J_c ?_|(refine Kont.go (by assumption) ?_)|(simp (config:={ maxSteps:=3000000 }) (disch:=omega) only [go_sem])))
   refine Jc_if (fun hil=>?_) (fun hil=>?_)<;>try simp only [decide_eq_true_eq,decide_eq_false_iff_not] at hil
   ·obtain ⟨g1,n1,d1,x1,f1⟩:=ok.a3 hil
    obtain ⟨xs2,g2,n2,d2,y2,x2,f2⟩:=ok.s3 hil hT0
    have hse:=ok.se 0 hT0
    rw [lget_lt seen 0 hT0] at x2 f2 hse
    have ea:st.getD i 0=m.a i:=by rw [hm_];rfl
    have es:at2 sh i seen[0].toNat=m.sh i (m.s 0):=by rw [hm_];show _=at2 sh i (seen.getD 0 0).toNat;rw [lget_lt seen 0 hT0]
    rw [ea] at f1
    rw [es] at f2
    have cx:=IsFr.c (hmx 0 i hT0 hil)
    have ca:=IsFr.c ((f1.of3 h1).mul (f2.of3 h1))
    have fm:=((f1.of3 h1).mul (f2.of3 h1)).mul (hmx 0 i hT0 hil)
    have fo:=opF_fz join_grt (f:=fun i=>m.a i*m.sh i (m.s 0)*m.mx 0 i) (n:=i) (s:=k+k+400000000) fun q hq=>((hfa q (by omega)).mul (hmS 0 q hT0 (by omega))).mul (hmx 0 q hT0 (by omega))
    have so:=Nat.mul_le_mul (show i≤4 by omega) (show k+k+400000000+1≤400002001 by omega)
    have l1:=bR_get (h:=m) (op:=grt) (t:=0) (by omega)
    have l2:=bRow_get (h:=m) (op:=grt) (t:=0) (i:=i) (by omega)
    rw [gB_mx] at l2
    (repeat (first|(with_reducible first|refine W_seq fun K hK=>?_|refine J_block ?_|refine J_skip ?_|refine J_region ?_|refine J_drawn mixed (by kernel_rfl) ?_|(refine Kont.go (by assumption) ?_)|(simp (config:={ maxSteps:=3000000 }) (disch:=omega) only [go_sem,↓reduceIte,Nat.reduceAdd,Int.reduceLE,x1,x2,y2,map_get I seen hT0,l1,l2]))|refine callQ_f (mul_w (by assumption) (by assumption) (by omega) (by omega)) rfl ?_|refine And.intro (by omega) ?_))
    refine callQ_f (greater_w fo fm (by omega) (by omega)) rfl ?_
    (repeat (with_reducible first|refine J_region ?_|(refine Kont.go (by assumption) ?_)|(simp (config:={ maxSteps:=3000000 }) (disch:=omega) only [go_sem,Nat.reduceAdd])))
    refine ⟨i+1,by omega,by omega,weak_of ?_ ?_⟩<;>(try simp (disch:=omega) only [go_sem,Nat.reduceAdd])<;>(try first|done|omega|rfl|exact ⟨rfl,rfl⟩|trivial)
   ·have he:i=st.length:=by omega
    subst he
    have eb:opF grt (fun i=>m.a i*m.sh i (m.s 0)*m.mx 0 i) st.length=m.best:=by unfold HM.best;rw [if_neg (by omega),opF_max,hmn]
    (repeat (with_reducible first|refine J_exit ?_|(simp (config:={ maxSteps:=3000000 }) (disch:=omega) only [go_sem,↓reduceIte])))
    rw [eb]
    (refine weak_of ?_ ?_<;>(try simp only [go_sem,Nat.reduceAdd])<;>(try first|done|omega|rfl|exact ⟨rfl,rfl⟩|trivial))
  ·have eb:((c0:Int):Rat)=m.best:=by
    rw [hc0,if_pos (by rw [decide_eq_true_eq];omega)]
    unfold HM.best
    rw [if_pos (by omega)];rfl
   rw [eb]
   (repeat (with_reducible first|refine J_skip ?_|(simp (config:={ maxSteps:=3000000 }) (disch:=omega) only [go_sem])))
   (refine weak_of ?_ ?_<;>(try simp only [go_sem,Nat.reduceAdd])<;>(try first|done|omega|rfl|exact ⟨rfl,rfl⟩|trivial))
 ·rintro _ _
  simp only [go_sem]
  (repeat (with_reducible first|refine W_seq fun K hK=>?_|refine J_region ?_|refine J_c ?_|(refine Kont.go (by assumption) ?_)|(simp (config:={ maxSteps:=3000000 }) (disch:=omega) only [go_sem,↓reduceIte,num_zero_iff])))
  refine Jc_if (fun hb0=>?_) (fun hb0=>?_)<;>try simp only [decide_eq_true_eq,decide_eq_false_iff_not] at hb0
  ·have e1:pathR st mv sh seen=[]:=by unfold pathR;rw [←hm_,if_neg fun hh=>hh.2 hb0]
   have e2:pathB st mv sh seen=frN:=by unfold pathB;rw [←hm_,if_neg fun hh=>hh.2 hb0]
   have e3:pathE st mv sh seen=3:=by unfold pathE;rw [←hm_,if_neg (by omega),if_pos hb0]
   (repeat (with_reducible first|refine W_seq fun K hK=>?_|refine J_ret ?_|refine J_region ?_|(refine Kont.go (by assumption) ?_)|(simp (config:={ maxSteps:=3000000 }) (disch:=omega) only [go_sem,↓reduceIte,Nat.reduceAdd])))
   rw [e1,e2,e3]
   exact ⟨_,rfl,FrzL.cons (.nil _) (FrzL.cons (.f _) (FrzL.cons (.f _) (FrzL.nil _)))⟩
  have e1:pathR st mv sh seen=pthV m seen.length:=by unfold pathR;rw [←hm_,if_pos ⟨hE,hb0⟩]
  have e2:pathB st mv sh seen=fr m.best:=by unfold pathB;rw [←hm_,if_pos ⟨hE,hb0⟩]
  have e3:pathE st mv sh seen=0:=by unfold pathE;rw [←hm_,if_neg (by omega),if_neg hb0]
  have s0:fr ((1:Int):Rat)=fr (m.pth 0).2:=rfl
  (repeat (first|(with_reducible first|refine W_seq fun K hK=>?_|refine J_block ?_|refine J_skip ?_|refine J_region ?_|(refine Kont.go (by assumption) ?_)|(simp (config:={ maxSteps:=3000000 }) (disch:=omega) only [go_sem,↓reduceIte,Nat.reduceAdd]))|refine call_f (of_good (by omega) (by omega)) rfl ?_))
  refine J_reserve ?_
  refine W_loop [12,14,15,16,17,18,74,75,76,77,78,79,80,81,82,83,84,85,86,87,88,89,90,91,92,93,94,95,96,97,98,99,100,101,102,103,104,105,106,107,108,109,110,111,112,113,114,115,116,117,118,119,120,121,122,123,124,125,126,127,128] (fun x:Nat=>[(74,.f (I x)),(12,sl 4 1 (pthV m x))]) (fun x:Nat=>[some ⟨25,3,[.f (hidV fs ms ss)]⟩,oF frN,oF (fr m.best),oF (fr (m.pth x).2),ob 3 1 (pthV m x)]) (fun x:Nat=>x≤seen.length) (fun x:Nat=>seen.length-x) (0) (Nat.zero_le _) (by refine weak_of ?_ ?_<;>simp (disch:=omega) only [go_sem,Nat.reduceAdd]<;>first|rfl|exact ⟨rfl,rfl⟩|exact Or.inl rfl|exact ⟨Or.inl rfl,Or.inl rfl⟩|trivial|assumption|omega|(symm;assumption)|((repeat' apply And.intro)<;>first|rfl|omega|trivial|exact .inl rfl|exact .inr ⟨rfl,rfl⟩|exact .inr rfl|(right;symm;assumption)|(symm;assumption)|assumption)) ?_
  rintro t ht
  simp only [go_sem]
  (repeat (with_reducible first|refine W_seq fun K hK=>?_|refine J_region ?_|refine J_c ?_|(refine Kont.go (by assumption) ?_)|(simp (config:={ maxSteps:=3000000 }) (disch:=omega) only [go_sem])))
  refine Jc_if (fun hlt=>?_) (fun hlt=>?_)<;>try simp only [decide_eq_true_eq,decide_eq_false_iff_not] at hlt
  ·obtain ⟨l1,l2⟩:=HM.pth_len hb0 (t:=t) (by omega)
   obtain ⟨q,hq,hpk,hqb,hpn⟩:=HM.pth_next hb0 (t:=t) (by omega)
   have hse:=ok.se t hlt
   rw [lget_lt seen 0 hlt] at hse
   have hsb:=hs _ (List.getElem_mem hlt)
   (repeat (with_reducible first|refine W_seq fun K hK=>?_|refine J_block ?_|refine J_skip ?_|refine J_region ?_|refine J_c ?_|(refine Kont.go (by assumption) ?_)|(simp (config:={ maxSteps:=3000000 }) (disch:=omega) only [go_sem,↓reduceIte,map_get I seen hlt])))
   refine Jc_join (by assumption) [16,83,84,85,86,87,88,89,90,91] (fun z:List FV=>[(16,.f (.fz 3 z))]) (fun z:List FV=>[some ⟨25,3,[.f (hidV fs ms ss)]⟩,oF frN,oF (fr m.best),oF (fr (m.pth t).2),ob 3 1 (pthV m t)]) (fun z:List FV=>RowP m k t z) ?_ ?_
   ·refine Jc_if (fun ht0=>?_) (fun ht0=>?_)<;>try simp only [decide_eq_true_eq,decide_eq_false_iff_not] at ht0
    ·have tl:t-1<(m.pth t).1.length:=by omega
     obtain ⟨p,hp⟩:∃p,p=(m.pth t).1[t-1]:=⟨_,rfl⟩
     have hpl:p<st.length:=by rw [hp,←hmn];exact l2 _ (List.getElem_mem _)
     have tn:((t:Int)-1).toNat=t-1:=by omega
     have tn0:0≤(t:Int)-1:=by omega
     have hpg:((pthV m t).map AV.f)[t-1]?=some (.f (I (p:Nat))):=by rw [hp];unfold pthV;exact mm_get (fun n:Nat=>I (n:Int)) _ tl
     have hpvl:(pthV m t).length=t:=by unfold pthV;rw [List.length_map,l1]
     have im:p<mv.length:=by rw [ok.lm];exact hpl
     obtain ⟨xm,x1,y1⟩:=ok.f.imv.at im
     have hrm:=ok.rm p hpl
     rw [lget_lt mv [] im] at hrm
     have hrow:RowP m k t xm:=⟨by rw [y1.len,hrm,hmn],fun i hi=>by
      obtain ⟨g,n,d,z1,z2⟩:=y1.at3 (i:=i) (by omega)
      refine ⟨g,n,d,z1,?_⟩
      have e:m.tr (m.pth t).1 t i=mv[p][i]'(by omega):=by
       unfold HM.tr
       rw [if_neg (by omega),lget_lt _ 0 tl,←hp]
       have e1:m.mv p i=at2 mv p i:=by rw [hm_];rfl
       rw [e1]
       unfold at2
       rw [lget_lt mv [] im,lget_lt _ 0 (by omega)]
      rw [e];exact z2⟩
     (repeat (first|(with_reducible first|refine J_drawn mixed (by kernel_rfl) ?_|(simp (config:={ maxSteps:=3000000 }) (disch:=omega) only [go_sem,↓reduceIte,tn,tn0,hpg,hpvl,x1]))|refine And.intro (by omega) ?_))
     refine ⟨xm,hrow,weak_of ?_ ?_⟩<;>(try simp (disch:=omega) only [go_sem,Nat.reduceAdd])<;>(try first|done|omega|rfl|exact ⟨rfl,rfl⟩|trivial)
    ·have t0:t=0:=by omega
     have hrow:RowP m k t fs:=⟨by rw [h.ist.len,hmn],fun i hi=>by
      obtain ⟨g,n,d,z1,z2⟩:=ok.a3 (i:=i) (by omega)
      refine ⟨g,n,d,z1,?_⟩
      have e:m.tr (m.pth t).1 t i=st.getD i 0:=by unfold HM.tr;rw [if_pos t0,hm_];rfl
      rw [e];exact z2⟩
     (repeat (with_reducible first|refine J_skip ?_|(simp (config:={ maxSteps:=3000000 }) (disch:=omega) only [go_sem])))
     refine ⟨fs,hrow,weak_of ?_ ?_⟩<;>(try simp (disch:=omega) only [go_sem,Nat.reduceAdd])<;>(try first|done|omega|rfl|exact ⟨rfl,rfl⟩|trivial)
   ·rintro z ⟨hzl,hz⟩
    simp only [go_sem]
    (repeat (with_reducible first|refine W_seq fun K hK=>?_|refine J_block ?_|refine J_region ?_|(refine Kont.go (by assumption) ?_)|(simp (config:={ maxSteps:=3000000 }) (disch:=omega) only [go_sem,hzl])))
    refine W_loop [12,17,18,94,95,96,97,98,99,100,101,102,103,104,105,106,107,108,109,110,111,112,113,114,115,116,117,118,119,120,121,122,123,124,125,126,127] (fun x:Nat=>[(94,.f (I x)),(12,sl 4 1 (pthV m t))]) (fun x:Nat=>[some ⟨25,3,[.f (hidV fs ms ss)]⟩,oF frN,oF (fr m.best),oF (fr (m.pth t).2),ob 3 1 (pthV m t)]) (fun x:Nat=>x≤m.n∧∀j,j<x→m.on (m.pth t).1 (m.pth t).2 t j*m.mx t j≠m.best) (fun x:Nat=>m.n-x) (0) (⟨Nat.zero_le _,fun j hj=>by omega⟩) (by refine weak_of ?_ ?_<;>simp (disch:=omega) only [go_sem,Nat.reduceAdd]<;>first|rfl|exact ⟨rfl,rfl⟩|exact Or.inl rfl|exact ⟨Or.inl rfl,Or.inl rfl⟩|trivial|assumption|omega|(symm;assumption)|((repeat' apply And.intro)<;>first|rfl|omega|trivial|exact .inl rfl|exact .inr ⟨rfl,rfl⟩|exact .inr rfl|(right;symm;assumption)|(symm;assumption)|assumption)) ?_
    rintro i ⟨hi,hp⟩
    simp only [go_sem]
    (repeat (with_reducible first|refine W_seq fun K hK=>?_|refine J_region ?_|refine J_c ?_|(refine Kont.go (by assumption) ?_)|(simp (config:={ maxSteps:=3000000 }) (disch:=omega) only [go_sem])))
    refine Jc_if (fun hil=>?_) (fun hil=>?_)<;>try simp only [decide_eq_true_eq,decide_eq_false_iff_not] at hil
    ·obtain ⟨g1,n1,d1,x1,f1⟩:=hz i hil
     have hil':i<st.length:=by omega
     obtain ⟨xs2,g2,n2,d2,y2,x2,f2⟩:=ok.s3 hil' hlt
     rw [lget_lt seen 0 hlt] at x2 f2
     have es:at2 sh i seen[t].toNat=m.sh i (m.s t):=by rw [hm_];show _=at2 sh i (seen.getD t 0).toNat;rw [lget_lt seen 0 hlt]
     rw [es] at f2
     have fso:=pth_fz ok h1 (by rw [←hm_];exact hb0) (t:=t) (by omega)
     rw [←hm_] at fso
     have so:=Nat.mul_le_mul (show t≤8 by omega) (show 2*k≤2000 by omega)
     have c1:=IsFr.c fso
     have c2:=IsFr.c (fso.mul (f1.of3 h1))
     have c3:=IsFr.c ((fso.mul (f1.of3 h1)).mul (f2.of3 h1))
     have c4:=IsFr.c (hmx t i hlt hil')
     have b1:=bR_get (h:=m) (op:=grt) (t:=t) (by omega)
     have b2:=bRow_get (h:=m) (op:=grt) (t:=t) (i:=i) hil
     rw [gB_mx] at b2
     have eon:(m.pth t).2*m.tr (m.pth t).1 t i*m.sh i (m.s t)=m.on (m.pth t).1 (m.pth t).2 t i:=rfl
     (repeat (first|(with_reducible first|refine W_seq fun K hK=>?_|refine J_block ?_|refine J_skip ?_|refine J_region ?_|refine J_drawn mixed (by kernel_rfl) ?_|refine J_c ?_|(refine Kont.go (by assumption) ?_)|(simp (config:={ maxSteps:=3000000 }) (disch:=omega) only [go_sem,↓reduceIte,Nat.reduceAdd,x1,x2,y2,b1,b2,eon]))|refine callQ_f (mul_w (by assumption) (by assumption) (by omega) (by omega)) rfl ?_|refine And.intro (by omega) ?_))
     refine Jc_if (fun heq=>?_) (fun heq=>?_)<;>try simp only [decide_eq_true_eq,decide_eq_false_iff_not] at heq
     ·have hqi:q=i:=by
       have:=pick_first hil heq hp
       rw [hpk] at this;exact Option.some.inj this
      subst hqi
      have hne1:pthV m (t+1)≠[]:=fun e=>by have:=congrArg List.length e;unfold pthV at this;rw [List.length_map,hpn] at this;simp at this
      have hbl1:(pthV m (t+1)).length=t+1:=by unfold pthV;rw [List.length_map,hpn];simp [l1]
      have hsl1:sl 7 1 (pthV m (t+1))=.own 7 1 0 (t+1):=by rw [sl_pos hne1,hbl1]
      have hob1:ob 3 1 (pthV m (t+1))=some ⟨3,1,(pthV m (t+1)).map .f⟩:=ob_pos hne1
      have hv1:pthV m (t+1)=pthV m t++[I (q:Nat)]:=by unfold pthV;rw [hpn];simp
      have hs1:m.on (m.pth t).1 (m.pth t).2 t q=(m.pth (t+1)).2:=by rw [hpn]
      have hcap:(t+1)*8≤140737488355328:=by omega
      by_cases ht0:t=0
      ·subst ht0
       have hv2:(pthV m (0+1)).map AV.f=[AV.f (I (q:Nat))]:=by rw [hv1];rfl
       (repeat (with_reducible first|refine W_seq fun K hK=>?_|refine J_exit ?_|refine J_region ?_|refine J_orders (id:=27) [3] (.one 0 (.one 1 (.br (.alt 2 (.br (.alt 3 (.one 4 (.one 5 (.one 6 .leaf))) (.alt 4 (.one 3 (.one 5 (.one 6 .leaf))) .fin))) (.alt 4 (.one 2 (.one 3 (.one 5 (.one 6 .leaf)))) .fin))))) mixed (by kernel_rfl) ?_ |(refine Kont.go (by assumption) ?_)|(simp (config:={ maxSteps:=3000000 }) (disch:=omega) only [go_sem,Nat.reduceEqDiff,↓reduceIte,Nat.reduceAdd,Nat.reduceLT,Nat.reduceLeDiff,Int.reduceAdd,pthV_zero,sl_nil,ob_nil,Nat.reduceMul,Nat.le_refl,true_and,and_true,and_self])))
       refine ⟨0+1,by omega,by omega,weak_ren [0,1,2,3,7] ⟨by decide,by first|decide|(simp;done)⟩ ?_ ?_⟩<;>(try simp (disch:=omega) only [go_sem,Nat.reduceAdd,hsl1,hob1,hv2,hs1])<;>(try first|done|omega|rfl|exact ⟨rfl,rfl⟩|trivial)
      ·have hne:pthV m t≠[]:=fun e=>by have:=congrArg List.length e;unfold pthV at this;rw [List.length_map,l1] at this;have h0:([]:List FV).length=0:=rfl;omega
       have hbl:(pthV m t).length=t:=by unfold pthV;rw [List.length_map,l1]
       have hsl:sl 4 1 (pthV m t)=.own 4 1 0 t:=by rw [sl_pos hne,hbl]
       have hob:ob 3 1 (pthV m t)=some ⟨3,1,(pthV m t).map .f⟩:=ob_pos hne
       have hv2:((pthV m t).map AV.f).take t++[AV.f (I (q:Nat))]=(pthV m (t+1)).map AV.f:=by rw [List.take_of_length_le (by rw [List.length_map,hbl];omega),hv1,List.map_append];rfl
       (repeat (with_reducible first|refine W_seq fun K hK=>?_|refine J_exit ?_|refine J_region ?_|refine J_orders (id:=27) [3] (.one 0 (.one 1 (.br (.alt 2 (.br (.alt 3 (.one 4 (.one 5 (.one 6 .leaf))) (.alt 4 (.one 3 (.one 5 (.one 6 .leaf))) .fin))) (.alt 4 (.one 2 (.one 3 (.one 5 (.one 6 .leaf)))) .fin))))) mixed (by kernel_rfl) ?_ |(refine Kont.go (by assumption) ?_)|(simp (config:={ maxSteps:=3000000 }) (disch:=omega) only [go_sem,Nat.reduceEqDiff,↓reduceIte,Nat.reduceAdd,Nat.reduceLeDiff,hsl,hob,hbl,hcap,hv2,Nat.reduceMul,Nat.le_refl,true_and,and_true,and_self])))
       refine ⟨t+1,by omega,by omega,weak_ren [0,1,2,3,7] ⟨by decide,by first|decide|(simp;done)⟩ ?_ ?_⟩<;>(try simp (disch:=omega) only [go_sem,Nat.reduceAdd,hsl1,hob1,hs1])<;>(try first|done|omega|rfl|exact ⟨rfl,rfl⟩|trivial)
     ·(repeat (with_reducible first|refine J_skip ?_|refine J_region ?_|(refine Kont.go (by assumption) ?_)|(simp (config:={ maxSteps:=3000000 }) (disch:=omega) only [go_sem])))
      refine ⟨i+1,⟨by omega,upto_next (p:=fun j=>m.on (m.pth t).1 (m.pth t).2 t j*m.mx t j≠m.best) hp heq⟩,by omega,weak_of ?_ ?_⟩<;>(try simp (disch:=omega) only [go_sem,Nat.reduceAdd])<;>(try first|done|omega|rfl|exact ⟨rfl,rfl⟩|trivial)
    ·exact absurd hqb (hp q (by omega))
  ·have he:t=seen.length:=by omega
   subst he
   (repeat (with_reducible first|refine W_seq fun K hK=>?_|refine J_exit ?_|refine J_ret ?_|refine J_drawn mixed (by kernel_rfl) ?_|(refine Kont.go (by assumption) ?_)|(simp (config:={ maxSteps:=3000000 }) (disch:=omega) only [go_sem,↓reduceIte,Nat.reduceAdd])))
   rw [e1,e2,e3]
   exact ⟨_,rfl,FrzL.cons (.sl rfl) (FrzL.cons (.f _) (FrzL.cons (.f _) (FrzL.nil _)))⟩
end
end Go.Proofs.YtfjgijkhmhhkdaaGreatDoor
set_option linter.unusedVariables false
set_option linter.unusedSimpArgs false
namespace Go.Proofs.YtfjgijkhmhhkdaaGreatDoor
open Go Go.RowKit
def bpV (w:List Nat):FV:=wF w.length w
section
variable {k : Nat} {fs ms ss : List FV} {st : List Rat} {mv sh : List (List Rat)} {seen : List Int} {w : List Nat}
set_option maxRecDepth 100000 in
set_option maxHeartbeats 4000000 in
theorem rpath_w (h:HidF k fs ms ss st mv sh) (h1:1≤k) (hk:k≤1000) (hsl:seen.length≤140737488355328) (hs:∀x∈seen,-9223372036854775808≤x∧x≤9223372036854775807) (hok:mayE st mv sh seen=0→(hm st mv sh seen).Ok) :
  Good Tryz.prog 19 [hidV fs ms ss,ints seen] (.tup [.fz 1 (pathR st mv sh seen),pathB st mv sh seen,I (pathE st mv sh seen)]):=by
 have hlk:=rlikely_w h h1 hk hsl hs
 by_cases hE:mayE st mv sh seen=0
 case neg =>
  have e1:pathR st mv sh seen=[]:=by unfold pathR;rw [if_neg fun hh=>hE hh.1]
  have e2:pathB st mv sh seen=frN:=by unfold pathB;rw [if_neg fun hh=>hE hh.1]
  have e3:pathE st mv sh seen=mayE st mv sh seen:=by unfold pathE;rw [if_pos hE]
  have eL:likX st mv sh seen=frN:=by unfold likX;rw [if_neg hE]
  rw [e1,e2,e3]
  refine good_of Tryz.func19 rfl (by kernel_rfl) fun X hO hrd=>?_;rw [Tryz.ntmps19,Tryz.results19];simp only [ast0,List.map_cons,List.map_nil,List.length_cons,List.length_nil,Nat.reduceAdd,Nat.reduceSub,List.replicate_succ,List.replicate_zero,List.cons_append,List.nil_append]
  (repeat (with_reducible first|refine W_seq fun K hK=>?_|refine J_region ?_ |(refine Kont.go (by assumption) ?_)|(simp (config:={ maxSteps:=3000000 }) (disch:=omega) only [go_sem,↓reduceIte,Nat.reduceAdd])))
  refine call_f hlk rfl ?_
  (repeat (with_reducible first|refine W_seq fun K hK=>?_|refine J_ret ?_|refine J_region ?_ |refine J_c ?_|refine Jc_true ?_|(refine Kont.go (by assumption) ?_)|(simp (config:={ maxSteps:=3000000 }) (disch:=omega) only [go_sem,↓reduceIte,Nat.reduceAdd,hE,eL])))
  exact ⟨_,rfl,FrzL.cons (.nil _) (FrzL.cons (.f _) (FrzL.cons (.f _) (FrzL.nil _)))⟩
 have hok:=hok hE
 have ok:=mayE_ok h hE
 have ht8:=ok.t8
 have hn4:=ok.n4
 have hn1:=ok.n1
 obtain ⟨M,hM⟩:∃M,M=hm st mv sh seen:=⟨_,rfl⟩
 rw [←hM] at hok
 have eMn:M.n=st.length:=by rw [hM];rfl
 have eMT:M.T=seen.length:=by rw [hM];rfl
 have eL:likX st mv sh seen=fr M.lik:=by unfold likX;rw [if_pos hE,hM]
 rw [eL,hE] at hlk
 have hfl:fs.length=st.length:=h.ist.len
 obtain ⟨T,hT⟩:∃T,T=seen.length:=⟨_,rfl⟩
 obtain ⟨l,hl⟩:∃l,l=wyL st.length T:=⟨_,rfl⟩
 obtain ⟨W,hW⟩:∃W,W=l.length:=⟨_,rfl⟩
 have hwl:=wyL_le (n:=st.length) (t:=T) hn4 (by omega)
 rw [←hl,←hW] at hwl
 have hwyl:(wyF st.length T).length=W:=by unfold wyF;rw [List.length_map,hW,hl]
 have hrw:=rways_w (n:=st.length) (T:=T) hn4 (by omega)
 have hway:=fun {w:List Nat} (hw:w∈wyL st.length T)=>rwayF_w ok h1 hk hsl (by omega) hw
 have hwz:=fun {w:List Nat} (hw:w∈wyL st.length T)=>wl_fz ok h1 (by omega) hw
 have hmu:=Nat.mul_le_mul (show T≤8 by omega) (show k+k≤2000 by omega)
 obtain ⟨b,hb⟩:∃b,b=8+T*(k+k):=⟨_,rfl⟩
 rw [←hM,←hl] at hway hwz
 rw [←hb] at hwz
 have hmem:∀i,i<W→l.getD i []∈l:=fun i hi=>by rw [lget_lt l [] (by omega)];exact List.getElem_mem _
 have elik:wsF M T W=M.lik:=by
  have:=wsF_all (h:=M) (t:=T)
  rw [eMn,←hl,←hW] at this
  rw [this,hl,←eMn,hT,←eMT,wy_lik]
 have hmx:=Nat.mul_le_mul hwl (show b+1≤16009 by omega)
 have hlz:Fz M.lik (8+W*(b+1)):=elik▸sumF_fz fun q hq=>hwz (by rw [eMn,←hl];exact hmem q hq)
 have c0:=IsFr.c hlz
 by_cases hz:M.lik=0
 ·have hb0:M.best=0:=(HM.best_zero hok).2 hz
  have e1:pathR st mv sh seen=[]:=by unfold pathR;rw [if_neg fun hh=>hh.2 (hM▸hb0)]
  have e2:pathB st mv sh seen=frN:=by unfold pathB;rw [if_neg fun hh=>hh.2 (hM▸hb0)]
  have e3:pathE st mv sh seen=3:=by unfold pathE;rw [if_neg (by omega),←hM,if_pos hb0]
  rw [e1,e2,e3]
  rw [hz] at hlk c0
  refine good_of Tryz.func19 rfl (by kernel_rfl) fun X hO hrd=>?_;rw [Tryz.ntmps19,Tryz.results19];simp only [ast0,List.map_cons,List.map_nil,List.length_cons,List.length_nil,Nat.reduceAdd,Nat.reduceSub,List.replicate_succ,List.replicate_zero,List.cons_append,List.nil_append]
  (repeat (with_reducible first|refine W_seq fun K hK=>?_|refine J_region ?_ |(refine Kont.go (by assumption) ?_)|(simp (config:={ maxSteps:=3000000 }) (disch:=omega) only [go_sem,↓reduceIte,Nat.reduceAdd])))
  refine call_f hlk rfl ?_
  (repeat (first|(with_reducible first|refine W_seq fun K hK=>?_|refine J_skip ?_|refine J_ret ?_|refine J_region ?_ |refine J_c ?_|refine Jc_true ?_|refine Jc_false ?_|(refine Kont.go (by assumption) ?_)|(simp (config:={ maxSteps:=3000000 }) (disch:=omega) only [go_sem,↓reduceIte,Nat.reduceAdd]))|refine call_f (rzero_w (by assumption) (by omega)) rfl ?_))
  exact ⟨_,rfl,FrzL.cons (.nil _) (FrzL.cons (.f _) (FrzL.cons (.f _) (FrzL.nil _)))⟩
 have hb0:M.best≠0:=fun hh=>hz ((HM.best_zero hok).1 hh)
 have e1:pathR st mv sh seen=pthV M T:=by unfold pathR;rw [if_pos ⟨hE,hM▸hb0⟩,hM,hT]
 have e2:pathB st mv sh seen=fr M.best:=by unfold pathB;rw [if_pos ⟨hE,hM▸hb0⟩,hM]
 have e3:pathE st mv sh seen=0:=by unfold pathE;rw [if_neg (by omega),←hM,if_neg hb0]
 have hbst:bstW M l W=((M.pth T).1,M.best):=by
  have:=bstW_path hok (by omega) hb0
  rw [eMn,eMT,←hT,←hl,←hW] at this
  exact this
 have hnil:FV.v (Value.slice none 0 0)=bpV (bstW M l 0).1:=rfl
 have hm0:fr ((-1:Int):Rat)=fr (bstW M l 0).2:=rfl
 have hbz:∀x,x≤W→Fz (bstW M l x).2 b:=by
  intro x
  induction x with
  | zero=>intro _;exact (Fz.int (n:=-1) (by decide)).up (by omega)
  | succ x ih =>
   intro hx
   show Fz (if _ then (l.getD x [],M.wl (l.getD x [])) else bstW M l x).2 b
   split
   ·exact hwz (hmem x (by omega))
   ·exact ih (by omega)
 rw [e1,e2,e3]
 refine good_of Tryz.func19 rfl (by kernel_rfl) fun X hO hrd=>?_;rw [Tryz.ntmps19,Tryz.results19];simp only [ast0,List.map_cons,List.map_nil,List.length_cons,List.length_nil,Nat.reduceAdd,Nat.reduceSub,List.replicate_succ,List.replicate_zero,List.cons_append,List.nil_append]
 (repeat (with_reducible first|refine W_seq fun K hK=>?_|refine J_region ?_ |(refine Kont.go (by assumption) ?_)|(simp (config:={ maxSteps:=3000000 }) (disch:=omega) only [go_sem,↓reduceIte,Nat.reduceAdd])))
 refine call_f hlk rfl ?_
 (repeat (first|(with_reducible first|refine W_seq fun K hK=>?_|refine J_skip ?_|refine J_region ?_ |refine J_c ?_|refine Jc_false ?_|(refine Kont.go (by assumption) ?_)|(simp (config:={ maxSteps:=3000000 }) (disch:=omega) only [go_sem,↓reduceIte,Nat.reduceAdd,Int.reduceNeg,hz,hfl,List.length_map,←hT]))|refine call_f (rof_frac (by omega) (by omega)) rfl ?_|refine call_f (rzero_w (by assumption) (by omega)) rfl ?_))
 refine call_f hrw rfl ?_
 (repeat (with_reducible first|refine W_seq fun K hK=>?_|refine J_block ?_|refine J_region ?_ |(refine Kont.go (by assumption) ?_)|(simp (config:={ maxSteps:=3000000 }) (disch:=omega) only [go_sem,Int.reduceNeg,hm0])))
 rw [hnil]
 refine W_loop [10,13,14,15,37,38,39,40,41,42,43,44,45,46,47,48,49,50,51,52,53,54,55,56,57,58,59] (fun x:Nat=>[(13,.f (I x)),(10,.f (bpV (bstW M l x).1))]) (fun x:Nat=>[some ⟨25,3,[.f (hidV fs ms ss)]⟩,oF frN,oF (fr M.lik),oF (fr (bstW M l x).2)]) (fun x:Nat=>x≤W) (fun x:Nat=>W-x) (0) (Nat.zero_le _) (by refine weak_of ?_ ?_<;>simp (disch:=omega) only [go_sem,Nat.reduceAdd]<;>first|rfl|exact ⟨rfl,rfl⟩|exact Or.inl rfl|exact ⟨Or.inl rfl,Or.inl rfl⟩|trivial|assumption|omega|(symm;assumption)|((repeat' apply And.intro)<;>first|rfl|omega|trivial|exact .inl rfl|exact .inr ⟨rfl,rfl⟩|exact .inr rfl|(right;symm;assumption)|(symm;assumption)|assumption)) ?_
 rintro i hi
 simp only [go_sem]
 (repeat (with_reducible first|refine W_seq fun K hK=>?_|refine J_region ?_ |refine J_c ?_|(refine Kont.go (by assumption) ?_)|(simp (config:={ maxSteps:=3000000 }) (disch:=omega) only [go_sem,hwyl])))
 refine Jc_if (fun hil=>?_) (fun hil=>?_)<;>try simp only [decide_eq_true_eq,decide_eq_false_iff_not] at hil
 ·have hm1:=hmem i hil
  obtain ⟨w,hw⟩:∃w,w=l.getD i []:=⟨_,rfl⟩
  rw [←hw] at hm1
  have hwn:=wyL_len (hl▸hm1)
  have ew:wF T w=bpV w:=by unfold bpV;rw [hwn.1]
  have gw:(wyF st.length T)[i]?=some (wF T w):=by unfold wyF;rw [←hl,map_get (wF T) l (by omega),hw,lget_lt l [] (by omega)]
  have hcall:=hway hm1
  have c1:=IsFr.c (hwz hm1)
  have c2:=IsFr.c (hbz i (by omega))
  have estep:bstW M l (i+1)=if (bstW M l i).2<M.wl w then (w,M.wl w) else bstW M l i:=by rw [hw];rfl
  (repeat (with_reducible first|refine W_seq fun K hK=>?_|refine J_block ?_|refine J_skip ?_|refine J_drawn mixed (by kernel_rfl) ?_|(refine Kont.go (by assumption) ?_)|(simp (config:={ maxSteps:=3000000 }) (disch:=omega) only [go_sem,↓reduceIte,Nat.reduceAdd,gw,wF_cells,true_and,and_self])))
  refine callQ_f hcall rfl ?_
  (repeat (first|(with_reducible first|refine W_seq fun K hK=>?_|refine J_region ?_ |refine J_c ?_|(refine Kont.go (by assumption) ?_)|(simp (config:={ maxSteps:=3000000 }) (disch:=omega) only [go_sem,↓reduceIte,Nat.reduceAdd,true_and,and_self]))|refine call_f (rcmp_w (by assumption) (by assumption) (by omega) (by omega)) rfl ?_))
  refine Jc_if (fun hlt=>?_) (fun hlt=>?_)<;>try simp only [decide_eq_true_eq,decide_eq_false_iff_not] at hlt
  ·have en:bstW M l (i+1)=(w,M.wl w):=by rw [estep,if_pos (cmpR_gt.1 hlt)]
   (repeat (with_reducible first|refine W_seq fun K hK=>?_|refine J_region ?_ |(refine Kont.go (by assumption) ?_)|(simp (config:={ maxSteps:=3000000 }) (disch:=omega) only [go_sem,↓reduceIte,Nat.reduceAdd,gw,wF_cells,true_and,and_self])))
   rw [ew]
   refine ⟨i+1,by omega,by omega,weak_of ?_ ?_⟩<;>(try simp (disch:=omega) only [go_sem,Nat.reduceAdd])<;>(try first|done|omega|rfl|exact ⟨rfl,rfl⟩|trivial)
   all_goals (first|(rw [en];done)|(rw [en];exact ⟨rfl,rfl⟩)|(simp only [en];done))
  ·have en:bstW M l (i+1)=bstW M l i:=by rw [estep,if_neg fun hh=>hlt (cmpR_gt.2 hh)]
   (repeat (with_reducible first|refine J_skip ?_|refine J_region ?_ |(refine Kont.go (by assumption) ?_)|(simp (config:={ maxSteps:=3000000 }) (disch:=omega) only [go_sem])))
   refine ⟨i+1,by omega,by omega,weak_of ?_ ?_⟩<;>(try simp (disch:=omega) only [go_sem,Nat.reduceAdd])<;>(try first|done|omega|rfl|exact ⟨rfl,rfl⟩|trivial)
   all_goals (first|(rw [en];done)|(rw [en];exact ⟨rfl,rfl⟩)|(simp only [en];done))
 ·have he:i=W:=by omega
  subst he
  rw [hbst]
  (repeat (with_reducible first|refine W_seq fun K hK=>?_|refine J_exit ?_|refine J_ret ?_|refine J_drawn mixed (by kernel_rfl) ?_|(refine Kont.go (by assumption) ?_)|(simp (config:={ maxSteps:=3000000 }) (disch:=omega) only [go_sem,↓reduceIte,Nat.reduceAdd])))
  obtain ⟨P,hP⟩:∃P,P=(M.pth T).1:=⟨_,rfl⟩
  have hv:pthV M T=Ns P:=by rw [hP];rfl
  rw [hv,←hP]
  by_cases p0:P=[]
  ·rw [p0]
   exact ⟨_,rfl,FrzL.cons (.nil _) (FrzL.cons (.f _) (FrzL.cons (.f _) (FrzL.nil _)))⟩
  ·have:bpV P=.fz 1 (Ns P):=by unfold bpV wF;rw [if_neg fun hh=>p0 (List.length_eq_zero_iff.1 hh)]
   rw [this]
   exact ⟨_,rfl,FrzL.fs [_,_,_]⟩
end
end Go.Proofs.YtfjgijkhmhhkdaaGreatDoor
