/- Lists of places; In; rising lists. Conditions: what slices may hold. -/
import Derived.Test.YtcgagiimlkjcpaaGreatDoorZB12
import Derived.Test.YtcgagiimlkjcpaaGreatDoorZSolW
set_option linter.unusedVariables false
set_option linter.unusedSimpArgs false
namespace Go.Proofs.YtcgagiimlkjcpaaGreatDoor
open Go Go.RowKit
def Ns (l:List Nat):List FV:=l.map fun k:Nat=>I (k:Int)
theorem Ns_len {l:List Nat}:(Ns l).length=l.length:=by unfold Ns;rw [List.length_map]
theorem Ns_get {l:List Nat} {i:Nat} (h:i<l.length):(Ns l)[i]?=some (I (l.getD i 0:Nat)):=by
 unfold Ns;rw [map_get (fun k:Nat=>I (k:Int)) l h,lget_lt l 0 h]
theorem Ns_snoc {l:List Nat} {j:Nat}:Ns l++[I (j:Int)]=Ns (l++[j]):=by simp [Ns]
set_option maxRecDepth 100000 in
set_option maxHeartbeats 4000000 in
theorem rin_w (k:Int) (l:List Int) (hk:-9223372036854775808≤k∧k≤9223372036854775807) (hl:l.length≤140737488355328):Good Tryz.prog 101 [I k,ints l] (Bo (decide (k∈l))):=by
 refine good_of Tryz.func101 rfl (by kernel_rfl) fun X hO hrd=>?_;rw [Tryz.ntmps101,Tryz.results101];simp only [ast0,List.map_cons,List.map_nil,List.length_cons,List.length_nil,Nat.reduceAdd,Nat.reduceSub,List.replicate_succ,List.replicate_zero,List.cons_append,List.nil_append]
 repeat (with_reducible first|refine W_seq fun K hK=>?_|refine J_block ?_|refine J_region ?_ |(refine Kont.go (by assumption) ?_)|(simp (config:={ maxSteps:=3000000 }) (disch:=omega) only [go_sem]))
 refine W_loop [4,5,6,7,8,9,10,11,12,13,14,15,16,17] (fun x:Nat=>[(5,.f (I x))]) (fun x:Nat=>[]) (fun x:Nat=>x≤l.length∧∀j,j<x→l.getD j 0≠k) (fun x:Nat=>l.length-x) (0) (⟨Nat.zero_le _,fun j h=>by omega⟩) (by refine weak_of ?_ ?_<;>simp (disch:=omega) only [go_sem]<;>first|rfl|exact ⟨rfl,rfl⟩|exact Or.inl rfl|exact ⟨Or.inl rfl,Or.inl rfl⟩|trivial|assumption|omega|(symm;assumption)|((repeat' apply And.intro)<;>first|rfl|omega|trivial|exact .inr ⟨rfl,rfl⟩|exact .inr rfl|(right;symm;assumption)|(symm;assumption)|assumption)) ?_
 rintro i ⟨hi,hp⟩
 simp only [go_sem]
 repeat (with_reducible first|refine W_seq fun K hK=>?_|refine J_region ?_ |refine J_c ?_|(refine Kont.go (by assumption) ?_)|(simp (config:={ maxSteps:=3000000 }) (disch:=omega) only [go_sem,List.length_map]))
 refine Jc_if (fun hlt=>?_) (fun hlt=>?_)<;>try simp only [decide_eq_true_eq,decide_eq_false_iff_not] at hlt
 ·have hx:=map_get I l hlt
  by_cases e:l[i]=k
  ·have hm:decide (k∈l)=true:=decide_eq_true (e▸List.getElem_mem _)
   repeat (with_reducible first|refine W_seq fun K hK=>?_|refine J_block ?_|refine J_skip ?_|refine J_ret ?_|refine J_region ?_ |refine J_c ?_|refine Jc_true ?_|(refine Kont.go (by assumption) ?_)|(simp (config:={ maxSteps:=3000000 }) (disch:=omega) only [go_sem,↓reduceIte,hx,e]))
   rw [hm]
   exact Frz.f _
  ·repeat (with_reducible first|refine W_seq fun K hK=>?_|refine J_block ?_|refine J_skip ?_|refine J_region ?_ |refine J_c ?_|refine Jc_false ?_|(refine Kont.go (by assumption) ?_)|(simp (config:={ maxSteps:=3000000 }) (disch:=omega) only [go_sem,↓reduceIte,hx,e]))
   refine ⟨i+1,⟨by omega,upto_next (p:=fun j=>l.getD j 0≠k) hp (by rw [lget_lt l 0 hlt];exact e)⟩,by omega,weak_of ?_ ?_⟩<;>(try simp (disch:=omega) only [go_sem])<;>(try first|done|omega|rfl|exact ⟨rfl,rfl⟩|trivial)
 ·have he:i=l.length:=by omega
  have hm:decide (k∈l)=false:=decide_eq_false fun hm=>by
   obtain ⟨c,hc,e⟩:=List.getElem_of_mem hm
   exact hp c (by omega) (by rw [lget_lt l 0 hc];exact e)
  repeat (with_reducible first|refine W_seq fun K hK=>?_|refine J_exit ?_|refine J_ret ?_|refine J_region ?_ |(refine Kont.go (by assumption) ?_)|(simp (config:={ maxSteps:=3000000 }) (disch:=omega) only [go_sem,↓reduceIte]))
  rw [hm]
  exact Frz.f _
theorem rinN_w (k:Nat) (l:List Nat) (hk:k≤1000000) (hl:l.length≤1000000):Good Tryz.prog 101 [I (k:Int),.fz 1 (Ns l)] (Bo (decide (k∈l))):=by
 have h:=rin_w (k:Int) (l.map Int.ofNat) (by omega) (by rw [List.length_map];omega)
 have e1:ints (l.map Int.ofNat)=.fz 1 (Ns l):=by unfold Ns;simp [ints]
 have e2:decide ((k:Int)∈l.map Int.ofNat)=decide (k∈l):=by
  have:((k:Int)∈l.map Int.ofNat)=(k∈l):=propext ⟨fun h=>by
   obtain ⟨a,ha,e⟩:=List.mem_map.1 h
   have:a=k:=Int.ofNat.inj e
   exact this▸ha,fun h=>List.mem_map.2 ⟨k,h,rfl⟩⟩
  simp only [this]
 rw [e1,e2] at h
 exact h
def prevI (l:List Int) (x:Nat):Int:=if x=0 then -1 else l.getD (x-1) 0
def risB (n:Nat) (l:List Int):Bool:=(List.range l.length).all fun x=>decide (prevI l x<l.getD x 0)&&decide (l.getD x 0<(n:Int))
theorem prevI_next {l:List Int} {x:Nat}:prevI l (x+1)=l.getD x 0:=by unfold prevI;rw [if_neg (by omega)];rfl
theorem risB_iff {n:Nat} {l:List Int}:risB n l=true↔∀x,x<l.length→prevI l x<l.getD x 0∧l.getD x 0<(n:Int):=by
 simp [risB]
end Go.Proofs.YtcgagiimlkjcpaaGreatDoor
set_option linter.unusedVariables false
set_option linter.unusedSimpArgs false
namespace Go.Proofs.YtcgagiimlkjcpaaGreatDoor
open Go Go.RowKit
set_option maxRecDepth 100000 in
theorem eql_bool (A B:Operand) (a b:Bool) (K:AV→Prop):aBin Tryz.prog .eql 4 A B (.f (.v (.bool a))) (.f (.v (.bool b))) K=K (.f (.v (.bool (a==b)))):=by
 have hrun:∀w:World,(do eqGuard .eql 4 A B (.bool a) (.bool b);binOp .eql 4 (.bool a) (.bool b)).run Tryz.prog w=.ok (.bool (a==b)) w:=fun w=>by
  cases a<;>cases b<;>rfl
 refine propext ⟨fun h=>?_,fun h=>?_⟩
 ·obtain ⟨u,v,r,hu,hv,hw,hk⟩:=h
  cases hu;cases hv
  have:=(hrun default).symm.trans (hw default)
  cases this
  exact hk
 ·exact ⟨_,_,_,rfl,rfl,hrun,h⟩
set_option maxRecDepth 100000 in
theorem index_w {bs:List Bool} (hl:bs.length≤1000):Good Tryz.prog 200 [.fz 1 (bs.map Bo),Bo true] (I (firstI (fun i=>bs.getD i false) bs.length)):=by
 refine good_of Tryz.func200 rfl (by kernel_rfl) fun X hO hrd=>?_;rw [Tryz.ntmps200,Tryz.results200];simp only [ast0,List.map_cons,List.map_nil,List.length_cons,List.length_nil,Nat.reduceAdd,Nat.reduceSub,List.replicate_succ,List.replicate_zero,List.cons_append,List.nil_append]
 repeat (with_reducible first|refine W_seq fun K hK=>?_|refine J_block ?_|refine J_region ?_ |(refine Kont.go (by assumption) ?_)|(simp (config:={ maxSteps:=3000000 }) (disch:=omega) only [go_sem,List.length_map]))
 refine W_loop [4,5,8,9,10,11,12,13,14,15,16,17,18] (fun x:Nat=>[(8,.f (I x))]) (fun x:Nat=>[]) (fun x:Nat=>x≤bs.length∧∀j,j<x→bs.getD j false=false) (fun x:Nat=>bs.length-x) (0) (⟨Nat.zero_le _,fun j h=>by omega⟩) (by refine weak_of ?_ ?_<;>simp (disch:=omega) only [go_sem]<;>first|rfl|exact ⟨rfl,rfl⟩|exact Or.inl rfl|exact ⟨Or.inl rfl,Or.inl rfl⟩|trivial|assumption|omega|(symm;assumption)|((repeat' apply And.intro)<;>first|rfl|omega|trivial|exact .inr ⟨rfl,rfl⟩|exact .inr rfl|(right;symm;assumption)|(symm;assumption)|assumption)) ?_
 rintro i ⟨hi,hp⟩
 simp only [go_sem]
 repeat (with_reducible first|refine W_seq fun K hK=>?_|refine J_region ?_ |refine J_c ?_|(refine Kont.go (by assumption) ?_)|(simp (config:={ maxSteps:=3000000 }) (disch:=omega) only [go_sem]))
 refine Jc_if (fun hlt=>?_) (fun hlt=>?_)<;>try simp only [decide_eq_true_eq,decide_eq_false_iff_not] at hlt
 ·have hx:(bs.map Bo)[i]?=some (Bo (bs.getD i false)):=by rw [map_get Bo bs hlt,lget_lt bs false hlt]
  cases hb:bs.getD i false with
  | true =>
   rw [hb] at hx
   have e:firstI (fun i=>bs.getD i false) bs.length=i:=firstI_some hlt hb hp
   repeat (with_reducible first|refine W_seq fun K hK=>?_|refine J_block ?_|refine J_skip ?_|refine J_ret ?_|refine J_region ?_ |refine J_c ?_|refine Jc_true ?_|(refine Kont.go (by assumption) ?_)|(simp (config:={ maxSteps:=3000000 }) (disch:=omega) only [go_sem,↓reduceIte,hx,eql_bool,Bool.true_beq]))
   rw [e]
   exact Frz.f _
  | false =>
   rw [hb] at hx
   repeat (with_reducible first|refine W_seq fun K hK=>?_|refine J_block ?_|refine J_skip ?_|refine J_region ?_ |refine J_c ?_|refine Jc_false ?_|(refine Kont.go (by assumption) ?_)|(simp (config:={ maxSteps:=3000000 }) (disch:=omega) only [go_sem,↓reduceIte,hx,eql_bool,Bool.true_beq]))
   refine ⟨i+1,⟨by omega,upto_next (p:=fun j=>bs.getD j false=false) hp hb⟩,by omega,weak_of ?_ ?_⟩<;>(try simp (disch:=omega) only [go_sem])<;>(try first|done|omega|rfl|exact ⟨rfl,rfl⟩|trivial)
 ·have he:i=bs.length:=by omega
  have e:firstI (fun i=>bs.getD i false) bs.length=-1:=firstI_none (he▸hp)
  repeat (with_reducible first|refine W_seq fun K hK=>?_|refine J_exit ?_|refine J_ret ?_|refine J_region ?_ |(refine Kont.go (by assumption) ?_)|(simp (config:={ maxSteps:=3000000 }) (disch:=omega) only [go_sem,↓reduceIte,Int.reduceNeg]))
  rw [e]
  exact Frz.f _
set_option maxRecDepth 100000 in
theorem contains_w {bs:List Bool} (hl:bs.length≤1000):Good Tryz.prog 201 [.fz 1 (bs.map Bo),Bo true] (Bo (decide (0≤firstI (fun i=>bs.getD i false) bs.length))):=by
 have h:=index_w hl
 refine good_of Tryz.func201 rfl (by kernel_rfl) fun X hO hrd=>?_;rw [Tryz.ntmps201,Tryz.results201];simp only [ast0,List.map_cons,List.map_nil,List.length_cons,List.length_nil,Nat.reduceAdd,Nat.reduceSub,List.replicate_succ,List.replicate_zero,List.cons_append,List.nil_append]
 repeat (with_reducible first|refine W_seq fun K hK=>?_|refine J_region ?_ |(refine Kont.go (by assumption) ?_)|(simp (config:={ maxSteps:=3000000 }) (disch:=omega) only [go_sem]))
 refine call_f h rfl ?_
 repeat (with_reducible first|refine J_ret ?_|exact Frz.f _|(refine Kont.go (by assumption) ?_)|(simp (config:={ maxSteps:=3000000 }) (disch:=omega) only [go_sem]))
def clsK (R:Bx) (i k:Nat):List Nat:=(List.range k).filter fun j=>R i j&&R j i
def opnK (R:Bx) (i k:Nat):Bool:=(List.range k).any fun j=>R i j&&!R j i
def repL (n:Nat) (R:Bx) (x:Nat):List (List Nat):=((List.range x).filter (isRep n R)).map (cls n R)
def shutL (n:Nat) (R:Bx) (x:Nat):List Bool:=((List.range x).filter (isRep n R)).map (clo n R)
def repF (n:Nat) (R:Bx) (x:Nat):List FV:=(repL n R x).map fun l=>.fz 1 (Ns l)
def shutF (n:Nat) (R:Bx) (x:Nat):List FV:=(shutL n R x).map Bo
section
variable {n i k x : Nat} {R : Bx}
theorem clsK_yes (h:(R i k&&R k i)=true):Ns (clsK R i k)++[I (k:Int)]=Ns (clsK R i (k+1)):=by
 unfold Ns clsK;rw [List.range_succ,List.filter_append,List.map_append];simp [h]
theorem clsK_no (h:(R i k&&R k i)=false):Ns (clsK R i k)=Ns (clsK R i (k+1)):=by
 unfold Ns clsK;rw [List.range_succ,List.filter_append,List.map_append];simp [h]
theorem opnK_next:opnK R i (k+1)=(opnK R i k||(R i k&&!R k i)):=by
 unfold opnK;rw [List.range_succ,List.any_append];simp
theorem clsK_len:(Ns (clsK R i k)).length≤k:=by
 unfold Ns clsK;rw [List.length_map];exact Nat.le_trans (List.length_filter_le _ _) (by simp)
theorem repF_yes (h:isRep n R x=true):repF n R x++[.fz 1 (Ns (cls n R x))]=repF n R (x+1):=by
 unfold repF repL;rw [List.range_succ,List.filter_append];simp [h]
theorem repF_no (h:isRep n R x=false):repF n R x=repF n R (x+1):=by
 unfold repF repL;rw [List.range_succ,List.filter_append];simp [h]
theorem shutF_yes (h:isRep n R x=true):shutF n R x++[Bo (clo n R x)]=shutF n R (x+1):=by
 unfold shutF shutL;rw [List.range_succ,List.filter_append];simp [h]
theorem shutF_no (h:isRep n R x=false):shutF n R x=shutF n R (x+1):=by
 unfold shutF shutL;rw [List.range_succ,List.filter_append];simp [h]
theorem repF_len:(repF n R x).length≤x:=by
 unfold repF repL;rw [List.length_map,List.length_map];exact Nat.le_trans (List.length_filter_le _ _) (by simp)
theorem shutF_len:(shutF n R x).length≤x:=by
 unfold shutF shutL;rw [List.length_map,List.length_map];exact Nat.le_trans (List.length_filter_le _ _) (by simp)
theorem b2i_one (b:Bool):(b2i b=1)=(b=true):=by cases b<;>decide
theorem b2i_lt (a b:Bool):(b2i a<b2i b)=((b&&!a)=true):=by cases a<;>cases b<;>decide
end
set_option maxRecDepth 100000 in
set_option maxHeartbeats 8000000 in
theorem classes_w {b:Nat} {ys:List FV} {m:List (List Rat)} (hm:FrM b ys m) (h1:1≤b) (hb:b≤1000000) (hmx:m.length≤140737488355328) (h0:chkM m=0) :
  Good Tryz.prog 21 [.fz 1 ys] (.tup [.fz 1 (repF m.length (wsh (edg m) m.length) m.length),.fz 1 (shutF m.length (wsh (edg m) m.length) m.length),I 0]):=by
 have hc:=check_w hm h1 (by omega) hmx
 rw [h0] at hc
 obtain ⟨hsq,hn1,hch⟩:=chk_sq hm h0
 have hr:=reach_w hsq h1 (by omega) hn1
 have hn6:=hsq.le
 obtain ⟨n,hn⟩:∃n,n=m.length:=⟨_,rfl⟩
 rw [←hn] at hn1 hr hn6 ⊢
 obtain ⟨R,hR⟩:∃R,R=wsh (edg m) n:=⟨_,rfl⟩
 rw [←hR] at hr ⊢
 have hpre:Pre n R:=by rw [hR];exact wsh_pre
 have hrv:reachV n R=.fz 1 ((List.range n).map fun i=>.fz 1 (rowW n R i)):=rfl
 have hyl:ys.length=n:=hm.len.trans hn.symm
 have vg:∀q,q<n→((List.range n).map fun i=>FV.fz 1 (rowW n R i))[q]?=some (.fz 1 (rowW n R q)):=fun q hq=>by simp [hq]
 have vl:((List.range n).map fun i=>FV.fz 1 (rowW n R i)).length=n:=by simp
 have rg:∀a q,q<n→(rowW n R a)[q]?=some (I (b2i (R a q))):=fun a q hq=>by simp [rowW,hq]
 have rl:∀a,(rowW n R a).length=n:=fun a=>rowW_len
 refine good_of Tryz.func21 rfl (by kernel_rfl) fun X hO hrd=>?_;rw [Tryz.ntmps21,Tryz.results21];simp only [ast0,List.map_cons,List.map_nil,List.length_cons,List.length_nil,Nat.reduceAdd,Nat.reduceSub,List.replicate_succ,List.replicate_zero,List.cons_append,List.nil_append]
 repeat (with_reducible first|refine W_seq fun K hK=>?_|refine J_region ?_ |(refine Kont.go (by assumption) ?_)|(simp (config:={ maxSteps:=3000000 }) (disch:=omega) only [go_sem]))
 refine call_f hc rfl ?_
 repeat (with_reducible first|refine W_seq fun K hK=>?_|refine J_skip ?_|refine J_region ?_ |refine J_c ?_|refine Jc_false ?_|(refine Kont.go (by assumption) ?_)|(simp (config:={ maxSteps:=3000000 }) (disch:=omega) only [go_sem]))
 refine call_f hr rfl ?_
 repeat (with_reducible first|refine W_seq fun K hK=>?_|refine J_block ?_|refine J_region ?_ |(refine Kont.go (by assumption) ?_)|(simp (config:={ maxSteps:=3000000 }) (disch:=omega) only [go_sem,hyl,hrv]))
 refine J_reserve ?_
 refine J_reserve ?_
 refine W_loop [2,3,7,8,9,10,20,21,22,23,24,25,26,27,28,29,30,31,32,33,34,35,36,37,38,39,40,41,42,43,44,45,46,47,48,49,50,51,52,53,54,55,56,57,58,59,60,61,62,63,64,65,66,67,68,69,70,71,72,73,74,75,76,77,78,79,80,81] (fun x:Nat=>[(2,sl 0 1 (repF n R x)),(3,sl 1 1 (shutF n R x)),(20,.f (I x))]) (fun x:Nat=>[ob 24 1 (repF n R x),ob 4 1 (shutF n R x)]) (fun x:Nat=>x≤n) (fun x:Nat=>n-x) (0) (Nat.zero_le _) (by refine weak_of ?_ ?_<;>simp (disch:=omega) only [go_sem,Nat.reduceAdd]<;>first|rfl|exact ⟨rfl,rfl⟩|exact Or.inl rfl|exact ⟨Or.inl rfl,Or.inl rfl⟩|trivial|assumption|omega|(symm;assumption)|((repeat' apply And.intro)<;>first|rfl|omega|trivial|exact .inr ⟨rfl,rfl⟩|exact .inr rfl|(right;symm;assumption)|(symm;assumption)|assumption)) ?_
 rintro i hi
 simp only [go_sem]
 repeat (with_reducible first|refine W_seq fun K hK=>?_|refine J_region ?_ |refine J_c ?_|(refine Kont.go (by assumption) ?_)|(simp (config:={ maxSteps:=3000000 }) (disch:=omega) only [go_sem]))
 refine Jc_if (fun hil=>?_) (fun hil=>?_)<;>try simp only [decide_eq_true_eq,decide_eq_false_iff_not] at hil
 ·repeat (with_reducible first|refine W_seq fun K hK=>?_|refine J_block ?_|refine J_skip ?_|refine J_region ?_ |(refine Kont.go (by assumption) ?_)|(simp (config:={ maxSteps:=3000000 }) (disch:=omega) only [go_sem,hyl]))
  refine J_reserve ?_
  refine W_loop [8,9,10,25,26,27,28,29,30,31,32,33,34,35,36,37,38,39,40,41,42,43,44,45,46,47,48,49,50,51,52,53,54,55,56,57,58,59,60,61,62,63,64,65,66] (fun x:Nat=>[(8,sl 2 1 (Ns (clsK R i x))),(9,.f (Bo (opnK R i x))),(25,.f (I x))]) (fun x:Nat=>[ob 24 1 (repF n R i),ob 4 1 (shutF n R i),ob 3 1 (Ns (clsK R i x))]) (fun x:Nat=>x≤n) (fun x:Nat=>n-x) (0) (Nat.zero_le _) (by refine weak_of ?_ ?_<;>simp (disch:=omega) only [go_sem,Nat.reduceAdd]<;>first|rfl|exact ⟨rfl,rfl⟩|exact Or.inl rfl|exact ⟨Or.inl rfl,Or.inl rfl⟩|trivial|assumption|omega|(symm;assumption)|((repeat' apply And.intro)<;>first|rfl|omega|trivial|exact .inr ⟨rfl,rfl⟩|exact .inr rfl|(right;symm;assumption)|(symm;assumption)|assumption)) ?_
  rintro k hk
  simp only [go_sem]
  repeat (with_reducible first|refine W_seq fun K hK=>?_|refine J_region ?_ |refine J_c ?_|(refine Kont.go (by assumption) ?_)|(simp (config:={ maxSteps:=3000000 }) (disch:=omega) only [go_sem]))
  refine Jc_if (fun hkl=>?_) (fun hkl=>?_)<;>try simp only [decide_eq_true_eq,decide_eq_false_iff_not] at hkl
  ·have g1:=vg i hil
   have g2:=vg k hkl
   have g3:=rg i k hkl
   have g4:=rg k i hil
   have hcl:=clsK_len (R:=R) (i:=i) (k:=k)
   have hox:=opnK_next (R:=R) (i:=i) (k:=k)
   cases ho:opnK R i k<;>cases hb1:R i k<;>cases hb2:R k i
   ·repeat (with_reducible first|refine W_seq fun K hK=>?_|refine J_block ?_|refine J_skip ?_|refine J_region ?_ |refine J_drawn mixed (by kernel_rfl) ?_|refine J_c ?_|refine Jc_false ?_|(refine Kont.go (by assumption) ?_)|(simp (config:={ maxSteps:=3000000 }) (disch:=omega) only [go_sem,↓reduceIte,g1,g2,g3,g4,b2i_and,b2i_one,b2i_lt,hb1,hb2,true_and]))
    simp only [ho,hb1,hb2,Bool.and_true,Bool.not_false,Bool.or_false] at hox
    first
     | rw [clsK_yes (by rw [hb1,hb2];rfl)]
     | rw [clsK_no (R:=R) (i:=i) (k:=k) (by rw [hb1,hb2];rfl)]
    refine ⟨k+1,by omega,by omega,weak_of ?_ ?_⟩<;>(try simp (disch:=omega) only [go_sem,Nat.reduceAdd,hox])<;>(try first|done|omega|rfl|exact ⟨rfl,rfl⟩|trivial)
   ·repeat (with_reducible first|refine W_seq fun K hK=>?_|refine J_block ?_|refine J_skip ?_|refine J_region ?_ |refine J_drawn mixed (by kernel_rfl) ?_|refine J_c ?_|refine Jc_false ?_|(refine Kont.go (by assumption) ?_)|(simp (config:={ maxSteps:=3000000 }) (disch:=omega) only [go_sem,↓reduceIte,g1,g2,g3,g4,b2i_and,b2i_one,b2i_lt,hb1,hb2,true_and]))
    simp only [ho,hb1,hb2,Bool.and_false,Bool.not_true,Bool.or_false] at hox
    first
     | rw [clsK_yes (by rw [hb1,hb2];rfl)]
     | rw [clsK_no (R:=R) (i:=i) (k:=k) (by rw [hb1,hb2];rfl)]
    refine ⟨k+1,by omega,by omega,weak_of ?_ ?_⟩<;>(try simp (disch:=omega) only [go_sem,Nat.reduceAdd,hox])<;>(try first|done|omega|rfl|exact ⟨rfl,rfl⟩|trivial)
   ·repeat (with_reducible first|refine W_seq fun K hK=>?_|refine J_block ?_|refine J_skip ?_|refine J_region ?_ |refine J_drawn mixed (by kernel_rfl) ?_|refine J_c ?_|refine Jc_false ?_|(refine Kont.go (by assumption) ?_)|(simp (config:={ maxSteps:=3000000 }) (disch:=omega) only [go_sem,↓reduceIte,g1,g2,g3,g4,b2i_and,b2i_one,b2i_lt,hb1,hb2,true_and]))
    simp only [ho,hb1,hb2,Bool.and_true,Bool.not_false,Bool.or_true] at hox
    first
     | rw [clsK_yes (by rw [hb1,hb2];rfl)]
     | rw [clsK_no (R:=R) (i:=i) (k:=k) (by rw [hb1,hb2];rfl)]
    refine ⟨k+1,by omega,by omega,weak_of ?_ ?_⟩<;>(try simp (disch:=omega) only [go_sem,Nat.reduceAdd,hox])<;>(try first|done|omega|rfl|exact ⟨rfl,rfl⟩|trivial)
   ·repeat (first|(with_reducible first|refine W_seq fun K hK=>?_|refine J_block ?_|refine J_skip ?_|refine J_region ?_ |refine J_drawn mixed (by kernel_rfl) ?_|refine aApp_sl ?_|refine J_c ?_|refine Jc_true ?_|(refine Kont.go (by assumption) ?_)|(simp (config:={ maxSteps:=3000000 }) (disch:=omega) only [go_sem,Nat.reduceEqDiff,↓reduceIte,Nat.reduceAdd,Nat.reduceLeDiff,g1,g2,g3,g4,b2i_and,b2i_one,b2i_lt,hb1,hb2,Nat.reduceMul,Nat.le_refl,true_and,and_self]))|refine And.intro (by omega) ?_)
    simp only [ho,hb1,hb2,Bool.and_false,Bool.not_true,Bool.or_false] at hox
    first
     | rw [clsK_yes (by rw [hb1,hb2];rfl)]
     | rw [clsK_no (R:=R) (i:=i) (k:=k) (by rw [hb1,hb2];rfl)]
    refine ⟨k+1,by omega,by omega,weak_of ?_ ?_⟩<;>(try simp (disch:=omega) only [go_sem,Nat.reduceAdd,hox])<;>(try first|done|omega|rfl|exact ⟨rfl,rfl⟩|trivial)
   ·repeat (with_reducible first|refine W_seq fun K hK=>?_|refine J_block ?_|refine J_skip ?_|refine J_region ?_ |refine J_drawn mixed (by kernel_rfl) ?_|refine J_c ?_|refine Jc_false ?_|(refine Kont.go (by assumption) ?_)|(simp (config:={ maxSteps:=3000000 }) (disch:=omega) only [go_sem,↓reduceIte,g1,g2,g3,g4,b2i_and,b2i_one,hb1,hb2,true_and]))
    simp only [ho,hb1,hb2,Bool.and_true,Bool.not_false,Bool.or_false] at hox
    first
     | rw [clsK_yes (by rw [hb1,hb2];rfl)]
     | rw [clsK_no (R:=R) (i:=i) (k:=k) (by rw [hb1,hb2];rfl)]
    refine ⟨k+1,by omega,by omega,weak_of ?_ ?_⟩<;>(try simp (disch:=omega) only [go_sem,Nat.reduceAdd,hox])<;>(try first|done|omega|rfl|exact ⟨rfl,rfl⟩|trivial)
   ·repeat (with_reducible first|refine W_seq fun K hK=>?_|refine J_block ?_|refine J_skip ?_|refine J_region ?_ |refine J_drawn mixed (by kernel_rfl) ?_|refine J_c ?_|refine Jc_false ?_|(refine Kont.go (by assumption) ?_)|(simp (config:={ maxSteps:=3000000 }) (disch:=omega) only [go_sem,↓reduceIte,g1,g2,g3,g4,b2i_and,b2i_one,hb1,hb2,true_and]))
    simp only [ho,hb1,hb2,Bool.and_false,Bool.not_true,Bool.or_false] at hox
    first
     | rw [clsK_yes (by rw [hb1,hb2];rfl)]
     | rw [clsK_no (R:=R) (i:=i) (k:=k) (by rw [hb1,hb2];rfl)]
    refine ⟨k+1,by omega,by omega,weak_of ?_ ?_⟩<;>(try simp (disch:=omega) only [go_sem,Nat.reduceAdd,hox])<;>(try first|done|omega|rfl|exact ⟨rfl,rfl⟩|trivial)
   ·repeat (with_reducible first|refine W_seq fun K hK=>?_|refine J_block ?_|refine J_skip ?_|refine J_region ?_ |refine J_drawn mixed (by kernel_rfl) ?_|refine J_c ?_|refine Jc_false ?_|(refine Kont.go (by assumption) ?_)|(simp (config:={ maxSteps:=3000000 }) (disch:=omega) only [go_sem,↓reduceIte,g1,g2,g3,g4,b2i_and,b2i_one,hb1,hb2,true_and]))
    simp only [ho,hb1,hb2,Bool.and_true,Bool.not_false,Bool.or_true] at hox
    first
     | rw [clsK_yes (by rw [hb1,hb2];rfl)]
     | rw [clsK_no (R:=R) (i:=i) (k:=k) (by rw [hb1,hb2];rfl)]
    refine ⟨k+1,by omega,by omega,weak_of ?_ ?_⟩<;>(try simp (disch:=omega) only [go_sem,Nat.reduceAdd,hox])<;>(try first|done|omega|rfl|exact ⟨rfl,rfl⟩|trivial)
   ·repeat (first|(with_reducible first|refine W_seq fun K hK=>?_|refine J_block ?_|refine J_skip ?_|refine J_region ?_ |refine J_drawn mixed (by kernel_rfl) ?_|refine aApp_sl ?_|refine J_c ?_|refine Jc_true ?_|(refine Kont.go (by assumption) ?_)|(simp (config:={ maxSteps:=3000000 }) (disch:=omega) only [go_sem,Nat.reduceEqDiff,↓reduceIte,Nat.reduceAdd,Nat.reduceLeDiff,g1,g2,g3,g4,b2i_and,b2i_one,hb1,hb2,Nat.reduceMul,Nat.le_refl,true_and,and_self]))|refine And.intro (by omega) ?_)
    simp only [ho,hb1,hb2,Bool.and_false,Bool.not_true,Bool.or_false] at hox
    first
     | rw [clsK_yes (by rw [hb1,hb2];rfl)]
     | rw [clsK_no (R:=R) (i:=i) (k:=k) (by rw [hb1,hb2];rfl)]
    refine ⟨k+1,by omega,by omega,weak_of ?_ ?_⟩<;>(try simp (disch:=omega) only [go_sem,Nat.reduceAdd,hox])<;>(try first|done|omega|rfl|exact ⟨rfl,rfl⟩|trivial)
  ·have he:k=n:=by omega
   subst he
   obtain ⟨c0,cl,ecl⟩:=List.exists_cons_of_ne_nil (List.ne_nil_of_mem (cls_self hpre hil))
   have e1:Ns (clsK R i k)=Ns (cls k R i):=rfl
   have e2:(!opnK R i k)=clo k R i:=rfl
   have hd:(Ns (cls k R i))[0]?=some (I (c0:Int)):=by rw [ecl];rfl
   have hlp:0<(Ns (cls k R i)).length:=by rw [ecl];simp [Ns]
   have hlm:(Ns (cls k R i)).length≤6:=by rw [←e1];exact Nat.le_trans clsK_len hn6
   have hrl:=repF_len (n:=k) (R:=R) (x:=i)
   have hsl:=shutF_len (n:=k) (R:=R) (x:=i)
   rw [e1]
   refine J_freeze (j:=8) rfl rfl ?_
   have hri:isRep k R i=decide (c0=i):=by unfold isRep;rw [ecl];show (some c0==some i)=_;by_cases e:c0=i<;>simp [e]
   by_cases e:c0=i
   ·have hy:isRep k R i=true:=by rw [hri];exact decide_eq_true e
    repeat (first|(with_reducible first|refine W_seq fun K hK=>?_|refine J_exit ?_|refine J_region ?_ |refine aApp_sl ?_|refine J_c ?_|refine Jc_true ?_|(refine Kont.go (by assumption) ?_)|(simp (config:={ maxSteps:=3000000 }) (disch:=omega) only [go_sem,Nat.reduceEqDiff,↓reduceIte,Nat.reduceAdd,Nat.reduceLeDiff,Int.reduceLE,hd,e,e2]))|refine And.intro (by omega) ?_)
    rw [repF_yes hy,shutF_yes hy]
    refine ⟨i+1,by omega,by omega,weak_of ?_ ?_⟩<;>(try simp (disch:=omega) only [go_sem,Nat.reduceAdd])<;>(try first|done|omega|rfl|exact ⟨rfl,rfl⟩|trivial)
   ·have hy:isRep k R i=false:=by rw [hri];exact decide_eq_false e
    repeat (with_reducible first|refine W_seq fun K hK=>?_|refine J_skip ?_|refine J_exit ?_|refine J_region ?_ |refine J_c ?_|refine Jc_false ?_|(refine Kont.go (by assumption) ?_)|(simp (config:={ maxSteps:=3000000 }) (disch:=omega) only [go_sem,↓reduceIte,Int.reduceLE,hd,e,Int.natCast_inj]))
    rw [repF_no hy,shutF_no hy]
    refine ⟨i+1,by omega,by omega,weak_of ?_ ?_⟩<;>(try simp (disch:=omega) only [go_sem,Nat.reduceAdd])<;>(try first|done|omega|rfl|exact ⟨rfl,rfl⟩|trivial)
 ·have he:i=n:=by omega
  subst he
  repeat (with_reducible first|refine W_seq fun K hK=>?_|refine J_exit ?_|refine J_ret ?_|refine J_region ?_ |(refine Kont.go (by assumption) ?_)|(simp (config:={ maxSteps:=3000000 }) (disch:=omega) only [go_sem,↓reduceIte]))
  exact ⟨_,rfl,FrzL.cons (Frz.sl rfl) (FrzL.cons (Frz.sl rfl) (FrzL.cons (.f _) (FrzL.nil _)))⟩
end Go.Proofs.YtcgagiimlkjcpaaGreatDoor
set_option linter.unusedVariables false
set_option linter.unusedSimpArgs false
namespace Go.Proofs.YtcgagiimlkjcpaaGreatDoor
open Go Go.RowKit
set_option maxRecDepth 100000 in
theorem last_w {b:Nat} {ys:List FV} {m:List (List Rat)} {p:Nat} (hm:FrM b ys m) (h1:1≤b) (hb:b≤1000000) (hmx:m.length≤140737488355328) (h0:chkM m=0)
  (hp:p<(shutL m.length (wsh (edg m) m.length) m.length).length) (hpt:(shutL m.length (wsh (edg m) m.length) m.length).getD p false=true) (hpf:∀j,j<p→(shutL m.length (wsh (edg m) m.length) m.length).getD j false=false) :
  Good Tryz.prog 102 [.fz 1 ys] (.tup [.fz 1 (Ns ((repL m.length (wsh (edg m) m.length) m.length).getD p [])),Bo (!decide (0≤firstI (fun i=>((shutL m.length (wsh (edg m) m.length) m.length).drop (p+1)).getD i false) ((shutL m.length (wsh (edg m) m.length) m.length).drop (p+1)).length))]):=by
 have hc:=classes_w hm h1 hb hmx h0
 have hn6:=(chk_sq hm h0).1.le
 obtain ⟨n,hn⟩:∃n,n=m.length:=⟨_,rfl⟩
 rw [←hn] at hc hp hpt hpf hn6 ⊢
 obtain ⟨R,hR⟩:∃R,R=wsh (edg m) n:=⟨_,rfl⟩
 rw [←hR] at hc hp hpt hpf ⊢
 have hsl:(shutL n R n).length≤6:=by have:=shutF_len (n:=n) (R:=R) (x:=n);unfold shutF at this;rw [List.length_map] at this;omega
 have hrs:(repL n R n).length=(shutL n R n).length:=by unfold repL shutL;rw [List.length_map,List.length_map]
 obtain ⟨S,hS⟩:∃S,S=shutL n R n:=⟨_,rfl⟩
 have hSF:shutF n R n=S.map Bo:=by rw [hS];rfl
 rw [←hS] at hp hpt hpf hsl hrs ⊢
 rw [hSF] at hc
 have hi:=index_w (bs:=S) (by omega)
 rw [firstI_some hp hpt hpf] at hi
 have hct:=contains_w (bs:=S.drop (p+1)) (by rw [List.length_drop];omega)
 have g1:(repF n R n)[p]?=some (.fz 1 (Ns ((repL n R n).getD p []))):=by
  have hpr:p<(repL n R n).length:=by omega
  unfold repF
  rw [List.getElem?_map,List.getElem?_eq_getElem hpr,lget_lt _ [] hpr];rfl
 have g2:(repF n R n).length=S.length:=by unfold repF;rw [List.length_map];exact hrs
 have g3:((S.map Bo).drop (p+1))=(S.drop (p+1)).map Bo:=by rw [List.map_drop]
 refine good_of Tryz.func102 rfl (by kernel_rfl) fun X hO hrd=>?_;rw [Tryz.ntmps102,Tryz.results102];simp only [ast0,List.map_cons,List.map_nil,List.length_cons,List.length_nil,Nat.reduceAdd,Nat.reduceSub,List.replicate_succ,List.replicate_zero,List.cons_append,List.nil_append]
 repeat (with_reducible first|refine W_seq fun K hK=>?_|refine J_region ?_ |(refine Kont.go (by assumption) ?_)|(simp (config:={ maxSteps:=3000000 }) (disch:=omega) only [go_sem]))
 refine call_f hc rfl ?_
 repeat (with_reducible first|refine W_seq fun K hK=>?_|refine J_region ?_ |(refine Kont.go (by assumption) ?_)|(simp (config:={ maxSteps:=3000000 }) (disch:=omega) only [go_sem]))
 refine call_f hi rfl ?_
 have e1:((p:Int)+1).toNat=p+1:=by omega
 have e2:((S.length:Int)-((p:Int)+1)).toNat=S.length-(p+1):=by omega
 have g4:((S.drop (p+1)).map Bo).take (S.length-(p+1))=(S.drop (p+1)).map Bo:=List.take_of_length_le (by rw [List.length_map,List.length_drop];exact Nat.le_refl _)
 repeat (first|(with_reducible first|refine W_seq fun K hK=>?_|refine J_drawn mixed (by kernel_rfl) ?_|(refine Kont.go (by assumption) ?_)|(simp (config:={ maxSteps:=3000000 }) (disch:=omega) only [go_sem,↓reduceIte,g1,g3,e1,e2,g4,List.length_map,Nat.le_refl,true_and]))|refine And.intro (by omega) ?_)
 refine callQ_f hct rfl ?_
 repeat (with_reducible first|refine J_ret ?_|(refine Kont.go (by assumption) ?_)|(simp (config:={ maxSteps:=3000000 }) (disch:=omega) only [go_sem]))
 exact ⟨_,rfl,FrzL.fs [_,_]⟩
def wM (m:List (List Rat)) (l:List Nat):Mx:=fun i k=>if i=0 then 1 else at2 m (l.getD k 0) (l.getD i 0)-(if l.getD k 0=l.getD i 0 then 1 else 0)
def wTo (m:List (List Rat)) (l:List Nat) (i x:Nat):List FV:=(List.range x).map fun k=>fr (wM m l i k)
def wR (m:List (List Rat)) (l:List Nat) (i:Nat):List Rat:=(List.range l.length).map (wM m l i)
def wB (i:Nat):Rat:=if i=0 then 1 else 0
section
variable {m : List (List Rat)} {l : List Nat} {i x : Nat}
theorem wTo_zero:wTo m l i 0=[]:=rfl
theorem wTo_len:(wTo m l i x).length=x:=by simp [wTo]
theorem wTo_next:wTo m l i x++[fr (wM m l i x)]=wTo m l i (x+1):=by simp [wTo,List.range_succ]
end
attribute [go_sem] wTo_zero
def wSol (m:List (List Rat)) (l:List Nat):List Rat:=solR ((List.range l.length).map (wR m l)) ((List.range l.length).map wB)
set_option maxRecDepth 100000 in
set_option maxHeartbeats 8000000 in
theorem within_w {b:Nat} {ys:List FV} {m:List (List Rat)} {l:List Nat} (hm:SqM b ys m) (h1:1≤b) (hb:b≤10000) (hl1:1≤l.length) (hl6:l.length≤6) (hlm:∀s∈l,s<m.length) :
  Good Tryz.prog 103 [.fz 1 ys,.fz 1 (Ns l)] (frs (wSol m l)):=by
 obtain ⟨n,hn⟩:∃n,n=l.length:=⟨_,rfl⟩
 have hNl:(Ns l).length=n:=by unfold Ns;rw [List.length_map];exact hn.symm
 have hNg:∀q,q<n→(Ns l)[q]?=some (I (l.getD q 0:Nat)):=fun q hq=>by unfold Ns;rw [map_get (fun k:Nat=>I (k:Int)) l (by omega),lget_lt l 0 (by omega)]
 have hgl:∀q,q<n→l.getD q 0<m.length:=fun q hq=>by rw [lget_lt l 0 (by omega)];exact hlm _ (List.getElem_mem _)
 have hz1:List.replicate n (AV.f nilV)=(fillL n 0 (fun i=>frs (wR m l i)) nilV).map .f:=by rw [fill_zero,List.map_replicate]
 have hz2:∀z,List.replicate n (AV.f z)=(fillL n 0 (fun i=>fr (wB i)) z).map .f:=fun z=>by rw [fill_zero,List.map_replicate]
 refine good_of Tryz.func103 rfl (by kernel_rfl) fun X hO hrd=>?_;rw [Tryz.ntmps103,Tryz.results103];simp only [ast0,List.map_cons,List.map_nil,List.length_cons,List.length_nil,Nat.reduceAdd,Nat.reduceSub,List.replicate_succ,List.replicate_zero,List.cons_append,List.nil_append]
 repeat (with_reducible first|refine W_seq fun K hK=>?_|refine J_region ?_|refine J_orders (id:=1) [2,5] (.one 0 (.one 1 (.one 3 (.one 4 (.br (.alt 2 (.one 6 (.one 5 (.one 7 .leaf))) (.alt 5 (.one 2 (.one 6 (.one 7 .leaf))) .fin))))))) mixed (by kernel_rfl) ?_|(refine Kont.go (by assumption) ?_)|(simp (config:={ maxSteps:=3000000 }) (disch:=omega) only [go_sem,Nat.reduceEqDiff,↓reduceIte,Nat.reduceAdd,hNl,hz1,hz2,Nat.le_refl,true_and,and_true,and_self]))
 refine (fun h:_∧_=>⟨⟨by omega,by omega,h.1⟩,by omega,by omega,h.2⟩) (kont_two (by assumption) (weak_ren [1,0] ⟨by decide,by first|decide|(simp;done)⟩ ?_ ?_) ?_)
 ·simp (disch:=omega) only [go_sem,Nat.reduceAdd]
 ·simp (disch:=omega) only [go_sem,Nat.reduceAdd]
 obtain ⟨zf,hzf⟩:∃zf:FV,zf=.agg [.v (.bool false),.v (.string ⟨#[]⟩),.v (.string ⟨#[]⟩)]:=⟨_,rfl⟩
 rw [←hzf]
 repeat (with_reducible first|refine W_seq fun K hK=>?_|refine J_block ?_|refine J_region ?_|(refine Kont.go (by assumption) ?_)|(simp (config:={ maxSteps:=3000000 }) (disch:=omega) only [go_sem,hNl,true_and]))
 refine W_loop [7,8,10,11,20,21,22,23,24,25,26,27,28,29,30,31,32,33,34,35,36,37,38,39,40,41,42,43,44,45,46,47,48,49,50,51,52,53,54,55,56,57,58,59,60,61,62,63,64,65] (fun x:Nat=>[(20,.f (I x))]) (fun x:Nat=>[some ⟨23,1,(fillL n x (fun i=>frs (wR m l i)) nilV).map .f⟩,some ⟨44,3,(fillL n x (fun i=>fr (wB i)) zf).map .f⟩]) (fun x:Nat=>x≤n) (fun x:Nat=>n-x) (0) (Nat.zero_le _) (by refine weak_of ?_ ?_<;>simp (disch:=omega) only [go_sem,Nat.reduceAdd]<;>first|rfl|exact ⟨rfl,rfl⟩|exact Or.inl rfl|exact ⟨Or.inl rfl,Or.inl rfl⟩|trivial|assumption|omega|(symm;assumption)|((repeat' apply And.intro)<;>first|rfl|omega|trivial|exact .inr ⟨rfl,rfl⟩|exact .inr rfl|(right;symm;assumption)|(symm;assumption)|assumption)) ?_
 rintro i hi
 simp only [go_sem]
 repeat (with_reducible first|refine W_seq fun K hK=>?_|refine J_region ?_|refine J_c ?_|(refine Kont.go (by assumption) ?_)|(simp (config:={ maxSteps:=3000000 }) (disch:=omega) only [go_sem]))
 refine Jc_if (fun hil=>?_) (fun hil=>?_)<;>try simp only [decide_eq_true_eq,decide_eq_false_iff_not] at hil
 ·have g1:=hNg i hil
  have hone:=chone_w (decide (i=0))
  repeat (with_reducible first|refine W_seq fun K hK=>?_|refine J_block ?_|refine J_skip ?_|refine J_region ?_|(refine Kont.go (by assumption) ?_)|(simp (config:={ maxSteps:=3000000 }) (disch:=omega) only [go_sem,↓reduceIte,g1,true_and]))
  refine call_f hone rfl ?_
  obtain ⟨c,hc⟩:∃c:Int,c=if decide (i=0)=true then 1 else 0:=⟨_,rfl⟩
  have hc1:0≤c∧c≤1:=by rw [hc];split<;>omega
  rw [←hc]
  have ec:fr ((c:Int):Rat)=fr (wB i):=by
   congr 1
   rw [hc]
   unfold wB
   by_cases e:i=0
   ·rw [if_pos e,if_pos (by simpa using e)];rfl
   ·rw [if_neg e,if_neg (by simpa using e)];rfl
  have hfs:=fillA_set (n:=n) (k:=i) (f:=fun i=>fr (wB i)) (z:=zf) hil rfl
  have hfg:((fillL n i (fun i=>fr (wB i)) zf).map AV.f)[i]?=some (.f zf):=by rw [fillA_get hil,if_neg (by omega)]
  have hf2:(fillL n i (fun i=>fr (wB i)) zf).length=n:=fill_len
  repeat (first|(with_reducible first|refine W_seq fun K hK=>?_|refine J_block ?_|refine J_region ?_|(refine Kont.go (by assumption) ?_)|(simp (config:={ maxSteps:=3000000 }) (disch:=omega) only [go_sem,↓reduceIte,Nat.reduceAdd,hNl,ec,hfs,hfg,true_and,and_self]))|refine call_f (of_good (by omega) (by omega)) rfl ?_|refine And.intro (by omega) ?_)
  refine J_reserve ?_
  rw [fillA_z hil]
  refine W_loop [10,11,34,35,36,37,38,39,40,41,42,43,44,45,46,47,48,49,50,51,52,53,54,55,56,57,58,59,60,61,62,63,64] (fun x:Nat=>[(34,.f (I x))]) (fun x:Nat=>[some ⟨23,1,((fillL n i (fun i=>frs (wR m l i)) nilV).map .f).set i (sl 2 3 (wTo m l i x))⟩,some ⟨44,3,(fillL n (i+1) (fun i=>fr (wB i)) zf).map .f⟩,ob 44 3 (wTo m l i x)]) (fun x:Nat=>x≤n) (fun x:Nat=>n-x) (0) (Nat.zero_le _) (by refine weak_of ?_ ?_<;>simp (disch:=omega) only [go_sem,Nat.reduceAdd]<;>first|rfl|exact ⟨rfl,rfl⟩|exact Or.inl rfl|exact ⟨Or.inl rfl,Or.inl rfl⟩|trivial|assumption|omega|(symm;assumption)|((repeat' apply And.intro)<;>first|rfl|omega|trivial|exact .inr ⟨rfl,rfl⟩|exact .inr rfl|(right;symm;assumption)|(symm;assumption)|assumption)) ?_
  rintro x hx
  simp only [go_sem]
  repeat (with_reducible first|refine W_seq fun K hK=>?_|refine J_region ?_|refine J_c ?_|(refine Kont.go (by assumption) ?_)|(simp (config:={ maxSteps:=3000000 }) (disch:=omega) only [go_sem]))
  refine Jc_if (fun hxl=>?_) (fun hxl=>?_)<;>try simp only [decide_eq_true_eq,decide_eq_false_iff_not] at hxl
  ·have g2:=hNg x hxl
   have hfl:(fillL n i (fun i=>frs (wR m l i)) nilV).length=n:=fill_len
   have hgt:∀y,(((fillL n i (fun i=>frs (wR m l i)) nilV).map AV.f).set i y)[i]?=some y:=fun y=>List.getElem?_set_self (by rw [List.length_map,hfl];exact hil)
   have hnx:=wTo_next (m:=m) (l:=l) (i:=i) (x:=x)
   have hbl:=wTo_len (m:=m) (l:=l) (i:=i) (x:=x)
   have hne1:wTo m l i (x+1)≠[]:=fun e=>by have:=congrArg List.length e;rw [wTo_len] at this;simp at this
   have hsl1:sl 5 3 (wTo m l i (x+1))=.own 5 3 0 (x+1):=by rw [sl_pos hne1,wTo_len]
   have hob1:ob 44 3 (wTo m l i (x+1))=some ⟨44,3,(wTo m l i (x+1)).map .f⟩:=ob_pos hne1
   have htk:((wTo m l i x).map AV.f).take x++[AV.f (fr (wM m l i x))]=(wTo m l i (x+1)).map AV.f:=by rw [List.take_of_length_le (by rw [List.length_map,hbl];omega),←hnx,List.map_append];rfl
   have hq1:(wTo m l i (0+1)).map AV.f=[AV.f (fr (wM m l i 0))]:=rfl
   by_cases hi0:i=0
   ·have hpos:¬(0:Int)<(i:Int):=by omega
    have hv1:fr ((1:Int):Rat)=fr (wM m l i x):=by unfold wM;rw [if_pos hi0];rfl
    by_cases hx0:x=0
    ·subst hx0
     repeat (first|(with_reducible first|refine W_seq fun K hK=>?_|refine J_block ?_|refine J_skip ?_|refine J_region ?_|refine J_orders (id:=12) [8] (.one 0 (.one 1 (.one 2 (.one 3 (.one 4 (.one 5 (.one 6 (.one 7 (.one 8 (.one 9 (.one 10 .leaf))))))))))) mixed (by kernel_rfl) ?_ |refine J_c ?_|refine Jc_false ?_|(refine Kont.go (by assumption) ?_)|(simp (config:={ maxSteps:=3000000 }) (disch:=omega) only [go_sem,Nat.reduceEqDiff,↓reduceIte,Nat.reduceAdd,Nat.reduceLeDiff,Int.reduceLE,Int.reduceAdd,g2,hpos,hgt,wTo_zero,sl_nil,ob_nil,List.set_set,hv1,Nat.reduceMul,Nat.le_refl,true_and,and_self]))|refine call_f (of_good (by omega) (by omega)) rfl ?_|refine And.intro (by omega) ?_)
     refine ⟨0+1,by omega,by omega,weak_ren [0,1,5] ⟨by decide,by first|decide|(simp;done)⟩ ?_ ?_⟩<;>(try simp (disch:=omega) only [go_sem,Nat.reduceAdd,hsl1,hob1,hq1])<;>(try first|done|omega|rfl|exact ⟨rfl,rfl⟩|trivial)
    ·have hne:wTo m l i x≠[]:=fun e=>by rw [e] at hbl;simp at hbl;omega
     have hsl:sl 2 3 (wTo m l i x)=.own 2 3 0 x:=by rw [sl_pos hne,hbl]
     have hob:ob 44 3 (wTo m l i x)=some ⟨44,3,(wTo m l i x).map .f⟩:=ob_pos hne
     repeat (first|(with_reducible first|refine W_seq fun K hK=>?_|refine J_block ?_|refine J_skip ?_|refine J_region ?_|refine J_orders (id:=12) [8] (.one 0 (.one 1 (.one 2 (.one 3 (.one 4 (.one 5 (.one 6 (.one 7 (.one 8 (.one 9 (.one 10 .leaf))))))))))) mixed (by kernel_rfl) ?_ |refine J_c ?_|refine Jc_false ?_|(refine Kont.go (by assumption) ?_)|(simp (config:={ maxSteps:=3000000 }) (disch:=omega) only [go_sem,Nat.reduceEqDiff,↓reduceIte,Nat.reduceAdd,Nat.reduceLeDiff,g2,hpos,hgt,hsl,hob,hbl,List.set_set,htk,hv1,Nat.reduceMul,Nat.le_refl,true_and,and_self]))|refine call_f (of_good (by omega) (by omega)) rfl ?_|refine And.intro (by omega) ?_)
     refine ⟨x+1,by omega,by omega,weak_ren [0,1,5] ⟨by decide,by first|decide|(simp;done)⟩ ?_ ?_⟩<;>(try simp (disch:=omega) only [go_sem,Nat.reduceAdd,hsl1,hob1])<;>(try first|done|omega|rfl|exact ⟨rfl,rfl⟩|trivial)
   ·have hpos:(0:Int)<(i:Int):=by omega
    obtain ⟨xs,gg,nn,dd,z1,z2,z3⟩:=hm.at2 (hgl x hxl) (hgl i hil)
    have hone2:=chone_w (decide (l.getD x 0=l.getD i 0))
    obtain ⟨c2,hc2⟩:∃c:Int,c=if decide (l.getD x 0=l.getD i 0)=true then 1 else 0:=⟨_,rfl⟩
    have hc21:0≤c2∧c2≤1:=by rw [hc2];split<;>omega
    rw [←hc2] at hone2
    have r2:IsFr (fr ((c2:Int):Rat)) ((c2:Int):Rat) 8:=IsFr.int (by omega) (by omega)
    have ec2:fr (at2 m (l.getD x 0) (l.getD i 0)-((c2:Int):Rat))=fr (wM m l i x):=by
     unfold wM
     rw [if_neg hi0,hc2]
     congr 2
     by_cases e:l.getD x 0=l.getD i 0
     ·rw [if_pos e,if_pos (by simpa using e)];rfl
     ·rw [if_neg e,if_neg (by simpa using e)];rfl
    by_cases hx0:x=0
    ·subst hx0
     repeat (first|(with_reducible first|refine W_seq fun K hK=>?_|refine J_block ?_|refine J_skip ?_|refine J_region ?_|refine J_drawn mixed (by kernel_rfl) ?_|refine J_c ?_|refine Jc_true ?_|(refine Kont.go (by assumption) ?_)|(simp (config:={ maxSteps:=3000000 }) (disch:=omega) only [go_sem,↓reduceIte,Nat.reduceAdd,Int.reduceLE,g2,hpos,z1,z2,wTo_zero,sl_nil,ob_nil,Int.natCast_inj,true_and,and_self]))|refine call_f (of_good (by omega) (by omega)) rfl ?_)
     refine callQ_f hone2 rfl ?_
     repeat (first|(with_reducible first|refine J_region ?_|refine J_orders (id:=12) [8] (.one 0 (.one 1 (.one 2 (.one 3 (.one 4 (.one 5 (.one 6 (.one 7 (.one 8 (.one 9 (.one 10 .leaf))))))))))) mixed (by kernel_rfl) ?_ |(refine Kont.go (by assumption) ?_)|(simp (config:={ maxSteps:=3000000 }) (disch:=omega) only [go_sem,Nat.reduceEqDiff,↓reduceIte,Nat.reduceAdd,Nat.reduceLeDiff,Int.reduceAdd,hgt,List.set_set,ec2,Nat.reduceMul,Nat.le_refl,true_and,and_self]))|refine callQ_f (of_good (by omega) (by omega)) rfl ?_|refine callQ_f (sub_w (by assumption) (by assumption) (by omega) (by omega)) rfl ?_|refine And.intro (by omega) ?_)
     refine ⟨0+1,by omega,by omega,weak_ren [0,1,5] ⟨by decide,by first|decide|(simp;done)⟩ ?_ ?_⟩<;>(try simp (disch:=omega) only [go_sem,Nat.reduceAdd,hsl1,hob1,hq1])<;>(try first|done|omega|rfl|exact ⟨rfl,rfl⟩|trivial)
    ·have hne:wTo m l i x≠[]:=fun e=>by rw [e] at hbl;simp at hbl;omega
     have hsl:sl 2 3 (wTo m l i x)=.own 2 3 0 x:=by rw [sl_pos hne,hbl]
     have hob:ob 44 3 (wTo m l i x)=some ⟨44,3,(wTo m l i x).map .f⟩:=ob_pos hne
     repeat (first|(with_reducible first|refine W_seq fun K hK=>?_|refine J_block ?_|refine J_skip ?_|refine J_region ?_|refine J_drawn mixed (by kernel_rfl) ?_|refine J_c ?_|refine Jc_true ?_|(refine Kont.go (by assumption) ?_)|(simp (config:={ maxSteps:=3000000 }) (disch:=omega) only [go_sem,↓reduceIte,Nat.reduceAdd,g2,hpos,z1,z2,hsl,hob,Int.natCast_inj,true_and,and_self]))|refine call_f (of_good (by omega) (by omega)) rfl ?_)
     refine callQ_f hone2 rfl ?_
     repeat (first|(with_reducible first|refine J_region ?_|refine J_orders (id:=12) [8] (.one 0 (.one 1 (.one 2 (.one 3 (.one 4 (.one 5 (.one 6 (.one 7 (.one 8 (.one 9 (.one 10 .leaf))))))))))) mixed (by kernel_rfl) ?_ |(refine Kont.go (by assumption) ?_)|(simp (config:={ maxSteps:=3000000 }) (disch:=omega) only [go_sem,Nat.reduceEqDiff,↓reduceIte,Nat.reduceAdd,Nat.reduceLeDiff,hgt,hbl,List.set_set,htk,ec2,Nat.reduceMul,Nat.le_refl,true_and,and_self]))|refine callQ_f (of_good (by omega) (by omega)) rfl ?_|refine callQ_f (sub_w (by assumption) (by assumption) (by omega) (by omega)) rfl ?_|refine And.intro (by omega) ?_)
     refine ⟨x+1,by omega,by omega,weak_ren [0,1,5] ⟨by decide,by first|decide|(simp;done)⟩ ?_ ?_⟩<;>(try simp (disch:=omega) only [go_sem,Nat.reduceAdd,hsl1,hob1])<;>(try first|done|omega|rfl|exact ⟨rfl,rfl⟩|trivial)
  ·have he:x=n:=by omega
   subst he
   have hbl:=wTo_len (m:=m) (l:=l) (i:=i) (x:=x)
   have hne:wTo m l i x≠[]:=fun e=>by rw [e] at hbl;simp at hbl;omega
   have hsl:sl 2 3 (wTo m l i x)=.own 2 3 0 x:=by rw [sl_pos hne,hbl]
   have hob:ob 44 3 (wTo m l i x)=some ⟨44,3,(wTo m l i x).map .f⟩:=ob_pos hne
   have hset:=fillA_set (n:=x) (f:=fun i=>frs (wR m l i)) (z:=nilV) hil rfl
   have hrw:FV.fz 3 (wTo m l i x)=frs (wR m l i):=by unfold wTo wR;show FV.fz 3 _=FV.fz 3 (((List.range l.length).map (wM m l i)).map fr);rw [List.map_map,←hn];rfl
   rw [hsl,hob]
   refine J_freezeA (r:=2) (sz:=3) (l:=wTo m l i x) rfl ?_
   repeat (with_reducible first|refine J_exit ?_|refine J_region ?_|(refine Kont.go (by assumption) ?_)|(simp (config:={ maxSteps:=3000000 }) (disch:=omega) only [go_sem,Nat.reduceEqDiff,↓reduceIte,hbl,and_self,hrw,hset]))
   refine ⟨i+1,by omega,by omega,weak_of ?_ ?_⟩<;>(try simp (disch:=omega) only [go_sem,Nat.reduceAdd])<;>(try first|done|omega|rfl|exact ⟨rfl,rfl⟩|trivial)
 ·have he:i=n:=by omega
  subst he
  have hA:fillL i i (fun i=>frs (wR m l i)) nilV=((List.range l.length).map (wR m l)).map frs:=by rw [fill_all,List.map_map,hn];rfl
  have hB:fillL i i (fun i=>fr (wB i)) zf=((List.range l.length).map wB).map fr:=by rw [fill_all,List.map_map,hn];rfl
  rw [hA,hB]
  refine J_freezeO (j:=6) rfl (by simp [hn]) rfl ?_
  repeat (with_reducible first|refine W_seq fun K hK=>?_|refine J_exit ?_|refine J_region ?_|(refine Kont.go (by assumption) ?_)|(simp (config:={ maxSteps:=3000000 }) (disch:=omega) only [go_sem,Nat.reduceEqDiff,↓reduceIte]))
  have hone:Fz (1:Rat) (b+9):=(Fz.int (n:=1) (by decide)).up (by omega)
  have hzero:Fz (0:Rat) (b+9):=(Fz.int (n:=0) (by decide)).up (by omega)
  have hW:∀a k,a<l.length→k<l.length→Fz (wM m l a k) (b+9):=fun a k ha hk=>by
   unfold wM
   split
   ·exact hone
   ·refine ((hm.f2 h1 (hgl k (by omega)) (hgl a (by omega))).sub (k:=8) ?_)
    split
    ·exact Fz.int (n:=1) (by decide)
    ·exact Fz.int (n:=0) (by decide)
  have hAl:((List.range l.length).map (wR m l)).length=i:=by simp [hn]
  have hs:=solve_w (A:=(List.range l.length).map (wR m l)) (b:=(List.range l.length).map wB) (s:=b+9) (by omega) (by omega) (fun r hr=>by
    obtain ⟨a,_,rfl⟩:=List.mem_map.1 hr
    simp [wR]) (by simp) (fun r hr=>by
    obtain ⟨a,ha,rfl⟩:=List.mem_map.1 hr
    intro z hz
    obtain ⟨k,hk,rfl⟩:=List.mem_map.1 hz
    exact hW a k (List.mem_range.1 ha) (List.mem_range.1 hk)) (fun z hz=>by
    obtain ⟨a,_,rfl⟩:=List.mem_map.1 hz
    unfold wB
    split
    ·exact hone
    ·exact hzero) (by omega) (by omega)
  rw [hAl] at hs
  refine call_m (q:=0) hs rfl rfl (fun z hz=>?_) ?_
  ·rcases List.mem_cons.1 hz with rfl|hz
   ·rfl
   ·cases List.mem_singleton.1 hz;rfl
  repeat (with_reducible first|refine J_ret ?_|(refine Kont.go (by assumption) ?_)|(simp (config:={ maxSteps:=3000000 }) (disch:=omega) only [go_sem]))
  exact Frz.f _
end Go.Proofs.YtcgagiimlkjcpaaGreatDoor
